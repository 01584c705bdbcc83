import Derived.Test.YtljbhgpanekomaaGreatPiCaData
import Derived.Lib.ItoaNum
import Derived.Test.YtljbhgpanekomaaGreatPiLaw
import Derived.Test.YtljbhgpanekomaaGreatPiCaCode
set_option linter.unusedSimpArgs false
set_option linter.unusedVariables false
set_option linter.unusedSectionVars false
namespace PI.Sc
open Go (IntKind BinOp UnOp)
abbrev CP (n:Int):Prop := -9223372036854775808≤n∧n≤9223372036854775807
def yj {α:Type} (f:α→Int):List α→Int
 | []=>0
 | x::xs=>if f x=0 then yj f xs else f x
theorem Bz {α:Type} {f:α→Int}:∀{l:List α},yj f l=0↔∀x∈l,f x=0
 | []=>by simp[yj]
 | x :: xs => by
   unfold yj
   by_cases h:f x=0
   ·simp[h,Bz (l:=xs)]
   ·simp[h]
theorem Rb {α:Type} {f:α→Int}:∀{l:List α} {i:Nat} (hi:i<l.length),f l[i]≠0→(∀k (hk:k<i),f (l[k]'(by omega))=0)→yj f l=f l[i]
 | [],i,hi,_,_=>by simp at hi
 | x::xs,0,hi,h,_=>by simp only[bL] at h; simp[yj,h]
 | x :: xs, i + 1, hi, h, hk => by
   have h0:=hk 0 (by omega)
   simp only[bL] at h0
   simp only[bX] at h
   simp only[yj,h0,if_true,bX]
   exact Rb (by simpa using hi) h (λk dq=>by have:=hk (k+1) (by omega); simpa using this)
theorem Pb {α:Type} {f:α→Int}:∀(a b:List α),yj f (a++b)=if yj f a=0 then yj f b else yj f a
 | [],b=>by simp[yj]
 | x :: a, b => by
   simp only[aK,yj,Pb a b]
   by_cases h:f x=0
   ·simp[h]
   ·simp[h]
def yk (a b:Int):Int:=if a=0 then b else a
@[simp] theorem Bu (b:Int):yk 0 b=b:=rfl
theorem C1 {a b:Int} (h:a≠0):yk a b=a:=ae h
theorem Br {a b:Int}:yk a b=0↔a=0∧b=0:=by unfold yk; split<;>simp_all
def need (b:Bool) (e:Int):Int:=if b then 0 else e
@[simp] theorem d19 (e:Int):need true e=0:=rfl
@[simp] theorem HX (e:Int):need false e=e:=rfl
def Fw (b:Int):Bool:=decide (97≤b∧b≤122∨65≤b∧b≤90)
def HM (b:Int):Bool:=decide (48≤b∧b≤57)
def EV (b:Int):Bool:=Fw b||HM b||decide (b=95)
def Rl:List Str:=[[97,115,115,117,109,101],[97,110,100],[97,117,116,111,109,97,116,111,110],[98,111,111,108],[99,111,110,116,105,110,117,101],[100,111],[100,111,110,101],[101,108,115,101],[101,110,100],[101,110,115,117,114,101],[101,118,101,114,121],[102,97,108,115,101],[102,98,121],[105,102],[105,110,116],[108,101,116],[109,101,114,103,101],[109,111,100],[110,111,100,101],[110,111,116],[111,114],[112,114,101],[114,101,116,117,114,110,115],[115,116,97,116,101],[116,101,108],[116,104,101,110],[116,114,117,101],[116,121,112,101],[117,110,108,101,115,115],[117,110,116,105,108],[118,97,114],[119,104,101,110],[120,111,114]]
def JL (s:Str):Bool:=decide (s∈Rl)
def CO (s:Str):Bool:=decide (s≠[]∧s.length≤40)&&Fw (s.headD 0).toNat&&s.all (λb=>EV b.toNat) && !JL s
def DT (en:List Enum) (t:Int):Option Enum:=if 3≤t then en[(t - 3).toNat]? else none
theorem c3a {en:List Enum} {t:Int} (h:t<3):DT en t=none:=by unfold DT; rw[ae (by omega)]
theorem c3b {en:List Enum} {k:Nat} (h:k<en.length):DT en (k+3)=some en[k]:=by unfold DT; rw[ai (by omega)]; simp[show (k:Int)+3 - 3=k by omega,h]
theorem c1v {en:List Enum} {k:Nat} (h:en.length≤k):DT en (k+3)=none:=by unfold DT; rw[ai (by omega)]; simp[show (k:Int)+3 - 3=k by omega,h]
theorem c5t (t:Int):t<3∨∃k:Nat,t=k+3:=by
 by_cases h:t<3
 ·exact .inl h
 ·exact .inr ⟨(t - 3).toNat,by omega⟩
def Ad (en:List Enum) (t:Int):Nat:=if t=1 then 2 else if t=2 then 65536 else((DT en t).map (·.tags.length)).getD 0
def Em (en:List Enum) (t v:Int):Bool:=if t=2 then decide (-32768≤v∧v≤32767) else decide (0≤v∧v<Ad en t)
mutual
def Expr.list:Expr→List Expr
 | .mk k o t v n as => .mk k o t v n as::FC as
def FC:List Expr→List Expr
 | []=>[]
 | x::xs=>x.list++FC xs
end
theorem R7:∀l:List Expr,FC l=l.flatMap Expr.list
 | []=>by simp[FC]
 | x::xs=>by simp[FC,R7 xs]
theorem Expr.list_eq (e:Expr):e.list=e::e.args.flatMap Expr.list:=by cases e; simp[Expr.list,R7]
abbrev wrap (n:Int):Int:=IntKind.i64.wrap n
def Expr.size (e:Expr):Int:=wrap e.list.length
mutual
def Expr.depth:Expr→Int
 | .mk k o t v n as=>wrap (Id 0 as+1)
def Id (m:Int):List Expr→Int
 | []=>m
 | x::xs=>Id (if x.depth>m then x.depth else m) xs
end
theorem R8:∀(l:List Expr) (m:Int),Id m l=l.foldl (λm x=>if x.depth>m then x.depth else m) m
 | [],m=>by simp[Id]
 | x::xs,m=>by simp[Id,R8 xs]
theorem Expr.depth_eq (e:Expr):e.depth=wrap (e.args.foldl (λm x=>if x.depth>m then x.depth else m) 0+1):=by cases e; simp[Expr.depth,R8]
theorem Expr.ind {P:Expr→Prop} (h:∀e:Expr,(∀x∈e.args,P x)→P e):∀e,P e:=by
 intro e
 refine Expr.rec (motive_1:=P) (motive_2:=λl=>∀x∈l,P x) ?_ ?_ ?_ e
 ·intro k o t v n as ih; exact h _ ih
 ·simp
 ·intro x xs h1 h2 y hy
  rcases aA.1 hy with rfl|hy
  ·exact h1
  ·exact h2 y hy
def AI (b:UInt8):Bool:=b==48||b==49
def Cz (s:Str) (at':Nat):Str:=(s.drop at').takeWhile AI
def Fx (s:Str):Bool:=
 let n:=(Cz s 0).length
 let m:=(Cz s (n+1)).length
 decide (s.length≤66∧s[n]? = some 40∧n+m+2=s.length∧s[n+m+1]? = some 41∧m≠0∧n+m≤64)
def An (k:Int):Bool:=decide (k=2∨k=8∨k=9∨k=10)
def DR (t v:Int):Bool:=decide (t=1∧(v=0∨v=1)∨3≤t∧0≤v∧v<16)
def argsOK (e:Expr):Bool:=
 let n:Int:=e.args.length
 if e.kind=1∨e.kind=2∨e.kind=11 then decide (n=0)
 else if e.kind=3 then decide (n=if e.op=1∨e.op=2 then 1 else 2)
 else if e.kind=4 then decide (n=3)
 else if e.kind=5∨e.kind=8 then decide (n=1)
 else if e.kind=6∨e.kind=7 then decide (n=2)
 else if e.kind=9 then(if e.t=1 then decide (n=2) else decide (3≤e.t∧1≤n∧n≤16))
 else decide (e.kind=10∧(e.v=0∨e.v=1∧1≤n))
def typedOK (e:Expr):Bool:=
 if e.kind=1 then(if e.t=2 then decide (-32768≤e.v∧e.v≤32767) else DR e.t e.v)
 else if e.kind=8 then DR e.t e.v
 else if e.kind=9 then decide ((e.t=1∨3≤e.t)∧e.v=0)
 else if e.kind=10 then decide (e.t=0∧(e.v=0∨e.v=1))
 else decide (e.t=0∧e.v=0)
def Gb (e:Expr):Bool:=if e.kind=3 then decide (1≤e.op∧e.op≤16) else decide (e.op=0)
def JN (e:Expr):Bool:=An e.kind||(if e.kind=11 then Fx e.name else decide (e.name=[]))
def HN (e:Expr):Bool:=decide (1≤e.kind∧e.kind≤11)&&argsOK e&&typedOK e&&Gb e&&JN e
def CA (e:Expr):Int:=yk (need (decide (e.args.length≤64)) 3) (yk (need (HN e) 5) (need (!An e.kind||CO e.name) 6))
def Fv (e:Expr):Int:=yk (need (decide (e.size≤400∧e.depth≤32)) 3) (yj CA e.list)
def Fz (e:Expr):Bool:=e.list.all λx => !decide (x.kind=5∨x.kind=6∨x.kind=7∨x.kind=10∨x.kind=11)
def CB (en:List Enum) (e:Expr):Int:=
 if e.kind=1∨e.kind=8 then yk (need (decide (0<Ad en e.t)) 10) (need (Em en e.t e.v) 14)
 else if e.kind=9 then yk (need (decide (0<Ad en e.t)) 10) (need (decide (e.args.length=Ad en e.t)) 9)
 else 0
def Ch (en:List Enum) (e:Expr):Int:=yk (Fv e) (yj (CB en) e.list)
def BF (s:Str):Int:=need (CO s) 6
def CC (en:List Enum) (o:On):Int:=yk (BF o.name) (need (decide (o.t≠2)&&Em en o.t o.tag) 5)
def A0 (en:List Enum) (port:Bool) (d:Decl):Int:=
 yk (BF d.name) (yk (need (decide (0<Ad en d.type)) 10) (yk (need (!port||decide (d.clock=[])) 11) (yk (need (decide (d.clock.length≤4)) 3) (yj (CC en) d.clock))))
def BE (en:List Enum) (q:Eqn):Int:=
 yk (need (decide (q.left≠[])) 8) (yk (need (decide (q.left.length≤64)) 3) (yk (yj BF q.left) (yk (Ch en q.right) (need (decide (q.left.length=1∨q.right.kind=10)) 5))))
def EY (en:List Enum) (n:Nat) (strong:Bool) (t:Trn):Int:=
 yk (need (decide (0≤t.to∧t.to<n)) 14) (yk (Ch en t.cond) (need (!strong||Fz t.cond) 5))
def JQ (en:List Enum) (n:Nat) (auto:Bc→Int) (s:State):Int:=
 yk (BF s.name) (yk (need (decide (s.locals.length≤256∧s.eqs.length≤256∧s.autos.length≤8∧s.unl.length≤4∧s.til.length≤4)) 3)
  (yk (yj (A0 en false) s.locals) (yk (yj (BE en) s.eqs) (yk (yj auto s.autos) (yk (yj (EY en n true) s.unl) (yj (EY en n false) s.til))))))
def CT (en:List Enum):Nat→Bc→Int
 | 0,_=>3
 | d+1,a=>yk (need (decide (a≠[])) 8) (yk (need (decide (a.length≤8)) 3) (yj (JQ en a.length (CT en d)) a))
def EX (u:Enum):Int:=yk (BF u.name) (yk (need (decide (u.tags≠[])) 8) (yk (need (decide (u.tags.length≤16)) 3) (yj BF u.tags)))
def AC (en:List Enum) (n:Node):Int:=
 yk (BF n.name) (yk (need (decide (n.ins.length≤64∧n.outs.length≤64∧n.locals.length≤256∧n.eqs.length≤256∧n.autos.length≤8∧n.assume.length≤8∧n.ensure.length≤8)) 3)
  (yk (need (decide (n.outs≠[])) 8) (yk (yj (A0 en true) n.ins) (yk (yj (A0 en true) n.outs) (yj (A0 en false) n.locals)))))
def BW (en:List Enum) (n:Node):Int:=yk (yj (CT en 3) n.autos) (yk (yj (Ch en) n.assume) (yj (Ch en) n.ensure))
structure Bad where
 node:Int
 eq:Int
 err:Int
 deriving DecidableEq,Inhabited
def Eb:Bad:=⟨0,0,0⟩
def AH {α:Type} (f:α→Int):List α→Nat→Option (Nat×Int)
 | [],_=>none
 | x::xs,i=>if f x=0 then AH f xs (i+1) else some (i,f x)
def zZ (en:List Enum) (n:Node) (i:Nat):Option Bad:=
 if AC en n≠0 then some ⟨i,-1,AC en n⟩
 else match AH (BE en) n.eqs 0 with
  | some (k,e)=>some ⟨i,k,e⟩
  | none=>if BW en n≠0 then some ⟨i,-1,BW en n⟩ else none
def AG (en:List Enum):List Node→Nat→Option Bad
 | [],_=>none
 | n :: ns, i => match zZ en n i with
   | some b=>some b
   | none=>AG en ns (i+1)
def Ba (p:Prog):Option Bad:=
 if ¬(p.enums.length≤24∧p.nodes.length≤96) then some ⟨-1,-1,3⟩
 else if yj EX p.enums≠0 then some ⟨-1,-1,yj EX p.enums⟩
 else AG p.enums p.nodes 0
def BN (b:Option Bad):Bad:=b.getD Eb
structure Place where
 before:List Node
 vis:List Str
 inputs:List Str
 tags:List Str
def Place.at (s:Place) (vis:List Str):Place:={ s with vis:=vis }
def yd (l:List Decl):List Str:=l.map (·.name)
def zk (l other:List Str):List Str:=l.filter λx => !decide (x∈other)
abbrev EN:=Int×List Str
def z8 (a:EN) (f:List Str→EN):EN:=if a.1=0 then f a.2 else(a.1,[])
@[simp] theorem Ia (l:List Str) (f:List Str→EN):z8 (0,l) f=f l:=rfl
theorem BZ {a:EN} (h:a.1≠0) (f:List Str→EN):z8 a f=(a.1,[]):=ae h
def callee (before:List Node) (name:Str):Option Node:=before.find? λn=>decide (n.name=name)
def Eo (s:Place) (e:Expr) (outs:Nat):Int:=
 match callee s.before e.name with
 | none=>6
 | some n=>need (decide ((e.args.length:Int)=wrap (n.ins.length+e.v)∧n.outs.length=outs)) 9
def oneN (s:Place) (outs:Nat) (e:Expr):Int:=
 if e.kind=2∨e.kind=8∨e.kind=9 then need (decide (e.name∈s.vis)) 6
 else if e.kind=10 then Eo s e outs else 0
def yZ (s:Place) (e:Expr) (outs:Nat):Int:=yk (oneN s outs e) (yj (oneN s 1) (e.args.flatMap Expr.list))
def BD (s:Place):List Str→List Str→EN
 | [],d=>(0,d)
 | x::xs,d=>if x∉s.vis then(6,[]) else if x∈s.inputs∨x∈d then(7,[]) else BD s xs (d++[x])
def Ak (s:Place) (q:Eqn) (d:List Str):EN:=z8 (BD s q.left d) λd=>(yZ s q.right q.left.length,d)
def AR (s:Place):List Eqn→List Str→EN
 | [],d=>(0,d)
 | q::qs,d=>z8 (Ak s q d) (AR s qs)
def zw (tags:List Str):List Decl→List Str→EN
 | [],v=>(0,v)
 | d::ds,v=>if d.name∈v∨d.name∈tags then(7,[]) else zw tags ds (v++[d.name])
def CX (vis:List Str) (l:List Decl):Int:=yj (λd=>yj (λo=>need (decide (o.name∈vis)) 6) d.clock) l
def Aa (vis tags:List Str) (l:List Decl):EN:=z8 (zw tags l vis) λv=>(CX v l,v)
def CD (s:Place) (l:List Trn):Int:=yj (λt=>yZ s t.cond 1) l
def DQ (a b:List Str):Bool:=decide (zk a b=[]∧zk b a=[])
mutual
def Bt (s:Place) (d:List Str):State→EN
 | .mk n l e a u w =>
   z8 (Aa s.vis s.tags l) λvis=>
   z8 (AR (s.at vis) e d) λd1=>
   z8 (zc (s.at vis) d1 a) λd2=>
   z8 (CD s u,[]) λ_=>
   z8 (CD (s.at vis) w,[]) λ_=>
   if zk (yd l) (zk d2 d)=[] then(0,zk (zk d2 d) (yd l)) else(8,[])
def zQ (s:Place) (d:List Str):List State→Int×List (List Str)
 | []=>(0,[])
 | x :: xs =>
   let r:=Bt s d x
   if r.1=0 then(let q:=zQ s d xs; if q.1=0 then(0,r.2::q.2) else(q.1,[])) else(r.1,[])
def zc (s:Place) (d:List Str):List (List State)→EN
 | []=>(0,d)
 | x :: xs =>
   if ¬(x.map (·.name)).Nodup then(7,[])
   else
    let r:=zQ s d x
    if r.1≠0 then(r.1,[])
    else if r.2.all (λl=>DQ l (r.2.headD [])) then zc s (d++r.2.headD []) xs
    else(8,[])
end
def vars (n:Node):List Decl:=n.ins++n.outs++n.locals
def AM (s:Place):List Eqn→Nat→List Str→(Nat×Int) ⊕ List Str
 | [],_,d => .inr d
 | q::qs,k,d=>if (Ak s q d).1=0 then AM s qs (k+1) (Ak s q d).2 else .inl (k,(Ak s q d).1)
def AZ (before:List Node) (tags:List Str) (n:Node):Option Bad:=
 let i:=before.length
 if n.name∈before.map (·.name) then some ⟨i,-1,7⟩
 else
  let r:=Aa [] tags (vars n)
  if r.1≠0 then some ⟨i,-1,r.1⟩
  else
   let s:Place:=⟨before,r.2,yd n.ins,tags⟩
   match AM s n.eqs 0 [] with
   | .inl (k,e)=>some ⟨i,k,e⟩
   | .inr d =>
     let c:=zc s d n.autos
     if c.1≠0 then some ⟨i,-1,c.1⟩
     else
      let a:=yj (λe=>yZ (s.at (yd n.ins)) e 1) n.assume
      if a≠0 then some ⟨i,-1,a⟩
      else
       let g:=yj (λe=>yZ (s.at (yd n.ins++yd n.outs)) e 1) n.ensure
       if g≠0 then some ⟨i,-1,g⟩
       else if zk (yd n.outs++yd n.locals) c.2=[] then none else some ⟨i,-1,8⟩
def Bb (tags:List Str):List Node→List Node→Option Bad
 | _,[]=>none
 | before, n :: r => match AZ before tags n with
   | some b=>some b
   | none=>Bb tags (before++[n]) r
def Bq (en:List Enum):List Str:=en.flatMap (·.tags)
def DG (en:List Enum):Bool:=decide ((en.map (·.name)).Nodup∧(Bq en).Nodup)
def Bs (p:Prog):Option Bad:=
 match Ba p with
 | some b=>some b
 | none=>if DG p.enums then Bb (Bq p.enums) [] p.nodes else some ⟨-1,-1,7⟩
def F8 (l more:List Str):List Str:=more.foldl (λl x=>if x∈l then l else l++[x]) l
def M8 (l:List Eqn):List Str:=F8 [] (l.flatMap (·.left))
mutual
def Fu (out:List Str):List (List State)→List Str
 | []=>out
 | []::xs=>Fu out xs
 | (s::r)::xs=>Fu (F8 out (zk (HJ s) (yd s.locals))) xs
def HJ:State→List Str
 | .mk n l e a u w=>Fu (M8 e) a
end
theorem JG {α:Type} {a b:List α}:(a++b).Nodup↔a.Nodup∧b.Nodup∧∀x∈b,x∉a:=by
 rw[bW]
 constructor
 ·rintro⟨h1,h2,h3⟩; exact⟨h1,h2,λx hx hy=>h3 x hy x hx rfl⟩
 ·rintro⟨h1,h2,h3⟩; exact⟨h1,h2,λx hx y hy e=>h3 y hy (e▸hx)⟩
theorem b81 {l o:List Str} {x:Str}:x∈zk l o↔x∈l∧x∉o:=by simp[zk]
theorem b82 (a b o:List Str):zk (a++b) o=zk a o++zk b o:=by simp[zk]
theorem b7b {l o:List Str} (h:∀x∈l,x∉o):zk l o=l:=by
 unfold zk
 rw[List.filter_eq_self]
 intro x hx; simp[h x hx]
theorem FU {l o:List Str}:zk l o=[]↔∀x∈l,x∈o:=by
 unfold zk
 rw[List.filter_eq_nil_iff]
 constructor
 ·intro h x hx; have:=h x hx; simpa using this
 ·intro h x hx; simp[h x hx]
theorem Q7 {d y:List Str} (h:∀x∈y,x∉d):zk (d++y) d=y:=by
 rw[b82,FU.2 (λx hx=>hx),b7b h]; rfl
theorem b5Q {l o:List Str} (h:l.Nodup):(zk l o).Nodup:=h.filter _
theorem M5:∀(m l:List Str),m.Nodup→(∀x∈m,x∉l)→F8 l m=l++m
 | [],l,_,_=>by simp[F8]
 | x :: m, l, hn, h => by
   have hx:=h x (by simp)
   rw[b8] at hn
   unfold F8
   rw[cD,ae hx]
   have:=M5 m (l++[x]) hn.2 (by
    intro y hy hm
    rcases ay.1 hm with h1|h1
    ·exact h y (by simp[hy]) h1
    ·simp only[aP] at h1; subst h1; exact hn.1 hy)
   unfold F8 at this
   rw[this]; simp
theorem DO {a:EN} {f:List Str→EN} {r:List Str}:z8 a f=(0,r)↔a.1=0∧f a.2=(0,r):=by
 unfold z8
 by_cases h:a.1=0
 ·simp[h]
 ·simp only[h,if_false,false_and,iff_false]
  intro e; exact h (by simpa using aI Prod.fst e)
theorem DP {a:EN} (h:a.1=0):a=(0,a.2):=by rw[← h]
def Defs (s:Place) (d xs:List Str):Prop:=(∀x∈xs,x∈s.vis∧x∉s.inputs∧x∉d)∧xs.Nodup
theorem Defs.nil (s:Place) (d:List Str):Defs s d []:=⟨by simp,by simp⟩
theorem Defs.app {s:Place} {d a b:List Str}:Defs s d (a++b)↔Defs s d a∧Defs s (d++a) b:=by
 unfold Defs
 rw[JG]
 constructor
 ·rintro⟨h1,h2,h3,h4⟩
  refine⟨⟨λx hx=>h1 x (by simp[hx]),h2⟩,λx hx =>?_,h3⟩
  have:=h1 x (by simp[hx])
  have h5:=h4 x hx
  exact⟨this.1,this.2.1,by simp[this.2.2,h5]⟩
 ·rintro⟨⟨h1,h2⟩,h3,h4⟩
  refine⟨λx hx =>?_,h2,h4,λx hx =>?_⟩
  ·rcases ay.1 hx with h|h
   ·exact h1 x h
   ·have:=h3 x h
    exact⟨this.1,this.2.1,λhd=>this.2.2 (by simp[hd])⟩
  ·have:=h3 x hx
   exact λha=>this.2.2 (by simp[ha])
theorem M6 (s:Place):∀(xs d r:List Str),BD s xs d=(0,r)↔r=d++xs∧Defs s d xs
 | [],d,r=>by simp only[BD,be,Defs.nil,and_true,ac,true_and]; exact eq_comm
 | x :: xs, d, r => by
   have ih:=M6 s xs (d++[x]) r
   have gk:x::xs=[x]++xs:=rfl
   rw[gk,Defs.app]
   have h1:Defs s d [x]↔x∈s.vis∧x∉s.inputs∧x∉d:=by unfold Defs; simp
   simp only[BD,aK,bg]
   by_cases hv:x∈s.vis
   ·by_cases hd:x∈s.inputs∨x∈d
    ·have:¬Defs s d [x]:=by rw[h1]; rintro⟨_,a,b⟩; rcases hd with h|h; (exact a h); exact b h
     simp[hv,hd,this]
    ·simp only[not_or] at hd
     have:Defs s d [x]:=h1.2 ⟨hv,hd.1,hd.2⟩
     simp[hv,hd,this,ih]
   ·have:¬Defs s d [x]:=by rw[h1]; exact λh=>hv h.1
    simp[hv,this]
theorem IT {s:Place} {q:Eqn} {d r:List Str}:Ak s q d=(0,r)↔r=d++q.left∧Defs s d q.left∧yZ s q.right q.left.length=0:=by
 unfold Ak
 rw[DO]
 constructor
 ·rintro⟨h1,h2⟩
  have h3:=(M6 s q.left d _).1 (DP h1)
  simp only[ac] at h2
  exact⟨by rw[← h2.2,h3.1],h3.2,h2.1⟩
 ·rintro⟨rfl,h1,h2⟩
  rw[(M6 s q.left d _).2 ⟨rfl,h1⟩]
  exact⟨rfl,by simp[h2]⟩
def zg (l:List Eqn):List Str:=l.flatMap (·.left)
theorem DD (s:Place):∀(l:List Eqn) (d r:List Str),AR s l d=(0,r)↔r=d++zg l∧Defs s d (zg l)∧∀q∈l,yZ s q.right q.left.length=0
 | [],d,r=>by simp only[AR,zg,List.flatMap_nil,be,Defs.nil,true_and,List.not_mem_nil,false_imp_iff,implies_true,and_true,ac]; exact eq_comm
 | q :: l, d, r => by
   simp only[AR]
   rw[DO]
   have hl:zg (q::l)=q.left++zg l:=by simp[zg]
   rw[hl,Defs.app]
   constructor
   ·rintro⟨h1,h2⟩
    obtain⟨h3,h4,h5⟩:=IT.1 (DP h1)
    rw[h3] at h2
    obtain⟨h6,h7,h8⟩:=(DD s l _ r).1 h2
    refine⟨by rw[h6,aN],⟨h4,h7⟩,?_⟩
    intro x hx
    rcases aA.1 hx with rfl|hx
    ·exact h5
    ·exact h8 x hx
   ·rintro⟨h1,⟨h2,h3⟩,h4⟩
    rw[IT.2 ⟨rfl,h2,h4 q (by simp)⟩]
    refine⟨rfl,(DD s l _ r).2 ⟨by rw[h1,aN],h3,λx hx=>h4 x (by simp[hx])⟩⟩
theorem GU (s:Place):∀(l:List Eqn) (k:Nat) (d r:List Str),AM s l k d = .inr r↔AR s l d=(0,r)
 | [],k,d,r=>by simp[AM,AR]
 | q :: l, k, d, r => by
   simp only[AM,AR]
   rw[DO]
   by_cases h:(Ak s q d).1=0
   ·simp only[h,if_true,true_and]; exact GU s l (k+1) _ r
   ·simp[h]
theorem M7 (tags:List Str):∀(l:List Decl) (v r:List Str),zw tags l v=(0,r)↔r=v++yd l∧(∀x∈yd l,x∉v∧x∉tags)∧(yd l).Nodup
 | [],v,r=>by simp only[zw,yd,bB,be,List.not_mem_nil,false_imp_iff,implies_true,List.nodup_nil,and_true,ac,true_and]; exact eq_comm
 | d :: l, v, r => by
   have ih:=M7 tags l (v++[d.name]) r
   simp only[zw]
   have hn:yd (d::l)=d.name::yd l:=rfl
   rw[hn,b8]
   by_cases h:d.name∈v∨d.name∈tags
   ·simp only[h,if_true,ac]
    constructor
    ·rintro⟨h,_⟩; exact absurd h (by decide)
    ·rintro⟨_,h2,_⟩
     have:=h2 d.name (by simp)
     rcases h with h|h
     ·exact absurd h this.1
     ·exact absurd h this.2
   ·simp only[h,if_false,ih]
    simp only[not_or] at h
    constructor
    ·rintro⟨h1,h2,h3⟩
     refine⟨by rw[h1]; simp,?_,?_,h3⟩
     ·intro x hx
      rcases aA.1 hx with rfl|hx
      ·exact h
      ·have:=h2 x hx
       exact⟨λhv=>this.1 (by simp[hv]),this.2⟩
     ·intro hm
      exact(h2 _ hm).1 (by simp)
    ·rintro⟨h1,h2,h3,h4⟩
     refine⟨by rw[h1]; simp,?_,h4⟩
     intro x hx
     have:=h2 x (by simp[hx])
     refine⟨?_,this.2⟩
     intro hm
     rcases ay.1 hm with h5|h5
     ·exact this.1 h5
     ·simp only[aP] at h5; subst h5; exact h3 hx
theorem Cg {b:Bool} {e:Int} (he:e≠0):need b e=0↔b=true:=by cases b<;>simp[he]
theorem Q8 {v:List Str} {l:List Decl}:CX v l=0↔∀d∈l,∀o∈d.clock,o.name∈v:=by
 unfold CX
 rw[Bz]
 constructor
 ·intro h d hd o ho
  have:=Bz.1 (h d hd) o ho
  simpa using(Cg (by decide)).1 this
 ·intro h d hd
  rw[Bz]
  intro o ho
  rw[Cg (by decide)]; simpa using h d hd o ho
theorem Q9 {v tags:List Str} {l:List Decl} {r:List Str}:Aa v tags l=(0,r)↔r=v++yd l∧((∀x∈yd l,x∉v∧x∉tags)∧(yd l).Nodup)∧∀d∈l,∀o∈d.clock,o.name∈r:=by
 unfold Aa
 rw[DO]
 constructor
 ·rintro⟨h1,h2⟩
  obtain⟨h3,h4⟩:=(M7 tags l v _).1 (DP h1)
  simp only[ac] at h2
  rw[← h2.2]
  exact⟨h3,h4,Q8.1 h2.1⟩
 ·rintro⟨h1,h2,h3⟩
  rw[(M7 tags l v _).2 ⟨rfl,h2⟩]
  refine⟨rfl,?_⟩
  rw[← h1,Q8.2 h3]
mutual
def zj:List (List State)→List Str
 | []=>[]
 | []::xs=>zj xs
 | (s::r)::xs=>zk (Cy s) (yd s.locals)++zj xs
def Cy:State→List Str
 | .mk n l e a u w=>zg e++zj a
end
def Ab (x:State):List Str:=zk (Cy x) (yd x.locals)
theorem Fh (x:List State) (xs:List (List State)):zj (x::xs)=(x.map Ab).headD []++zj xs:=by cases x<;>simp[zj,Ab]
theorem c5c {l:List Eqn} (h:(zg l).Nodup):M8 l=zg l:=by
 have:=M5 (zg l) [] h (by simp)
 simpa[M8,zg] using this
mutual
theorem M9:∀(x:State) (s:Place) (d l:List Str),Bt s d x=(0,l)→l=Ab x∧Defs s d (Ab x)∧HJ x=Cy x
 | .mk n l e a u w, s, d, r, h => by
   simp only[Bt] at h
   rw[DO] at h; obtain⟨h1,h⟩:=h
   rw[DO] at h; obtain⟨h2,h⟩:=h
   rw[DO] at h; obtain⟨h3,h⟩:=h
   rw[DO] at h; obtain⟨h4,h⟩:=h
   rw[DO] at h; obtain⟨h5,h⟩:=h
   obtain⟨v1,v2,v3⟩:=Q9.1 (DP h1)
   generalize (Aa s.vis s.tags l).2=vis at *
   obtain⟨e1,e2,e3⟩:=(DD (s.at vis) e d _).1 (DP h2)
   generalize (AR (s.at vis) e d).2=d1 at *
   obtain⟨a1,a2,a3⟩:=F9 a (s.at vis) d1 _ (DP h3)
   generalize (zc (s.at vis) d1 a).2=d2 at *
   have hD:Defs (s.at vis) d (zg e++zj a):=Defs.app.2 ⟨e2,by rw[← e1]; exact a2⟩
   have iR:d2=d++(zg e++zj a):=by rw[a1,e1,aN]
   have hw:zk d2 d=zg e++zj a:=by rw[iR]; exact Q7 λx hx=>(hD.1 x hx).2.2
   rw[hw] at h
   have jg:HJ (.mk n l e a u w)=Cy (.mk n l e a u w):=by
    simp only[HJ,Cy]
    rw[c5c e2.2]
    exact a3 _ λy hy hm=>(a2.1 y hy).2.2 (by rw[e1]; simp[hm])
   have dQ:Ab (.mk n l e a u w)=zk (zg e++zj a) (yd l):=by simp[Ab,Cy]
   have dJ:Defs s d (Ab (.mk n l e a u w)):=by
    rw[dQ]
    refine⟨?_,b5Q hD.2⟩
    intro x hx
    rw[b81] at hx
    have:=hD.1 x hx.1
    refine⟨?_,this.2⟩
    have hv:x∈vis:=this.1
    rw[v1] at hv
    rcases ay.1 hv with h6|h6
    ·exact h6
    ·exact absurd h6 hx.2
   by_cases lH:zk (yd l) (zg e++zj a)=[]
   ·rw[ai lH] at h
    simp only[ac,true_and] at h
    exact⟨by rw[dQ,h],dJ,jg⟩
   ·rw[ae lH] at h
    simp only[ac] at h
    exact absurd h.1 (by decide)
theorem Na:∀(xs:List State) (s:Place) (d:List Str) (ls:List (List Str)),zQ s d xs=(0,ls)→ls=xs.map Ab∧∀x∈xs,Defs s d (Ab x)∧HJ x=Cy x
 | [],s,d,ls,h=>by simp only[zQ,ac,true_and] at h; subst h; simp
 | x :: xs, s, d, ls, h => by
   simp only[zQ] at h
   by_cases h1:(Bt s d x).1=0
   ·by_cases h2:(zQ s d xs).1=0
    ·simp only[h1,h2,if_true,ac,true_and] at h
     obtain⟨a1,a2⟩:=M9 x s d _ (DP h1)
     obtain⟨b1,b2⟩:=Na xs s d (zQ s d xs).2 (by rw[← h2])
     refine⟨by rw[← h,a1,b1]; rfl,?_⟩
     intro y hy
     rcases aA.1 hy with rfl|hy
     ·exact a2
     ·exact b2 y hy
    ·simp[h1,h2] at h
   ·simp[h1] at h
theorem F9:∀(a:List (List State)) (s:Place) (d r:List Str),zc s d a=(0,r)→r=d++zj a∧Defs s d (zj a)∧∀out:List Str,(∀y∈zj a,y∉out)→Fu out a=out++zj a
 | [], s, d, r, h => by
   simp only[zc,ac,true_and] at h
   subst h
   simp only[zj,be,Defs.nil,Fu,true_and,implies_true]
 | x :: xs, s, d, r, h => by
   simp only[zc] at h
   by_cases hn:(x.map (·.name)).Nodup
   ·simp only[hn,bA,if_false] at h
    by_cases h1:(zQ s d x).1=0
    ·simp only[h1,ne_eq,bA,if_false] at h
     obtain⟨b1,b2⟩:=Na x s d (zQ s d x).2 (by rw[← h1])
     rw[b1] at h
     split at h
     ·obtain⟨c1,c2,c3⟩:=F9 xs s _ r h
      rw[Fh]
      have hd:Defs s d ((x.map Ab).headD []):=by
       cases x with
       | nil=>exact Defs.nil s d
       | cons y x=>exact(b2 y (by simp)).1
      have kz:=Defs.app.2 ⟨hd,c2⟩
      refine⟨by rw[c1,aN],kz,?_⟩
      intro out ho
      cases x with
      | nil =>
        simp only[bB,List.headD_nil,bg] at ho ⊢
        simp only[Fu]
        exact c3 out ho
      | cons y x =>
        simp only[az,List.headD_cons] at *
        simp only[Fu]
        have hy:=(b2 y (by simp)).2
        rw[hy]
        have hr:zk (Cy y) (yd y.locals)=Ab y:=rfl
        rw[hr,M5 _ _ hd.2 (λz hz=>ho z (by simp[hz]))]
        rw[c3 (out++Ab y) ?_,aN]
        intro z hz hm
        rcases ay.1 hm with h5|h5
        ·exact ho z (by simp[hz]) h5
        ·exact(c2.1 z hz).2.2 (by simp[h5])
     ·simp only[ac] at h; exact absurd h.1 (by decide)
    ·simp[h1] at h
   ·simp only[hn,cH,if_true,ac] at h; exact absurd h.1 (by decide)
end
def Seen (b:List Node) (l:List Expr):Prop:=∀e∈l,∃(s:Place) (n:Nat),s.before=b∧yZ s e n=0
theorem Seen.app {b:List Node} {l m:List Expr}:Seen b (l++m)↔Seen b l∧Seen b m:=by
 unfold Seen
 constructor
 ·intro h; exact⟨λe he=>h e (by simp[he]),λe he=>h e (by simp[he])⟩
 ·rintro⟨h1,h2⟩ e he
  rcases ay.1 he with h|h
  ·exact h1 e h
  ·exact h2 e h
structure NodeOK (before:List Node) (tags:List Str) (n:Node) (c:List Str):Prop where
 new:n.name∉before.map (·.name)
 decl:Aa [] tags (vars n)=(0,yd (vars n))
 eqs:AR ⟨before,yd (vars n),yd n.ins,tags⟩ n.eqs []=(0,zg n.eqs)
 autos:zc ⟨before,yd (vars n),yd n.ins,tags⟩ (zg n.eqs) n.autos=(0,c)
 assume:∀e∈n.assume,yZ ⟨before,yd n.ins,yd n.ins,tags⟩ e 1=0
 ensure:∀e∈n.ensure,yZ ⟨before,yd n.ins++yd n.outs,yd n.ins,tags⟩ e 1=0
 all:∀x∈yd n.outs++yd n.locals,x∈c
theorem NodeOK.c_eq {before:List Node} {tags:List Str} {n:Node} {c:List Str} (h:NodeOK before tags n c):c=zg n.eqs++zj n.autos:=(F9 _ _ _ _ h.autos).1
theorem NodeOK.defs {before:List Node} {tags:List Str} {n:Node} {c:List Str} (h:NodeOK before tags n c):Defs ⟨before,yd (vars n),yd n.ins,tags⟩ [] c:=by
 rw[h.c_eq]
 refine Defs.app.2 ⟨((DD _ _ _ _).1 h.eqs).2.1,?_⟩
 exact(F9 _ _ _ _ h.autos).2.1
theorem Ra (n:Node):yd (vars n)=yd n.ins++(yd n.outs++yd n.locals):=by simp[yd,vars]
theorem NodeOK.length {before:List Node} {tags:List Str} {n:Node} {c:List Str} (h:NodeOK before tags n c):c.length=n.outs.length+n.locals.length:=by
 obtain⟨_,⟨_,hv⟩,_⟩:=Q9.1 h.decl
 rw[Ra,JG] at hv
 have hp:c.Perm (yd n.outs++yd n.locals):=by
  rw[List.perm_ext_iff_of_nodup h.defs.2 hv.2.1]
  intro x
  constructor
  ·intro hx
   have:=h.defs.1 x hx
   have h1:x∈yd (vars n):=this.1
   rw[Ra] at h1
   rcases ay.1 h1 with h2|h2
   ·exact absurd h2 this.2.1
   ·exact h2
  ·exact h.all x
 rw[hp.length_eq]; simp[yd]
structure OK (p:Prog):Prop where
 shape:Ba p=none
 enums:DG p.enums=true
 nodes:Bb (Bq p.enums) [] p.nodes=none
theorem Pe (en:List Enum):∀(ns:List Node) (i:Nat),AG en ns i=none↔∀n∈ns,∀k:Nat,zZ en n k=none
 | [],i=>by simp[AG]
 | n :: ns, i => by
   have hk:∀k:Nat,zZ en n i=none↔zZ en n k=none:=by
    intro k
    unfold zZ
    split
    ·simp
    ·cases AH (BE en) n.eqs 0 with
     | some x=>simp
     | none=>simp only; split<;>simp
   simp only[AG,aA,forall_eq_or_imp]
   cases hn:zZ en n i with
   | some x =>
     simp only[reduceCtorEq,false_iff,not_and]
     intro h
     rw[h i] at hn; simp at hn
   | none =>
     simp only
     rw[Pe en ns (i+1)]
     exact⟨λh=>⟨λk=>(hk k).1 hn,h⟩,λh=>h.2⟩
end PI.Sc
set_option linter.unusedSimpArgs false
set_option linter.unusedVariables false
namespace PI.Sc
open Go (IntKind BinOp UnOp)
open Go.Lib (decDigits)
theorem Nb:∀(l m:List Str),l.Nodup→(∀x∈l,x∈m)→l.length≤m.length
 | [],m,_,_=>by simp
 | x :: l, m, hn, h => by
   rw[b8] at hn
   have:=Nb l (m.erase x) hn.2 (by
    intro y hy
    have da:y≠x:=λe=>hn.1 (e▸hy)
    exact(List.mem_erase_of_ne da).2 (h y (by simp[hy])))
   have hx:=List.length_erase_of_mem (h x (by simp))
   have hp:0<m.length:=List.length_pos_of_mem (h x (by simp))
   simp only[aB]
   omega
def low (b:UInt8):Bool:=decide (97≤b.toNat∧b.toNat≤122)
structure Near (x:Str) (s s':Place):Prop where
 before:s'.before=s.before
 inputs:s'.inputs=s.inputs
 tags:s'.tags=s.tags
 more:∀y∈s.vis,y∈s'.vis
 less:∀y∈s'.vis,y∈s.vis∨y=x
theorem Near.at {x:Str} {s s':Place} (h:Near x s s') (l:List Str):Near x (s.at (s.vis++l)) (s'.at (s'.vis++l)):=by
 refine⟨h.before,h.inputs,h.tags,?_,?_⟩
 ·intro y hy
  rcases ay.1 hy with h1|h1
  ·exact bU _ (h.more y h1)
  ·exact cw _ h1
 ·intro y hy
  rcases ay.1 hy with h1|h1
  ·rcases h.less y h1 with h2|h2
   ·exact .inl (bU _ h2)
   ·exact .inr h2
  ·exact .inl (cw _ h1)
theorem JH {α:Type} {f:α→Int}:∀{l:List α} {i:Nat},AH f l i=none↔∀x∈l,f x=0
 | [],i=>by simp[AH]
 | x :: l, i => by
   unfold AH
   by_cases h:f x=0
   ·simp[h,JH (l:=l)]
   ·simp[h]
theorem b7c {en:List Enum} {n:Node} {i:Nat}:zZ en n i=none↔AC en n=0∧(∀q∈n.eqs,BE en q=0)∧BW en n=0:=by
 unfold zZ
 by_cases h1:AC en n=0
 ·simp only[h1,ne_eq,bA,if_false,true_and]
  cases h2:AH (BE en) n.eqs 0 with
  | none =>
    have:=JH.1 h2
    by_cases h3:BW en n=0
    ·simp[h3]; exact this
    ·simp[h3]
  | some x =>
    simp only[reduceCtorEq,false_iff,not_and]
    intro h
    rw[JH.2 h] at h2; simp at h2
 ·simp[h1]
end PI.Sc
set_option linter.unusedSimpArgs false
set_option linter.unusedVariables false
namespace PI.Sc
open Go (IntKind BinOp UnOp)
def yr {α:Type} (f:α→Nat):List α→Nat
 | []=>0
 | x::xs=>f x+yr f xs
theorem D9 {α:Type} (f:α→Nat) {x:α}:∀{l:List α},x∈l→f x≤yr f l
 | [],h=>by simp at h
 | y :: l, h => by
   simp only[yr]
   rcases aA.1 h with rfl|h
   ·omega
   ·have:=D9 f h; omega
theorem JI {α:Type} (f:α→Nat) (h:∀x,1≤f x):∀l:List α,l.length≤yr f l
 | []=>by simp
 | x::l=>by have:=h x; have:=JI f h l; simp only[yr,aB]; omega
def Expr.parts (e:Expr):Nat:=e.list.length
def Eqn.parts (q:Eqn):Nat:=1+q.left.length+q.right.parts
def Decl.parts (d:Decl):Nat:=1+d.clock.length+d.name.length / 100
def Trn.parts (t:Trn):Nat:=1+t.cond.parts
mutual
def State.parts:State→Nat
 | .mk n l e a u w=>1+yr Decl.parts l+yr Eqn.parts e+yr Trn.parts u+yr Trn.parts w+B0 a
def DE:List State→Nat
 | []=>0
 | x::xs=>x.parts+DE xs
def B0:List (List State)→Nat
 | []=>0
 | x::xs=>1+DE x+B0 xs
end
theorem FT:∀l:List State,DE l=yr State.parts l
 | []=>rfl
 | x::l=>by simp[DE,yr,FT l]
theorem GV:∀l:List (List State),B0 l=yr (λa=>1+yr State.parts a) l
 | []=>rfl
 | x::l=>by simp[B0,yr,GV l,FT]
def Node.parts (n:Node):Nat:=1+yr Decl.parts n.ins+yr Decl.parts n.outs+yr Decl.parts n.locals+yr Eqn.parts n.eqs+yr (λe=>1+Expr.parts e) n.assume+yr (λe=>1+Expr.parts e) n.ensure+B0 n.autos
def Enum.parts (u:Enum):Nat:=1+u.tags.length
def parts (p:Prog):Nat:=yr Enum.parts p.enums+yr Node.parts p.nodes
def Cap (m n T:Int):Prop:=(n<m↔T<m)∧(n<m→n=T)
theorem Cap.refl (m n:Int):Cap m n n:=⟨Iff.rfl,λ_=>rfl⟩
theorem Cap.add {m a b A B:Int} (h1:Cap m a A) (h2:Cap m b B) (p1:0≤a) (p2:0≤b) (p3:0≤A) (p4:0≤B):Cap m (a+b) (A+B):=by unfold Cap at *; omega
end PI.Sc
set_option linter.unusedSimpArgs false
set_option linter.unusedVariables false
namespace PI.Sc
theorem JY {α:Type} (f:α→Nat):∀a b:List α,yr f (a++b)=yr f a+yr f b
 | [],b=>by simp[yr]
 | x::a,b=>by simp[yr,JY f a b]; omega
theorem c1w {α:Type} (f:α→Nat) {l:List α} {i:Nat} (h:i<l.length):yr f (l.take (i+1))=yr f (l.take i)+f l[i]:=by
 rw[aX,am h,JY]; simp[yr]
theorem c5v {α:Type} (f:α→Nat) (l:List α) (i:Nat):yr f (l.take i)≤yr f l:=by
 have:=JY f (l.take i) (l.drop i)
 rw[bR] at this
 omega
def isVar (k:Int):Bool:=decide (k=2∨k=8∨k=9)
def Eh (k:Int) (i:Nat):Bool:=decide (k=5∨k=7∧0<i)
def Dg (l:List Str) (k:Int) (n:Str):List Str:=if isVar k=true∧n∉l then l++[n] else l
mutual
def Bd (l:List Str):Expr→List Str
 | .mk k o t v n as=>Df k 0 (Dg l k n) as
def Df (k:Int) (i:Nat) (l:List Str):List Expr→List Str
 | []=>l
 | x::xs=>if Eh k i then l else Df k (i+1) (Bd l x) xs
end
theorem c8m (l:List Str) (e:Expr):Bd l e=Df e.kind 0 (Dg l e.kind e.name) e.args:=by cases e; simp[Bd]
theorem c5w (l:List Str) (k:Int) (n:Str):(Dg l k n).length≤l.length+1:=by unfold Dg; split<;>simp
mutual
theorem Hv (l:List Str):∀e:Expr,(Bd l e).length≤l.length+e.list.length
 | .mk k o t v n as => by
   simp only[Bd,Expr.list,aB]
   have h1:=c5w l k n
   have h2:=R9 k 0 (Dg l k n) as
   omega
theorem R9 (k:Int) (i:Nat) (l:List Str):∀as:List Expr,(Df k i l as).length≤l.length+(FC as).length
 | []=>by simp[Df]
 | x :: xs => by
   simp only[Df,FC,ap]
   split
   ·omega
   ·have h1:=Hv l x
    have h2:=R9 k (i+1) (Bd l x) xs
    omega
end
def plain (p:Prog):Bool:=p.nodes.all λn=>decide (n.autos=[])
def Ei (p:Prog):Bad:=if (BN (Bs p)).err=0 then(if plain p then Eb else⟨-1,-1,2⟩) else BN (Bs p)
abbrev Pr:=Int×Int
def Be (z:List Pr) (x:Pr):List Pr:=if z.getLast? = some x then z else z++[x]
def AO (l:List Pr):List Pr:=l.foldl Be []
theorem Sa (z:List Pr) (x:Pr):(Be z x).getLast? = some x:=by
 unfold Be
 split
 ·assumption
 ·simp
theorem Hy (l:List Pr) {i:Nat} (h:i<l.length):AO (l.take (i+1))=Be (AO (l.take i)) l[i]:=by
 unfold AO
 rw[aX,am h,cJ]; rfl
theorem MM (l:List Pr) {i:Nat} (h:i<l.length):(AO (l.take (i+1))).getLast? = some l[i]:=by
 rw[Hy l h,Sa]
theorem QD:∀(l:List Pr) (z:List Pr),(l.foldl Be z).length≤z.length+l.length
 | [],z=>by simp
 | x :: l, z => by
   have:=QD l (Be z x)
   have h2:(Be z x).length≤z.length+1:=by unfold Be; split<;>simp
   simp only[cD,aB]; omega
theorem Sb:∀(l:List Pr) (j:Nat) (h:j<l.length),(l.flatMap yW).drop (j*2)=yW l[j]++(l.drop (j+1)).flatMap yW
 | [],j,h=>by simp at h
 | x::l,0,h=>by simp[yW]
 | x :: l, j + 1, h => by
   have:=Sb l j (by simpa using h)
   rw[show (j+1)*2=j*2+2 by omega]
   simp only[aM,yW,aK,bg,List.drop_succ_cons,bX] at this ⊢
   exact this
theorem Ie:∀l:List Pr,(l.flatMap yW).length=l.length*2
 | []=>rfl
 | x::l=>by simp only[aM,ap,aB,Ie l]; simp[yW]; omega
theorem Sd (l:List Pr) (j:Nat) (h:j<l.length):yh 2 true (l.flatMap yW) (j*2)=some (.agg (yW l[j])):=by
 have hl:=Ie l
 simp only[yh,if_true]
 rw[ai (by omega),Sb l j h]
 simp[yW,dem]
theorem MN:∀(l:List Pr) (k:Nat),(l.flatMap yW).take (k*2)=(l.take k).flatMap yW
 | [],k=>by simp
 | x::l,0=>by simp
 | x :: l, k + 1 => by
   rw[show (k+1)*2=k*2+2 by omega]
   simp only[aM,yW,aK,bg,List.take_succ_cons]
   rw[MN l k]
theorem b9i (l:List Pr) (k:Nat) (x:Pr) (h:k<l.length):yB 2 true (l.flatMap yW) (k*2) (.agg (yW x))=some ((l.set k x).flatMap yW):=by
 have hl:=Ie l
 simp only[yB,if_true]
 rw[ai ⟨rfl,by omega⟩]
 congr 1
 rw[MN,show k*2+2=(k+1)*2 by omega,List.set_eq_take_append_cons_drop,ai h]
 simp only[bN,aM]
 congr 2
 have:∀(l:List Pr) (k:Nat),(l.flatMap yW).drop (k*2)=(l.drop k).flatMap yW:=by
  intro l
  induction l with
  | nil=>simp
  | cons y l ih =>
    intro k
    cases k with
    | zero=>simp
    | succ k =>
      rw[show (k+1)*2=k*2+2 by omega]
      simp only[aM,yW,aK,bg,List.drop_succ_cons]
      exact ih k
 exact this l (k+1)
theorem QA (l:List Pr) (rest:List PV):∀(n off:Nat),off+n=l.length→Aj 2 true (l.flatMap yW++rest) n (off*2)=some ((l.drop off).map λx => .agg (yW x))
 | 0,off,h=>by simp[Aj,bk (show l.length≤off by omega)]
 | n + 1, off, h => by
   have cV:off<l.length:=by omega
   have e:yh 2 true (l.flatMap yW++rest) (off*2)=some (.agg (yW l[off])):=by
    have h1:=Sd l off cV
    have hl:=Ie l
    simp only[yh,if_true] at h1 ⊢
    rw[ai (by rw[ap]; omega)]
    rw[ai (by omega)] at h1
    rw[List.drop_append_of_le_length (by omega),cN (by rw[cg]; omega)]
    exact h1
   simp only[Aj,e,aw]
   rw[show off*2+2=(off+1)*2 by omega,QA l rest n (off+1) (by omega),a8 cV]
   rfl
structure Prs (cs:List PV) (l:List Pr):Prop where
 eq:cs=l.flatMap yW
theorem Prs.len {cs:List PV} {l:List Pr} (h:Prs cs l):cs.length=l.length*2:=by rw[h.eq,Ie]
theorem Prs.get {cs:List PV} {l:List Pr} (h:Prs cs l) {j:Nat} (hj:j<l.length):j*2+2≤cs.length∧List.map dem (List.take 2 (List.drop (j*2) cs))=[.int .i64 l[j].1,.int .i64 l[j].2]:=by
 have h1:=Sd l j hj
 have hl:=h.len
 rw[← h.eq] at h1
 simp only[yh,if_true] at h1
 rw[ai (by omega)] at h1
 simp only[aa,PV.agg.injEq] at h1
 exact⟨by omega,h1⟩
theorem Prs.set {cs:List PV} {l:List Pr} (h:Prs cs l) {k:Nat} (hk:k<l.length) (x:Pr):Prs (cs.take (k*2)++([.int .i64 x.1,.int .i64 x.2]++cs.drop (k*2+2))) (l.set k x):=by
 have h1:=b9i l k x hk
 have hl:=h.len
 rw[← h.eq] at h1
 simp only[yB,if_true] at h1
 rw[ai ⟨rfl,by omega⟩] at h1
 simp only[aa] at h1
 exact⟨h1⟩
theorem Re (s:Place):∀(l:List Eqn) (k:Nat) (d:List Str) (i:Nat) (e:Int),AM s l k d = .inl (i,e)→e≠0
 | [],k,d,i,e,h=>by simp[AM] at h
 | q :: l, k, d, i, e, h => by
   simp only[AM] at h
   split at h
   ·exact Re s l _ _ _ _ h
   ·rename_i da
    simp only[Sum.inl.injEq,ac] at h
    rw[← h.2]; exact da
theorem c1h {before:List Node} {tags:List Str} {n:Node} {b:Bad} (h:AZ before tags n=some b):b.node=before.length∧b.err≠0:=by
 simp only[AZ] at h
 split at h
 ·simp only[aa] at h; subst h; exact⟨rfl,by simp⟩
 ·split at h
  ·rename_i h1
   simp only[aa] at h; subst h; exact⟨rfl,h1⟩
  ·split at h
   ·rename_i k e hq
    simp only[aa] at h; subst h; exact⟨rfl,Re _ _ _ _ _ _ hq⟩
   ·split at h
    ·rename_i h1
     simp only[aa] at h; subst h; exact⟨rfl,h1⟩
    ·split at h
     ·rename_i h1
      simp only[aa] at h; subst h; exact⟨rfl,h1⟩
     ·split at h
      ·rename_i h1
       simp only[aa] at h; subst h; exact⟨rfl,h1⟩
      ·split at h
       ·simp at h
       ·simp only[aa] at h; subst h; exact⟨rfl,by simp⟩
theorem b84 {p:Prog} {b:Bad} (hs:Ba p=some b):b.err≠0:=by
 intro he
 unfold Ba at hs
 split at hs
 ·simp only[aa] at hs; rw[← hs] at he; exact absurd he (by decide)
 ·split at hs
  ·rename_i h1; simp only[aa] at hs; rw[← hs] at he; exact h1 he
  ·have key:∀(l:List Node) (j:Nat),AG p.enums l j=some b→b.err≠0:=by
    intro l
    induction l with
    | nil=>intro j hj; simp[AG] at hj
    | cons n l ih =>
      intro j hj
      simp only[AG] at hj
      cases hn:zZ p.enums n j with
      | none=>rw[hn] at hj; exact ih _ hj
      | some y =>
        rw[hn] at hj
        simp only[aa] at hj
        subst hj
        unfold zZ at hn
        split at hn
        ·rename_i h1; simp only[aa] at hn; rw[← hn]; exact h1
        ·split at hn
         ·rename_i k e hf
          have:∀(l:List Eqn) (m:Nat),AH (BE p.enums) l m=some (k,e)→e≠0:=by
           intro l
           induction l with
           | nil=>intro m hm; simp[AH] at hm
           | cons q l ih2 =>
             intro m hm
             simp only[AH] at hm
             split at hm
             ·exact ih2 _ hm
             ·rename_i h2; simp only[aa,ac] at hm; rw[← hm.2]; exact h2
          simp only[aa] at hn; rw[← hn]; exact this _ _ hf
         ·split at hn
          ·rename_i h1; simp only[aa] at hn; rw[← hn]; exact h1
          ·simp at hn
   exact key _ _ hs he
theorem Rf {tags:List Str}:∀{l b:List Node} {x:Bad},Bb tags b l=some x→x.err≠0
 | [],b,x,h=>by simp[Bb] at h
 | n :: l, b, x, h => by
   simp only[Bb] at h
   cases hn:AZ b tags n with
   | some y=>rw[hn] at h; simp only[aa] at h; subst h; exact(c1h hn).2
   | none=>rw[hn] at h; exact Rf h
theorem b85 {p:Prog} {x:Bad} (h:Bs p=some x):x.err≠0:=by
 unfold Bs at h
 cases hs:Ba p with
 | some b=>rw[hs] at h; simp only[aa] at h; subst h; exact b84 hs
 | none =>
   rw[hs] at h
   simp only at h
   split at h
   ·exact Rf h
   ·simp only[aa] at h; subst h; simp
end PI.Sc
set_option maxRecDepth 100000
set_option linter.unusedSimpArgs false
set_option linter.unusedVariables false
namespace PI.Sc
open Go (IntKind BinOp UnOp)
section
variable {L:Nat→Option PFunc} (hL:∀k f,LS k=some f→L k=some f)
include hL
theorem HL (b:Int) (h:List PObj):x8 L 142 [.int .u8 b] h=some (.bool (Fw b),h):=by
 refine yp (hL 142 _ rfl) rfl ?_
 by_cases h1:97≤b<;>by_cases h2:b≤122<;>by_cases h3:65≤b<;>by_cases h4:b≤90 <;>
  simp[LG,Fw,h1,h2,h3,h4]<;>omega
theorem Ri (b:Int) (h:List PObj):x8 L 162 [.int .u8 b] h=some (.bool (HM b),h):=by
 refine yp (hL 162 _ rfl) rfl ?_
 by_cases h1:48≤b<;>by_cases h2:b≤57<;>simp[LN,HM,h1,h2]
theorem Rj (b:Int) (h:List PObj):x8 L 144 [.int .u8 b] h=some (.bool (EV b),h):=by
 refine yp (hL 144 _ rfl) rfl ?_
 by_cases h3:b=95
 ·subst h3
  cases h1:Fw 95<;>cases h2:HM 95<;>simp[Jg,HL hL,Ri hL,EV,h1,h2]
 ·cases h1:Fw b<;>cases h2:HM b<;>simp[Jg,HL hL,Ri hL,EV,h1,h2,h3]
theorem Rk (s:Str) (h:List PObj):x8 L 143 [.str s] h=some (.bool (JL s),h):=by
 refine yp (hL 143 _ rfl) rfl ?_
 simp[LH]
 repeat' split
 all_goals simp_all [JL,Rl]
end
theorem list_eq {α:Type} {a b:List α} (hl:a.length=b.length) (h:∀k,k<a.length→a[k]? = b[k]?):a=b:=by
 apply bK
 intro k
 by_cases hk:k<a.length
 ·exact h k hk
 ·rw[cG (by omega),cG (by omega)]
theorem Rm {α:Type} {l:List α} {p:α→Bool} (h:∀k (hk:k<l.length),p l[k]=true):l.all p=true:=by
 rw[aJ]
 intro x hx
 obtain⟨k,hk,rfl⟩:=bH.1 hx
 exact h k hk
theorem Ro {α:Type} {l:List α} {p:α→Bool} {i:Nat} (hi:i<l.length) (h:p l[i]=false):l.all p=false:=by
 rw[Bool.eq_false_iff]
 intro e
 have:=aJ.1 e _ (ak hi)
 rw[h] at this; simp at this
section
variable {L:Nat→Option PFunc} (hL:∀k f,LS k=some f→L k=some f)
include hL
theorem Rp (s:Str) (h:List PObj):x8 L 118 [.str s] h=some (.bool (CO s),h):=by
 refine yp (hL 118 _ rfl) rfl ?_
 cases s with
 | nil=>simp[Fl,CO]
 | cons c r =>
   by_cases cS:(c::r).length≤40
   ·have ej:¬(40:Int)<(r.length:Int)+1:=by simp at cS; omega
    cases hc:Fw c.toNat with
    | false=>simp[Fl,CO,ej,HL hL,hc]
    | true =>
      cases hk:JL (c::r) with
      | true=>simp[Fl,CO,ej,HL hL,Rk hL,hc,hk]
      | false =>
        have jh:CO (c::r)=(c::r).all (λb=>EV b.toNat):=by
         simp[CO,hc,hk]; omega
        simp[Fl,ej,HL hL,Rk hL,hc,hk]
        generalize hs:c::r=s at *
        have jI:(r.length:Int)+1=(s.length:Int):=by rw[← hs]; simp
        rw[jI]
        refine c6o s.length (λi=>EV (s.getD i 0).toNat) (λi (x:PV)=>[(2,x),(4,.int .i64 i)]) (λ_ _=>h) .dead ?_ ?_ ?_ rfl rfl
        ·intro i hi de x ih
         have hw:=yn i (by omega)
         simp[hi,List.getD] at de
         simp[hi,hw,Rj hL,de]
         simpa using ih _
        ·intro i hi de hk x
         have hx:=Ro (p:=λb:UInt8=>EV b.toNat) hi (by simpa[hi,List.getD] using de)
         simp[hi,List.getD] at de
         simp[hi,Rj hL,de,jh,hx]
        ·intro de x
         have hx:s.all (λb=>EV b.toNat)=true:=Rm (λk hk=>by have:=de k hk; simpa[hk,List.getD] using this)
         simp[jh,hx]
   ·have ej:(40:Int)<(r.length:Int)+1:=by simp at cS; omega
    simp[Fl,CO,ej]
    omega
end
@[simp] theorem d3U:PV.agg [.str [],.list false []]=yu ⟨[],[]⟩:=rfl
section
variable {L:Nat→Option PFunc} (hL:∀k f,LS k=some f→L k=some f)
include hL
theorem c1m (en:List Enum) (t:Int) (ht:CP t) (o:Bool) (h:List PObj):x8 L 145 [.list o (en.map yu),.int .i64 t] h=some (.tuple [yu ((DT en t).getD ⟨[],[]⟩),.bool (DT en t).isSome],h):=by
 refine yp (hL 145 _ rfl) rfl ?_
 rcases c5t t with h3|⟨k,rfl⟩
 ·simp[Hh,h3,c3a h3]
 ·have hw:IntKind.i64.wrap (k:Int)=k:=by rw[Eg]<;>omega
  have h3:¬(k:Int)+3<3:=by omega
  by_cases hk:k<en.length
  ·have em:¬(en.length:Int)≤k:=by omega
   simp[Hh,h3,hw,em,hk,c3b hk]
  ·have em:(en.length:Int)≤k:=by omega
   simp[Hh,h3,hw,em,c1v (show en.length≤k by omega)]
theorem JO (en:List Enum) (t:Int) (ht:CP t) (o:Bool) (h:List PObj):x8 L 119 [.list o (en.map yu),.int .i64 t] h=some (.int .i64 (Ad en t),h):=by
 refine yp (hL 119 _ rfl) rfl ?_
 by_cases h1:t=1
 ·subst h1; simp[Hc,Ad]
 ·by_cases h2:t=2
  ·subst h2; simp[Hc,Ad]
  ·have:=c1m hL en t ht false []
   cases he:DT en t<;>simp[Hc,Ad,h1,h2,this,he]
theorem c74 (v:Int) (h:List PObj):x8 L 146 [.int .i64 v] h=some (.bool (decide (-32768≤v∧v≤32767)),h):=by
 refine yp (hL 146 _ rfl) rfl ?_
 by_cases h1 : -32768≤v<;>by_cases h2:v≤32767<;>simp[LI,h1,h2]
theorem HT (en:List Enum) (t v:Int) (ht:CP t) (o:Bool) (h:List PObj):x8 L 120 [.list o (en.map yu),.int .i64 t,.int .i64 v] h=some (.bool (Em en t v),h):=by
 refine yp (hL 120 _ rfl) rfl ?_
 by_cases h2:t=2
 ·subst h2; simp[Hd,Em,c74 hL]
 ·by_cases h0:0≤v
  ·simp[Hd,Em,h2,h0,JO hL en t ht false []]
  ·simp[Hd,Em,h2,h0]
end
end PI.Sc
set_option linter.unusedSimpArgs false
set_option linter.unusedVariables false
namespace PI
open Go (IntKind BinOp UnOp)
section
variable {L:Nat→Option PFunc} {V l:List PV} {g:Nat} {h:List PObj} {Q:PExit→St→Prop}
def Ol (st:St):Option (Out×List PObj)→Option (PExit×St)
 | some (.val _, h') => match h'[st.heap.length]? with
   | some (.loop true)=>some (.normal,{ st with heap:=h'.set st.heap.length .gone })
   | some (.over (some id))=>some (.exit id,{ st with heap:=h'.set st.heap.length .gone })
   | some (.over none)=>some (.ret,{ st with heap:=h'.set st.heap.length .gone })
   | _=>none
 | some (.boom v,h')=>some (.boom v,{ st with heap:=h' })
 | none=>none
theorem c1M {x:PX} {kb:Nat} {caps:List PX} {st:St} {k:Nat} {first captured cs:List PV} (hx:rd st x=some (.func k first captured)) (hc:rdAll st caps=some cs) (hn:EB L k=true):
  evL L (.rangeF x kb caps) st=Ol st (yy L k (first ++ .func kb (.ptr st.heap.length 0::cs) []::captured) (st.heap++[.loop true])):=by
 refine C6 λr =>?_
 rw[D0]
 simp only[yf,hx,hc,hn,Bool.true_eq_false,if_false]
 constructor
 ·rintro⟨n,h⟩
  split at h
  ·rename_i h1
   have h2:yy L k (first ++ .func kb (.ptr st.heap.length 0::cs) []::captured) (st.heap++[.loop true])=_:=Ew.2 ⟨n,h1⟩
   rw[h2]; exact h
  ·rename_i h1
   have h2:yy L k (first ++ .func kb (.ptr st.heap.length 0::cs) []::captured) (st.heap++[.loop true])=_:=Ew.2 ⟨n,h1⟩
   rw[h2]; exact h
  ·simp at h
 ·intro h
  cases ho:yy L k (first ++ .func kb (.ptr st.heap.length 0::cs) []::captured) (st.heap++[.loop true]) with
  | none=>rw[ho] at h; simp[Ol] at h
  | some p =>
    obtain⟨n,hn⟩:=Ew.1 ho
    refine⟨n,?_⟩
    rw[ho] at h
    have gI:z6 (yf L n) L k (first ++ .func kb (.ptr st.heap.length 0::cs) []::captured) (st.heap++[.loop true])=some p:=hn
    rw[gI]
    obtain⟨o,h'⟩:=p
    cases o<;>exact h
def CQ (V l:List PV) (g n:Nat) (Q:PExit→St→Prop):Out×List PObj→Prop
 | (.val _, h') => match h'[n]? with
   | some (.loop true)=>Q .normal ⟨V,l,g,h'.set n .gone⟩
   | some (.over (some id))=>Q (.exit id) ⟨V,l,g,h'.set n .gone⟩
   | some (.over none)=>Q .ret ⟨V,l,g,h'.set n .gone⟩
   | _=>False
 | (.boom v,h')=>Q (.boom v) ⟨V,l,g,h'⟩
theorem c1N {x:PX} {kb:Nat} {caps:List PX} {k:Nat} {first captured cs:List PV} {r:Out×List PObj} (hx:rd ⟨V,l,g,h⟩ x=some (.func k first captured)) (hc:rdAll ⟨V,l,g,h⟩ caps=some cs) (hn:EB L k=true)
  (ho:yy L k (first ++ .func kb (.ptr h.length 0::cs) []::captured) (h++[.loop true])=some r) (hq:CQ V l g h.length Q r):wpL L (.rangeF x kb caps) ⟨V,l,g,h⟩ Q:=by
 have he:=c1M (kb:=kb) (st:=⟨V,l,g,h⟩) hx hc hn
 simp only at he
 rw[ho] at he
 obtain⟨o,h'⟩:=r
 unfold wpL
 rw[he]
 cases o with
 | boom v=>exact hq
 | val v =>
   simp only[CQ] at hq
   simp only[Ol]
   split at hq<;>first|exact hq.elim|skip
   all_goals (rename_i h1; simp only[h1]; exact hq)
def FL (n:Nat) (r:Out×List PObj):PExit→St→Prop
 | .normal,st=>st.heap[n]? = some (.loop false)∧r=(.val (.bool true),st.heap.set n (.loop true))
 | .boom v,st=>r=(.boom v,st.heap)
 | .exit id,st=>st.heap[n]? = some (.loop false)∧r=(.val (.bool false),st.heap.set n (.over (some id)))
 | .ret,st=>st.heap[n]? = some (.loop false)∧r=(.val (.bool false),st.heap.set n (.over none))
 | .after ..,_=>False
@[simp] theorem c5F (n:Nat) (r:Out×List PObj):FL n r .normal ⟨V,l,g,h⟩=(h[n]? = some (.loop false)∧r=(.val (.bool true),h.set n (.loop true))):=rfl
@[simp] theorem c8H (n:Nat) (r:Out×List PObj) (v:PV):FL n r (.boom v) ⟨V,l,g,h⟩=(r=(.boom v,h)):=rfl
@[simp] theorem c8I (n:Nat) (r:Out×List PObj) (id:Nat):FL n r (.exit id) ⟨V,l,g,h⟩=(h[n]? = some (.loop false)∧r=(.val (.bool false),h.set n (.over (some id)))):=rfl
@[simp] theorem c99 (n:Nat) (r:Out×List PObj):FL n r .ret ⟨V,l,g,h⟩=(h[n]? = some (.loop false)∧r=(.val (.bool false),h.set n (.over none))):=rfl
def TM (L:Nat→Option PFunc) (b:PC) (n:Nat) (r:Out×List PObj):PExit→St→Prop
 | .normal,st=>st.heap[n]? = some (.loop true)∧wpL L b { st with heap:=st.heap.set n (.loop false) } (FL n r)
 | _,_=>False
@[simp] theorem c5G (b:PC) (n:Nat) (r:Out×List PObj):TM L b n r .normal ⟨V,l,g,h⟩=(h[n]? = some (.loop true)∧wpL L b ⟨V,l,g,h.set n (.loop false)⟩ (FL n r)):=rfl
theorem HS {k:Nat} {f:PFunc} {a b:PC} {n:Nat} {as:List PV} {hp:List PObj} {r:Out×List PObj} (hf:L k=some f) (lu:f.code = .round a b) (hl:as.length+1=f.params) (hn:hp[n]? = some (.loop true))
  (hw:wpL L a ⟨as.map dem++List.replicate (f.nv - as.length) .dead,[],0,hp⟩ (TM L b n r)) (hs:f.split=false:=by rfl) (gn:f.prim=none:=by rfl):yy L k (.ptr n 0::as) hp=some r:=by
 refine TN hf (by simpa using hl) ?_ hs gn
 unfold Bn
 rw[lu]
 simp only[Dy,hn]
 rw[DU] at hw
 obtain⟨e,st,h1,h2⟩:=hw
 rw[h1]
 cases e with
 | normal =>
   obtain⟨h3,h4⟩:=h2
   rw[DU] at h4
   obtain⟨e2,st2,h5,h6⟩:=h4
   simp only[h3,h5]
   cases e2 with
   | normal=>obtain⟨h7,rfl⟩:=h6; simp only[h7]
   | boom v=>simp only[FL] at h6; subst h6; rfl
   | exit id=>obtain⟨h7,rfl⟩:=h6; simp only[h7]
   | ret=>obtain⟨h7,rfl⟩:=h6; simp only[h7]
   | after kd cs v=>exact h6.elim
 | exit id=>exact h2.elim
 | ret=>exact h2.elim
 | boom v=>exact h2.elim
 | after kd cs v=>exact h2.elim
end
end PI
set_option linter.unusedSimpArgs false
set_option linter.unusedVariables false
namespace PI.Sc
open Go (IntKind BinOp UnOp)
section
variable {L:Nat→Option PFunc} {Q:PExit→St→Prop}
theorem b7d {α:Type} {f:α→Int} {l:List α} {i:Nat} (hi:i<l.length) (h:f l[i]≠0) (hk:∀k (hk:k<l.length),k<i→f l[k]=0):yj f l=f l[i]:=
 Rb hi h λk h1=>hk k (by omega) h1
theorem BR {α γ:Type} {c:PC} {V:List PV} {g:Nat} {h:List PObj} (l:List α) (f:α→Int) (M:Nat→γ→List (Nat×PV)) (G:Nat→γ→Nat) (H:Nat→γ→List PObj) (x0:γ)
  (step:∀i (hi:i<l.length),f l[i]=0→∀x,(∀y,wpL L (.loop c) ⟨upd V (M (i+1) y),[],G (i+1) y,H (i+1) y⟩ Q)→wpL L c ⟨upd V (M i x),[],G i x,H i x⟩ (zP L c Q))
  (fail:∀i (hi:i<l.length),f l[i]≠0→yj f l=f l[i]→∀x,wpL L c ⟨upd V (M i x),[],G i x,H i x⟩ (zP L c Q))
  (last:yj f l=0→∀x,wpL L c ⟨upd V (M l.length x),[],G l.length x,H l.length x⟩ (zP L c Q)) (hV:upd V (M 0 x0)=V) (hG:G 0 x0=g) (hH:H 0 x0=h):wpL L (.loop c) ⟨V,[],g,h⟩ Q:=by
 refine Nc l.length (λi=>if h:i<l.length then decide (f l[i]=0) else true) M G H x0 ?_ ?_ ?_ hV hG hH
 ·intro i hi de x ih
  simp only[hi,dif_pos,av] at de
  exact step i hi de x ih
 ·intro i hi de hk x
  simp only[hi,dif_pos,cm] at de
  refine fail i hi de (b7d hi de λk h1 h2 =>?_) x
  have:=hk k h2
  simp only[h1,dif_pos,av] at this
  exact this
 ·intro de x
  refine last (Bz.2 ?_) x
  intro y hy
  obtain⟨k,hk,rfl⟩:=bH.1 hy
  have:=de k hk
  simp only[hk,dif_pos,av] at this
  exact this
theorem Rc {α γ:Type} {c:PC} {V:List PV} {g:Nat} {h:List PObj} (l:List α) (f:α→Int) (M:Nat→γ→List (Nat×PV)) (x0:γ)
  (step:∀i (hi:i<l.length),f l[i]=0→∀x,(∀y,wpL L (.loop c) ⟨upd V (M (i+1) y),[],g,h⟩ Q)→wpL L c ⟨upd V (M i x),[],g,h⟩ (zP L c Q))
  (fail:∀i (hi:i<l.length),f l[i]≠0→yj f l=f l[i]→∀x,wpL L c ⟨upd V (M i x),[],g,h⟩ (zP L c Q))
  (last:yj f l=0→∀x,wpL L c ⟨upd V (M l.length x),[],g,h⟩ (zP L c Q)) (hV:upd V (M 0 x0)=V):wpL L (.loop c) ⟨V,[],g,h⟩ Q:=
 BR l f M (λ_ _=>g) (λ_ _=>h) x0 step fail last hV rfl rfl
theorem c5d {γ:Type} {c:PC} {V:List PV} {g:Nat} {h:List PObj} (n:Nat) (M:Nat→γ→List (Nat×PV)) (G:Nat→γ→Nat) (H:Nat→γ→List PObj) (x0:γ)
  (step:∀i,i<n→∀x,(∀y,wpL L (.loop c) ⟨upd V (M (i+1) y),[],G (i+1) y,H (i+1) y⟩ Q)→wpL L c ⟨upd V (M i x),[],G i x,H i x⟩ (zP L c Q))
  (last:∀x,wpL L c ⟨upd V (M n x),[],G n x,H n x⟩ (zP L c Q)) (hV:upd V (M 0 x0)=V) (hG:G 0 x0=g) (hH:H 0 x0=h):wpL L (.loop c) ⟨V,[],g,h⟩ Q:=
 Nc n (λ_=>true) M G H x0 (λi hi _=>step i hi) (λ_ _ h=>by simp at h) (λ_=>last) hV hG hH
end
theorem yK {L:Nat→Option PFunc} {c:PC} {Q:PExit→St→Prop} (n:Nat) (Inv:Nat→St→Prop) {st:St}
  (step:∀i,i<n→∀st,Inv i st→(∀st',Inv (i+1) st'→wpL L (.loop c) st' Q)→wpL L c st (zP L c Q))
  (last:∀st,Inv n st→wpL L c st (zP L c Q)) (h0:Inv 0 st):wpL L (.loop c) st Q:=by
 have key:∀k i st,i+k=n→Inv i st→wpL L (.loop c) st Q:=by
  intro k
  induction k with
  | zero =>
    intro i st hi hh
    have:i=n:=by omega
    subst this
    rw[Ct]
    exact last st hh
  | succ k ih =>
    intro i st hi hh
    rw[Ct]
    exact step i (by omega) st hh λst' h'=>ih (i+1) st' (by omega) h'
 exact key n 0 st (by omega) h0
end PI.Sc
set_option maxRecDepth 100000
set_option linter.unusedSimpArgs false
set_option linter.unusedVariables false
namespace PI.Sc
open Go (IntKind BinOp UnOp)
theorem AB {α:Type} {l:List α} {i:Nat} (h:i<l.length):l.take (i+1)=l.take i++[l[i]]:=by rw[aX,am h]; rfl
theorem parts_eq (e:Expr):e.parts=1+yr Expr.parts e.args:=by
 unfold Expr.parts
 rw[Expr.list_eq]
 have:∀l:List Expr,(l.flatMap Expr.list).length=yr (λx=>x.list.length) l:=by
  intro l
  induction l with
  | nil=>rfl
  | cons x l ih=>simp only[aM,ap,yr,ih]
 simp only[aB,this]
 show _=1+yr (λe=>e.list.length) e.args
 omega
theorem c20 (e:Expr):1≤e.parts:=by rw[parts_eq]; omega
theorem Qp (e:Expr):e.args.length<e.parts:=by
 have:=JI Expr.parts c20 e.args
 rw[parts_eq]; omega
theorem Qr {e x:Expr} (h:x∈e.args):x.parts<e.parts:=by
 have:=D9 Expr.parts h
 rw[parts_eq e]; omega
theorem BA (n:Nat) (h:n≤9223372036854775807):IntKind.i64.wrap (n:Int)=n:=Eg _ (by omega) (by omega)
theorem Rh {e:Expr} (h:e.parts≤1100000):e.size=e.parts:=by unfold Expr.size; exact BA _ (by unfold Expr.parts at h; omega)
def EW (e:Expr):Prop:=∀x∈e.list,CP x.t∧CP x.v∧x.args.length≤140737488355328
theorem EW.self {e:Expr} (h:EW e):CP e.t∧CP e.v∧e.args.length≤140737488355328:=h e (by rw[Expr.list_eq]; simp)
theorem EW.arg {e x:Expr} (h:EW e) (hx:x∈e.args):EW x:=λy hy=>h y (by rw[Expr.list_eq]; exact bl _ (bV.2 ⟨x,hx,hy⟩))
theorem EW.mem {e x:Expr} (h:EW e) (hx:x∈e.list):EW x:=by
 induction e using Expr.ind with
 | h e ih =>
   rw[Expr.list_eq] at hx
   rcases aA.1 hx with rfl|hx
   ·exact h
   ·obtain⟨y,hy,hx⟩:=bV.1 hx
    exact ih y hy (h.arg hy) hx
@[simp] theorem d8q (a b:Int):(a==b)=decide (a=b):=by rw[aR]; simp
@[simp] theorem d8r (a b:Int):(a != b) = !decide (a=b):=by rw[aR]; simp
@[simp] theorem d8s (a b:Str):(a==b)=decide (a=b):=by rw[aR]; simp
@[simp] theorem d8t (a b:Str):(a != b) = !decide (a=b):=by rw[aR]; simp
@[simp] theorem d8u (a b:Bool):(a==b)=decide (a=b):=by cases a<;>cases b<;>rfl
theorem RA (k:Int):k<1∨k=1∨k=2∨k=3∨k=4∨k=5∨k=6∨k=7∨k=8∨k=9∨k=10∨k=11∨11<k:=by omega
@[simp] theorem d16 (cs:List PV):(PV.agg cs).cells=cs:=rfl
def AS (s:Str):List PV:=s.map λb => .bool (b==49)
theorem Ry (b:UInt8):AI b=true↔b.toNat=48∨b.toNat=49:=by
 unfold AI
 simp only[bM,br,← UInt8.toNat_inj]
 rfl
theorem d6D (b:UInt8):(b==49)=decide ((b.toNat:Int)=49):=by
 rw[aR,br,av,← UInt8.toNat_inj]
 show b.toNat=49↔_
 omega
theorem Nh (s:Str):yq (AS s)=true:=by unfold AS; exact CZ (λ_=>rfl) s
theorem Rz (s:Str):(AS s).length=s.length:=by simp[AS]
class TF (p:Prop) (r:outParam Prop):Prop where
 fact:p→r
instance (priority:=low) tfPos (p:Prop):TF p (p=True):=⟨eq_true⟩
instance tfNeg (p:Prop):TF (¬p) (p=False):=⟨eq_false⟩
theorem tf {p r:Prop} [TF p r] (h:p):r:=TF.fact h
theorem kfs {k c:Int} (h:k=c):(k=1)=(c=1)∧(k=2)=(c=2)∧(k=3)=(c=3)∧(k=4)=(c=4)∧(k=5)=(c=5)∧(k=6)=(c=6)∧(k=7)=(c=7)∧(k=8)=(c=8)∧(k=9)=(c=9)∧(k=10)=(c=10)∧(k=11)=(c=11)∧(k<1)=(c<1)∧(11<k)=(11<c)∧(1≤k)=(1≤c)∧(k≤11)=(c≤11):=by subst h; simp
end PI.Sc
set_option maxRecDepth 100000
set_option linter.unusedSimpArgs false
set_option linter.unusedVariables false
namespace PI.Sc
open Go (IntKind BinOp UnOp)
open Short
structure XW (e:Expr):Prop where
 parts:e.parts≤1100000
 ew:EW e
structure DW (d:Decl):Prop where
 type:CP d.type
 clock:d.clock.length≤1100000
 on:∀o∈d.clock,CP o.t
structure QW (q:Eqn):Prop where
 left:q.left.length≤1100000
 right:XW q.right
inductive SW:State→Prop
 | mk (s:State) (locals:s.locals.length≤1100000) (ls:∀d∈s.locals,DW d) (eqs:s.eqs.length≤1100000) (es:∀q∈s.eqs,QW q) (unl:s.unl.length≤1100000) (us:∀t∈s.unl,XW t.cond) (til:s.til.length≤1100000) (ts:∀t∈s.til,XW t.cond) (autos:s.autos.length≤1100000) (as:∀a∈s.autos,a.length≤1100000) (ss:∀a∈s.autos,∀x∈a,SW x):SW s
theorem SW.locals {s:State}:SW s→s.locals.length≤1100000 | .mk _ h .. => h
theorem SW.ls {s:State}:SW s→∀d∈s.locals,DW d | .mk _ _ h .. => h
theorem SW.eqs {s:State}:SW s→s.eqs.length≤1100000 | .mk _ _ _ h .. => h
theorem SW.es {s:State}:SW s→∀q∈s.eqs,QW q | .mk _ _ _ _ h .. => h
theorem SW.unl {s:State}:SW s→s.unl.length≤1100000 | .mk _ _ _ _ _ h .. => h
theorem SW.us {s:State}:SW s→∀t∈s.unl,XW t.cond | .mk _ _ _ _ _ _ h .. => h
theorem SW.til {s:State}:SW s→s.til.length≤1100000 | .mk _ _ _ _ _ _ _ h .. => h
theorem SW.ts {s:State}:SW s→∀t∈s.til,XW t.cond | .mk _ _ _ _ _ _ _ _ h .. => h
theorem SW.autos {s:State}:SW s→s.autos.length≤1100000 | .mk _ _ _ _ _ _ _ _ _ h .. => h
theorem SW.as {s:State}:SW s→∀a∈s.autos,a.length≤1100000 | .mk _ _ _ _ _ _ _ _ _ _ h _=>h
theorem SW.ss {s:State}:SW s→∀a∈s.autos,∀x∈a,SW x | .mk _ _ _ _ _ _ _ _ _ _ _ h=>h
structure AsW (l:List (List State)):Prop where
 len:l.length≤1100000
 as:∀a∈l,a.length≤1100000
 ss:∀a∈l,∀x∈a,SW x
structure NW (n:Node):Prop where
 ins:n.ins.length≤1100000
 is:∀d∈n.ins,DW d
 outs:n.outs.length≤1100000
 os:∀d∈n.outs,DW d
 locals:n.locals.length≤1100000
 ls:∀d∈n.locals,DW d
 eqs:n.eqs.length≤1100000
 es:∀q∈n.eqs,QW q
 autos:AsW n.autos
 assume:n.assume.length≤1100000
 as:∀e∈n.assume,XW e
 ensure:n.ensure.length≤1100000
 gs:∀e∈n.ensure,XW e
structure PW (p:Prog):Prop where
 enums:p.enums.length≤1100000
 tags:∀u∈p.enums,u.tags.length≤1100000
 nodes:p.nodes.length≤1100000
 ns:∀n∈p.nodes,NW n
section
variable {L:Nat→Option PFunc} {Q:PExit→St→Prop}
theorem Nj {α γ:Type} {c:PC} {V:List PV} {g:Nat} {h:List PObj} (l:List α) (ok:Nat→α→Bool) (M:Nat→γ→List (Nat×PV)) (G:Nat→γ→Nat) (H:Nat→γ→List PObj) (x0:γ)
  (step:∀i (hi:i<l.length),ok i l[i]=true→∀x,(∀y,wpL L (.loop c) ⟨upd V (M (i+1) y),[],G (i+1) y,H (i+1) y⟩ Q)→wpL L c ⟨upd V (M i x),[],G i x,H i x⟩ (zP L c Q))
  (fail:∀i (hi:i<l.length),ok i l[i]=false→(∀k (hk:k<l.length),k<i→ok k l[k]=true)→∀x,wpL L c ⟨upd V (M i x),[],G i x,H i x⟩ (zP L c Q))
  (last:(∀k (hk:k<l.length),ok k l[k]=true)→∀x,wpL L c ⟨upd V (M l.length x),[],G l.length x,H l.length x⟩ (zP L c Q)) (hV:upd V (M 0 x0)=V) (hG:G 0 x0=g) (hH:H 0 x0=h):wpL L (.loop c) ⟨V,[],g,h⟩ Q:=by
 refine Nc l.length (λi=>if h:i<l.length then ok i l[i] else true) M G H x0 ?_ ?_ ?_ hV hG hH
 ·intro i hi de x ih
  simp only[hi,dif_pos] at de
  exact step i hi de x ih
 ·intro i hi de hk x
  simp only[hi,dif_pos] at de
  refine fail i hi de (λk h1 h2 =>?_) x
  have:=hk k h2
  simpa only[h1,dif_pos] using this
 ·intro de x
  refine last (λk hk =>?_) x
  have:=de k hk
  simpa only[hk,dif_pos] using this
theorem c5p {α γ:Type} {c:PC} {V:List PV} {g:Nat} {h:List PObj} (l:List α) (ok:Nat→α→Bool) (M:Nat→γ→List (Nat×PV)) (x0:γ)
  (step:∀i (hi:i<l.length),ok i l[i]=true→∀x,(∀y,wpL L (.loop c) ⟨upd V (M (i+1) y),[],g,h⟩ Q)→wpL L c ⟨upd V (M i x),[],g,h⟩ (zP L c Q))
  (fail:∀i (hi:i<l.length),ok i l[i]=false→(∀k (hk:k<l.length),k<i→ok k l[k]=true)→∀x,wpL L c ⟨upd V (M i x),[],g,h⟩ (zP L c Q))
  (last:(∀k (hk:k<l.length),ok k l[k]=true)→∀x,wpL L c ⟨upd V (M l.length x),[],g,h⟩ (zP L c Q)) (hV:upd V (M 0 x0)=V):wpL L (.loop c) ⟨V,[],g,h⟩ Q:=
 Nj l ok M (λ_ _=>g) (λ_ _=>h) x0 step fail last hV rfl rfl
end
theorem RH {α:Type} {f:α→Int}:∀{l:List α} {i j:Nat} (hi:i<l.length),f l[i]≠0→(∀k (hk:k<l.length),k<i→f l[k]=0)→AH f l j=some (j+i,f l[i])
 | [],i,j,hi,_,_=>by simp at hi
 | x::l,0,j,hi,h,_=>by simp only[bL] at h; simp[AH,h]
 | x :: l, i + 1, j, hi, h, hk => by
   have h0:=hk 0 (by simp) (by omega)
   simp only[bL] at h0
   simp only[bX] at h
   simp only[AH,h0,if_true,bX]
   rw[RH (l:=l) (i:=i) (by simpa using hi) h (λk dq h1=>by have:=hk (k+1) (by simpa using dq) (by omega); simpa using this)]
   congr 2; omega
theorem RI {en:List Enum}:∀{l:List Node} {i j:Nat} (hi:i<l.length) {b:Bad},zZ en l[i] (j+i)=some b→(∀k (hk:k<l.length),k<i→zZ en l[k] (j+k)=none)→AG en l j=some b
 | [],i,j,hi,b,_,_=>by simp at hi
 | x::l,0,j,hi,b,h,_=>by simp only[bL,bw] at h; simp[AG,h]
 | x :: l, i + 1, j, hi, b, h, hk => by
   have h0:=hk 0 (by simp) (by omega)
   simp only[bL,bw] at h0
   simp only[bX] at h
   simp only[AG,h0]
   exact RI (l:=l) (i:=i) (by simpa using hi) (by rw[show j+1+i=j+(i+1) by omega]; exact h) (λk dq h1=>by have:=hk (k+1) (by simpa using dq) (by omega); rw[show j+1+k=j+(k+1) by omega]; simpa using this)
theorem RJ {en:List Enum}:∀{l:List Node} {j:Nat},(∀k (hk:k<l.length),zZ en l[k] (j+k)=none)→AG en l j=none
 | [],j,_=>rfl
 | x :: l, j, h => by
   have h0:=h 0 (by simp)
   simp only[bL,bw] at h0
   simp only[AG,h0]
   exact RJ (λk hk=>by have:=h (k+1) (by simpa using hk); rw[show j+1+k=j+(k+1) by omega]; simpa using this)
def A7 (b:Bad):PV := .tuple [.agg [.int .i64 b.node,.int .i64 b.eq],.int .i64 b.err]
def ePl (en:List Enum) (ns:List Node) (i:Int) (v x t:List Str):PV := .agg [.list false (en.map yu),.list false (ns.map yx),.int .i64 i,.list false (v.map .str),.list false (x.map .str),.list false (t.map .str)]
section
variable (en:List Enum) (ns:List Node) (i:Int) (v x t:List Str)
theorem c8c:ePl en ns i v x t = .agg [.list false (en.map yu),.list false (ns.map yx),.int .i64 i,.list false (v.map .str),.list false (x.map .str),.list false (t.map .str)]:=rfl
@[simp] theorem d17:(ePl en ns i v x t).cells=[.list false (en.map yu),.list false (ns.map yx),.int .i64 i,.list false (v.map .str),.list false (x.map .str),.list false (t.map .str)]:=rfl
@[simp] theorem d6n:cp (ePl en ns i v x t)=some (ePl en ns i v x t):=rfl
@[simp] theorem d5p:tkv (ePl en ns i v x t)=some (ePl en ns i v x t,false):=rfl
@[simp] theorem c6E:CM (ePl en ns i v x t)=some (ePl en ns i v x t).cells:=rfl
@[simp] theorem d5q:dem (ePl en ns i v x t)=ePl en ns i v x t:=rfl
@[simp] theorem d3W:AK (ePl en ns i v x t)=ePl en ns i v x t:=rfl
@[simp] theorem d3X:zp (ePl en ns i v x t)=none:=rfl
@[simp] theorem c5q:PV.agg [.list false (en.map yu),.list false (ns.map yx),.int .i64 i,.list false (v.map .str),.list false (x.map .str),.list false (t.map .str)]=ePl en ns i v x t:=rfl
@[simp] theorem d3Y:yt (ePl en ns i v x t)=true:=by rw[c8c]; simp[-c5q]
end
@[simp] theorem d3Z:PV.agg [.str [],.list false [],.list false [],.list false [],.list false [],.list false [],.list false [],.list false []]=yx ⟨[],[],[],[],[],[],[],[]⟩:=rfl
theorem State.ind {P:State→Prop} (h:∀s:State,(∀a∈s.autos,∀x∈a,P x)→P s):∀s,P s:=by
 intro s
 refine State.rec (motive_1:=P) (motive_2:=λl:List (List State)=>∀a∈l,∀x∈a,P x) (motive_3:=λl:List State=>∀x∈l,P x) ?_ ?_ ?_ ?_ ?_ s
 ·intro n l e a u w ih; exact h _ ih
 ·simp
 ·intro a l h1 h2 b hb x hx
  rcases aA.1 hb with rfl|hb
  ·exact h1 x hx
  ·exact h2 b hb x hx
 ·simp
 ·intro x l h1 h2 y hy
  rcases aA.1 hy with rfl|hy
  ·exact h1
  ·exact h2 y hy
def AX (s:Place) (d:List Str) (x:List State):EN:=
 if ¬(x.map (·.name)).Nodup then(7,[])
 else if (zQ s d x).1≠0 then((zQ s d x).1,[])
 else if (zQ s d x).2.all (λl=>DQ l ((zQ s d x).2.headD [])) then(0,(zQ s d x).2.headD [])
 else(8,[])
theorem KW (s:Place) (d:List Str) (x:List State) (xs:List (List State)):zc s d (x::xs)=z8 (AX s d x) λl=>zc s (d++l) xs:=by
 simp only[zc,AX]
 by_cases h1:(x.map (·.name)).Nodup
 ·simp only[h1,bA,if_false]
  by_cases h2:(zQ s d x).1=0
  ·simp only[h2,ne_eq,bA,if_false]
   split
   ·rfl
   ·exact(BZ (a:=(8,[])) (by decide) _).symm
  ·simp only[h2,ne_eq,cH,if_true]
   exact(BZ (a:=((zQ s d x).1,[])) h2 _).symm
 ·simp only[h1,cH,if_true]
  exact(BZ (a:=(7,[])) (by decide) _).symm
theorem Rq {s:Place} {d:List Str}:∀{l:List State},(∀x∈l,(Bt s d x).1=0)→zQ s d l=(0,l.map λx=>(Bt s d x).2)
 | [],_=>rfl
 | x :: l, h => by
   have h1:=h x (by simp)
   have h2:=Rq (l:=l) (λy hy=>h y (by simp[hy]))
   simp only[zQ,h1,if_true,h2,az]
theorem Rr {s:Place} {d:List Str}:∀{l:List State} {i:Nat} (hi:i<l.length),(Bt s d l[i]).1≠0→(∀k (hk:k<l.length),k<i→(Bt s d l[k]).1=0)→zQ s d l=((Bt s d l[i]).1,[])
 | [],i,hi,_,_=>by simp at hi
 | x :: l, 0, hi, h, _ => by
   simp only[bL] at h
   simp only[zQ,bL]
   rw[ae h]
 | x :: l, i + 1, hi, h, hk => by
   have h0:=hk 0 (by simp) (by omega)
   simp only[bL] at h0
   simp only[bX] at h
   have ih:=Rr (l:=l) (i:=i) (by simpa using hi) h (λk dq h1=>by have:=hk (k+1) (by simpa using dq) (by omega); simpa using this)
   simp only[zQ,h0,if_true,ih,bX]
   rw[ae h]
theorem Nf {α:Type}:∀{l:List α},l.Nodup↔∀i (hi:i<l.length),l[i]∉l.take i:=by
 intro l
 rw[List.nodup_iff_pairwise_ne,List.pairwise_iff_getElem]
 constructor
 ·intro h i hi hm
  obtain⟨j,hj,e⟩:=bH.1 hm
  have rE:j<i:=by simp at hj; omega
  simp only[List.getElem_take] at e
  exact h j i (by omega) hi rE e
 ·intro h i j hi hj mJ e
  refine h j hj ?_
  rw[← e,List.mem_take_iff_getElem]
  exact⟨i,by omega,rfl⟩
theorem Defs.len {s:Place} {d xs:List Str} (h:Defs s d xs):xs.length≤s.vis.length:=Nb _ _ h.2 λx hx=>(h.1 x hx).1
theorem State.parts_eq (x:State):x.parts=1+yr Decl.parts x.locals+yr Eqn.parts x.eqs+yr Trn.parts x.unl+yr Trn.parts x.til+B0 x.autos:=by
 cases x; simp only[State.parts,State.locals_mk,State.eqs_mk,State.autos_mk,State.unl_mk,State.til_mk]
def Sub (d vis:List Str):Prop:=d.Nodup∧∀y∈d,y∈vis
theorem Sub.len {d vis:List Str} (h:Sub d vis):d.length≤vis.length:=Nb _ _ h.1 h.2
theorem Sub.app {s:Place} {d xs:List Str} (h:Sub d s.vis) (hx:Defs s d xs):Sub (d++xs) s.vis:=by
 refine⟨JG.2 ⟨h.1,hx.2,λx hm=>(hx.1 x hm).2.2⟩,λy hy =>?_⟩
 rcases ay.1 hy with h1|h1
 ·exact h.2 y h1
 ·exact(hx.1 y h1).1
theorem Pc {α:Type} {T l:List α}:(T++l).Nodup↔T.Nodup∧∀k (hk:k<l.length),l[k]∉T++l.take k:=by
 rw[JG,Nf (l:=l)]
 constructor
 ·rintro⟨h1,h2,h3⟩
  refine⟨h1,λk hk hm =>?_⟩
  rcases ay.1 hm with h|h
  ·exact h3 _ (ak hk) h
  ·exact h2 k hk h
 ·rintro⟨h1,h2⟩
  refine⟨h1,λk hk hm=>h2 k hk (cw _ hm),λx hx hm =>?_⟩
  obtain⟨k,hk,rfl⟩:=bH.1 hx
  exact h2 k hk (bU _ hm)
def Ea (en:List Enum) (i:Nat) (u:Enum):Bool:=decide (u.name∉(en.take i).map (·.name)∧(Bq (en.take i)++u.tags).Nodup)
theorem IW {en:List Enum} {i:Nat} (h:i<en.length):Bq (en.take (i+1))=Bq (en.take i)++en[i].tags:=by unfold Bq; rw[AB h,bN]; simp
theorem Pd {en:List Enum}:DG en=true↔∀i (hi:i<en.length),Ea en i en[i]=true:=by
 unfold DG Ea
 simp only[av]
 constructor
 ·rintro⟨h1,h2⟩ i hi
  constructor
  ·have:=(Nf.1 h1) i (by simpa using hi)
   rw[← List.map_take] at this
   simpa using this
  ·rw[← IW hi]
   refine h2.sublist ?_
   unfold Bq
   have:en.flatMap (·.tags)=(en.take (i+1)).flatMap (·.tags)++(en.drop (i+1)).flatMap (·.tags):=by rw[← bN,bR]
   rw[this]
   exact List.sublist_append_left _ _
 ·intro h
  constructor
  ·rw[Nf]
   intro i hi
   have:=(h i (by simpa using hi)).1
   rw[← List.map_take]; simpa using this
  ·cases hn:en.length with
   | zero=>have:en=[]:=bC.1 hn; subst this; simp[Bq]
   | succ m =>
     have:=(h m (by omega)).2
     rw[← IW (by omega),← hn,aC] at this
     exact this
theorem c1j {en:List Enum} {i:Nat} (hi:i≤en.length) (h:∀k (hk:k<en.length),k<i→Ea en k en[k]=true):(Bq (en.take i)).Nodup:=by
 cases i with
 | zero=>simp[Bq]
 | succ i =>
   have:=h i (by omega) (by omega)
   unfold Ea at this
   simp only[av] at this
   rw[IW (by omega)]; exact this.2
theorem b87 {p:Prog} {b:Bad} (hs:Ba p=some b):b.err≠0:=by
 intro he
 unfold Ba at hs
 split at hs
 ·simp only[aa] at hs; rw[← hs] at he; exact absurd he (by decide)
 ·split at hs
  ·rename_i h1; simp only[aa] at hs; rw[← hs] at he; exact h1 he
  ·have key:∀(l:List Node) (j:Nat),AG p.enums l j=some b→b.err≠0:=by
    intro l
    induction l with
    | nil=>intro j hj; simp[AG] at hj
    | cons n l ih =>
      intro j hj
      simp only[AG] at hj
      cases hn:zZ p.enums n j with
      | none=>rw[hn] at hj; exact ih _ hj
      | some y =>
        rw[hn] at hj
        simp only[aa] at hj
        subst hj
        unfold zZ at hn
        split at hn
        ·rename_i h1; simp only[aa] at hn; rw[← hn]; exact h1
        ·split at hn
         ·rename_i k e hf
          have:∀(l:List Eqn) (m:Nat),AH (BE p.enums) l m=some (k,e)→e≠0:=by
           intro l
           induction l with
           | nil=>intro m hm; simp[AH] at hm
           | cons q l ih2 =>
             intro m hm
             simp only[AH] at hm
             split at hm
             ·exact ih2 _ hm
             ·rename_i h2; simp only[aa,ac] at hm; rw[← hm.2]; exact h2
          simp only[aa] at hn; rw[← hn]; exact this _ _ hf
         ·split at hn
          ·rename_i h1; simp only[aa] at hn; rw[← hn]; exact h1
          ·simp at hn
   exact key _ _ hs he
structure DF (d:Decl):Prop where
 type:CP d.type
 clock:d.clock.length≤140737488355328
 name:d.name.length≤9223372036854775807
 on:∀o∈d.clock,CP o.t
structure QF (q:Eqn):Prop where
 left:q.left.length≤140737488355328
 right:EW q.right
inductive SF:State→Prop
 | mk (s:State) (locals:s.locals.length≤140737488355328) (ls:∀d∈s.locals,DF d) (eqs:s.eqs.length≤140737488355328) (es:∀q∈s.eqs,QF q) (unl:s.unl.length≤140737488355328) (us:∀t∈s.unl,EW t.cond) (til:s.til.length≤140737488355328) (ts:∀t∈s.til,EW t.cond) (autos:s.autos.length≤140737488355328) (as:∀a∈s.autos,a.length≤140737488355328) (ss:∀a∈s.autos,∀x∈a,SF x):SF s
theorem SF.locals {s:State}:SF s→s.locals.length≤140737488355328 | .mk _ h .. => h
theorem SF.ls {s:State}:SF s→∀d∈s.locals,DF d | .mk _ _ h .. => h
theorem SF.eqs {s:State}:SF s→s.eqs.length≤140737488355328 | .mk _ _ _ h .. => h
theorem SF.es {s:State}:SF s→∀q∈s.eqs,QF q | .mk _ _ _ _ h .. => h
theorem SF.unl {s:State}:SF s→s.unl.length≤140737488355328 | .mk _ _ _ _ _ h .. => h
theorem SF.us {s:State}:SF s→∀t∈s.unl,EW t.cond | .mk _ _ _ _ _ _ h .. => h
theorem SF.til {s:State}:SF s→s.til.length≤140737488355328 | .mk _ _ _ _ _ _ _ h .. => h
theorem SF.ts {s:State}:SF s→∀t∈s.til,EW t.cond | .mk _ _ _ _ _ _ _ _ h .. => h
theorem SF.autos {s:State}:SF s→s.autos.length≤140737488355328 | .mk _ _ _ _ _ _ _ _ _ h .. => h
theorem SF.as {s:State}:SF s→∀a∈s.autos,a.length≤140737488355328 | .mk _ _ _ _ _ _ _ _ _ _ h _=>h
theorem SF.ss {s:State}:SF s→∀a∈s.autos,∀x∈a,SF x | .mk _ _ _ _ _ _ _ _ _ _ _ h=>h
structure AsF (l:List (List State)):Prop where
 len:l.length≤140737488355328
 as:∀a∈l,a.length≤140737488355328
 ss:∀a∈l,∀x∈a,SF x
structure NF (n:Node):Prop where
 ins:n.ins.length≤140737488355328
 is:∀d∈n.ins,DF d
 outs:n.outs.length≤140737488355328
 os:∀d∈n.outs,DF d
 locals:n.locals.length≤140737488355328
 ls:∀d∈n.locals,DF d
 eqs:n.eqs.length≤140737488355328
 es:∀q∈n.eqs,QF q
 autos:AsF n.autos
 assume:n.assume.length≤140737488355328
 as:∀e∈n.assume,EW e
 ensure:n.ensure.length≤140737488355328
 gs:∀e∈n.ensure,EW e
structure PF (p:Prog):Prop where
 enums:p.enums.length≤140737488355328
 tags:∀u∈p.enums,u.tags.length≤140737488355328
 nodes:p.nodes.length≤140737488355328
 ns:∀n∈p.nodes,NF n
theorem Rs (c:UInt8):∀s:Str,c∉s→Go.Lib.indexByte s c = -1
 | [],_=>rfl
 | b :: s, h => by
   simp only[aA,not_or] at h
   have:(b==c)=false:=by simpa using λe=>h.1 e.symm
   simp[Go.Lib.indexByte,this,Rs c s h.2]
theorem Rt (c:UInt8):∀(a r:Str),c∉a→Go.Lib.indexByte (a++c::r) c=a.length
 | [],r,_=>by simp[Go.Lib.indexByte]
 | b :: a, r, h => by
   simp only[aA,not_or] at h
   have h1:(b==c)=false:=by simpa using λe=>h.1 e.symm
   have h2:=Rt c a r h.2
   simp only[aK,Go.Lib.indexByte,h1,aL,if_false,h2]
   have:((a.length:Int) == -1)=false:=by simp
   rw[this]; rfl
theorem c2N (c:UInt8) (s:Str):c∉s∨∃a r,s=a++c::r∧c∉a:=by
 induction s with
 | nil=>left; simp
 | cons b s ih =>
   by_cases hb:b=c
   ·exact .inr ⟨[],s,by simp[hb],by simp⟩
   ·rcases ih with h|⟨a,r,e,hn⟩
    ·exact .inl (by simp[Ne.symm hb,h])
    ·exact .inr ⟨b::a,r,by simp[e],by simp[Ne.symm hb,hn]⟩
theorem Ru {c:UInt8}:∀{a a' r r':Str},c∉a→c∉a'→a++c::r=a'++c::r'→a=a'∧r=r'
 | [],[],r,r',_,_,h=>by simpa using h
 | [],x::a',r,r',_,h2,h=>by simp only[bg,aK,bJ] at h; exact absurd (by simp[h.1]) h2
 | x::a,[],r,r',h1,_,h=>by simp only[bg,aK,bJ] at h; exact absurd (by simp[h.1]) h1
 | x :: a, y :: a', r, r', h1, h2, h => by
   simp only[aK,bJ] at h
   simp only[aA,not_or] at h1 h2
   obtain⟨e1,e2⟩:=Ru h1.2 h2.2 h.2
   exact⟨by rw[h.1,e1],e2⟩
theorem Rv (s:Str):Fx s=true↔∃a b:Str,s=a++40::(b++[41])∧a.all AI=true∧b.all AI=true∧b≠[]∧a.length+b.length≤64:=by
 unfold Fx
 simp only[av]
 constructor
 ·rintro⟨h1,h2,h3,h4,h5,h6⟩
  obtain⟨t,ht⟩:=List.takeWhile_prefix (p:=AI) (l:=s)
  have ha:Cz s 0=s.takeWhile AI:=by simp[Cz]
  have dJ:(Cz s 0).all AI=true:=by rw[ha]; exact List.all_takeWhile
  rw[← ha] at ht
  generalize Cz s 0=a at *
  have lY:t.head? = some 40:=by
   rw[← ht] at h2
   rw[aq (an _),Nat.sub_self] at h2
   rw[List.head?_eq_getElem?]; exact h2
  obtain⟨r,rfl⟩:∃r,t=40::r:=by cases t with | nil=>simp at lY | cons x r=>simp at lY; exact⟨r,by rw[lY]⟩
  have hb:Cz s (a.length+1)=r.takeWhile AI:=by
   unfold Cz
   rw[← ht]
   have:(a++40::r).drop (a.length+1)=r:=by
    rw[List.drop_append,bk (by omega)]; simp
   rw[this]
  obtain⟨u,hu⟩:=List.takeWhile_prefix (p:=AI) (l:=r)
  have p5:(Cz s (a.length+1)).all AI=true:=by rw[hb]; exact List.all_takeWhile
  rw[← hb] at hu
  generalize Cz s (a.length+1)=b at *
  have cS:u.length=1:=by
   have:=aI List.length ht
   rw[← hu] at this
   simp at this; omega
  obtain⟨x,rfl⟩:=List.length_eq_one_iff.1 cS
  have hx:x=41:=by
   rw[← ht,← hu] at h4
   have:(a++40::(b++[x]))[a.length+b.length+1]? = some x:=by
    rw[aq (by omega),show a.length+b.length+1 - a.length=b.length+1 by omega,cz,aq (an _)]; simp
   rw[this] at h4; simpa using h4
  subst hx
  exact⟨a,b,by rw[← ht,← hu],dJ,p5,λe=>h5 (by rw[e]; rfl),h6⟩
 ·rintro⟨a,b,rfl,h1,h2,h3,h4⟩
  have ha:Cz (a++40::(b++[41])) 0=a:=by
   unfold Cz
   rw[List.drop_zero,List.takeWhile_append_of_pos (by simpa using h1)]
   have:AI 40=false:=rfl
   simp[List.takeWhile_cons,this]
  have hb:Cz (a++40::(b++[41])) (a.length+1)=b:=by
   unfold Cz
   have:(a++40::(b++[41])).drop (a.length+1)=b++[41]:=by
    rw[List.drop_append,bk (by omega)]; simp
   rw[this,List.takeWhile_append_of_pos (by simpa using h2)]
   have:AI 41=false:=rfl
   simp[List.takeWhile_cons,this]
  rw[ha,hb]
  have ji:b.length≠0:=λe=>h3 (bC.1 e)
  refine⟨by simp; omega,?_,by simp; omega,?_,ji,h4⟩
  ·rw[aq (an _),Nat.sub_self]; rfl
  ·rw[aq (by omega),show a.length+b.length+1 - a.length=b.length+1 by omega,cz,aq (an _)]; simp
def B4 (r:Str):Bool:=decide (r.drop (r.length - 1)=[41])
theorem Ng {r:Str}:B4 r=true↔∃b,r=b++[41]:=by
 unfold B4
 rw[av]
 constructor
 ·intro e
  refine⟨r.take (r.length - 1),?_⟩
  rw[← e,bR]
 ·rintro⟨b,rfl⟩
  simp
section
variable {L:Nat→Option PFunc} (hL:∀k f,LS k=some f→L k=some f)
include hL
theorem c1k (s:Str) (h:List PObj):x8 L 183 [.str s,.int .u8 40] h=some (.int .i64 (Go.Lib.indexByte s 40),h):=by
 rw[Hz (hL 183 _ rfl) rfl rfl]; rfl
theorem Rw (s:Str) (h:List PObj):x8 L 181 [.str s,.str [40]] h=some (.int .i64 (Go.Lib.indexByte s 40),h):=by
 refine yp (hL 181 _ rfl) rfl ?_
 by_cases h1:s=[40]
 ·subst h1; simp[Jl]; rfl
 ·have h2:¬[40]=s:=λe=>h1 e.symm
  simp[Jl,h1,h2,c1k hL]
theorem d1W (s:Str) (hs:s.length≤1000) (hn:(40:UInt8)∉s) (h:List PObj):x8 L 172 [.str s,.str [40]] h=some (.tuple [.str s,.str [],.bool false],h):=by
 have h1:x8 L 179 [.str s,.str [40]] []=some (.tuple [.str s,.str [],.bool false],[]):=by
  refine yp (hL 179 _ rfl) rfl ?_
  have:=Rw hL s []
  rw[Rs 40 s hn] at this
  simp[Jj,this]
 refine yp (hL 172 _ rfl) rfl ?_
 simp[Ji,h1]
theorem c7R (a r:Str) (hs:(a++40::r).length≤1000) (hn:(40:UInt8)∉a) (h:List PObj):x8 L 172 [.str (a++40::r),.str [40]] h=some (.tuple [.str a,.str r,.bool true],h):=by
 have h1:x8 L 179 [.str (a++40::r),.str [40]] []=some (.tuple [.str a,.str r,.bool true],[]):=by
  refine yp (hL 179 _ rfl) rfl ?_
  have:=Rw hL (a++40::r) []
  rw[Rt 40 a r hn] at this
  have hl:(a++40::r).length=a.length+(r.length+1):=by simp
  obtain⟨p,hp⟩:∃p,p=a.length+1:=⟨_,rfl⟩
  have hw:IntKind.i64.wrap ((a.length:Int)+1)=(p:Int):=by rw[Eg]<;>omega
  have ht:(a++40::r).take a.length=a:=by simp
  have hd:(a++40::r).drop p=r:=by rw[hp,List.drop_append,bk (by omega)]; simp
  generalize a++40::r=s at *
  have q1:a.length≤s.length:=by omega
  have q2:p≤s.length:=by omega
  have q2i:(p:Int)≤s.length:=by omega
  simp[Jj,this,hw,q1,q2,q2i,ht,hd]
 refine yp (hL 172 _ rfl) rfl ?_
 generalize a++40::r=s at *
 simp[Ji,h1]
theorem c1l (r:Str) (hr:r.length≤1000) (h:List PObj):x8 L 182 [.str r,.str [41]] h=some (.bool (B4 r),h):=by
 refine yp (hL 182 _ rfl) rfl ?_
 unfold B4
 by_cases h0:r=[]
 ·subst h0
  simp[Hk]
 ·have hp:0<r.length:=bI.2 h0
  have rF:(1:Int)≤r.length:=by omega
  have hw:IntKind.i64.wrap ((r.length:Int) - 1)=((r.length - 1:Nat):Int):=by rw[Eg]<;>omega
  have ez:r.length - 1≤r.length:=by omega
  have kP:1≤r.length:=by omega
  by_cases hx:r.drop (r.length - 1)=[41]
  ·simp[Hk,rF,kP,hw,ez,hx]
  ·simp[Hk,rF,kP,hw,ez,hx]
theorem Rx (r:Str) (hr:r.length≤1000) (h:List PObj):x8 L 173 [.str r,.str [41]] h=some (.tuple [.str (if B4 r then r.take (r.length - 1) else r),.bool (B4 r)],h):=by
 have h1:x8 L 180 [.str r,.str [41]] []=some (.tuple [.str (if B4 r then r.take (r.length - 1) else r),.bool (B4 r)],[]):=by
  refine yp (hL 180 _ rfl) rfl ?_
  have jk:=c1l hL r hr []
  cases hc:B4 r with
  | false=>rw[hc] at jk; simp[Jk,jk]
  | true =>
    rw[hc] at jk
    obtain⟨b,rfl⟩:=Ng.1 hc
    obtain⟨q,hq⟩:∃q,q=(b++[41]).length - 1:=⟨_,rfl⟩
    have oU:(b++[41]).length=b.length+1:=by simp
    have hw:IntKind.i64.wrap (((b++[41]).length:Int) - 1)=(q:Int):=by rw[Eg]<;>omega
    have ez:q≤(b++[41]).length:=by omega
    rw[← hq]
    generalize b++[41]=r at *
    simp[Jk,jk,hw,ez]
 refine yp (hL 173 _ rfl) rfl ?_
 simp[LO,h1]
theorem JM (s:Str) (hs:s.length≤1000) (h:List PObj):∃o:Bool,x8 L 174 [.str s] h=some (.tuple [.list o (if s.all AI then AS s else[]),.bool (s.all AI)],h):=by
 refine⟨false,?_⟩
 refine yp (hL 174 _ rfl) rfl ?_
 generalize hA:s.all AI=A
 simp[LP]
 refine c5p s (λ_ b=>AI b) (λi (x:PV)=>[(3,.list true (AS (s.take i))),(4,x),(6,.int .i64 i)]) .dead ?_ ?_ ?_ (by simp[AS])
 ·intro i hi de x ih
  have hw:=yn i (by omega)
  have hb:=(Ry s[i]).1 de
  have wD:=d6D s[i]
  have ih:=ih (.int .i64 i)
  have happ:AS (s.take (i+1))=AS (s.take i)++[.bool (s[i]==49)]:=by unfold AS; rw[AB hi,bh]; rfl
  rw[happ,wD] at ih
  have cS:(AS (s.take i)).length+1≤2147483648:=by simp[AS]; omega
  have jL:yU 1 (AS (s.take i))=true:=by cases s.take i<;>simp[AS]
  generalize AS (s.take i)=z at *
  rcases hb with hb|hb
  ·simp[hi,hb,hw,cS,jL]
   simpa[hb] using ih
  ·simp[hi,hb,hw,cS,jL]
   simpa[hb] using ih
 ·intro i hi de _ x
  have hb:=Ry s[i]
  rw[de] at hb
  simp only[aL,false_iff,not_or] at hb
  have b1:¬(s[i].toNat:Int)=48:=by omega
  have b2:¬(s[i].toNat:Int)=49:=by omega
  have dJ:s.all AI=false:=Ro hi de
  rw[dJ] at hA; subst hA
  simp[hi,b1,b2]
 ·intro de x
  have dJ:s.all AI=true:=Rm de
  rw[dJ] at hA; subst hA
  simp
theorem c5e (a b:List PV) (ha:a.length≤1000) (hb:b.length≤1000) (o1 o2:Bool) (h:List PObj):x8 L 175 [.agg [.list o1 a,.list o2 b]] h=some (.int .i64 (if b.length=0 then 5 else if 64<a.length+b.length then 3 else 0),h):=by
 refine yp (hL 175 _ rfl) rfl ?_
 have hw:IntKind.i64.wrap ((a.length:Int)+(b.length:Int))=((a.length+b.length:Nat):Int):=by rw[Eg]<;>omega
 by_cases h1:b.length=0
 ·have:b=[]:=bC.1 h1
  subst this
  simp[Hj]
 ·have hU:¬b=[]:=λe=>h1 (by rw[e]; rfl)
  generalize hm:a.length+b.length=m at *
  by_cases h2:64<m
  ·have:(64:Int)<m:=by omega
   simp[Hj,h1,hU,hw,h2,this]
  ·have:¬(64:Int)<m:=by omega
   simp[Hj,h1,hU,hw,h2,this]
theorem c5f (s:Str) (h:List PObj):∃(o1 o2:Bool) (a b:List PV) (e:Int),yq a=true∧yq b=true∧(e=0↔Fx s=true)∧x8 L 164 [.str s] h=some (.tuple [.agg [.list o1 a,.list o2 b],.int .i64 e],h):=by
 by_cases h0:66<s.length
 ·refine⟨false,false,[],[],3,rfl,rfl,?_,yp (hL 164 _ rfl) rfl ?_⟩
  ·unfold Fx; simp; omega
  ·have:(66:Int)<s.length:=by omega
   simp[Ef,this]
 have lL:¬(66:Int)<s.length:=by omega
 rcases c2N 40 s with hn|⟨a,r,rfl,hn⟩
 ·have gR:=d1W hL s (by omega) hn []
  have jk:=Rx hL [] (by simp) []
  obtain⟨o1,d8⟩:=JM hL s (by omega) []
  obtain⟨o2,eK⟩:=JM hL [] (by simp) []
  have dA:B4 []=false:=rfl
  rw[dA] at jk
  simp at jk
  refine⟨false,false,[],[],5,rfl,rfl,?_,yp (hL 164 _ rfl) rfl ?_⟩
  ·rw[Rv]
   constructor
   ·intro e; exact absurd e (by decide)
   ·rintro⟨a,b,e,_⟩; exact absurd (by rw[e]; simp) hn
  ·have f1:yq (if s.all AI then AS s else[])=true:=by split; exact Nh s; rfl
   generalize (if s.all AI then AS s else[])=za at *
   simp[AS] at eK
   simp[Ef,lL,gR,jk,d8,eK,f1]
 ·have gR:=c7R hL a r (by omega) hn []
  have cS:(a++40::r).length=a.length+(r.length+1):=by simp
  have jk:=Rx hL r (by omega) []
  obtain⟨o1,d8⟩:=JM hL a (by omega) []
  have oU:(if B4 r then r.take (r.length - 1) else r).length≤r.length:=by split<;>simp<;>omega
  obtain⟨o2,eK⟩:=JM hL (if B4 r then r.take (r.length - 1) else r) (by omega) []
  obtain⟨B,hB⟩:∃B,B=(if B4 r then r.take (r.length - 1) else r):=⟨_,rfl⟩
  rw[← hB] at jk eK oU
  have gS:Fx (a++40::r)=true↔B4 r=true∧a.all AI=true∧B.all AI=true∧B≠[]∧a.length+B.length≤64:=by
   rw[Rv]
   constructor
   ·rintro⟨a',b',e,h1,h2,h3,h4⟩
    have gI:(40:UInt8)∉a':=λhm=>by have:=aJ.1 h1 _ hm; revert this; decide
    obtain⟨rfl,rfl⟩:=Ru hn gI e
    have hc:B4 (b'++[41])=true:=Ng.2 ⟨b',rfl⟩
    have sT:B=b':=by rw[hB,ai hc]; simp
    rw[sT]
    exact⟨hc,h1,h2,h3,h4⟩
   ·rintro⟨hc,h1,h2,h3,h4⟩
    obtain⟨b,rfl⟩:=Ng.1 hc
    have sT:B=b:=by rw[hB,ai hc]; simp
    rw[sT] at h2 h3 h4
    exact⟨a,b,rfl,h1,h2,h3,h4⟩
  have la:(AS a).length=a.length:=Rz a
  have lb:(AS B).length=B.length:=Rz B
  have fa:=Nh a
  have fb:=Nh B
  have lE:=c5e hL (AS a) (AS B) (by omega) (by omega) false false []
  rw[la,lb] at lE
  have oW:(if B.length=0 then(5:Int) else if a.length+B.length>64 then 3 else 0)=0↔B≠[]∧a.length+B.length≤64:=by
   split
   ·rename_i h1; have:B=[]:=bC.1 h1
    simp[this]
   ·rename_i h1; have:B≠[]:=λe=>h1 (by rw[e]; rfl)
    split
    ·simp; intro _; omega
    ·simp[this]; omega
  simp only[gt_iff_lt] at oW
  generalize wE:(if B.length=0 then(5:Int) else if 64<a.length+B.length then 3 else 0)=ce at *
  generalize AS a=za at *
  generalize AS B=zb at *
  generalize rG:a.all AI=qa at *
  generalize hBl:B.all AI=qb at *
  generalize a++40::r=s at *
  generalize B4 r=cl at *
  cases cl with
  | false =>
    refine⟨false,false,[],[],5,rfl,rfl,by rw[gS]; simp,yp (hL 164 _ rfl) rfl ?_⟩
    have f1:yq (if qa=true then za else[])=true:=by split; exact fa; rfl
    have f2:yq (if qb=true then zb else[])=true:=by split; exact fb; rfl
    generalize (if qa=true then za else[])=ya at *
    generalize (if qb=true then zb else[])=yb at *
    simp[Ef,lL,gR,jk,d8,eK,f1,f2]
  | true =>
    cases qa with
    | false =>
      refine⟨false,false,[],[],5,rfl,rfl,by rw[gS]; simp,yp (hL 164 _ rfl) rfl ?_⟩
      have f2:yq (if qb=true then zb else[])=true:=by split; exact fb; rfl
      generalize (if qb=true then zb else[])=yb at *
      simp at d8
      simp[Ef,lL,gR,jk,d8,eK,f2]
    | true =>
      cases qb with
      | false =>
        refine⟨false,false,[],[],5,rfl,rfl,by rw[gS]; simp,yp (hL 164 _ rfl) rfl ?_⟩
        simp at d8 eK
        simp[Ef,lL,gR,jk,d8,eK,fa]
      | true =>
        simp at d8 eK
        by_cases hz:ce=0
        ·refine⟨false,false,za,zb,0,fa,fb,by rw[gS,← oW]; simp[hz],yp (hL 164 _ rfl) rfl ?_⟩
         subst hz
         simp[Ef,lL,gR,jk,d8,eK,fa,fb,lE]
        ·refine⟨false,false,[],[],5,rfl,rfl,by rw[gS,← oW]; simp[hz],yp (hL 164 _ rfl) rfl ?_⟩
         simp[Ef,lL,gR,jk,d8,eK,fa,fb,lE,hz]
end
def Ga (t n:Int):Bool:=decide (t=1∧n=2∨3≤t∧1≤n∧n≤16)
def ofA (e:Expr):Bool:=
 let n:Int:=e.args.length
 if e.kind=1∨e.kind=2∨e.kind=11 then decide (n=0)
 else if e.kind=3 then decide (n=if e.op=1∨e.op=2 then 1 else 2)
 else if e.kind=4 then decide (n=3)
 else if e.kind=5∨e.kind=8 then decide (n=1)
 else if e.kind=6∨e.kind=7 then decide (n=2)
 else if e.kind=9 then decide (e.t≠2)&&Ga e.t n
 else if e.kind=10 then decide (e.v≤n) else false
def ofT (e:Expr):Bool:=
 if e.kind=1 then decide (e.t=2∧-32768≤e.v∧e.v≤32767)||decide (e.t≠2)&&DR e.t e.v
 else if e.kind=8 then decide (e.t≠2)&&DR e.t e.v
 else if e.kind=9 then decide (e.v=0)
 else if e.kind=10 then decide (e.t=0∧(e.v=0∨e.v=1))
 else if 1≤e.kind∧e.kind≤11 then decide (e.t=0∧e.v=0) else false
theorem c2O (e:Expr):HN e=(ofA e&&ofT e&&Gb e&&JN e):=by
 have key:(decide (1≤e.kind∧e.kind≤11)&&argsOK e&&typedOK e)=(ofA e&&ofT e):=by
  unfold argsOK typedOK ofA ofT Ga DR
  rcases RA e.kind with hk|hk|hk|hk|hk|hk|hk|hk|hk|hk|hk|hk|hk
  ·have n1:¬e.kind=1:=by omega
   have n2:¬e.kind=2:=by omega
   have n3:¬e.kind=3:=by omega
   have n4:¬e.kind=4:=by omega
   have n5:¬e.kind=5:=by omega
   have n6:¬e.kind=6:=by omega
   have n7:¬e.kind=7:=by omega
   have n8:¬e.kind=8:=by omega
   have n9:¬e.kind=9:=by omega
   have n10:¬e.kind=10:=by omega
   have n11:¬e.kind=11:=by omega
   have:¬1≤e.kind:=by omega
   simp[n1,n2,n3,n4,n5,n6,n7,n8,n9,n10,n11,this]
  ·simp only[hk]
   rw[aR]
   simp
   intro _; split<;>omega
  ·simp only[hk]
   rw[aR]
   simp
   try omega
  ·simp only[hk]
   rw[aR]
   simp
   try omega
  ·simp only[hk]
   rw[aR]
   simp
   try omega
  ·simp only[hk]
   rw[aR]
   simp
   try omega
  ·simp only[hk]
   rw[aR]
   simp
   try omega
  ·simp only[hk]
   rw[aR]
   simp
   try omega
  ·simp only[hk]
   rw[aR]
   simp
   try omega
  ·simp only[hk]
   rw[aR]
   simp
   split<;>omega
  ·simp only[hk]
   rw[aR]
   simp
   try omega
  ·simp only[hk]
   rw[aR]
   simp
   try omega
  ·have n1:¬e.kind=1:=by omega
   have n2:¬e.kind=2:=by omega
   have n3:¬e.kind=3:=by omega
   have n4:¬e.kind=4:=by omega
   have n5:¬e.kind=5:=by omega
   have n6:¬e.kind=6:=by omega
   have n7:¬e.kind=7:=by omega
   have n8:¬e.kind=8:=by omega
   have n9:¬e.kind=9:=by omega
   have n10:¬e.kind=10:=by omega
   have n11:¬e.kind=11:=by omega
   have:¬e.kind≤11:=by omega
   simp[n1,n2,n3,n4,n5,n6,n7,n8,n9,n10,n11,this]
 unfold HN
 rw[key]
section
variable {L:Nat→Option PFunc} (hL:∀k f,LS k=some f→L k=some f)
include hL
theorem Dj (t v:Int) (h:List PObj):x8 L 169 [.int .i64 t,.int .i64 v] h=some (.bool (DR t v),h):=by
 refine yp (hL 169 _ rfl) rfl ?_
 by_cases h1:t=1
 ·subst h1
  by_cases h2:v=0
  ·simp[F1,DR,h2]
  ·by_cases h3:v=1<;>simp[F1,DR,h2,h3]
 ·by_cases h2:3≤t
  ·by_cases h3:0≤v<;>by_cases h4:v<16<;>simp[F1,DR,h1,h2,h3,h4]
  ·simp[F1,DR,h1,h2]
theorem Dk (o:Int) (h:List PObj):x8 L 170 [.int .i64 o] h=some (.int .i64 (if o=1∨o=2 then 1 else 2),h):=by
 refine yp (hL 170 _ rfl) rfl ?_
 by_cases h1:o=1
 ·simp[Jh,h1]
 ·by_cases h2:o=2<;>simp[Jh,h1,h2]
theorem Dl (t n:Int) (h:List PObj):x8 L 171 [.int .i64 t,.int .i64 n] h=some (.bool (Ga t n),h):=by
 refine yp (hL 171 _ rfl) rfl ?_
 by_cases h1:t=1
 ·subst h1
  by_cases h2:n=2<;>simp[Hi,Ga,h2]
 ·by_cases h2:3≤t
  ·by_cases h3:1≤n<;>by_cases h4:n≤16<;>simp[Hi,Ga,h1,h2,h3,h4]
  ·simp[Hi,Ga,h1,h2]
def zB (e:Expr):PV := .agg [.bool (ofA e),.bool (decide (e.kind=3)),.bool (ofT e),.bool (An e.kind),.bool (decide (e.kind=11))]
theorem c7S (e:Expr) (hk:e.kind=1) (h:List PObj):x8 L 163 [ye e] h=some (zB e,h):=by
 refine yp (hL 163 _ rfl) rfl ?_
 have cW:=Dk hL e.op []
 have dX:=Dj hL e.t e.v []
 have fy:=Dl hL e.t e.args.length []
 obtain⟨n,hn⟩:∃n:Int,n=e.args.length:=⟨_,rfl⟩
 have kf:=kfs hk
 by_cases t0:e.t=0
 ·have t2:¬e.t=2:=by omega
  by_cases v0:e.v=0
  ·simp[AN,zB,ofA,ofT,An,cW,dX,fy,yB,yh,kf,tf t0,tf t2,tf v0]
  ·simp[AN,zB,ofA,ofT,An,cW,dX,fy,yB,yh,kf,tf t0,tf t2,tf v0]
 ·skip
  by_cases t2:e.t=2
  ·by_cases a1 : -32768≤e.v<;>by_cases a2:e.v≤32767<;>simp[AN,zB,ofA,ofT,An,cW,dX,fy,yB,yh,kf,tf t0,tf t2,tf a1,tf a2]
  ·simp[AN,zB,ofA,ofT,An,cW,dX,fy,yB,yh,kf,tf t0,tf t2]
theorem c7T (e:Expr) (hk:e.kind=2) (h:List PObj):x8 L 163 [ye e] h=some (zB e,h):=by
 refine yp (hL 163 _ rfl) rfl ?_
 have cW:=Dk hL e.op []
 have dX:=Dj hL e.t e.v []
 have fy:=Dl hL e.t e.args.length []
 obtain⟨n,hn⟩:∃n:Int,n=e.args.length:=⟨_,rfl⟩
 have kf:=kfs hk
 by_cases t0:e.t=0<;>by_cases v0:e.v=0<;>simp[AN,zB,ofA,ofT,An,cW,dX,fy,yB,yh,kf,tf t0,tf v0]
theorem c7U (e:Expr) (hk:e.kind=3) (h:List PObj):x8 L 163 [ye e] h=some (zB e,h):=by
 refine yp (hL 163 _ rfl) rfl ?_
 have cW:=Dk hL e.op []
 have dX:=Dj hL e.t e.v []
 have fy:=Dl hL e.t e.args.length []
 obtain⟨n,hn⟩:∃n:Int,n=e.args.length:=⟨_,rfl⟩
 have kf:=kfs hk
 by_cases t0:e.t=0<;>by_cases v0:e.v=0<;>simp[AN,zB,ofA,ofT,An,cW,dX,fy,yB,yh,kf,tf t0,tf v0]
theorem c7V (e:Expr) (hk:e.kind=4) (h:List PObj):x8 L 163 [ye e] h=some (zB e,h):=by
 refine yp (hL 163 _ rfl) rfl ?_
 have cW:=Dk hL e.op []
 have dX:=Dj hL e.t e.v []
 have fy:=Dl hL e.t e.args.length []
 obtain⟨n,hn⟩:∃n:Int,n=e.args.length:=⟨_,rfl⟩
 have kf:=kfs hk
 by_cases t0:e.t=0<;>by_cases v0:e.v=0<;>simp[AN,zB,ofA,ofT,An,cW,dX,fy,yB,yh,kf,tf t0,tf v0]
theorem c7W (e:Expr) (hk:e.kind=5) (h:List PObj):x8 L 163 [ye e] h=some (zB e,h):=by
 refine yp (hL 163 _ rfl) rfl ?_
 have cW:=Dk hL e.op []
 have dX:=Dj hL e.t e.v []
 have fy:=Dl hL e.t e.args.length []
 obtain⟨n,hn⟩:∃n:Int,n=e.args.length:=⟨_,rfl⟩
 have kf:=kfs hk
 by_cases t0:e.t=0<;>by_cases v0:e.v=0<;>simp[AN,zB,ofA,ofT,An,cW,dX,fy,yB,yh,kf,tf t0,tf v0]
theorem c7X (e:Expr) (hk:e.kind=6) (h:List PObj):x8 L 163 [ye e] h=some (zB e,h):=by
 refine yp (hL 163 _ rfl) rfl ?_
 have cW:=Dk hL e.op []
 have dX:=Dj hL e.t e.v []
 have fy:=Dl hL e.t e.args.length []
 obtain⟨n,hn⟩:∃n:Int,n=e.args.length:=⟨_,rfl⟩
 have kf:=kfs hk
 by_cases t0:e.t=0<;>by_cases v0:e.v=0<;>simp[AN,zB,ofA,ofT,An,cW,dX,fy,yB,yh,kf,tf t0,tf v0]
theorem c7Y (e:Expr) (hk:e.kind=7) (h:List PObj):x8 L 163 [ye e] h=some (zB e,h):=by
 refine yp (hL 163 _ rfl) rfl ?_
 have cW:=Dk hL e.op []
 have dX:=Dj hL e.t e.v []
 have fy:=Dl hL e.t e.args.length []
 obtain⟨n,hn⟩:∃n:Int,n=e.args.length:=⟨_,rfl⟩
 have kf:=kfs hk
 by_cases t0:e.t=0<;>by_cases v0:e.v=0<;>simp[AN,zB,ofA,ofT,An,cW,dX,fy,yB,yh,kf,tf t0,tf v0]
theorem c7Z (e:Expr) (hk:e.kind=8) (h:List PObj):x8 L 163 [ye e] h=some (zB e,h):=by
 refine yp (hL 163 _ rfl) rfl ?_
 have cW:=Dk hL e.op []
 have dX:=Dj hL e.t e.v []
 have fy:=Dl hL e.t e.args.length []
 obtain⟨n,hn⟩:∃n:Int,n=e.args.length:=⟨_,rfl⟩
 have kf:=kfs hk
 by_cases t0:e.t=0
 ·have t2:¬e.t=2:=by omega
  by_cases v0:e.v=0
  ·simp[AN,zB,ofA,ofT,An,cW,dX,fy,yB,yh,kf,tf t0,tf t2,tf v0]
  ·simp[AN,zB,ofA,ofT,An,cW,dX,fy,yB,yh,kf,tf t0,tf t2,tf v0]
 ·skip
  by_cases t2:e.t=2<;>simp[AN,zB,ofA,ofT,An,cW,dX,fy,yB,yh,kf,tf t0,tf t2]
theorem c70 (e:Expr) (hk:e.kind=9) (h:List PObj):x8 L 163 [ye e] h=some (zB e,h):=by
 refine yp (hL 163 _ rfl) rfl ?_
 have cW:=Dk hL e.op []
 have dX:=Dj hL e.t e.v []
 have fy:=Dl hL e.t e.args.length []
 obtain⟨n,hn⟩:∃n:Int,n=e.args.length:=⟨_,rfl⟩
 have kf:=kfs hk
 by_cases t0:e.t=0
 ·have t2:¬e.t=2:=by omega
  by_cases v0:e.v=0
  ·simp[AN,zB,ofA,ofT,An,cW,dX,fy,yB,yh,kf,tf t0,tf t2,tf v0]
  ·simp[AN,zB,ofA,ofT,An,cW,dX,fy,yB,yh,kf,tf t0,tf t2,tf v0]
 ·skip
  by_cases t2:e.t=2<;>simp[AN,zB,ofA,ofT,An,cW,dX,fy,yB,yh,kf,tf t0,tf t2]
theorem c5g (e:Expr) (hk:e.kind=10) (h:List PObj):x8 L 163 [ye e] h=some (zB e,h):=by
 refine yp (hL 163 _ rfl) rfl ?_
 have cW:=Dk hL e.op []
 have dX:=Dj hL e.t e.v []
 have fy:=Dl hL e.t e.args.length []
 obtain⟨n,hn⟩:∃n:Int,n=e.args.length:=⟨_,rfl⟩
 have kf:=kfs hk
 by_cases t0:e.t=0
 ·have t2:¬e.t=2:=by omega
  by_cases v0:e.v=0
  ·simp[AN,zB,ofA,ofT,An,cW,dX,fy,yB,yh,kf,tf t0,tf t2,tf v0]
  ·by_cases v1:e.v=1<;>simp[AN,zB,ofA,ofT,An,cW,dX,fy,yB,yh,kf,tf t0,tf t2,tf v0,tf v1]
 ·skip
  by_cases v1:e.v=1<;>simp[AN,zB,ofA,ofT,An,cW,dX,fy,yB,yh,kf,tf t0,tf v1]
theorem c5h (e:Expr) (hk:e.kind=11) (h:List PObj):x8 L 163 [ye e] h=some (zB e,h):=by
 refine yp (hL 163 _ rfl) rfl ?_
 have cW:=Dk hL e.op []
 have dX:=Dj hL e.t e.v []
 have fy:=Dl hL e.t e.args.length []
 obtain⟨n,hn⟩:∃n:Int,n=e.args.length:=⟨_,rfl⟩
 have kf:=kfs hk
 by_cases t0:e.t=0<;>by_cases v0:e.v=0<;>simp[AN,zB,ofA,ofT,An,cW,dX,fy,yB,yh,kf,tf t0,tf v0]
theorem d5n (e:Expr) (h:List PObj):x8 L 163 [ye e] h=some (zB e,h):=by
 rcases RA e.kind with hk|hk|hk|hk|hk|hk|hk|hk|hk|hk|hk|hk|hk
 ·refine yp (hL 163 _ rfl) rfl ?_
  have k1:¬e.kind=1:=by omega
  have k2:¬e.kind=2:=by omega
  have k3:¬e.kind=3:=by omega
  have k4:¬e.kind=4:=by omega
  have k5:¬e.kind=5:=by omega
  have k6:¬e.kind=6:=by omega
  have k7:¬e.kind=7:=by omega
  have k8:¬e.kind=8:=by omega
  have k9:¬e.kind=9:=by omega
  have k10:¬e.kind=10:=by omega
  have k11:¬e.kind=11:=by omega
  have kr:¬(1≤e.kind∧e.kind≤11):=by omega
  have ht:ofT e=false:=by unfold ofT; simp only[k1,k8,k9,k10,kr,if_false]
  have ha:ofA e=false:=by unfold ofA; simp only[k1,k2,k3,k4,k5,k6,k7,k8,k9,k10,k11,or_self,if_false]
  by_cases t0:e.t=0<;>by_cases v0:e.v=0<;>simp[AN,zB,ha,ht,An,yB,yh,k1,k2,k3,k4,k5,k6,k7,k8,k9,k10,k11,tf t0,tf v0]
 ·exact c7S hL e hk h
 ·exact c7T hL e hk h
 ·exact c7U hL e hk h
 ·exact c7V hL e hk h
 ·exact c7W hL e hk h
 ·exact c7X hL e hk h
 ·exact c7Y hL e hk h
 ·exact c7Z hL e hk h
 ·exact c70 hL e hk h
 ·exact c5g hL e hk h
 ·exact c5h hL e hk h
 ·refine yp (hL 163 _ rfl) rfl ?_
  have k1:¬e.kind=1:=by omega
  have k2:¬e.kind=2:=by omega
  have k3:¬e.kind=3:=by omega
  have k4:¬e.kind=4:=by omega
  have k5:¬e.kind=5:=by omega
  have k6:¬e.kind=6:=by omega
  have k7:¬e.kind=7:=by omega
  have k8:¬e.kind=8:=by omega
  have k9:¬e.kind=9:=by omega
  have k10:¬e.kind=10:=by omega
  have k11:¬e.kind=11:=by omega
  have kr:¬(1≤e.kind∧e.kind≤11):=by omega
  have ht:ofT e=false:=by unfold ofT; simp only[k1,k8,k9,k10,kr,if_false]
  have ha:ofA e=false:=by unfold ofA; simp only[k1,k2,k3,k4,k5,k6,k7,k8,k9,k10,k11,or_self,if_false]
  by_cases t0:e.t=0<;>by_cases v0:e.v=0<;>simp[AN,zB,ha,ht,An,yB,yh,k1,k2,k3,k4,k5,k6,k7,k8,k9,k10,k11,tf t0,tf v0]
theorem d1X (e:Expr) (h:List PObj):x8 L 150 [ye e] h=some (.int .i64 (CA e),h):=by
 refine yp (hL 150 _ rfl) rfl ?_
 have iY:=d5n hL e []
 have jh:=Rp hL e.name []
 obtain⟨b1,b2,wa,wb,er,f1,f2,uL,rB⟩:=c5f hL e.name []
 have du:=c2O e
 unfold CA
 by_cases cS:64<e.args.length
 ·have d8:(64:Int)<e.args.length:=by omega
  have eK:¬e.args.length≤64:=by omega
  simp[BQ,cS,d8,eK,need,yk]
 have d8:¬(64:Int)<e.args.length:=by omega
 have eK:e.args.length≤64:=by omega
 unfold zB at iY
 generalize ofA e=A at *
 generalize ofT e=T at *
 cases A with
 | false=>simp[BQ,cS,d8,eK,iY,yB,du,need,yk]
 | true=>
 cases T with
 | false=>simp[BQ,cS,d8,eK,iY,yB,du,need,yk]
 | true=>
 simp only[cq] at du
 have sU:(Gb e=true∧(e.kind=3→e.op≠0∧1≤e.op∧e.op≤16)∧(e.kind≠3→e.op=0))∨(Gb e=false∧(e.kind=3→e.op<1∨16<e.op)∧(e.kind≠3→e.op≠0)):=by
  unfold Gb
  by_cases hk:e.kind=3
  ·by_cases ho:1≤e.op∧e.op≤16
   ·left; simp[hk,ho]; omega
   ·right; simp[hk]; omega
  ·by_cases ho:e.op=0
   ·left; simp[hk,ho]
   ·right; simp[hk,ho]
 rcases sU with⟨q1,q2,q3⟩|⟨q1,q2,q3⟩
 ·rw[q1,cq] at du
  have kQ:∀(O:Bool),(decide (e.kind=3))=O→wpL L BQ.code ⟨[ye e,.dead,.dead,.dead,.dead,.dead],[],0,h⟩ (Ek [.var 2] (.int .i64 (yk (need (decide (e.args.length≤64)) 3) (yk (need (HN e) 5) (need (!An e.kind||CO e.name) 6))),h)):=by
   intro O hO
   have p6:(O=true→¬e.op=0∧¬e.op<1∧¬16<e.op)∧(O=false→e.op=0):=by
    constructor
    ·intro ho; rw[ho,av] at hO; have:=q2 hO; omega
    ·intro ho; rw[ho,cm] at hO; exact q3 hO
   rw[hO] at iY
   unfold JN at du
   generalize An e.kind=N at *
   cases O with
   | true =>
     have hk:e.kind=3:=by simpa using hO
     have gQ:¬e.kind=11:=by omega
     obtain⟨o1,o2,o3⟩:=p6.1 rfl
     cases N with
     | true =>
       cases hi:CO e.name<;>rw[hi] at jh<;>simp[BQ,cS,d8,eK,iY,yB,du,jh,o1,o2,o3,need,yk]
     | false =>
       by_cases jl:e.name=[]
       ·simp[BQ,cS,d8,eK,iY,yB,du,tf jl,o1,o2,o3,tf gQ,need,yk]
       ·simp[BQ,cS,d8,eK,iY,yB,du,tf jl,o1,o2,o3,tf gQ,need,yk]
   | false =>
     have o1:=p6.2 rfl
     cases N with
     | true =>
       cases hi:CO e.name<;>rw[hi] at jh<;>simp[BQ,cS,d8,eK,iY,yB,du,jh,tf o1,need,yk]
     | false =>
       by_cases gQ:e.kind=11
       ·by_cases he:er=0
        ·have hw:=uL.1 he
         simp[BQ,cS,d8,eK,iY,yB,du,rB,f1,f2,tf gQ,he,hw,tf o1,need,yk]
        ·have hw:Fx e.name=false:=by
          rw[← Bool.not_eq_true]; exact λhh=>he (uL.2 hh)
         by_cases jl:e.name=[]<;>simp[BQ,cS,d8,eK,iY,yB,du,rB,f1,f2,tf gQ,he,hw,tf o1,tf jl,need,yk]
       ·by_cases jl:e.name=[]
        ·simp[BQ,cS,d8,eK,iY,yB,du,tf jl,tf o1,tf gQ,need,yk]
        ·simp[BQ,cS,d8,eK,iY,yB,du,tf jl,tf o1,tf gQ,need,yk]
  have hq:=kQ _ rfl
  rw[← c2o e] at hq
  exact hq
 ·rw[q1,cd] at du
  by_cases hk:e.kind=3
  ·by_cases o0:e.op=0
   ·simp[BQ,cS,d8,eK,iY,yB,du,tf hk,tf o0,need,yk]
   ·rcases q2 hk with o1|o1
    ·simp[BQ,cS,d8,eK,iY,yB,du,tf hk,tf o0,o1,need,yk]
    ·have o2:¬e.op<1:=by omega
     simp[BQ,cS,d8,eK,iY,yB,du,tf hk,tf o0,o1,o2,need,yk]
  ·have o0:=q3 hk
   simp[BQ,cS,d8,eK,iY,yB,du,tf hk,tf o0,need,yk]
theorem c2P (e:Expr):e.parts≤1100000→∀h,x8 L 149 [ye e] h=some (.int .i64 e.depth,h):=by
 induction e using Expr.ind with
 | h e ih=>
 intro hp h
 have el:=Qp e
 refine yp (hL 149 _ rfl) rfl ?_
 simp[LL]
 refine c5d e.args.length (λi (x:PV×Nat)=>[(3,.int .i64 ((e.args.take i).foldl (λm x=>if x.depth>m then x.depth else m) 0)),(4,x.1),(7,.int .i64 i)]) (λ_ x=>x.2) (λ_ _=>h) (.dead,1) ?_ ?_ (by simp) rfl rfl
 ·intro i hi x ih2
  have hw:=yn i (by omega)
  have gk:=Qr (ak hi)
  have hc:=ih e.args[i] (ak hi) (by omega) []
  have ih2:=λy=>ih2 y
  rw[AB hi,cJ] at ih2
  generalize (e.args.take i).foldl (λm x=>if x.depth>m then x.depth else m) 0=a at *
  simp[hi,hw,hc,Ez]
  simpa using ih2 (_,_)
 ·intro _
  have:=Expr.depth_eq e
  unfold wrap at this
  simp[this]
end
def AT (y:Expr→List PObj→Option (Out×List PObj)):List Expr→List PObj→Option (Out×List PObj)
 | [],h=>some (.val (.bool true),h)
 | x :: xs, h => match y x h with
   | some (.val (.bool true),h')=>AT y xs h'
   | r=>r
theorem RB (y:Expr→List PObj→Option (Out×List PObj)):∀(a b:List Expr) (h:List PObj),AT y (a++b) h=match AT y a h with
  | some (.val (.bool true),h')=>AT y b h'
  | r=>r
 | [],b,h=>rfl
 | x :: a, b, h => by
   simp only[aK,AT]
   split
   ·exact RB y a b _
   ·rename_i da
    split
    ·rename_i h1; exact absurd h1 (da _)
    ·rfl
theorem HO {y:Expr→List PObj→Option (Out×List PObj)} {f:Expr→Int} {R:Int→Out×List PObj} {h:List PObj}:∀(l:List Expr),(∀x∈l,f x=0→y x h=some (.val (.bool true),h))→(∀x∈l,f x≠0→y x h=some (R (f x)))→(∀e h',R e≠(.val (.bool true),h'))→AT y l h=some (if yj f l=0 then(.val (.bool true),h) else R (yj f l))
 | [],_,_,_=>by simp[AT,yj]
 | x :: l, h1, h2, h3 => by
   simp only[AT]
   by_cases hx:f x=0
   ·rw[h1 x (by simp) hx]
    simp only[yj,hx,if_true]
    exact HO l (λz hz=>h1 z (by simp[hz])) (λz hz=>h2 z (by simp[hz])) h3
   ·rw[h2 x (by simp) hx]
    simp only[yj,hx,if_false]
    split
    ·rename_i hh; simp only[aa] at hh; exact absurd hh (h3 _ _)
    ·rfl
theorem RC {y:Expr→List PObj→Option (Out×List PObj)} {H:Nat→List PObj}:∀(l:List Expr) (i:Nat),(∀x∈l,∀k,i≤k→k<i+l.length→y x (H k)=some (.val (.bool true),H (k+1)))→AT y l (H i)=some (.val (.bool true),H (i+l.length))
 | [],i,_=>rfl
 | x :: l, i, h => by
   simp only[AT,h x (by simp) i (an _) (by simp)]
   rw[RC l (i+1) (λz hz k h1 h2=>h z (by simp[hz]) k (by omega) (by simp; omega)),aB]
   congr 3; omega
theorem yAt (H0:List PObj) (R:Expr→Out×List PObj):∃y:Expr→List PObj→Option (Out×List PObj),(∀x,y x H0=some (R x))∧∀x h r,y x h=some r→h=H0∧r=R x:=by
 classical
 refine⟨λx h=>if h=H0 then some (R x) else none,λx=>ai rfl,λx h r hr =>?_⟩
 simp only at hr
 split at hr
 ·rename_i he; exact⟨he,(Option.some.inj hr).symm⟩
 ·simp at hr
theorem Ac (n:Nat) (cs:List PV) (off:Nat) (v:PV):yB n false cs off v=if off<cs.length∧v.flat=true then some (cs.set off v) else none:=rfl
section
variable {L:Nat→Option PFunc} {V l:List PV} {g:Nat} {h:List PObj}
@[simp] theorem d3T {n:Nat} {o o':PObj}:(h.set n o).set n o'=h.set n o':=List.set_set ..
theorem Cu {n:Nat} {o:PObj} (hn:h[n]? = some o):h.set n o=h:=by
 obtain⟨cV,he⟩:=ah.1 hn
 rw[← he]; exact List.set_getElem_self cV
end
section
variable {L:Nat→Option PFunc} (hL:∀k f,LS k=some f→L k=some f)
include hL
theorem c71 (kb:Nat) (first captured:List PV) (y:Expr→List PObj→Option (Out×List PObj)) (nH:∀p∈first++captured,cp p=some p) (hb:∀x h r,y x h=some r→(∃b h',r=(.val (.bool b),h'))∨∃v h',r=(.boom v,h')) (e:Expr):EW e→(∀x∈e.list,∀h r,y x h=some r→yy L kb (first++[ye x]++captured) h=some r)→∀(h:List PObj) (r:Out×List PObj),AT y e.list h=some r→yy L 141 [ye e,.func kb first captured] h=some r:=by
 induction e using Expr.ind with
 | h e ih=>
 intro he hy h r hr
 obtain⟨_,_,el⟩:=he.self
 rw[Expr.list_eq] at hr
 simp only[AT] at hr
 refine Bh (hL 141 _ rfl) rfl ?_
 cases rH:y e h with
 | none=>rw[rH] at hr; simp at hr
 | some q =>
   rw[rH] at hr
   have jX:=hy e (by rw[Expr.list_eq]; simp) h q rH
   simp only[aN] at jX
   rcases hb e h q rH with⟨b,h',rfl⟩|⟨v,h',rfl⟩
   ·cases b with
    | false =>
      simp only[aa] at hr
      subst hr
      simp at jX
      simp[DK,jX]
    | true =>
      simp only at hr
      simp at jX
      simp[DK,jX]
      suffices H:∀(n i:Nat) (h:List PObj) (x4:PV) (g:Nat),i+n=e.args.length→AT y ((e.args.drop i).flatMap Expr.list) h=some r→wpL L Hg ⟨[ye e,.func kb first captured,.loc 0 (ye e).cells,.bool false,x4,.list false (e.args.map ye),.int .i64 e.args.length,.int .i64 i],[],g,h⟩ (Dz 0 (El L (S (R [t 3 T]) Y) (Dn L DK r))) by
       simpa[DK] using H e.args.length 0 h' .dead 1 (by omega) (by simpa using hr)
      intro n
      induction n with
      | zero =>
        intro i h x4 g hi hr
        have:i=e.args.length:=by omega
        subst this
        rw[bk (an _)] at hr
        simp only[List.flatMap_nil,AT,aa] at hr
        subst hr
        rw[Hg,Ct]
        simp[DK]
      | succ n ih2 =>
        intro i h x4 g hi hr
        have dF:i<e.args.length:=by omega
        have hw:=yn i (by omega)
        rw[a8 dF,aM,RB] at hr
        rw[Hg,Ct]
        cases hq:AT y e.args[i].list h with
        | none=>rw[hq] at hr; simp at hr
        | some q =>
          have hc:=ih e.args[i] (ak dF) (he.arg (ak dF)) (λx hx=>hy x (by rw[Expr.list_eq]; exact bl _ (bV.2 ⟨_,ak dF,hx⟩))) h q hq
          rw[hq] at hr
          have lZ:(∃b h',q=(.val (.bool b),h'))∨∃v h',q=(.boom v,h'):=by
           have key:∀(l:List Expr) (h:List PObj) (q),AT y l h=some q→(∃b h',q=(.val (.bool b),h'))∨∃v h',q=(.boom v,h'):=by
            intro l
            induction l with
            | nil=>intro h q hq; simp only[AT,aa] at hq; exact .inl ⟨true,h,hq.symm⟩
            | cons x l ihl =>
              intro h q hq
              simp only[AT] at hq
              split at hq
              ·exact ihl _ _ hq
              ·exact hb _ _ _ hq
           exact key _ _ _ hq
          rcases lZ with⟨b,h2,rfl⟩|⟨v,h2,rfl⟩
          ·cases b with
           | false =>
             simp only[aa] at hr
             subst hr
             simp[dF,hc,DK]
           | true =>
             simp only at hr
             simp[dF,hc,hw]
             have:=ih2 (i+1) h2 (.loc g (ye e.args[i]).cells) (g+1) (by omega) hr
             rw[Hg] at this
             simpa using this
          ·simp only[aa] at hr
           subst hr
           simp[dF,hc,DK]
   ·simp only[aa] at hr
    subst hr
    simp at jX
    simp[DK,jX]
theorem HP (e:Expr) (h:List PObj):x8 L 81 [ye e] h=some (.func 114 [] [.cptr (ye e).cells],h):=by
 refine yp (hL 81 _ rfl) rfl ?_
 simp[Ls]
theorem HQ {V l:List PV} {g:Nat} {h:List PObj} {Q:PExit→St→Prop} {x:PX} {kb:Nat} {caps:List PX} {cs:List PV} (e:Expr) (he:EW e) (hx:rd ⟨V,l,g,h⟩ x=some (.func 114 [] [.cptr (ye e).cells])) (hc:rdAll ⟨V,l,g,h⟩ caps=some cs) (dS:∀p∈cs,cp p=some p)
  (y:Expr→List PObj→Option (Out×List PObj)) (hy:∀x∈e.list,∀h' r,y x h'=some r→yy L kb (.ptr h.length 0::(cs++[ye x])) h'=some r) (hb:∀x h r,y x h=some r→(∃b h',r=(.val (.bool b),h'))∨∃v h',r=(.boom v,h'))
  (r:Out×List PObj) (hr:AT y e.list (h++[.loop true])=some r) (hq:CQ V l g h.length Q r):wpL L (.rangeF x kb caps) ⟨V,l,g,h⟩ Q:=by
 have kA:EB L 114=true:=by unfold EB; rw[hL 114 _ rfl]; rfl
 have hE:=c71 hL kb (.ptr h.length 0::cs) [] y (by
  intro p hp
  simp only[be,aA] at hp
  rcases hp with rfl|hp
  ·rfl
  ·exact dS p hp) hb e he (λx hx h' r hr=>by have:=hy x hx h' r hr; simpa using this) _ r hr
 have ho:∃r',yy L 114 ([] ++ .func kb (.ptr h.length 0::cs) []::[.cptr (ye e).cells]) (h++[.loop true])=some r'∧CQ V l g h.length Q r':=by
  obtain⟨o,h'⟩:=r
  cases o with
  | val v =>
    refine⟨(.val (.tuple []),h'),?_,hq⟩
    refine Bh (hL 114 _ rfl) rfl ?_
    simp[Ja,hE]
  | boom v =>
    refine⟨(.boom v,h'),?_,hq⟩
    refine Bh (hL 114 _ rfl) rfl ?_
    simp[Ja,hE]
 obtain⟨r',h1,h2⟩:=ho
 exact c1N hx hc kA h1 h2
theorem c5j (e:Expr) (he:EW e) (hp:e.parts≤1100000) (h:List PObj):x8 L 148 [ye e] []=some (.int .i64 e.parts,[.cells [.int .i64 e.parts],.gone]):=by
 refine yp (hL 148 _ rfl) rfl ?_
 have hE:=HP hL e [.cells [.int .i64 0]]
 simp[LK,hE]
 have eQ:∀(x:Expr) (c:Nat),c≤1100000→yy L 193 [.ptr 1 0,.ptr 0 0,ye x] [.cells [.int .i64 c],.loop true]=some (.val (.bool true),[.cells [.int .i64 (c+1:Nat)],.loop true]):=by
  intro x c hc
  have hw:=yn c (by omega)
  refine HS (as:=[.ptr 0 0,ye x]) (hL 193 _ rfl) rfl rfl rfl ?_
  simp[LQ,hw,Ac,yh]
 refine HQ hL e he (cs:=[.ptr 0 0]) (by simp) (by simp) (by simp) (λx h=>match h with | [.cells [.int .i64 c],.loop true]=>if 0≤c∧c≤1100000 then some (.val (.bool true),[.cells [.int .i64 (c+1)],.loop true]) else none | _=>none) ?_ ?_ (.val (.bool true),[.cells [.int .i64 e.parts],.loop true]) ?_ ?_
 ·intro x _ h' r hr
  split at hr
  ·split at hr
   ·rename_i c hc
    simp only[aa] at hr
    subst hr
    obtain⟨n,rfl⟩:=Int.eq_ofNat_of_zero_le hc.1
    have:=eQ x n (by omega)
    simpa using this
   ·simp at hr
  ·simp at hr
 ·intro x h r hr
  split at hr
  ·split at hr
   ·simp only[aa] at hr; exact .inl ⟨true,_,hr.symm⟩
   ·simp at hr
  ·simp at hr
 ·have:=RC (y:=λx h=>match h with | [.cells [.int .i64 c],.loop true]=>if 0≤c∧c≤1100000 then some (.val (.bool true),[.cells [.int .i64 (c+1)],.loop true]) else none | _=>none) (H:=λk=>[.cells [.int .i64 k],.loop true]) e.list 0 (by
   intro x hx k h1 h2
   have hk:k≤1100000:=by have:e.list.length=e.parts:=rfl; omega
   have:(0:Int)≤(k:Int)∧(k:Int)≤1100000:=by omega
   simp[this])
  have cS:e.list.length=e.parts:=rfl
  rw[cS] at this
  simp only[aS] at this
  simpa using this
 ·simp[CQ]
def Fy (f:Expr→Int) (x:Expr):List PObj→Option (Out×List PObj)
 | [.cells [c],.loop true]=>some (if f x=0 then(.val (.bool true),[.cells [c],.loop true]) else(.val (.bool false),[.cells [.int .i64 (f x)],.over none]))
 | _=>none
theorem d1Y (f:Expr→Int) (x:Expr) (h:List PObj) (r:Out×List PObj) (hr:Fy f x h=some r):(∃b h',r=(.val (.bool b),h'))∨∃v h',r=(.boom v,h'):=by
 have _:=hL
 unfold Fy at hr
 split at hr
 ·simp only[aa] at hr
  subst hr
  split
  ·exact .inl ⟨_,_,rfl⟩
  ·exact .inl ⟨_,_,rfl⟩
 ·simp at hr
theorem c5k (f:Expr→Int) (c:PV) (l:List Expr):AT (Fy f) l [.cells [c],.loop true]=some (if yj f l=0 then(.val (.bool true),[.cells [c],.loop true]) else(.val (.bool false),[.cells [.int .i64 (yj f l)],.over none])):=by
 have _:=hL
 refine HO (R:=λe=>(.val (.bool false),[.cells [.int .i64 e],.over none])) l ?_ ?_ ?_
 ·intro x _ hx; simp[Fy,hx]
 ·intro x _ hx; simp[Fy,hx]
 ·intro e h'; simp
theorem c2Q (e:Expr) (he:EW e) (hp:e.parts≤1100000):∃h',x8 L 122 [ye e] []=some (.int .i64 (Fv e),h'):=by
 suffices H:∃r,x8 L 122 [ye e] []=some r∧r.1 = .int .i64 (Fv e) by
  obtain⟨⟨v,h'⟩,h1,h2⟩:=H
  exact⟨h',by rw[h1]; simp only at h2; rw[h2]⟩
 refine AW (hL 122 _ rfl) rfl ?_
 have h1:=c5j hL e he hp []
 have h2:=c2P hL e hp []
 have hE:=HP hL e [.cells [.int .i64 0]]
 have dc:=Rh hp
 unfold Fv
 rw[dc]
 by_cases b1:(400:Int)<e.parts
 ·have b2:¬(e.parts:Int)≤400:=by omega
  have b3:400<e.parts:=by omega
  have b4:¬e.parts≤400:=by omega
  simp[He,h1,b1,b2,b3,b4,need,yk,Ac,yh,yA]
 ·have b2:(e.parts:Int)≤400:=by omega
  have b3:¬400<e.parts:=by omega
  have b4:e.parts≤400:=by omega
  by_cases d1:32<e.depth
  ·have d2:¬e.depth≤32:=by omega
   simp[He,h1,h2,b1,b2,b3,b4,d1,d2,need,yk,Ac,yh,yA]
  ·have d2:e.depth≤32:=by omega
   simp[He,h1,h2,b1,b2,b3,b4,d1,d2,hE]
   have eQ:∀(x:Expr) (c:PV),yy L 191 [.ptr 1 0,.ptr 0 0,ye x] [.cells [c],.loop true]=some (if CA x=0 then(.val (.bool true),[.cells [c],.loop true]) else(.val (.bool false),[.cells [.int .i64 (CA x)],.over none])):=by
    intro x c
    have ho:=d1X hL x []
    refine HS (as:=[.ptr 0 0,ye x]) (hL 191 _ rfl) rfl rfl rfl ?_
    by_cases hz:CA x=0
    ·rw[hz] at ho
     simp[Jo,ho,hz]
    ·simp[Jo,ho,hz,Ac]
   refine HQ hL e he (cs:=[.ptr 0 0]) (by simp) (by simp) (by simp) (Fy CA) ?_ (d1Y hL CA) _ (c5k hL CA (.int .i64 0) e.list) ?_
   ·intro x _ h' r hr
    unfold Fy at hr
    split at hr
    ·simp only[aa] at hr
     subst hr
     simpa using eQ x _
    ·simp at hr
   ·by_cases hf:yj CA e.list=0
    ·simp[hf,CQ,Ac,yh,yA]
    ·simp[hf,CQ,yh,yA]
theorem RD (e:Expr) (he:EW e):∃h',x8 L 147 [ye e] []=some (.bool (Fz e),h'):=by
 suffices H:∃r,x8 L 147 [ye e] []=some r∧r.1 = .bool (Fz e) by
  obtain⟨⟨v,h'⟩,h1,h2⟩:=H
  exact⟨h',by rw[h1]; simp only at h2; rw[h2]⟩
 refine AW (hL 147 _ rfl) rfl ?_
 have hE:=HP hL e [.cells [.bool false]]
 obtain⟨f,hf⟩:∃f:Expr→Int,∀x,f x=if x.kind=5∨x.kind=6∨x.kind=7∨x.kind=10∨x.kind=11 then 1 else 0:=⟨_,λ_=>rfl⟩
 have dn:Fz e=decide (yj f e.list=0):=by
  unfold Fz
  rw[aR,aJ,av,Bz]
  constructor
  ·intro h x hx
   have:=h x hx
   rw[hf,ae (by simpa using this)]
  ·intro h x hx
   have:=h x hx
   rw[hf] at this
   split at this
   ·simp at this
   ·rename_i hn; simpa using hn
 rw[dn]
 simp[LJ,hE]
 have eQ:∀(x:Expr) (c:PV),yy L 192 [.ptr 1 0,.ptr 0 0,ye x] [.cells [c],.loop true]=some (if f x=0 then(.val (.bool true),[.cells [c],.loop true]) else(.val (.bool false),[.cells [.bool false],.over none])):=by
  intro x c
  refine HS (as:=[.ptr 0 0,ye x]) (hL 192 _ rfl) rfl rfl rfl ?_
  rw[hf]
  by_cases k5:x.kind=5
  ·simp[EL,tf k5,Ac]
  by_cases k6:x.kind=6
  ·simp[EL,tf k5,tf k6,Ac]
  by_cases k7:x.kind=7
  ·simp[EL,tf k5,tf k6,tf k7,Ac]
  by_cases k10:x.kind=10
  ·simp[EL,tf k5,tf k6,tf k7,tf k10,Ac]
  by_cases k11:x.kind=11
  ·simp[EL,tf k5,tf k6,tf k7,tf k10,tf k11,Ac]
  simp[EL,tf k5,tf k6,tf k7,tf k10,tf k11]
 obtain⟨y,hy⟩:∃y:Expr→List PObj→Option (Out×List PObj),∀x h,y x h=match h with
  | [.cells [c],.loop true]=>some (if f x=0 then(.val (.bool true),[.cells [c],.loop true]) else(.val (.bool false),[.cells [.bool false],.over none]))
  | _=>none:=⟨_,λ_ _=>rfl⟩
 have p7:AT y e.list [.cells [.bool false],.loop true]=some (if yj f e.list=0 then(.val (.bool true),[.cells [.bool false],.loop true]) else(.val (.bool false),[.cells [.bool false],.over none])):=by
  refine HO (f:=f) (R:=λ_=>(.val (.bool false),[.cells [.bool false],.over none])) e.list ?_ ?_ ?_
  ·intro x _ hx; simp[hy,hx]
  ·intro x _ hx; simp[hy,hx]
  ·intro e h'; simp
 refine HQ hL e he (cs:=[.ptr 0 0]) (by simp) (by simp) (by simp) y ?_ ?_ _ p7 ?_
 ·intro x _ h' r hr
  rw[hy] at hr
  split at hr
  ·simp only[aa] at hr
   subst hr
   simpa using eQ x _
  ·simp at hr
 ·intro x h r hr
  rw[hy] at hr
  split at hr
  ·simp only[aa] at hr
   subst hr
   split
   ·exact .inl ⟨_,_,rfl⟩
   ·exact .inl ⟨_,_,rfl⟩
  ·simp at hr
 ·by_cases hz:yj f e.list=0
  ·simp[hz,CQ,Ac,yh,yA]
  ·simp[hz,CQ,yh,yA]
theorem c2R (en:List Enum) (e:Expr) (he:EW e) (o:Bool) (h:List PObj):x8 L 123 [.list o (en.map yu),ye e] h=some (.int .i64 (CB en e),h):=by
 refine yp (hL 123 _ rfl) rfl ?_
 obtain⟨ht,_,_⟩:=he.self
 have hs:=JO hL en e.t ht false []
 have hh:=HT hL en e.t e.v ht false []
 unfold CB
 rcases(by omega:e.kind=1∨e.kind=8∨e.kind=9∨(¬e.kind=1∧¬e.kind=8∧¬e.kind=9)) with hk|hk|hk|⟨h1,h8,h9⟩
 ·have h8:¬e.kind=8:=by omega
  have h9:¬e.kind=9:=by omega
  by_cases hz:Ad en e.t=0
  ·have fA:¬0<Ad en e.t:=by omega
   simp[DJ,tf hk,tf h8,tf h9,hs,hz,fA,need,yk]
  ·have fA:0<Ad en e.t:=by omega
   have fl:(0:Int)<Ad en e.t:=by omega
   cases hq:Em en e.t e.v<;>rw[hq] at hh<;>simp[DJ,tf hk,tf h8,tf h9,hs,hh,hz,fA,fl,hq,need,yk]
 ·have h1:¬e.kind=1:=by omega
  have h9:¬e.kind=9:=by omega
  by_cases hz:Ad en e.t=0
  ·have fA:¬0<Ad en e.t:=by omega
   simp[DJ,tf hk,tf h1,tf h9,hs,hz,fA,need,yk]
  ·have fA:0<Ad en e.t:=by omega
   have fl:(0:Int)<Ad en e.t:=by omega
   cases hq:Em en e.t e.v<;>rw[hq] at hh<;>simp[DJ,tf hk,tf h1,tf h9,hs,hh,hz,fA,fl,hq,need,yk]
 ·have h1:¬e.kind=1:=by omega
  have h8:¬e.kind=8:=by omega
  by_cases hz:Ad en e.t=0
  ·have fA:¬0<Ad en e.t:=by omega
   simp[DJ,tf hk,tf h1,tf h8,hs,hz,fA,need,yk]
  ·have fA:0<Ad en e.t:=by omega
   by_cases hl:e.args.length=Ad en e.t
   ·have ku:((e.args.length:Int)=(Ad en e.t:Int))=True:=eq_true (by omega)
    simp[DJ,tf hk,tf h1,tf h8,hs,hz,fA,ku,tf hl,need,yk]
   ·have ku:((e.args.length:Int)=(Ad en e.t:Int))=False:=eq_false (by omega)
    simp[DJ,tf hk,tf h1,tf h8,hs,hz,fA,ku,tf hl,need,yk]
 ·simp[DJ,tf h1,tf h8,tf h9,hs]
theorem FA (en:List Enum) (e:Expr) (he:XW e) (o:Bool):∃h',x8 L 94 [.list o (en.map yu),ye e] []=some (.int .i64 (Ch en e),h'):=by
 suffices H:∃r,x8 L 94 [.list o (en.map yu),ye e] []=some r∧r.1 = .int .i64 (Ch en e) by
  obtain⟨⟨v,h'⟩,h1,h2⟩:=H
  exact⟨h',by rw[h1]; simp only at h2; rw[h2]⟩
 refine AW (hL 94 _ rfl) rfl ?_
 obtain⟨h',hc⟩:=c2Q hL e he.ew he.parts
 have hE:=HP hL e [.cells [.list false (en.map yu)],.cells [.int .i64 0]]
 unfold Ch
 by_cases hz:Fv e=0
 ·rw[hz] at hc ⊢
  rw[Bu]
  simp[I8,hc,hE]
  have eQ:∀(x:Expr),EW x→∀(c:PV),yy L 189 [.ptr 2 0,.ptr 0 0,.ptr 1 0,ye x] [.cells [.list false (en.map yu)],.cells [c],.loop true]=some (if CB en x=0 then(.val (.bool true),[.cells [.list false (en.map yu)],.cells [c],.loop true]) else(.val (.bool false),[.cells [.list false (en.map yu)],.cells [.int .i64 (CB en x)],.over none])):=by
   intro x hx c
   have ho:=c2R hL en x hx false []
   refine HS (as:=[.ptr 0 0,.ptr 1 0,ye x]) (hL 189 _ rfl) rfl rfl rfl ?_
   by_cases hz:CB en x=0
   ·rw[hz] at ho
    simp[Jn,ho,hz,yh]
   ·simp[Jn,ho,hz,Ac,yh]
  obtain⟨y,uM,rI⟩:=yAt [.cells [.list false (en.map yu)],.cells [.int .i64 0],.loop true] (λx=>if CB en x=0 then(.val (.bool true),[.cells [.list false (en.map yu)],.cells [.int .i64 0],.loop true]) else(.val (.bool false),[.cells [.list false (en.map yu)],.cells [.int .i64 (CB en x)],.over none]))
  have p7:AT y e.list [.cells [.list false (en.map yu)],.cells [.int .i64 0],.loop true]=some (if yj (CB en) e.list=0 then(.val (.bool true),[.cells [.list false (en.map yu)],.cells [.int .i64 0],.loop true]) else(.val (.bool false),[.cells [.list false (en.map yu)],.cells [.int .i64 (yj (CB en) e.list)],.over none])):=by
   refine HO (f:=CB en) (R:=λq=>(.val (.bool false),[.cells [.list false (en.map yu)],.cells [.int .i64 q],.over none])) e.list ?_ ?_ ?_
   ·intro x _ hx; rw[uM,ai hx]
   ·intro x _ hx; rw[uM,ae hx]
   ·intro e h'; simp
  refine HQ hL e he.ew (cs:=[.ptr 0 0,.ptr 1 0]) (by simp) (by simp) (by simp) y ?_ ?_ _ p7 ?_
  ·intro x hx h' r hr
   obtain⟨rfl,rfl⟩:=rI x h' r hr
   simpa using eQ x (he.ew.mem hx) (.int .i64 0)
  ·intro x h r hr
   obtain⟨rfl,rfl⟩:=rI x h r hr
   split
   ·exact .inl ⟨_,_,rfl⟩
   ·exact .inl ⟨_,_,rfl⟩
  ·by_cases hf:yj (CB en) e.list=0
   ·simp[hf,CQ,Ac,yh,yA]
   ·simp[hf,CQ,yh,yA]
 ·simp[I8,hc,hz,yk,Ac,yh,yA]
end
def zA (t:Nat) (a b e:Int):PV := .iface t (.agg [.int .i64 a,.int .i64 b,.int .i64 e])
def ym (t:Nat) (a b e:Int):Out:=if e=0 then .val (.tuple []) else .boom (zA t a b e)
theorem yP (t:Nat) (a b:Int):ym t a b 0 = .val (.tuple []):=rfl
theorem Bi {t:Nat} {a b e:Int} (h:e≠0):ym t a b e = .boom (zA t a b e):=ae h
def yG (en:List Enum) (a b:Int):PObj := .cells [.list false (en.map yu),.int .i64 a,.int .i64 b]
section
variable {L:Nat→Option PFunc} (hL:∀k f,LS k=some f→L k=some f)
include hL
variable (en:List Enum) (n:Nat) (a b:Int) (h:List PObj) (hn:h[n]? = some (yG en a b))
include hn
theorem En (e:Int):yy L 49 [.ptr n 0,.bool true,.int .i64 e] h=some (.val (.tuple []),h):=by
 have _:=hn
 refine Bh (hL 49 _ rfl) rfl ?_
 simp[I3]
theorem DS (e:Int):yy L 49 [.ptr n 0,.bool false,.int .i64 e] h=some (.boom (zA 2 a b e),h):=by
 refine Bh (hL 49 _ rfl) rfl ?_
 simp[I3,hn,yG,zA]
theorem HU (s:Str):yy L 89 [.ptr n 0,.str s] h=some (ym 2 a b (BF s),h):=by
 have hi:=Rp hL s []
 have hT:=En hL en n a b h hn
 have hF:=DS hL en n a b h hn
 refine Bh (hL 89 _ rfl) rfl ?_
 unfold BF
 cases hs:CO s<;>rw[hs] at hi<;>simp[Lt,hi,hT,hF,ym]
theorem Ni (e:Int):yy L 93 [.ptr n 0,.int .i64 e] h=some (ym 2 a b e,h):=by
 have hT:=En hL en n a b h hn
 have hF:=DS hL en n a b h hn
 refine Bh (hL 93 _ rfl) rfl ?_
 by_cases he:e=0
 ·subst he; simp[I7,hT,ym]
 ·simp[I7,hF,he,ym]
theorem c73 (u:Enum) (hu:u.tags.length≤1100000):yy L 50 [.ptr n 0,yu u] h=some (ym 2 a b (EX u),h):=by
 have hi:=λs=>HU hL en n a b h hn s
 have hT:=En hL en n a b h hn
 have hF:=DS hL en n a b h hn
 refine Bh (hL 50 _ rfl) rfl ?_
 unfold EX
 by_cases h0:BF u.name=0
 ·by_cases h1:u.tags=[]
  ·simp[FV,hi,h0,h1,hF,need,yk,ym]
  ·have kP:0<u.tags.length:=bI.2 h1
   have kw:(0:Int)<u.tags.length:=by omega
   by_cases h2:u.tags.length≤16
   ·have kR:(u.tags.length:Int)≤16:=by omega
    simp[FV,hi,h0,h1,kP,kw,h2,kR,hT,yP]
    refine Rc u.tags BF (λi (x:PV)=>[(3,x),(6,.int .i64 i)]) .dead ?_ ?_ ?_ rfl
    ·intro i dF de x ih
     have hw:=yn i (by omega)
     simp[dF,hw,hi,de,yP]
     simpa using ih _
    ·intro i dF de hf x
     simp[dF,hi,Bi de,hf]
    ·intro h0 x
     simp[h0,yP]
   ·have kR:¬(u.tags.length:Int)≤16:=by omega
    simp[FV,hi,h0,h1,kP,kw,h2,kR,hT,hF,need,yk,ym]
 ·simp[FV,hi,h0,yk,ym]
theorem HV (l:List Decl) (hl:l.length≤1100000) (hd:∀d∈l,DW d) (port:Bool) (o:Bool):yy L 90 [.ptr n 0,.list o (l.map yi),.bool port] h=some (ym 2 a b (yj (A0 en port) l),h):=by
 have hi:=λs=>HU hL en n a b h hn s
 have hT:=En hL en n a b h hn
 have hF:=DS hL en n a b h hn
 refine Bh (hL 90 _ rfl) rfl ?_
 simp[Lu]
 refine BR l (A0 en port) (λi (x:(PV×PV×PV×PV×PV)×Nat)=>[(3,x.1.1),(4,x.1.2.1),(8,x.1.2.2.1),(9,x.1.2.2.2.1),(10,x.1.2.2.2.2),(7,.int .i64 i)]) (λ_ x=>x.2) (λ_ _=>h) ((.dead,.dead,.dead,.dead,.dead),0) ?_ ?_ ?_ rfl rfl rfl
 ·intro i dF de x ih
  have hw:=yn i (by omega)
  have ma:=hd _ (ak dF)
  have dA:=ma.clock
  have hs:=JO hL en l[i].type ma.type false []
  unfold A0 at de
  rw[Br,Br,Br,Br,Cg (by decide),Cg (by decide),Cg (by decide),av,av] at de
  obtain⟨k1,k2,k3,k4,k5⟩:=de
  have k2i:(0:Int)<Ad en l[i].type:=by omega
  have k4i:(l[i].clock.length:Int)≤4:=by omega
  have fw:(!port||decide (l[i].clock=[]))=true:=k3
  have hE:∀o∈l[i].clock,CC en o=0:=Bz.1 k5
  cases port with
  | false =>
    simp[dF,hi,k1,yP,hn,yG,hs,k2,k2i,k4,k4i,hT]
    refine BR l[i].clock (CC en) (λj (y:PV×Nat)=>[(10,.int .i64 j),(4,y.1)]) (λ_ y=>y.2) (λ_ _=>h) (x.1.2.1,x.2+1) ?_ ?_ ?_ rfl rfl rfl
    ·intro j hj dx y ih2
     have gA:=yn j (by omega)
     have fR:=HT hL en l[i].clock[j].t l[i].clock[j].tag (ma.on _ (ak hj)) false []
     unfold CC at dx
     rw[Br,Cg (by decide),ao,av] at dx
     obtain⟨q1,q2,q3⟩:=dx
     rw[q3] at fR
     simp[hj,hi,q1,yP,tf q2,hn,yG,fR,hT,gA]
     simpa using ih2 (_,_)
    ·intro j hj dx _ y
     exact absurd (hE _ (ak hj)) dx
    ·intro _ y
     simp[hw]
     simpa using ih ((_,_,_,_,_),_)
  | true =>
    have jY:l[i].clock=[]:=by simpa using fw
    simp[dF,hi,k1,yP,hn,yG,hs,k2,k2i,k4,k4i,hT,tf jY]
    refine BR l[i].clock (CC en) (λj (y:PV×Nat)=>[(10,.int .i64 j),(4,y.1)]) (λ_ y=>y.2) (λ_ _=>h) (x.1.2.1,x.2+1) ?_ ?_ ?_ rfl rfl rfl
    ·intro j hj dx y ih2
     have gA:=yn j (by omega)
     have fR:=HT hL en l[i].clock[j].t l[i].clock[j].tag (ma.on _ (ak hj)) false []
     unfold CC at dx
     rw[Br,Cg (by decide),ao,av] at dx
     obtain⟨q1,q2,q3⟩:=dx
     rw[q3] at fR
     simp[hj,hi,q1,yP,tf q2,hn,yG,fR,hT,gA]
     simpa using ih2 (_,_)
    ·intro j hj dx _ y
     exact absurd (hE _ (ak hj)) dx
    ·intro _ y
     simp[hw]
     simpa using ih ((_,_,_,_,_),_)
 ·intro i dF de hf x
  have ma:=hd _ (ak dF)
  have dA:=ma.clock
  have hs:=JO hL en l[i].type ma.type false []
  rw[hf]
  unfold A0 at de ⊢
  by_cases k1:BF l[i].name=0
  ·by_cases k2:0<Ad en l[i].type
   ·have k2i:(0:Int)<Ad en l[i].type:=by omega
    by_cases k3:port=true∧l[i].clock≠[]
    ·have lM:¬l[i].clock=[]:=k3.2
     have jY:¬(l[i].clock.length:Int)=0:=by
      intro e; exact k3.2 (bC.1 (by omega))
     rw[k3.1]
     simp[dF,hi,k1,yP,hn,yG,hs,k2,k2i,hT,hF,lM,jY,need,yk,ym]
    ·by_cases k4:l[i].clock.length≤4
     ·have k4i:(l[i].clock.length:Int)≤4:=by omega
      have fw:(!port||decide (l[i].clock=[]))=true:=by
       cases port with
       | false=>rfl
       | true=>simpa using k3
      have hE:yj (CC en) l[i].clock≠0:=by
       intro e; apply de
       simp[k1,k2,fw,k4,e]
      have dQ:yk (BF l[i].name) (yk (need (decide (0<Ad en l[i].type)) 10) (yk (need (!port||decide (l[i].clock=[])) 11) (yk (need (decide (l[i].clock.length≤4)) 3) (yj (CC en) l[i].clock))))=yj (CC en) l[i].clock:=by
       simp[k1,k2,fw,k4]
      rw[dQ]
      cases port with
      | true =>
        have jY:l[i].clock=[]:=by simpa using fw
        rw[jY] at hE; exact absurd rfl hE
      | false=>
      simp[dF,hi,k1,yP,hn,yG,hs,k2,k2i,k4,k4i,hT]
      refine BR l[i].clock (CC en) (λj (y:PV×Nat)=>[(10,.int .i64 j),(4,y.1)]) (λ_ y=>y.2) (λ_ _=>h) (x.1.2.1,x.2+1) ?_ ?_ ?_ rfl rfl rfl
      ·intro j hj dx y ih2
       have gA:=yn j (by omega)
       have fR:=HT hL en l[i].clock[j].t l[i].clock[j].tag (ma.on _ (ak hj)) false []
       unfold CC at dx
       rw[Br,Cg (by decide),ao,av] at dx
       obtain⟨q1,q2,q3⟩:=dx
       rw[q3] at fR
       simp[hj,hi,q1,yP,tf q2,hn,yG,fR,hT,gA]
       simpa using ih2 (_,_)
      ·intro j hj dx jm y
       have fR:=HT hL en l[i].clock[j].t l[i].clock[j].tag (ma.on _ (ak hj)) false []
       rw[jm]
       unfold CC
       by_cases q1:BF l[i].clock[j].name=0
       ·by_cases q2:l[i].clock[j].t=2
        ·simp[hj,hi,q1,yP,tf q2,hF,need,yk,ym]
        ·cases q3:Em en l[i].clock[j].t l[i].clock[j].tag with
         | true=>exfalso; apply dx; simp[CC,q1,q2,q3]
         | false=>rw[q3] at fR; simp[hj,hi,q1,yP,tf q2,hn,yG,fR,hF,need,yk,ym]
       ·simp[hj,hi,Bi q1,q1,yk]
      ·intro hz y
       exact absurd hz hE
     ·have k4i:¬(l[i].clock.length:Int)≤4:=by omega
      have lM:¬l[i].clock=[]:=by intro e; rw[e] at k4; simp at k4
      have iu:port=false:=by
       cases port with
       | false=>rfl
       | true=>exact absurd ⟨rfl,lM⟩ k3
      rw[iu]
      simp[dF,hi,k1,yP,hn,yG,hs,k2,k2i,k4,k4i,hT,hF,need,yk,ym]
   ·have k2i:¬(0:Int)<Ad en l[i].type:=by omega
    simp[dF,hi,k1,yP,hn,yG,hs,k2,k2i,hF,need,yk,ym]
  ·simp[dF,hi,Bi k1,k1,yk]
 ·intro h0 x
  simp[h0,yP]
end
section
variable {L:Nat→Option PFunc} (hL:∀k f,LS k=some f→L k=some f)
include hL
section
variable (en:List Enum) (n:Nat) (a b:Int) (h:List PObj) (hn:h[n]? = some (yG en a b))
include hn
theorem HW (q:Eqn) (hq:QW q):yy L 91 [.ptr n 0,yI q] h=some (ym 2 a b (BE en q),h):=by
 have hi:=λs=>HU hL en n a b h hn s
 have hr:=λe=>Ni hL en n a b h hn e
 have hT:=En hL en n a b h hn
 have hF:=DS hL en n a b h hn
 obtain⟨h',hx⟩:=FA hL en q.right hq.right false
 have sV:=hq.left
 refine Bh (hL 91 _ rfl) rfl ?_
 unfold BE
 by_cases h1:q.left=[]
 ·simp[G8,h1,hF,need,yk,ym]
 have kP:0<q.left.length:=bI.2 h1
 have kw:(0:Int)<q.left.length:=by omega
 by_cases h2:q.left.length≤64
 ·have kR:(q.left.length:Int)≤64:=by omega
  simp[G8,h1,kP,kw,h2,kR,hT]
  refine Rc q.left BF (λi (x:PV)=>[(3,x),(6,.int .i64 i)]) .dead ?_ ?_ ?_ rfl
  ·intro i dF de x ih
   have hw:=yn i (by omega)
   simp[dF,hw,hi,de,yP]
   simpa using ih _
  ·intro i dF de hf x
   simp[dF,hi,Bi de,hf,C1 de]
  ·intro h0 x
   rw[h0,Bu]
   by_cases h3:Ch en q.right=0
   ·rw[h3] at hx
    by_cases h4:q.left.length=1
    ·have rJ:(q.left.length:Int)=1:=by omega
     simp[hn,yG,hx,h3,hr,yP,tf h4,tf rJ,hT]
    ·have rJ:¬(q.left.length:Int)=1:=by omega
     by_cases h5:q.right.kind=10
     ·simp[hn,yG,hx,h3,hr,yP,tf h4,tf rJ,tf h5,hT]
     ·simp[hn,yG,hx,h3,hr,yP,tf h4,tf rJ,tf h5,hF,need,ym]
   ·simp[hn,yG,hx,hr,Bi h3,C1 h3]
 ·have kR:¬(q.left.length:Int)≤64:=by omega
  simp[G8,h1,kP,kw,h2,kR,hT,hF,need,yk,ym]
theorem JP (l:List Trn) (hl:l.length≤1100000) (ht:∀t∈l,XW t.cond) (m:Nat) (strong:Bool) (o:Bool):yy L 121 [.ptr n 0,.list o (l.map zt),.int .i64 m,.bool strong] h=some (ym 2 a b (yj (EY en m strong) l),h):=by
 have hr:=λe=>Ni hL en n a b h hn e
 have hT:=En hL en n a b h hn
 have hF:=DS hL en n a b h hn
 refine Bh (hL 121 _ rfl) rfl ?_
 simp[LD]
 refine BR l (EY en m strong) (λi (x:PV×Nat)=>[(4,x.1),(7,.int .i64 i)]) (λ_ x=>x.2) (λ_ _=>h) (.dead,0) ?_ ?_ ?_ rfl rfl rfl
 ·intro i dF de x ih
  have hw:=yn i (by omega)
  have nC:=ht _ (ak dF)
  obtain⟨h',hx⟩:=FA hL en l[i].cond nC false
  obtain⟨h'',hs⟩:=RD hL l[i].cond nC.ew
  unfold EY at de
  rw[Br,Br,Cg (by decide),Cg (by decide),av] at de
  obtain⟨⟨k1,k2⟩,k3,k4⟩:=de
  rw[k3] at hx
  cases strong with
  | false =>
    simp[dF,hw,k1,k2,hn,yG,hx,hr,yP,hT]
    simpa using ih (_,_)
  | true =>
    have k4:Fz l[i].cond=true:=by simpa using k4
    rw[k4] at hs
    simp[dF,hw,k1,k2,hn,yG,hx,hr,yP,hs,hT]
    simpa using ih (_,_)
 ·intro i dF de hf x
  have nC:=ht _ (ak dF)
  obtain⟨h',hx⟩:=FA hL en l[i].cond nC false
  obtain⟨h'',hs⟩:=RD hL l[i].cond nC.ew
  rw[hf]
  unfold EY at de ⊢
  by_cases k1:0≤l[i].to
  ·by_cases k2:l[i].to<m
   ·by_cases k3:Ch en l[i].cond=0
    ·rw[k3] at hx
     cases strong with
     | false=>exfalso; apply de; simp[k1,k2,k3]
     | true =>
       cases k4:Fz l[i].cond with
       | true=>exfalso; apply de; simp[k1,k2,k3,k4]
       | false=>rw[k4] at hs; simp[dF,k1,k2,hn,yG,hx,hr,yP,hs,hT,hF,k3,need,yk,ym]
    ·simp[dF,k1,k2,hn,yG,hx,hr,Bi k3,hT,need,yk,k3]
   ·simp[dF,k1,k2,hF,need,yk,ym]
  ·simp[dF,k1,hF,need,yk,ym]
 ·intro h0 x
  simp[h0,yP]
theorem RE:∀(d:Nat),d≤3→∀au:Bc,au.length≤1100000→(∀x∈au,SW x)→yy L 92 [.ptr n 0,yS au,.int .i64 (3 - (d:Int))] h=some (ym 2 a b (CT en d au),h)
 | 0, _, au, el, ha => by
   have hF:=DS hL en n a b h hn
   refine Bh (hL 92 _ rfl) rfl ?_
   simp[FX,hF,CT,ym]
 | d + 1, hd, au, el, ha => by
   have ih:=RE d (by omega)
   have hi:=λs=>HU hL en n a b h hn s
   have hT:=En hL en n a b h hn
   have hF:=DS hL en n a b h hn
   have sW:(3:Int) - ((d+1:Nat):Int)=2 - (d:Int):=by omega
   rw[sW]
   have cV:2 - (d:Int)<3:=by omega
   have p8:IntKind.i64.wrap (2 - (d:Int)+1)=3 - (d:Int):=by rw[Eg]<;>omega
   refine Bh (hL 92 _ rfl) rfl ?_
   simp only[CT]
   by_cases h1:au=[]
   ·simp[FX,cV,hT,hF,h1,need,yk,ym]
   have kP:0<au.length:=bI.2 h1
   have kw:(0:Int)<au.length:=by omega
   by_cases h2:au.length≤8
   ·have kR:(au.length:Int)≤8:=by omega
    simp[FX,cV,hT,h1,kP,kw,h2,kR]
    refine BR au (JQ en au.length (CT en d)) (λi (x:(PV×PV×PV×PV×PV×PV×PV×PV×PV)×Nat)=>[(4,x.1.1),(5,x.1.2.1),(6,x.1.2.2.1),(9,.int .i64 i),(10,x.1.2.2.2.1),(11,x.1.2.2.2.2.1),(12,x.1.2.2.2.2.2.1),(13,x.1.2.2.2.2.2.2.1),(14,x.1.2.2.2.2.2.2.2.1),(15,x.1.2.2.2.2.2.2.2.2)]) (λ_ x=>x.2) (λ_ _=>h) ((.dead,.dead,.dead,.dead,.dead,.dead,.dead,.dead,.dead),1) ?_ ?_ ?_ rfl rfl rfl
    ·intro i dF de x ih2
     have hw:=yn i (by omega)
     have hs:=ha _ (ak dF)
     have iA:=HV hL en n a b h hn au[i].locals hs.locals hs.ls false false
     have ir:=JP hL en n a b h hn au[i].unl hs.unl hs.us au.length true false
     have mO:=JP hL en n a b h hn au[i].til hs.til hs.ts au.length false false
     have ez:=hs.eqs
     have ny:=hs.autos
     unfold JQ at de
     rw[Br,Br,Br,Br,Br,Br,Cg (by decide),av] at de
     obtain⟨k0,⟨c1,c2,c3,c4,c5⟩,k1,k2,k3,k4,k5⟩:=de
     rw[k1] at iA; rw[k4] at ir; rw[k5] at mO
     have c1i:(au[i].locals.length:Int)≤256:=by omega
     have c2i:(au[i].eqs.length:Int)≤256:=by omega
     have c3i:(au[i].autos.length:Int)≤8:=by omega
     have c45:(if au[i].unl.length<au[i].til.length then(au[i].til.length:Int) else(au[i].unl.length:Int))≤4:=by split<;>omega
     have e2:=Bz.1 k2
     have e3:=Bz.1 k3
     simp[dF,hi,k0,yP,c1,c2,c3,c1i,c2i,c3i,c45,hT,iA]
     refine BR au[i].eqs (BE en) (λj (y:PV×Nat)=>[(5,y.1),(12,.int .i64 j)]) (λ_ y=>y.2) (λ_ _=>h) (x.1.2.1,x.2+1) ?_ ?_ ?_ rfl rfl rfl
     ·intro j hj dx y ih3
      have gA:=yn j (by omega)
      have hc:=HW hL en n a b h hn au[i].eqs[j] (hs.es _ (ak hj))
      rw[dx] at hc
      simp[hj,gA,hc,yP]
      simpa using ih3 (_,_)
     ·intro j hj dx _ y
      exact absurd (e2 _ (ak hj)) dx
     ·intro _ y
      simp
      refine BR au[i].autos (CT en d) (λj (z:PV×Nat)=>[(6,z.1),(15,.int .i64 j)]) (λ_ z=>z.2) (λ_ _=>h) (x.1.2.2.1,y.2) ?_ ?_ ?_ rfl rfl rfl
      ·intro j hj dx z ih3
       have gA:=yn j (by omega)
       have hc:=ih au[i].autos[j] (hs.as _ (ak hj)) (hs.ss _ (ak hj))
       rw[dx] at hc
       simp[hj,gA,p8,hc,yP]
       simpa using ih3 (_,_)
      ·intro j hj dx _ z
       exact absurd (e3 _ (ak hj)) dx
      ·intro _ z
       simp[ir,mO,yP,hw]
       simpa using ih2 ((_,_,_,_,_,_,_,_,_),_)
    ·intro i dF de hf x
     have hs:=ha _ (ak dF)
     have iA:=HV hL en n a b h hn au[i].locals hs.locals hs.ls false false
     have ir:=JP hL en n a b h hn au[i].unl hs.unl hs.us au.length true false
     have mO:=JP hL en n a b h hn au[i].til hs.til hs.ts au.length false false
     have ez:=hs.eqs
     have ny:=hs.autos
     rw[hf]
     unfold JQ at de ⊢
     by_cases k0:BF au[i].name=0
     ·rw[k0,Bu] at de ⊢
      by_cases c1:au[i].locals.length≤256
      rotate_left
      ·have c1i:¬(au[i].locals.length:Int)≤256:=by omega
       simp[dF,hi,k0,yP,c1,c1i,hF,need,yk,ym]
      have c1i:(au[i].locals.length:Int)≤256:=by omega
      by_cases c2:au[i].eqs.length≤256
      rotate_left
      ·have c2i:¬(au[i].eqs.length:Int)≤256:=by omega
       simp[dF,hi,k0,yP,c1,c1i,c2,c2i,hF,need,yk,ym]
      have c2i:(au[i].eqs.length:Int)≤256:=by omega
      by_cases c3:au[i].autos.length≤8
      rotate_left
      ·have c3i:¬(au[i].autos.length:Int)≤8:=by omega
       simp[dF,hi,k0,yP,c1,c1i,c2,c2i,c3,c3i,hF,need,yk,ym]
      have c3i:(au[i].autos.length:Int)≤8:=by omega
      by_cases c4:au[i].unl.length≤4∧au[i].til.length≤4
      rotate_left
      ·have c45:¬(if au[i].unl.length<au[i].til.length then(au[i].til.length:Int) else(au[i].unl.length:Int))≤4:=by split<;>omega
       have c4n:¬(au[i].unl.length≤4∧au[i].til.length≤4):=c4
       simp[dF,hi,k0,yP,c1,c1i,c2,c2i,c3,c3i,c45,hF,need,yk,ym,c4n]
      have c45:(if au[i].unl.length<au[i].til.length then(au[i].til.length:Int) else(au[i].unl.length:Int))≤4:=by split<;>omega
      have kS:need (decide (au[i].locals.length≤256∧au[i].eqs.length≤256∧au[i].autos.length≤8∧au[i].unl.length≤4∧au[i].til.length≤4)) 3=0:=by
       rw[Cg (by decide),av]; exact⟨c1,c2,c3,c4⟩
      rw[kS,Bu] at de ⊢
      by_cases k1:yj (A0 en false) au[i].locals=0
      rotate_left
      ·simp[dF,hi,k0,yP,c1,c2,c3,c1i,c2i,c3i,c45,hT,iA,Bi k1,C1 k1]
      rw[k1,Bu] at de ⊢
      rw[k1] at iA
      simp[dF,hi,k0,yP,c1,c2,c3,c1i,c2i,c3i,c45,hT,iA]
      refine BR au[i].eqs (BE en) (λj (y:PV×Nat)=>[(5,y.1),(12,.int .i64 j)]) (λ_ y=>y.2) (λ_ _=>h) (x.1.2.1,x.2+1) ?_ ?_ ?_ rfl rfl rfl
      ·intro j hj dx y ih3
       have gA:=yn j (by omega)
       have hc:=HW hL en n a b h hn au[i].eqs[j] (hs.es _ (ak hj))
       rw[dx] at hc
       simp[hj,gA,hc,yP]
       simpa using ih3 (_,_)
      ·intro j hj dx jm y
       have hc:=HW hL en n a b h hn au[i].eqs[j] (hs.es _ (ak hj))
       rw[jm]
       simp[hj,hc,Bi dx,C1 dx]
      ·intro k2 y
       rw[k2,Bu] at de ⊢
       simp
       refine BR au[i].autos (CT en d) (λj (z:PV×Nat)=>[(6,z.1),(15,.int .i64 j)]) (λ_ z=>z.2) (λ_ _=>h) (x.1.2.2.1,y.2) ?_ ?_ ?_ rfl rfl rfl
       ·intro j hj dx z ih3
        have gA:=yn j (by omega)
        have hc:=ih au[i].autos[j] (hs.as _ (ak hj)) (hs.ss _ (ak hj))
        rw[dx] at hc
        simp[hj,gA,p8,hc,yP]
        simpa using ih3 (_,_)
       ·intro j hj dx jm z
        have hc:=ih au[i].autos[j] (hs.as _ (ak hj)) (hs.ss _ (ak hj))
        rw[jm]
        simp[hj,p8,hc,Bi dx,C1 dx]
       ·intro k3 z
        rw[k3,Bu] at de ⊢
        by_cases k4:yj (EY en au.length true) au[i].unl=0
        ·rw[k4,Bu] at de ⊢
         rw[k4] at ir
         simp[ir,mO,yP,Bi de]
        ·simp[ir,Bi k4,C1 k4]
     ·simp[dF,hi,Bi k0,C1 k0]
    ·intro h0 x
     simp[h0,yP]
   ·have kR:¬(au.length:Int)≤8:=by omega
    simp[FX,cV,hT,hF,h1,kP,kw,h2,kR,need,yk,ym]
end
end
end PI.Sc
set_option maxRecDepth 100000
set_option linter.unusedSimpArgs false
set_option linter.unusedVariables false
namespace PI
section
variable {L:Nat→Option PFunc} {V l:List PV} {g:Nat} {h:List PObj}
def Gd (L:Nat→Option PFunc) (f:PFunc) (P:PV×List PObj→Prop) (e:PExit) (st:St):Prop:=∃v h',Dn L f (.val v,h') e st∧P (v,h')
@[simp] theorem b7l (f:PFunc) (P:PV×List PObj→Prop):Gd L f P .normal ⟨V,l,g,h⟩=∃v,zS ⟨V,l,g,h⟩ f.results=some v∧P (v,yV V f.results h):=by
 simp only[Gd,RF,eq_iff_iff]
 constructor
 ·rintro⟨v,h',⟨v',h1,h2⟩,h3⟩
  simp only[ac,Out.val.injEq] at h2
  obtain⟨rfl,rfl⟩:=h2
  exact⟨v,h1,h3⟩
 ·rintro⟨v,h1,h2⟩; exact⟨v,_,⟨v,h1,rfl⟩,h2⟩
@[simp] theorem d1Z (f:PFunc) (P:PV×List PObj→Prop):Gd L f P .ret ⟨V,l,g,h⟩=∃v,zS ⟨V,l,g,h⟩ f.results=some v∧P (v,yV V f.results h):=b7l (L:=L) f P
@[simp] theorem c75 (f:PFunc) (P:PV×List PObj→Prop) (kd:Nat) (cs:List PV) (p:Option PV):Gd L f P (.after kd cs p) ⟨V,l,g,h⟩=(f.code.NR=true∧∃h1 x,Ar L kd (p.getD .nilIface::cs) h=some h1∧zS ⟨V,l,g,h1⟩ f.results=some x∧P (x,yV V f.results h1)):=by
 simp only[Gd,c2f,eq_iff_iff]
 constructor
 ·rintro⟨v,h',⟨h0,h1,x,h2,h3,h4⟩,h5⟩
  simp only[ac,Out.val.injEq] at h4
  obtain⟨rfl,rfl⟩:=h4
  exact⟨h0,h1,v,h2,h3,h5⟩
 ·rintro⟨h0,h1,x,h2,h3,h5⟩; exact⟨x,_,⟨h0,h1,x,h2,h3,rfl⟩,h5⟩
theorem Pf {k:Nat} {f:PFunc} {args:List PV} {hp:List PObj} {P:PV×List PObj→Prop} (hf:L k=some f) (hl:args.length=f.params)
  (hw:wpL L f.code ⟨args.map dem++List.replicate (f.nv - f.params) .dead,[],0,hp⟩ (Gd L f P)) (hs:f.split=false:=by rfl) (gn:f.prim=none:=by rfl) (hr:f.code.isRound=false:=by rfl):∃r,x8 L k args hp=some r∧P r:=by
 rw[DU] at hw
 obtain⟨e,st,h1,v,h',h2,h3⟩:=hw
 exact⟨(v,h'),c4e hf hl (DU.2 ⟨e,st,h1,h2⟩) hs gn hr,h3⟩
def Fg (L:Nat→Option PFunc) (f:PFunc) (P:Out×List PObj→Prop) (e:PExit) (st:St):Prop:=∃r,Dn L f r e st∧P r
@[simp] theorem b88 (f:PFunc) (P:Out×List PObj→Prop):Fg L f P .normal ⟨V,l,g,h⟩=∃v,zS ⟨V,l,g,h⟩ f.results=some v∧P (.val v,yV V f.results h):=by
 simp only[Fg,RF,eq_iff_iff]
 constructor
 ·rintro⟨r,⟨v,h1,rfl⟩,h2⟩; exact⟨v,h1,h2⟩
 ·rintro⟨v,h1,h2⟩; exact⟨_,⟨v,h1,rfl⟩,h2⟩
@[simp] theorem d3V (f:PFunc) (P:Out×List PObj→Prop):Fg L f P .ret ⟨V,l,g,h⟩=∃v,zS ⟨V,l,g,h⟩ f.results=some v∧P (.val v,yV V f.results h):=b88 (L:=L) f P
@[simp] theorem d10 (f:PFunc) (P:Out×List PObj→Prop) (v:PV):Fg L f P (.boom v) ⟨V,l,g,h⟩=P (.boom v,h):=by
 simp only[Fg,c4d,eq_iff_iff]
 exact⟨fun⟨r,h1,h2⟩=>h1▸h2,λh2=>⟨_,rfl,h2⟩⟩
theorem DA {k:Nat} {f:PFunc} {args:List PV} {hp:List PObj} {P:Out×List PObj→Prop} (hf:L k=some f) (hl:args.length=f.params)
  (hw:wpL L f.code ⟨args.map dem++List.replicate (f.nv - f.params) .dead,[],0,hp⟩ (Fg L f P)) (hs:f.split=false:=by rfl) (gn:f.prim=none:=by rfl) (hr:f.code.isRound=false:=by rfl):∃r,yy L k args hp=some r∧P r:=by
 rw[DU] at hw
 obtain⟨e,st,h1,r,h2,h3⟩:=hw
 exact⟨r,Bh hf hl (DU.2 ⟨e,st,h1,h2⟩) hs gn hr,h3⟩
end
end PI
namespace PI.Sc
open Go (IntKind BinOp UnOp)
open Short
def zM (t:Nat):Option Bad→Out
 | none => .val (.tuple [])
 | some b => .boom (zA t b.node b.eq b.err)
section
variable {L:Nat→Option PFunc} (hL:∀k f,LS k=some f→L k=some f)
include hL
theorem RG (en:List Enum) (n:Nat) (a b:Int) (h:List PObj) (hn:h[n]? = some (yG en a b)) (i:Nat) (nd:Node) (gK:NW nd):∃k:Int,yy L 51 [.ptr n 0,.int .i64 i,yx nd] h=some (zM 2 (zZ en nd i),h.set n (yG en i k)):=by
 suffices H:∃r,yy L 51 [.ptr n 0,.int .i64 i,yx nd] h=some r∧∃k:Int,r=(zM 2 (zZ en nd i),h.set n (yG en i k)) by
  obtain⟨r,h1,k,rfl⟩:=H
  exact⟨k,h1⟩
 refine DA (hL 51 _ rfl) rfl ?_
 have cV:n<h.length:=(ah.1 hn).1
 have dY:∀k:Int,PObj.cells [.list false (en.map yu),.int .i64 i,.int .i64 k]=yG en i k:=λ_=>rfl
 have jZ:∀k:Int,(h.set n (yG en i k))[n]? = some (yG en i k):=λk=>by simp[cV]
 have hi:=λs=>HU hL en n i (-1) (h.set n (yG en i (-1))) (jZ _) s
 have hr:=λe=>Ni hL en n i (-1) (h.set n (yG en i (-1))) (jZ _) e
 have hT:=En hL en n i (-1) (h.set n (yG en i (-1))) (jZ _)
 have hF:=DS hL en n i (-1) (h.set n (yG en i (-1))) (jZ _)
 have p9:=HV hL en n i (-1) (h.set n (yG en i (-1))) (jZ _) nd.ins gK.ins gK.is true false
 have rK:=HV hL en n i (-1) (h.set n (yG en i (-1))) (jZ _) nd.outs gK.outs gK.os true false
 have jE:=HV hL en n i (-1) (h.set n (yG en i (-1))) (jZ _) nd.locals gK.locals gK.ls false false
 have iZ:=λ(au:Bc) (h1:au.length≤1100000) (h2:∀x∈au,SW x)=>RE hL en n i (-1) (h.set n (yG en i (-1))) (jZ _) 3 (by omega) au h1 h2
 have mP:AC en nd≠0→zZ en nd i=some ⟨i,-1,AC en nd⟩:=λhh=>by unfold zZ; rw[ai hh]
 obtain⟨RES,eB⟩:∃RES,RES=zZ en nd i:=⟨_,rfl⟩
 rw[← eB]
 have fe:∀e:Int,AC en nd=e→e≠0→RES=some ⟨i,-1,e⟩:=λe h1 h2=>by rw[eB,mP (by rw[h1]; exact h2),h1]
 simp[Lk,hn,yG,yB]
 rw[dY]
 by_cases k0:BF nd.name=0
 rotate_left
 ·have:=fe (BF nd.name) (by unfold AC; exact C1 k0) k0
  rw[this]
  simp[hi,Bi k0,zM]
  exact⟨-1,rfl⟩
 by_cases c12:nd.ins.length≤64∧nd.outs.length≤64
 rotate_left
 ·have hc:¬(if nd.ins.length<nd.outs.length then(nd.outs.length:Int) else(nd.ins.length:Int))≤64:=by split<;>omega
  have := fe 3 (by unfold AC; rw [k0, Bu]; have : ¬ (nd.ins.length ≤ 64 ∧ nd.outs.length ≤ 64 ∧ nd.locals.length ≤ 256 ∧ nd.eqs.length ≤ 256 ∧ nd.autos.length ≤ 8 ∧ nd.assume.length ≤ 8 ∧ nd.ensure.length ≤ 8) := by omega
                   simp only[this,decide_false,HX]; rfl) (by decide)
  rw[this]
  simp[hi,k0,yP,hc,hF,zM]
  exact⟨-1,rfl⟩
 have m12:(if nd.ins.length<nd.outs.length then(nd.outs.length:Int) else(nd.ins.length:Int))≤64:=by split<;>omega
 by_cases c3:nd.locals.length≤256
 rotate_left
 ·have c3i:¬(nd.locals.length:Int)≤256:=by omega
  have := fe 3 (by unfold AC; rw [k0, Bu]; have : ¬ (nd.ins.length ≤ 64 ∧ nd.outs.length ≤ 64 ∧ nd.locals.length ≤ 256 ∧ nd.eqs.length ≤ 256 ∧ nd.autos.length ≤ 8 ∧ nd.assume.length ≤ 8 ∧ nd.ensure.length ≤ 8) := by omega
                   simp only[this,decide_false,HX]; rfl) (by decide)
  rw[this]
  simp[hi,k0,yP,m12,c3,c3i,hF,zM]
  exact⟨-1,rfl⟩
 have c3i:(nd.locals.length:Int)≤256:=by omega
 by_cases c4:nd.eqs.length≤256
 rotate_left
 ·have c4i:¬(nd.eqs.length:Int)≤256:=by omega
  have := fe 3 (by unfold AC; rw [k0, Bu]; have : ¬ (nd.ins.length ≤ 64 ∧ nd.outs.length ≤ 64 ∧ nd.locals.length ≤ 256 ∧ nd.eqs.length ≤ 256 ∧ nd.autos.length ≤ 8 ∧ nd.assume.length ≤ 8 ∧ nd.ensure.length ≤ 8) := by omega
                   simp only[this,decide_false,HX]; rfl) (by decide)
  rw[this]
  simp[hi,k0,yP,m12,c3,c3i,c4,c4i,hF,zM]
  exact⟨-1,rfl⟩
 have c4i:(nd.eqs.length:Int)≤256:=by omega
 by_cases c5:nd.autos.length≤8
 rotate_left
 ·have c5i:¬(nd.autos.length:Int)≤8:=by omega
  have := fe 3 (by unfold AC; rw [k0, Bu]; have : ¬ (nd.ins.length ≤ 64 ∧ nd.outs.length ≤ 64 ∧ nd.locals.length ≤ 256 ∧ nd.eqs.length ≤ 256 ∧ nd.autos.length ≤ 8 ∧ nd.assume.length ≤ 8 ∧ nd.ensure.length ≤ 8) := by omega
                   simp only[this,decide_false,HX]; rfl) (by decide)
  rw[this]
  simp[hi,k0,yP,m12,c3,c3i,c4,c4i,c5,c5i,hF,zM]
  exact⟨-1,rfl⟩
 have c5i:(nd.autos.length:Int)≤8:=by omega
 by_cases c67:nd.assume.length≤8∧nd.ensure.length≤8
 rotate_left
 ·have m67:¬(if nd.assume.length<nd.ensure.length then(nd.ensure.length:Int) else(nd.assume.length:Int))≤8:=by split<;>omega
  have := fe 3 (by unfold AC; rw [k0, Bu]; have : ¬ (nd.ins.length ≤ 64 ∧ nd.outs.length ≤ 64 ∧ nd.locals.length ≤ 256 ∧ nd.eqs.length ≤ 256 ∧ nd.autos.length ≤ 8 ∧ nd.assume.length ≤ 8 ∧ nd.ensure.length ≤ 8) := by omega
                   simp only[this,decide_false,HX]; rfl) (by decide)
  rw[this]
  simp[hi,k0,yP,m12,c3,c3i,c4,c4i,c5,c5i,m67,hF,zM]
  exact⟨-1,rfl⟩
 have m67:(if nd.assume.length<nd.ensure.length then(nd.ensure.length:Int) else(nd.assume.length:Int))≤8:=by split<;>omega
 have kS:need (decide (nd.ins.length≤64∧nd.outs.length≤64∧nd.locals.length≤256∧nd.eqs.length≤256∧nd.autos.length≤8∧nd.assume.length≤8∧nd.ensure.length≤8)) 3=0:=by
  rw[Cg (by decide),av]; omega
 have hH:AC en nd=yk (need (decide (nd.outs≠[])) 8) (yk (yj (A0 en true) nd.ins) (yk (yj (A0 en true) nd.outs) (yj (A0 en false) nd.locals))):=by
  unfold AC; rw[k0,Bu,kS,Bu]
 by_cases o1:nd.outs=[]
 ·have o1p:¬0<nd.outs.length:=by simp[o1]
  have o1q:¬(0:Int)<nd.outs.length:=by omega
  have:=fe 8 (by rw[hH]; simp[o1,yk]) (by decide)
  rw[this]
  simp[hi,k0,yP,m12,c3,c3i,c4,c4i,c5,c5i,m67,hT,tf o1,o1p,o1q,hF,zM]
  exact⟨-1,rfl⟩
 have o1n:0<nd.outs.length:=bI.2 o1
 have o1i:(0:Int)<nd.outs.length:=by omega
 have eZ:AC en nd=yk (yj (A0 en true) nd.ins) (yk (yj (A0 en true) nd.outs) (yj (A0 en false) nd.locals)):=by
  rw[hH]; simp[o1]
 by_cases z1:yj (A0 en true) nd.ins=0
 rotate_left
 ·have:=fe _ (by rw[eZ]; exact C1 z1) z1
  rw[this]
  simp[hi,k0,yP,m12,c3,c3i,c4,c4i,c5,c5i,m67,hT,o1,o1n,o1i,p9,Bi z1,zM]
  exact⟨-1,rfl⟩
 rw[z1,Bu] at eZ
 rw[z1] at p9
 by_cases z2:yj (A0 en true) nd.outs=0
 rotate_left
 ·have:=fe _ (by rw[eZ]; exact C1 z2) z2
  rw[this]
  simp[hi,k0,yP,m12,c3,c3i,c4,c4i,c5,c5i,m67,hT,o1,o1n,o1i,p9,rK,Bi z2,zM]
  exact⟨-1,rfl⟩
 rw[z2,Bu] at eZ
 rw[z2] at rK
 by_cases z3:yj (A0 en false) nd.locals=0
 rotate_left
 ·have:=fe _ eZ z3
  rw[this]
  simp[hi,k0,yP,m12,c3,c3i,c4,c4i,c5,c5i,m67,hT,o1,o1n,o1i,p9,rK,jE,Bi z3,zM]
  exact⟨-1,rfl⟩
 rw[z3] at jE eZ
 have wF:=gK.eqs
 have gw:RES=match AH (BE en) nd.eqs 0 with
  | some (k,e)=>some ⟨i,k,e⟩
  | none=>if BW en nd≠0 then some ⟨i,-1,BW en nd⟩ else none:=by
  rw[eB]; unfold zZ; rw[ae (by simpa using eZ)]<;>rfl
 clear fe mP eB
 simp[hi,k0,yP,m12,c3,c3i,c4,c4i,c5,c5i,m67,hT,o1,o1n,o1i,p9,rK,jE]
 refine Nj nd.eqs (λ_ q=>decide (BE en q=0)) (λj (x:(PV×PV)×Nat)=>[(4,x.1.1),(5,x.1.2),(11,.int .i64 j)]) (λ_ x=>x.2) (λj _=>h.set n (yG en i ((j:Int) - 1))) ((.dead,.dead),1) ?_ ?_ ?_ rfl rfl rfl
 ·intro j hj de x ih
  have hw:=yn j (by omega)
  rw[av] at de
  have hc:=HW hL en n i j (h.set n (yG en i j)) (jZ _) nd.eqs[j] (gK.es _ (ak hj))
  rw[de] at hc
  have ih:=λy=>ih y
  rw[show ((j+1:Nat):Int) - 1=j by omega] at ih
  have mb:=dY j
  simp[hj,cV,yG,Ac]
  simp only[mb]
  simp[hc,yP,hw]
  simpa using ih ((_,_),_)
 ·intro j hj de gq x
  rw[cm] at de
  have hc:=HW hL en n i j (h.set n (yG en i j)) (jZ _) nd.eqs[j] (gK.es _ (ak hj))
  have oX:=RH (f:=BE en) (j:=0) hj de (λk hk h1=>by have:=gq k hk h1; simpa using this)
  rw[oX,aS] at gw
  simp only at gw
  rw[gw]
  have mb:=dY j
  simp[hj,cV,yG,Ac]
  simp only[mb]
  simp[hc,Bi de,zM]
  exact⟨j,rfl⟩
 ·intro dJ x
  have oX:AH (BE en) nd.eqs 0=none:=JH.2 (λq hq=>by obtain⟨k,hk,rfl⟩:=bH.1 hq; simpa using dJ k hk)
  rw[oX] at gw
  simp only at gw
  have mb:=dY (-1)
  simp[cV,yG,Ac]
  simp only[mb]
  have las:=gK.assume
  have lgs:=gK.ensure
  refine BR nd.autos (CT en 3) (λj (y:PV×Nat)=>[(6,y.1),(14,.int .i64 j)]) (λ_ y=>y.2) (λ_ _=>h.set n (yG en i (-1))) (.dead,x.2) ?_ ?_ ?_ rfl rfl rfl
  ·intro j hj de y ih
   have hw:=yn j (by have:=gK.autos.len; omega)
   have hc:=iZ nd.autos[j] (gK.autos.as _ (ak hj)) (gK.autos.ss _ (ak hj))
   rw[de] at hc
   simp at hc
   simp[hj,hc,yP,hw]
   simpa using ih (_,_)
  ·intro j hj de hf y
   have hc:=iZ nd.autos[j] (gK.autos.as _ (ak hj)) (gK.autos.ss _ (ak hj))
   have ht:BW en nd=CT en 3 nd.autos[j]:=by unfold BW; rw[hf]; exact C1 de
   rw[ht,ai de] at gw
   rw[gw]
   simp at hc
   simp[hj,hc,Bi de,zM]
   exact⟨-1,rfl⟩
  ·intro e1 y
   simp
   refine BR nd.assume (Ch en) (λj (y:PV×Nat)=>[(7,y.1),(17,.int .i64 j)]) (λ_ y=>y.2) (λ_ _=>h.set n (yG en i (-1))) (.dead,y.2) ?_ ?_ ?_ rfl rfl rfl
   ·intro j hj de z ih
    have hw:=yn j (by omega)
    obtain⟨h',hx⟩:=FA hL en nd.assume[j] (gK.as _ (ak hj)) false
    rw[de] at hx
    have ez:yh 1 false [PV.list false (en.map yu),.int .i64 i,.int .i64 (-1)] 0=some (.list false (en.map yu)):=rfl
    simp[hj,cV,hw]
    simp only[yG]
    simp[hx]
    simp only[mb]
    simp[hr,yP,hw]
    simpa using ih (_,_)
   ·intro j hj de hf z
    obtain⟨h',hx⟩:=FA hL en nd.assume[j] (gK.as _ (ak hj)) false
    have ht:BW en nd=Ch en nd.assume[j]:=by unfold BW; rw[e1,Bu,hf]; exact C1 de
    rw[ht,ai de] at gw
    rw[gw]
    simp[hj,cV]
    simp only[yG]
    simp[hx]
    simp only[mb]
    simp[hr,Bi de,zM]
    exact⟨-1,rfl⟩
   ·intro e2 z
    simp
    refine BR nd.ensure (Ch en) (λj (y:PV×Nat)=>[(8,y.1),(20,.int .i64 j)]) (λ_ y=>y.2) (λ_ _=>h.set n (yG en i (-1))) (.dead,z.2) ?_ ?_ ?_ rfl rfl rfl
    ·intro j hj de u ih
     have hw:=yn j (by omega)
     obtain⟨h',hx⟩:=FA hL en nd.ensure[j] (gK.gs _ (ak hj)) false
     rw[de] at hx
     simp[hj,cV,hw]
     simp only[yG]
     simp[hx]
     simp only[mb]
     simp[hr,yP,hw]
     simpa using ih (_,_)
    ·intro j hj de hf u
     obtain⟨h',hx⟩:=FA hL en nd.ensure[j] (gK.gs _ (ak hj)) false
     have ht:BW en nd=Ch en nd.ensure[j]:=by unfold BW; rw[e1,Bu,e2,Bu,hf]
     rw[ht,ai de] at gw
     rw[gw]
     simp[hj,cV]
     simp only[yG]
     simp[hx]
     simp only[mb]
     simp[hr,Bi de,zM]
     exact⟨-1,rfl⟩
    ·intro e3 u
     have ht:BW en nd=0:=by unfold BW; rw[e1,e2,e3]; rfl
     rw[ht] at gw
     simp only[ne_eq,bA,if_false] at gw
     rw[gw]
     simp[zM]
     exact⟨-1,rfl⟩
theorem rec48 (w1 w2 c a b e:Int) (o:PObj):Ar L 48 [zA 2 a b e,.ptr 0 0,.ptr 1 0] [.cells [.int .i64 w1,.int .i64 w2],.cells [.int .i64 c],o]=some [.cells [.int .i64 a,.int .i64 b],.cells [.int .i64 e],o]:=by
 unfold Ar
 rw[hL 48 _ rfl]
 simp[Lj,CL,zA]
theorem d11 (w1 w2 c:Int) (o:PObj):Ar L 48 [.nilIface,.ptr 0 0,.ptr 1 0] [.cells [.int .i64 w1,.int .i64 w2],.cells [.int .i64 c],o]=some [.cells [.int .i64 w1,.int .i64 w2],.cells [.int .i64 c],o]:=by
 unfold Ar
 rw[hL 48 _ rfl]
 simp[Lj,CL]
theorem c5l (p:Prog) (hp:PW p):∃h',x8 L 23 [zh p] []=some (A7 (BN (Ba p)),h'):=by
 suffices H:∃r,x8 L 23 [zh p] []=some r∧r.1=A7 (BN (Ba p)) by
  obtain⟨⟨v,h'⟩,h1,h2⟩:=H
  exact⟨h',by rw[h1]; simp only at h2; rw[h2]⟩
 refine Pf (hL 23 _ rfl) rfl ?_
 obtain⟨H,hH⟩:∃H:PObj→List PObj,∀o,H o=[.cells [.int .i64 0,.int .i64 0],.cells [.int .i64 0],o]:=⟨_,λ_=>rfl⟩
 have jZ:∀o,(H o)[2]? = some o:=λo=>by rw[hH]; rfl
 have hT:=En hL p.enums 2 (-1) (-1) [.cells [.int .i64 0,.int .i64 0],.cells [.int .i64 0],yG p.enums (-1) (-1)] rfl
 have hF:=DS hL p.enums 2 (-1) (-1) [.cells [.int .i64 0,.int .i64 0],.cells [.int .i64 0],yG p.enums (-1) (-1)] rfl
 have lG:=c73 hL p.enums 2 (-1) (-1) [.cells [.int .i64 0,.int .i64 0],.cells [.int .i64 0],yG p.enums (-1) (-1)] rfl
 have dY:PObj.cells [PV.list false (p.enums.map yu),.int .i64 (-1),.int .i64 (-1)]=yG p.enums (-1) (-1):=rfl
 have l1:=hp.enums
 have l2:=hp.nodes
 have eo:=rec48 hL 0 0 0
 have qd:=d11 hL 0 0 0
 simp[Li]
 rw[Pg (cs:=[.ptr 0 0,.ptr 1 0]) _ _ _ rfl (by simp)]
 unfold Ba
 by_cases c1:p.enums.length≤24
 rotate_left
 ·have c1i:¬(p.enums.length:Int)≤24:=by omega
  simp[dY,c1,c1i,hF,eo,BN,A7,yh]
  rfl
 have c1i:(p.enums.length:Int)≤24:=by omega
 by_cases c2:p.nodes.length≤96
 rotate_left
 ·have c2i:¬(p.nodes.length:Int)≤96:=by omega
  simp[dY,c1,c1i,c2,c2i,hF,eo,BN,A7,yh]
  rfl
 have c2i:(p.nodes.length:Int)≤96:=by omega
 rw[ae (by simp[c1,c2])]
 obtain⟨RES,eB⟩:∃RES,RES=(if yj EX p.enums≠0 then some ⟨-1,-1,yj EX p.enums⟩ else AG p.enums p.nodes 0):=⟨_,rfl⟩
 rw[← eB]
 simp[dY,c1,c1i,c2,c2i,hT]
 refine BR p.enums EX (λi (x:PV×Nat)=>[(5,x.1),(11,.int .i64 i)]) (λ_ x=>x.2) (λ_ _=>[.cells [.int .i64 0,.int .i64 0],.cells [.int .i64 0],yG p.enums (-1) (-1)]) (.dead,1) ?_ ?_ ?_ rfl rfl rfl
 ·intro i hi de x ih
  have hw:=yn i (by omega)
  have hc:=lG p.enums[i] (hp.tags _ (ak hi))
  rw[de] at hc
  simp[hi,hw,hc,yP]
  simpa using ih (_,_)
 ·intro i hi de hf x
  have hc:=lG p.enums[i] (hp.tags _ (ak hi))
  rw[hf,ai de] at eB
  subst eB
  simp[hi,hc,Bi de,eo,BN,A7,yh]
  rfl
 ·intro e1 x
  rw[e1,ae (by simp)] at eB
  simp
  refine Nj p.nodes (λi nd=>(zZ p.enums nd i).isNone) (λi (y:((PV×PV)×Nat)×Int×Int)=>[(6,y.1.1.1),(7,y.1.1.2),(14,.int .i64 i)]) (λ_ y=>y.1.2) (λ_ y=>[.cells [.int .i64 0,.int .i64 0],.cells [.int .i64 0],yG p.enums y.2.1 y.2.2]) (((.dead,.dead),x.2),-1,-1) ?_ ?_ ?_ rfl rfl rfl
  ·intro i hi de y ih
   have hw:=yn i (by omega)
   obtain⟨k,hc⟩:=RG hL p.enums 2 y.2.1 y.2.2 [.cells [.int .i64 0,.int .i64 0],.cells [.int .i64 0],yG p.enums y.2.1 y.2.2] rfl i p.nodes[i] (hp.ns _ (ak hi))
   rw[Option.isNone_iff_eq_none] at de
   rw[de] at hc
   simp[zM] at hc
   simp[hi,hw,hc]
   simpa using ih (((_,_),_),i,k)
  ·intro i hi de gq y
   obtain⟨k,hc⟩:=RG hL p.enums 2 y.2.1 y.2.2 [.cells [.int .i64 0,.int .i64 0],.cells [.int .i64 0],yG p.enums y.2.1 y.2.2] rfl i p.nodes[i] (hp.ns _ (ak hi))
   obtain⟨b,hb⟩:∃b,zZ p.enums p.nodes[i] i=some b:=by
    cases hx:zZ p.enums p.nodes[i] i with
    | none=>rw[hx] at de; simp at de
    | some b=>exact⟨b,rfl⟩
   have dQ:AG p.enums p.nodes 0=some b:=RI hi (by rw[aS]; exact hb) (λk hk h1=>by have:=gq k hk h1; rw[Option.isNone_iff_eq_none] at this; rw[aS]; exact this)
   rw[hb] at hc
   rw[dQ] at eB
   subst eB
   simp[zM] at hc
   simp[hi,hc,eo,BN,A7,yh]
   rfl
  ·intro dJ y
   have dQ:AG p.enums p.nodes 0=none:=RJ (λk hk=>by have:=dJ k hk; rw[Option.isNone_iff_eq_none] at this; rw[aS]; exact this)
   rw[dQ] at eB
   subst eB
   simp[yB,qd,BN,Eb,A7,yh]
   rfl
end
end PI.Sc
set_option maxRecDepth 100000
set_option linter.unusedSimpArgs false
set_option linter.unusedVariables false
namespace PI.Sc
open Go (IntKind BinOp UnOp)
open Short
def Bp (k:Int×Str):PV := .agg [.int .i64 k.1,.str k.2]
def HY (x:(Int×Str)×Int):PV×PV:=(Bp x.1,.int .i64 x.2)
abbrev zJ:=List ((Int×Str)×Int)
def AY (l:zJ):List (Int×Str):=l.map (·.1)
def yv (l:zJ):PObj := .map (l.map HY)
def yo (en:List Enum) (ns:List Node) (a b:Int):PObj := .cells [.list false (en.map yu),.list false (ns.map yx),.int .i64 a,.int .i64 b,.map (some 2)]
def At (k:Int×Str):zJ→Option Int
 | []=>none
 | x::l=>if k=x.1 then some x.2 else At k l
theorem Fi {k:Int×Str}:∀{l:zJ},At k l=none↔k∉AY l
 | []=>by simp[At,AY]
 | x :: l => by
   have:=Fi (k:=k) (l:=l)
   by_cases h:k=x.1<;>simp[At,AY,h] at this ⊢<;>exact this
theorem d13 (a b:Int×Str):peq true [.i,.s] (Bp a) (Bp b)=some (decide (a=b)):=by
 obtain⟨a1,a2⟩:=a
 obtain⟨b1,b2⟩:=b
 simp only[Bp,peq,if_true,A5,Bm,aw,aH,aa,bu,ac]
 rw[aR]; simp
theorem HZ (k:Int×Str):∀(l:zJ) (i:Nat),∃r,zu true [.i,.s] (Bp k) (l.map HY) i=some r∧r.map (·.2)=(At k l).map (PV.int .i64)
 | [],i=>⟨none,by simp[zu,Bp],rfl⟩
 | x :: l, i => by
   have he:peq true [.i,.s] (Bp k) (HY x).1=some (decide (k=x.1)):=d13 k x.1
   by_cases hx:k=x.1
   ·subst hx
    refine⟨some (i,.int .i64 x.2),?_,by simp[At]⟩
    simp only[az,zu,he,aw,decide_true,if_true]
    rfl
   ·obtain⟨r,h1,h2⟩:=HZ k l (i+1)
    refine⟨r,?_,by simp[At,hx,h2]⟩
    simp only[az,zu,he,aw,hx,decide_false,aL,if_false,h1]
def bmE (l:List Str):List (PV×PV):=l.map λs=>(.str s,.bool true)
def CK (l:List Str) (x:Str):List Str:=if x∈l then l else l++[x]
theorem IR {l:List Str} {x y:Str}:y∈CK l x↔y∈l∨y=x:=by
 unfold CK; split
 ·rename_i h
  exact⟨.inl,λhh=>hh.elim id λe=>e▸h⟩
 ·simp
theorem RK (x:Str):∀(l:List Str) (i:Nat),(x∉l→zu false [.s] (.str x) (bmE l) i=some none)∧(x∈l→∃j,zu false [.s] (.str x) (bmE l) i=some (some (i+j,.bool true))∧l[j]? = some x)
 | [],i=>⟨λ_=>rfl,λh=>by simp at h⟩
 | y :: l, i => by
   have he:peq false [.s] (.str x) (.str y)=some (x==y):=rfl
   obtain⟨h1,h2⟩:=RK x l (i+1)
   constructor
   ·intro h
    simp only[aA,not_or] at h
    have hb:(x==y)=false:=by simpa using h.1
    simp only[bmE,az,zu,he,aw,hb,aL,if_false]
    exact h1 h.2
   ·intro h
    by_cases hx:x=y
    ·subst hx
     exact⟨0,by simp[bmE,zu,he],rfl⟩
    ·have hb:(x==y)=false:=by simpa using hx
     obtain⟨j,h3,h4⟩:=h2 (by simpa[hx] using h)
     refine⟨j+1,?_,by simpa using h4⟩
     simp only[bmE,az,zu,he,aw,hb,aL,if_false]
     rw[show i+(j+1)=i+1+j by omega]
     exact h3
theorem Da (x:Str) (l:List Str):∃r,zu false [.s] (.str x) (bmE l) 0=some r∧r.map (·.2)=(if x∈l then some (PV.bool true) else none)∧Ej (bmE l) (.str x) (.bool true) r=bmE (CK l x):=by
 obtain⟨h1,h2⟩:=RK x l 0
 by_cases h:x∈l
 ·obtain⟨j,h3,h4⟩:=h2 h
  refine⟨_,h3,by simp[h],?_⟩
  obtain⟨hj,hx⟩:=ah.1 h4
  simp only[b77,CK,h,if_true,aS]
  have:(bmE l)[j]'(by simpa[bmE] using hj)=(.str x,.bool true):=by simp[bmE,hx]
  rw[← this,List.set_getElem_self]
 ·exact⟨none,h1 h,by simp[h],by simp[CK,h,bmE]⟩
structure Fr where
 O:List Str
 D:List Str
 I:List Str
 df:List Str
def Kp (b:Nat) (h h':List PObj):Prop:=h.length≤h'.length∧∀n,n<b→h'[n]? = h[n]?
theorem Kp.refl (b:Nat) (h:List PObj):Kp b h h:=⟨an _,λ_ _=>rfl⟩
theorem Kp.trans {b:Nat} {h h' h'':List PObj} (h1:Kp b h h') (h2:Kp b h' h''):Kp b h h'':=⟨aD h1.1 h2.1,λn hn=>(h2.2 n hn).trans (h1.2 n hn)⟩
theorem Kp.le {b b':Nat} {h h':List PObj} (h1:Kp b h h') (hb:b'≤b):Kp b' h h':=⟨h1.1,λn hn=>h1.2 n (by omega)⟩
theorem Kp.app {b:Nat} {h e:List PObj} (hb:b≤h.length):Kp b h (h++e):=⟨by simp,λn hn=>by rw[al (by omega)]⟩
theorem Kp.set {b n:Nat} {h:List PObj} {o:PObj} (hb:b≤n):Kp b h (h.set n o):=⟨by simp,λk hk=>by rw[af (by omega)]⟩
def RL (h:List PObj) (b' b:Nat) (dv:PV) (df:List Str):Prop:=(dv = .list true []∧df=[])∨∃k,b'≤k∧k<b∧dv = .rowp k 1 false df.length∧h[k]? = some (.cells (df.map PV.str))
def Holds (h:List PObj):Nat→PV→List Fr→Prop
 | b,v,[]=>v = .nilptr
 | b, v, f :: fs => ∃ (b' n o d : Nat) (i dv up : PV), v = .ptr n 0 ∧ b' ≤ n ∧ b' ≤ o ∧ b' ≤ d ∧ n < b ∧ o < b ∧ d < b ∧ n ≠ o ∧ n ≠ d ∧ o ≠ d ∧ 4 ≤ b' ∧ h[n]? = some (.cells [up, .map (some o), .map (some d), i, dv]) ∧ h[o]? = some (.map (bmE f.O)) ∧ h[d]? = some (.map (bmE f.D)) ∧
   ((i = .map none∧f.I=[])∨∃m,i = .map (some m)∧b'≤m∧m<b∧m≠n∧m≠o∧m≠d∧h[m]? = some (.map (bmE f.I)))∧RL h b' b dv f.df∧(∀k s a len,dv = .rowp k s a len→k≠n∧k≠o∧k≠d∧i≠.map (some k))∧Holds h b' up fs
theorem Holds.keep {h h':List PObj}:∀{fs:List Fr} {b:Nat} {v:PV},Holds h b v fs→(∀n,n<b→h'[n]? = h[n]?)→Holds h' b v fs
 | [],b,v,hh,_=>hh
 | f :: fs, b, v, hh, hk => by
   obtain⟨b',n,o,d,i,dv,up,h1,h2,h3,h4,h5,h6,h7,h8,h9,kI,qe,gQ,nS,mc,oY,qf,qg,j4⟩:=hh
   refine⟨b',n,o,d,i,dv,up,h1,h2,h3,h4,h5,h6,h7,h8,h9,kI,qe,(hk _ h5).trans gQ,(hk _ h6).trans nS,(hk _ h7).trans mc,?_,?_,qg,j4.keep λk dq=>hk k (by omega)⟩
   ·rcases oY with h|⟨m,e1,e2,e3,e4,e5,e6,e7⟩
    ·exact .inl h
    ·exact .inr ⟨m,e1,e2,e3,e4,e5,e6,(hk _ e3).trans e7⟩
   ·rcases qf with h|⟨k,e1,e2,e3,e4⟩
    ·exact .inl h
    ·exact .inr ⟨k,e1,e2,e3,(hk _ e2).trans e4⟩
theorem Holds.up {h:List PObj}:∀{fs:List Fr} {b c:Nat} {v:PV},Holds h b v fs→b≤c→Holds h c v fs
 | [],b,c,v,hh,_=>hh
 | f :: fs, b, c, v, hh, hk => by
   obtain⟨b',n,o,d,i,dv,up,h1,h2,h3,h4,h5,h6,h7,h8,h9,kI,qe,gQ,nS,mc,oY,qf,qg,j4⟩:=hh
   refine⟨b',n,o,d,i,dv,up,h1,h2,h3,h4,by omega,by omega,by omega,h8,h9,kI,qe,gQ,nS,mc,?_,?_,qg,j4⟩
   ·rcases oY with h|⟨m,e1,e2,e3,e4,e5,e6,e7⟩
    ·exact .inl h
    ·exact .inr ⟨m,e1,e2,by omega,e4,e5,e6,e7⟩
   ·rcases qf with h|⟨k,e1,e2,e3,e4⟩
    ·exact .inl h
    ·exact .inr ⟨k,e1,by omega,e3,e4⟩
theorem Holds.ptr {h:List PObj} {fs:List Fr} {b:Nat} {v:PV} (hv:Holds h b v fs):v = .nilptr∨∃n,v = .ptr n 0:=by
 cases fs with
 | nil=>exact .inl hv
 | cons f fs=>obtain⟨_,n,_,_,_,_,_,e,_⟩:=hv; exact .inr ⟨n,e⟩
theorem Holds.cp {h:List PObj} {fs:List Fr} {b:Nat} {v:PV} (hv:Holds h b v fs):cp v=some v:=by rcases hv.ptr with rfl|⟨n,rfl⟩<;>rfl
theorem Holds.tkv {h:List PObj} {fs:List Fr} {b:Nat} {v:PV} (hv:Holds h b v fs):tkv v=some (v,false):=by rcases hv.ptr with rfl|⟨n,rfl⟩<;>rfl
theorem Holds.dem {h:List PObj} {fs:List Fr} {b:Nat} {v:PV} (hv:Holds h b v fs):dem v=v:=by rcases hv.ptr with rfl|⟨n,rfl⟩<;>rfl
def zn (fs:List Fr) (x:Str):Bool:=fs.any λf=>decide (x∈f.O)
def A6 (fs:List Fr) (x:Str):Bool:=fs.any λf=>decide (x∈f.D)||decide (x∈f.I)
section
variable {L:Nat→Option PFunc} (hL:∀k f,LS k=some f→L k=some f) (en:List Enum) (ns:List Node) (a b:Int)
include hL
section
variable (h:List PObj) (h3:h[3]? = some (yo en ns a b))
include h3
theorem DB (e:Int):yy L 57 [.ptr 3 0,.bool true,.int .i64 e] h=some (.val (.tuple []),h):=by
 have _:=h3
 refine Bh (hL 57 _ rfl) rfl ?_
 simp[I4]
theorem DC (e:Int):yy L 57 [.ptr 3 0,.bool false,.int .i64 e] h=some (.boom (zA 1 a b e),h):=by
 refine Bh (hL 57 _ rfl) rfl ?_
 simp[I4,h3,yo,zA]
theorem KY (l:zJ) (h2:h[2]? = some (yv l)) (k:Int×Str) (i:Int) (hk:k∈AY l):yy L 28 [.ptr 3 0,Bp k,.int .i64 i] h=some (.boom (zA 1 a b 7),h):=by
 have hm:=DC hL en ns a b h h3 7
 obtain⟨r,h4,h5⟩:=HZ k l 0
 cases r with
 | none =>
   have:At k l=none:=by simpa using h5.symm
   exact absurd hk (Fi.1 this)
 | some r =>
   obtain⟨j,v⟩:=r
   obtain⟨z,rfl⟩:∃z,v = .int .i64 z:=by
    cases he:At k l with
    | none=>rw[he] at h5; simp at h5
    | some z=>rw[he] at h5; exact⟨z,by simpa using h5⟩
   refine Bh (hL 28 _ rfl) rfl ?_
   have fF:Bp k = .agg [.int .i64 k.1,.str k.2]:=rfl
   rw[fF] at h4 ⊢
   simp[I1,h4,h3,h2,yo,yv,hm,EZ]
theorem KZ (l:zJ) (h2:h[2]? = some (yv l)) (k:Int×Str) (i:Int) (hk:k∉AY l):yy L 28 [.ptr 3 0,Bp k,.int .i64 i] h=some (.val (.tuple []),h.set 2 (yv (l++[(k,i)]))):=by
 have hm:=DB hL en ns a b h h3 7
 obtain⟨r,h4,h5⟩:=HZ k l 0
 rw[Fi.2 hk] at h5
 simp only[b9,Option.map_eq_none_iff] at h5
 subst h5
 refine Bh (hL 28 _ rfl) rfl ?_
 have fF:Bp k = .agg [.int .i64 k.1,.str k.2]:=rfl
 have e3:yv (l++[(k,i)]) = .map (l.map HY++[(.agg [.int .i64 k.1,.str k.2],.int .i64 i)]):=by simp[yv,HY,Bp]
 rw[e3]
 rw[fF] at h4 ⊢
 simp[I1,h4,h3,h2,yo,yv,hm,EZ]
end
theorem JR (x:Str):∀(fs:List Fr) (h:List PObj) (b:Nat) (v:PV),Holds h b v fs→x8 L 97 [v,.str x] h=some (.bool (zn fs x),h):=by
 have key:∀(fs:List Fr) (h:List PObj) (b:Nat) (v:PV),Holds h b v fs→wpL L G9 ⟨[v,.str x,.bool false],[],0,h⟩ (Dz 0 (El L (S (R [t 2 F]) Y) (Ek FY.results (.bool (zn fs x),h)))):=by
  intro fs
  induction fs with
  | nil =>
    intro h b v hv
    have hv:v = .nilptr:=hv
    subst hv
    rw[G9,Ct]
    simp[FY,zn]
  | cons f fs ih =>
    intro h b v hv
    obtain⟨b',n,o,d,i,dv,up,h1,h2,h3,h4,h5,h6,h7,h8,h9,kI,qe,gQ,nS,mc,oY,qf,qg,j4⟩:=hv
    subst h1
    obtain⟨r,hr,ft,_⟩:=Da x f.O
    rw[G9,Ct]
    by_cases hx:x∈f.O
    ·simp[hx] at ft
     obtain⟨j,rfl⟩:=ft
     simp[gQ,nS,hr,zi,FY,zn,hx]
    ·simp[hx] at ft
     subst ft
     simp[gQ,nS,hr,zi,j4.cp,j4.tkv]
     have:=ih h b' up j4
     rw[G9] at this
     simpa[zn,hx] using this
 intro fs h b v hv
 refine yp (hL 97 _ rfl) rfl ?_
 simpa[FY,hv.dem] using key fs h b v hv
theorem c1p (x:Str):∀(fs:List Fr) (h:List PObj) (b:Nat) (v:PV),Holds h b v fs→x8 L 98 [v,.str x] h=some (.bool (A6 fs x),h):=by
 have key:∀(fs:List Fr) (h:List PObj) (b:Nat) (v:PV),Holds h b v fs→wpL L Ha ⟨[v,.str x,.bool false],[],0,h⟩ (Dz 0 (El L (S (R [t 2 F]) Y) (Ek Fk.results (.bool (A6 fs x),h)))):=by
  intro fs
  induction fs with
  | nil =>
    intro h b v hv
    have hv:v = .nilptr:=hv
    subst hv
    rw[Ha,Ct]
    simp[Fk,A6]
  | cons f fs ih =>
    intro h b v hv
    obtain⟨b',n,o,d,i,dv,up,h1,h2,h3,h4,h5,h6,h7,h8,h9,kI,qe,gQ,nS,mc,oY,qf,qg,j4⟩:=hv
    subst h1
    obtain⟨r,hr,ft,_⟩:=Da x f.D
    have eo:=ih h b' up j4
    rw[Ha] at eo
    rw[Ha,Ct]
    by_cases hx:x∈f.D
    ·simp[hx] at ft
     obtain⟨j,rfl⟩:=ft
     simp[gQ,mc,hr,zi,Fk,A6,hx]
    ·simp[hx] at ft
     subst ft
     rcases oY with⟨rfl,hI⟩|⟨m,rfl,_,_,_,_,_,hm⟩
     ·simp[gQ,mc,hr,zi,zu,j4.cp,j4.tkv]
      simpa[A6,hx,hI] using eo
     ·obtain⟨r,gL,iq,_⟩:=Da x f.I
      by_cases hy:x∈f.I
      ·simp[hy] at iq
       obtain⟨j,rfl⟩:=iq
       simp[gQ,mc,hr,gL,hm,zi,Fk,A6,hx,hy]
      ·simp[hy] at iq
       subst iq
       simp[gQ,mc,hr,gL,hm,zi,j4.cp,j4.tkv]
       simpa[A6,hx,hy] using eo
 intro fs h b v hv
 refine yp (hL 98 _ rfl) rfl ?_
 simpa[Fk,hv.dem] using key fs h b v hv
end
structure TopAt (h:List PObj) (b b' n o d:Nat) (i dv up:PV) (f:Fr) (fs:List Fr):Prop where
 ln:b'≤n
 lo:b'≤o
 ld:b'≤d
 un:n<b
 uo:o<b
 ud:d<b
 no:n≠o
 nd:n≠d
 od:o≠d
 four:4≤b'
 hn:h[n]? = some (.cells [up,.map (some o),.map (some d),i,dv])
 ho:h[o]? = some (.map (bmE f.O))
 hd:h[d]? = some (.map (bmE f.D))
 hi:(i = .map none∧f.I=[])∨∃m,i = .map (some m)∧b'≤m∧m<b∧m≠n∧m≠o∧m≠d∧h[m]? = some (.map (bmE f.I))
 row:RL h b' b dv f.df
 rne:∀k s a len,dv = .rowp k s a len→k≠n∧k≠o∧k≠d∧i≠.map (some k)
 hup:Holds h b' up fs
theorem TopAt.holds {h:List PObj} {b b' n o d:Nat} {i dv up:PV} {f:Fr} {fs:List Fr} (t:TopAt h b b' n o d i dv up f fs):Holds h b (.ptr n 0) (f::fs):=
 ⟨b',n,o,d,i,dv,up,rfl,t.ln,t.lo,t.ld,t.un,t.uo,t.ud,t.no,t.nd,t.od,t.four,t.hn,t.ho,t.hd,t.hi,t.row,t.rne,t.hup⟩
section
variable {h h':List PObj} {b b' n o d:Nat} {i dv up:PV} {f:Fr} {fs:List Fr}
theorem TopAt.keep (t:TopAt h b b' n o d i dv up f fs) (hk:∀n,n<b→h'[n]? = h[n]?):TopAt h' b b' n o d i dv up f fs where
 ln:=t.ln
 lo:=t.lo
 ld:=t.ld
 un:=t.un
 uo:=t.uo
 ud:=t.ud
 no:=t.no
 nd:=t.nd
 od:=t.od
 four:=t.four
 hn:=(hk _ t.un).trans t.hn
 ho:=(hk _ t.uo).trans t.ho
 hd:=(hk _ t.ud).trans t.hd
 hi:=by
  rcases t.hi with h|⟨m,e1,e2,e3,e4,e5,e6,e7⟩
  ·exact .inl h
  ·exact .inr ⟨m,e1,e2,e3,e4,e5,e6,(hk _ e3).trans e7⟩
 row:=by
  rcases t.row with h|⟨k,e1,e2,e3,e4⟩
  ·exact .inl h
  ·exact .inr ⟨k,e1,e2,e3,(hk _ e2).trans e4⟩
 rne:=t.rne
 hup:=t.hup.keep λk dq=>hk k (by have:=t.ln; have:=t.un; omega)
theorem TopAt.setO (t:TopAt h b b' n o d i dv up f fs) (O:List Str):TopAt (h.set o (.map (bmE O))) b b' n o d i dv up { f with O:=O } fs where
 ln:=t.ln
 lo:=t.lo
 ld:=t.ld
 un:=t.un
 uo:=t.uo
 ud:=t.ud
 no:=t.no
 nd:=t.nd
 od:=t.od
 four:=t.four
 hn:=by rw[af (Ne.symm t.no)]; exact t.hn
 ho:=by
  obtain⟨hl,_⟩:=ah.1 t.ho
  rw[ar hl]
 hd:=by rw[af t.od]; exact t.hd
 hi:=by
  rcases t.hi with h|⟨m,e1,e2,e3,e4,e5,e6,e7⟩
  ·exact .inl h
  ·exact .inr ⟨m,e1,e2,e3,e4,e5,e6,by rw[af (Ne.symm e5)]; exact e7⟩
 row:=by
  rcases t.row with h|⟨k,e1,e2,e3,e4⟩
  ·exact .inl h
  ·exact .inr ⟨k,e1,e2,e3,by rw[af (Ne.symm (t.rne _ _ _ _ e3).2.1)]; exact e4⟩
 rne:=t.rne
 hup:=t.hup.keep λk dq=>af (by have:=t.lo; omega)
theorem TopAt.setD (t:TopAt h b b' n o d i dv up f fs) (D:List Str):TopAt (h.set d (.map (bmE D))) b b' n o d i dv up { f with D:=D } fs where
 ln:=t.ln
 lo:=t.lo
 ld:=t.ld
 un:=t.un
 uo:=t.uo
 ud:=t.ud
 no:=t.no
 nd:=t.nd
 od:=t.od
 four:=t.four
 hn:=by rw[af (Ne.symm t.nd)]; exact t.hn
 ho:=by rw[af (Ne.symm t.od)]; exact t.ho
 hd:=by
  obtain⟨hl,_⟩:=ah.1 t.hd
  rw[ar hl]
 hi:=by
  rcases t.hi with h|⟨m,e1,e2,e3,e4,e5,e6,e7⟩
  ·exact .inl h
  ·exact .inr ⟨m,e1,e2,e3,e4,e5,e6,by rw[af (Ne.symm e6)]; exact e7⟩
 row:=by
  rcases t.row with h|⟨k,e1,e2,e3,e4⟩
  ·exact .inl h
  ·exact .inr ⟨k,e1,e2,e3,by rw[af (Ne.symm (t.rne _ _ _ _ e3).2.2.1)]; exact e4⟩
 rne:=t.rne
 hup:=t.hup.keep λk dq=>af (by have:=t.ld; omega)
end
def Db (l:zJ) (tags:List Str):Prop:=∀x,((0:Int),x)∈AY l↔x∈tags
def NodesIn (l:zJ) (ns:List Node) (k:Nat):Prop:=∀x,match callee (ns.take k) x with
 | none=>∀i:Int,At (1,x) l=some i→¬i<k
 | some m=>∃j:Nat,At (1,x) l=some (j:Int)∧j<k∧ns[j]? = some m
section
variable {L:Nat→Option PFunc} (hL:∀k f,LS k=some f→L k=some f) (en:List Enum) (ns:List Node) (a b:Int) (ents:zJ)
include hL
theorem O9 (tags:List Str) (dX:Db ents tags) (l:List Decl) (hl:l.length≤3300000) (r:Bool) (h:List PObj) (h2:h[2]? = some (yv ents)) (h3:h[3]? = some (yo en ns a b)) (q q' n o d:Nat) (i dv up:PV) (f:Fr) (fs:List Fr) (t:TopAt h q q' n o d i dv up f fs) (vis:List Str) (dC:∀x,zn (f::fs) x=true↔x∈vis):
  ∃h' O,yy L 59 [.ptr 3 0,.ptr n 0,.list r (l.map yi)] h=some (ym 1 a b (zw tags l vis).1,h')∧Kp q' h h'∧h'.length=h.length∧TopAt h' q q' n o d i dv up { f with O:=O } fs∧((zw tags l vis).1=0→(∀x,zn ({ f with O:=O }::fs) x=true↔x∈(zw tags l vis).2)∧∀x,x∈O↔x∈f.O∨x∈yd l):=by
 suffices H:∃res,yy L 59 [.ptr 3 0,.ptr n 0,.list r (l.map yi)] h=some res∧∃h' O,res=(ym 1 a b (zw tags l vis).1,h')∧Kp q' h h'∧h'.length=h.length∧TopAt h' q q' n o d i dv up { f with O:=O } fs∧((zw tags l vis).1=0→(∀x,zn ({ f with O:=O }::fs) x=true↔x∈(zw tags l vis).2)∧∀x,x∈O↔x∈f.O∨x∈yd l) by
  obtain⟨res,e1,h',O,e2,e3⟩:=H
  exact⟨h',O,by rw[e1,e2],e3⟩
 refine DA (hL 59 _ rfl) rfl ?_
 simp[I5]
 rw[Pu]
 refine yK l.length (λk st=>∃y3 y4 g h' O vis',st=⟨[.ptr 3 0,.ptr n 0,.list false (l.map yi),y3,y4,.list false (l.map yi),.int .i64 l.length,.int .i64 k],[],g,h'⟩∧Kp q' h h'∧h'.length=h.length∧TopAt h' q q' n o d i dv up { f with O:=O } fs∧zw tags l vis=zw tags (l.drop k) vis'∧(∀x,zn ({ f with O:=O }::fs) x=true↔x∈vis')∧∀x,x∈O↔x∈f.O∨x∈yd (l.take k)) ?_ ?_ ⟨_,_,_,h,f.O,vis,rfl,Kp.refl _ _,rfl,t,rfl,dC,λx=>by simp[yd]⟩
 ·rintro k hk st ⟨y3,y4,g,h',O,vis',rfl,dg,cS,ht,dm,hv,hO⟩ ih
  have hw:=yn k (by omega)
  have eu:h'[2]? = some (yv ents):=(dg.2 2 (by have:=ht.four; omega)).trans h2
  have eU:h'[3]? = some (yo en ns a b):=(dg.2 3 (by have:=ht.four; omega)).trans h3
  have hT:=DB hL en ns a b h' eU 7
  have hF:=DC hL en ns a b h' eU 7
  have hs:=JR hL l[k].name _ h' q _ ht.holds
  have kj:=hv l[k].name
  have ii:=dX l[k].name
  rw[a8 hk] at dm
  simp only[zw] at dm
  obtain⟨z,hz,fl⟩:=HZ (0,l[k].name) ents 0
  simp only[Bp] at hz
  have hn:=ht.hn
  have ho:=ht.ho
  cases z with
  | some z =>
    obtain⟨j,v⟩:=z
    obtain⟨u,hu,rfl⟩:∃u,At (0,l[k].name) ents=some u∧v = .int .i64 u:=by
     cases he:At (0,l[k].name) ents with
     | none=>rw[he] at fl; simp at fl
     | some u=>rw[he] at fl; exact⟨u,rfl,by simpa using fl⟩
    have dI:l[k].name∈tags:=ii.1 (co λhn=>by rw[Fi.2 hn] at hu; simp at hu)
    rw[ai (.inr dI)] at dm
    simp[hk,eU,yo,eu,yv,zi,hz,hF]
    refine⟨h',by rw[dm]; exact⟨rfl,rfl⟩,dg,cS,O,ht,by rw[dm]; simp⟩
  | none =>
    have eX:At (0,l[k].name) ents=none:=by simpa using fl.symm
    have sX:l[k].name∉tags:=λhx=>Fi.1 eX (ii.2 hx)
    by_cases hx:l[k].name∈vis'
    ·rw[ai (.inl hx)] at dm
     rw[kj.2 hx] at hs
     simp[hk,eU,yo,eu,yv,zi,hz,hs,hF]
     refine⟨h',by rw[dm]; exact⟨rfl,rfl⟩,dg,cS,O,ht,by rw[dm]; simp⟩
    ·rw[ae (by simp[hx,sX])] at dm
     have wG:zn ({ f with O:=O }::fs) l[k].name=false:=by
      cases hc:zn ({ f with O:=O }::fs) l[k].name with
      | false=>rfl
      | true=>exact absurd (kj.1 hc) hx
     rw[wG] at hs
     have gN:yd (l.take (k+1))=yd (l.take k)++[l[k].name]:=by simp only[yd,aX,am hk,Option.toList,bh,az,bB]
     obtain⟨r',hr,_,iq⟩:=Da l[k].name O
     simp[hk,eU,yo,eu,yv,zi,hz,hs,hT,hn,ho,hr,iq,hw]
     refine ih _ ⟨_,_,_,_,CK O l[k].name,vis'++[l[k].name],rfl,dg.trans (Kp.set ht.lo),by simp[cS],ht.setO _,dm,?_,λx=>by rw[IR,hO,gN,ay,aP,or_assoc]⟩
     ·intro x
      have:=hv x
      simp only[zn,List.any_cons,bM,av,IR,ay,aP] at this ⊢
      rw[← this]
      constructor
      ·rintro((h1|h1)|h1)
       ·exact .inl (.inl h1)
       ·exact .inr h1
       ·exact .inl (.inr h1)
      ·rintro((h1|h1)|h1)
       ·exact .inl (.inl h1)
       ·exact .inr h1
       ·exact .inl (.inr h1)
 ·rintro st ⟨y3,y4,g,h',O,vis',rfl,dg,cS,ht,dm,hv,hO⟩
  rw[bk (an _)] at dm
  simp only[zw] at dm
  simp[I5]
  refine⟨h',by rw[dm]; exact⟨rfl,rfl⟩,dg,cS,O,ht,?_⟩
  rw[dm]
  intro _
  exact⟨by simpa using hv,by simpa using hO⟩
theorem Pa (l:List Decl) (hl:l.length≤3300000) (hd:∀d∈l,DW d) (r:Bool) (h:List PObj) (h3:h[3]? = some (yo en ns a b)) (q:Nat) (v:PV) (fs:List Fr) (hv:Holds h q v fs) (vis:List Str) (dC:∀x,zn fs x=true↔x∈vis):
  yy L 60 [.ptr 3 0,v,.list r (l.map yi)] h=some (ym 1 a b (CX vis l),h):=by
 have hT:=DB hL en ns a b h h3 6
 have hF:=DC hL en ns a b h h3 6
 have hs:=λx=>JR hL x _ h q _ hv
 have lN:=hv.dem
 have iF:=hv.cp
 have iG:=hv.tkv
 have qh:∀x,zn fs x=decide (x∈vis):=λx=>by rw[aR,av]; exact dC x
 refine Bh (hL 60 _ rfl) rfl ?_
 simp[I6,lN]
 have dn:CX vis l=yj (λd=>yj (λo:On=>need (decide (o.name∈vis)) 6) d.clock) l:=rfl
 rw[dn]
 refine BR l (λd=>yj (λo:On=>need (decide (o.name∈vis)) 6) d.clock) (λi (x:(PV×PV×PV×PV×PV)×Nat)=>[(3,x.1.1),(4,x.1.2.1),(8,x.1.2.2.1),(9,x.1.2.2.2.1),(10,x.1.2.2.2.2),(7,.int .i64 i)]) (λ_ x=>x.2) (λ_ _=>h) ((.dead,.dead,.dead,.dead,.dead),0) ?_ ?_ ?_ rfl rfl rfl
 ·intro i dF de x ih
  have hw:=yn i (by omega)
  have dA:=(hd _ (ak dF)).clock
  have hE:∀o∈l[i].clock,need (decide (o.name∈vis)) 6=0:=Bz.1 de
  simp[dF]
  refine BR l[i].clock (λo:On=>need (decide (o.name∈vis)) 6) (λj (y:PV×Nat)=>[(10,.int .i64 j),(4,y.1)]) (λ_ y=>y.2) (λ_ _=>h) (x.1.2.1,x.2+1) ?_ ?_ ?_ rfl rfl rfl
  ·intro j hj dx y ih2
   have gA:=yn j (by omega)
   rw[Cg (by decide),av] at dx
   simp[hj,hs,qh,dx,hT,gA,iF,iG]
   simpa using ih2 (_,_)
  ·intro j hj dx _ y
   exact absurd (hE _ (ak hj)) dx
  ·intro _ y
   simp[hw]
   simpa using ih ((_,_,_,_,_),_)
 ·intro i dF de hf x
  have dA:=(hd _ (ak dF)).clock
  rw[hf]
  simp[dF]
  refine BR l[i].clock (λo:On=>need (decide (o.name∈vis)) 6) (λj (y:PV×Nat)=>[(10,.int .i64 j),(4,y.1)]) (λ_ y=>y.2) (λ_ _=>h) (x.1.2.1,x.2+1) ?_ ?_ ?_ rfl rfl rfl
  ·intro j hj dx y ih2
   have gA:=yn j (by omega)
   rw[Cg (by decide),av] at dx
   simp[hj,hs,qh,dx,hT,gA,iF,iG]
   simpa using ih2 (_,_)
  ·intro j hj dx rL y
   have fS:¬l[i].clock[j].name∈vis:=by
    intro hm; exact dx (by simp[need,hm])
   rw[rL]
   simp[hj,hs,qh,fS,hF,need,ym,iF,iG]
  ·intro h0 y
   exact absurd h0 de
 ·intro h0 x
  rw[h0]
  simp[I6,ym]
end
section
variable {L:Nat→Option PFunc} (hL:∀k f,LS k=some f→L k=some f) (en:List Enum) (ns:List Node) (a b:Int) (ents:zJ)
include hL
theorem c77 (k:Nat) (hn:NodesIn ents ns k) (s:Place) (fm:s.before=ns.take k) (e:Expr) (outs:Nat) (h:List PObj) (h2:h[2]? = some (yv ents)) (h3:h[3]? = some (yo en ns a b)):
  yy L 124 [.ptr 3 0,.int .i64 k,ye e,.int .i64 outs] h=some (ym 1 a b (Eo s e outs),h):=by
 have hT:=λz=>DB hL en ns a b h h3 z
 have hF:=λz=>DC hL en ns a b h h3 z
 obtain⟨z,hz,fl⟩:=HZ (1,e.name) ents 0
 simp only[Bp] at hz
 have hc:=hn e.name
 refine Bh (hL 124 _ rfl) rfl ?_
 unfold Eo
 rw[fm]
 cases lT:callee (ns.take k) e.name with
 | none =>
   rw[lT] at hc
   simp only at hc
   cases z with
   | none =>
     simp[Fm,h3,h2,yo,yv,zi,hz,hF,ym]
   | some z =>
     obtain⟨j,v⟩:=z
     obtain⟨u,hu,rfl⟩:∃u,At (1,e.name) ents=some u∧v = .int .i64 u:=by
      cases he:At (1,e.name) ents with
      | none=>rw[he] at fl; simp at fl
      | some u=>rw[he] at fl; exact⟨u,rfl,by simpa using fl⟩
     have fx:=hc u hu
     simp[Fm,h3,h2,yo,yv,zi,hz,hF,fx,ym]
 | some m =>
   rw[lT] at hc
   obtain⟨i,hi,j5,mM⟩:=hc
   cases z with
   | none=>rw[hi] at fl; simp at fl
   | some z =>
     obtain⟨j,v⟩:=z
     rw[hi] at fl
     have hv:v = .int .i64 i:=by simpa using fl
     subst hv
     have nT:(i:Int)<k:=by omega
     obtain⟨dF,oV⟩:=ah.1 mM
     have fx:(ns.map yx)[i]? = some (yx m):=by simp[mM]
     by_cases c1:(e.args.length:Int)=wrap (m.ins.length+e.v)
     ·have c1':wrap (m.ins.length+e.v)=(e.args.length:Int):=c1.symm
      by_cases c2:m.outs.length=outs
      ·have c2':outs=m.outs.length:=c2.symm
       have c3:(outs:Int)=m.outs.length:=by omega
       have c3':(m.outs.length:Int)=outs:=by omega
       simp[Fm,h3,h2,yo,yv,zi,hz,hT,j5,nT,dF,oV,mM,tf c1,tf c1',tf c2,tf c3,tf c3',ym,need]
      ·have c3:¬(outs:Int)=m.outs.length:=by omega
       have c3':¬(m.outs.length:Int)=outs:=by omega
       simp[Fm,h3,h2,yo,yv,zi,hz,hT,hF,j5,nT,dF,oV,mM,tf c1,tf c1',tf c2,tf c3,tf c3',ym,need]
     ·have c1':¬wrap (m.ins.length+e.v)=(e.args.length:Int):=λh=>c1 h.symm
      simp[Fm,h3,h2,yo,yv,zi,hz,hT,hF,j5,nT,dF,oV,mM,tf c1,tf c1',ym,need]
def zy (h:List PObj) (k:Nat) (v:PV) (outs:Nat) (lp:Bool):List PObj:=h++[.cells [.ptr 3 0],.cells [.int .i64 k],.cells [v],.cells [.int .i64 outs],.loop lp]
omit hL in
theorem Nk (h:List PObj) (k:Nat) (v:PV) (outs:Nat) (lp:Bool) {n:Nat} (hn:n<h.length):(zy h k v outs lp)[n]? = h[n]? := by unfold zy; rw[al hn]
theorem RM (k:Nat) (hn:NodesIn ents ns k) (s:Place) (fm:s.before=ns.take k) (x:Expr) (outs:Nat) (h:List PObj) (h2:h[2]? = some (yv ents)) (h3:h[3]? = some (yo en ns a b)) (q:Nat) (hq:q≤h.length) (v:PV) (fs:List Fr) (hv:Holds h q v fs) (dC:∀x,zn fs x=true↔x∈s.vis):
  yy L 190 [.ptr (h.length+4) 0,.ptr h.length 0,.ptr (h.length+1) 0,.ptr (h.length+2) 0,.ptr (h.length+3) 0,ye x] (zy h k v outs true)=some (if oneN s outs x=0 then(.val (.bool true),zy h k v 1 true) else(.boom (zA 1 a b (oneN s outs x)),zy h k v outs false)):=by
 have oP:3<h.length:=(ah.1 h3).1
 have g2:(zy h k v outs false)[2]? = some (yv ents):=by rw[Nk _ _ _ _ _ (by omega)]; exact h2
 have g3:(zy h k v outs false)[3]? = some (yo en ns a b):=by rw[Nk _ _ _ _ _ oP]; exact h3
 have hT:=λz=>DB hL en ns a b (zy h k v outs false) g3 z
 have hF:=λz=>DC hL en ns a b (zy h k v outs false) g3 z
 have hs:=JR hL x.name _ (zy h k v outs false) q _ (hv.keep λn hn=>Nk _ _ _ _ _ (by omega))
 have hc:=c77 hL en ns a b ents k hn s fm x outs (zy h k v outs false) g2 g3
 have iF:=hv.cp
 have iG:=hv.tkv
 have lN:=hv.dem
 have qh:∀x,zn fs x=decide (x∈s.vis):=λx=>by rw[aR,av]; exact dC x
 rw[qh] at hs
 simp only[zy] at hT hF hs hc ⊢
 refine HS (as:=[.ptr h.length 0,.ptr (h.length+1) 0,.ptr (h.length+2) 0,.ptr (h.length+3) 0,ye x]) (hL 190 _ rfl) rfl rfl (by simp) ?_
 unfold oneN
 by_cases hk:x.kind=2∨x.kind=8∨x.kind=9
 ·rw[ai hk]
  by_cases hm:x.name∈s.vis
  ·simp[hm] at hs
   rcases hk with k2|k2|k2<;>simp[Fo,k2,yh,Ac,iF,iG,hs,hT,hm]
  ·simp[hm] at hs
   rcases hk with k2|k2|k2<;>simp[Fo,k2,yh,Ac,iF,iG,hs,hF,hm,need]
 ·rw[ae hk]
  simp only[not_or] at hk
  obtain⟨k2,k8,k9⟩:=hk
  by_cases k10:x.kind=10
  ·rw[ai k10]
   by_cases hz:Eo s x outs=0
   ·rw[hz] at hc
    simp[ym] at hc
    simp[Fo,tf k10,tf k2,tf k8,tf k9,yh,Ac,iF,iG,hc,hz,ym]
   ·simp[ym,hz] at hc
    simp[Fo,tf k10,tf k2,tf k8,tf k9,yh,Ac,iF,iG,hc,hz,ym]
  ·rw[ae k10]
   simp[Fo,tf k2,tf k8,tf k9,tf k10,yh,Ac,iF,iG]
end
section
variable {L:Nat→Option PFunc} (hL:∀k f,LS k=some f→L k=some f) (en:List Enum) (ns:List Node) (a b:Int) (ents:zJ)
include hL
theorem Nl (k:Nat) (hn:NodesIn ents ns k) (s:Place) (fm:s.before=ns.take k) (e:Expr) (he:EW e) (outs:Nat) (h:List PObj) (h2:h[2]? = some (yv ents)) (h3:h[3]? = some (yo en ns a b)) (q:Nat) (hq:q≤h.length) (v:PV) (fs:List Fr) (hv:Holds h q v fs) (dC:∀x,zn fs x=true↔x∈s.vis):
  ∃h',yy L 99 [.ptr 3 0,.int .i64 k,v,ye e,.int .i64 outs] h=some (ym 1 a b (yZ s e outs),h')∧Kp h.length h h':=by
 suffices H:∃res,yy L 99 [.ptr 3 0,.int .i64 k,v,ye e,.int .i64 outs] h=some res∧∃h',res=(ym 1 a b (yZ s e outs),h')∧Kp h.length h h' by
  obtain⟨res,e1,h',e2,e3⟩:=H
  exact⟨h',by rw[e1,e2],e3⟩
 have iF:=hv.cp
 have iG:=hv.tkv
 have lN:=hv.dem
 have nb:v.cells=[v]:=by rcases hv.ptr with rfl|⟨n,rfl⟩<;>rfl
 obtain⟨h0,rM⟩:∃h0,h0=h++[.cells [.ptr 3 0],.cells [.int .i64 k],.cells [v],.cells [.int .i64 outs]]:=⟨_,rfl⟩
 have jF:h0.length=h.length+4:=by rw[rM]; simp
 have hE:=HP hL e h0
 have hZ:=λx=>RM hL en ns a b ents k hn s fm x outs h h2 h3 q hq v fs hv dC
 have gw:=λx=>RM hL en ns a b ents k hn s fm x 1 h h2 h3 q hq v fs hv dC
 have hl:h0++[.loop true]=zy h k v outs true:=by rw[rM]; simp[zy]
 obtain⟨y,rI,uN,hy⟩:∃y:Expr→List PObj→Option (Out×List PObj),(∀x,y x (zy h k v outs true)=some (if oneN s outs x=0 then(.val (.bool true),zy h k v 1 true) else(.boom (zA 1 a b (oneN s outs x)),zy h k v outs false)))∧(∀x,y x (zy h k v 1 true)=some (if oneN s 1 x=0 then(.val (.bool true),zy h k v 1 true) else(.boom (zA 1 a b (oneN s 1 x)),zy h k v 1 false))) ∧
   ∀x h' r,y x h'=some r→∃o:Nat,h'=zy h k v o true∧(o=outs∨o=1)∧r=(if oneN s o x=0 then(.val (.bool true),zy h k v 1 true) else(.boom (zA 1 a b (oneN s o x)),zy h k v o false)):=by
  classical
  refine⟨λx h'=>if h'=zy h k v outs true then some (if oneN s outs x=0 then(.val (.bool true),zy h k v 1 true) else(.boom (zA 1 a b (oneN s outs x)),zy h k v outs false)) else if h'=zy h k v 1 true then some (if oneN s 1 x=0 then(.val (.bool true),zy h k v 1 true) else(.boom (zA 1 a b (oneN s 1 x)),zy h k v 1 false)) else none,λx=>ai rfl,λx =>?_,λx h' r hr =>?_⟩
  ·simp only
   by_cases ho:outs=1
   ·subst ho; simp
   ·have:¬zy h k v 1 true=zy h k v outs true:=by
     unfold zy
     rw[List.append_cancel_left_eq]
     simp; omega
    rw[ae this]; simp
  ·simp only at hr
   split at hr
   ·rename_i e1; exact⟨outs,e1,.inl rfl,(Option.some.inj hr).symm⟩
   ·split at hr
    ·rename_i e1; exact⟨1,e1,.inr rfl,(Option.some.inj hr).symm⟩
    ·simp at hr
 refine DA (hL 99 _ rfl) rfl ?_
 have c1:∀n o,(PV.ptr n o).cells=[.ptr n o]:=λ_ _=>rfl
 have c2:∀x,(PV.int .i64 x).cells=[.int .i64 x]:=λ_=>rfl
 have wH:x8 L 81 [ye e] (h++[.cells [.ptr 3 0],.cells [.int .i64 k],.cells [v],.cells [.int .i64 outs]])=some (.func 114 [] [.cptr (ye e).cells],h++[.cells [.ptr 3 0],.cells [.int .i64 k],.cells [v],.cells [.int .i64 outs]]):=by rw[← rM]; exact hE
 simp[Hb,nb,lN,iF,iG,c1,c2,wH]
 rw[← rM]
 have cT:AT y e.list (h0++[.loop true])=some (if yZ s e outs=0 then(.val (.bool true),zy h k v 1 true) else(.boom (zA 1 a b (yZ s e outs)),zy h k v (if oneN s outs e=0 then 1 else outs) false)):=by
  rw[hl,Expr.list_eq]
  simp only[AT,rI]
  unfold yZ
  by_cases h1:oneN s outs e=0
  ·simp only[h1,if_true,yk]
   exact HO (f:=oneN s 1) (R:=λz=>(.boom (zA 1 a b z),zy h k v 1 false)) _ (λx _ hx=>by rw[uN,ai hx]) (λx _ hx=>by rw[uN,ae hx]) (λz h'=>by simp)
  ·simp[h1,yk]
 refine HQ hL e he (cs:=[.ptr h.length 0,.ptr (h.length+1) 0,.ptr (h.length+2) 0,.ptr (h.length+3) 0]) (by simp) (by simp) (by simp[cp]) y ?_ ?_ _ cT ?_
 ·intro x _ h' r hr
  obtain⟨o,rfl,ho,rfl⟩:=hy x h' r hr
  rw[jF]
  rcases ho with rfl|rfl
  ·exact hZ x
  ·exact gw x
 ·intro x h' r hr
  obtain⟨o,rfl,ho,rfl⟩:=hy x h' r hr
  split
  ·exact .inl ⟨_,_,rfl⟩
  ·exact .inr ⟨_,_,rfl⟩
 ·by_cases hz:yZ s e outs=0
  ·rw[ai hz,jF]
   simp[CQ,zy,Hb,hz,ym]
   exact Kp.app (an _)
  ·rw[ae hz,jF]
   simp[CQ,zy,Hb,hz,ym]
   exact Kp.app (an _)
theorem RN (k:Nat) (hn:NodesIn ents ns k) (s:Place) (fm:s.before=ns.take k) (l:List Trn) (hl:l.length≤1100000) (hw:∀x∈l,XW x.cond) (r:Bool) (h:List PObj) (h2:h[2]? = some (yv ents)) (h3:h[3]? = some (yo en ns a b)) (q:Nat) (hq:q≤h.length) (v:PV) (fs:List Fr) (hv:Holds h q v fs) (dC:∀x,zn fs x=true↔x∈s.vis):
  ∃h',yy L 126 [.ptr 3 0,.int .i64 k,v,.list r (l.map zt)] h=some (ym 1 a b (CD s l),h')∧Kp h.length h h':=by
 suffices H:∃res,yy L 126 [.ptr 3 0,.int .i64 k,v,.list r (l.map zt)] h=some res∧∃h',res=(ym 1 a b (CD s l),h')∧Kp h.length h h' by
  obtain⟨res,e1,h',e2,e3⟩:=H
  exact⟨h',by rw[e1,e2],e3⟩
 have iF:=hv.cp
 have iG:=hv.tkv
 have lN:=hv.dem
 refine DA (hL 126 _ rfl) rfl ?_
 simp[Jd,lN]
 rw[Py]
 refine yK l.length (λj st=>∃y4 g h',st=⟨[.ptr 3 0,.int .i64 k,v,.list false (l.map zt),y4,.list false (l.map zt),.int .i64 l.length,.int .i64 j],[],g,h'⟩∧Kp h.length h h'∧CD s l=CD s (l.drop j)) ?_ ?_ ⟨_,_,h,rfl,Kp.refl _ _,rfl⟩
 ·rintro j hj st ⟨y4,g,h',rfl,dg,dm⟩ ih
  have kq:=yn j (by omega)
  have oP:3<h.length:=(ah.1 h3).1
  have eu:h'[2]? = some (yv ents):=(dg.2 2 (by omega)).trans h2
  have eU:h'[3]? = some (yo en ns a b):=(dg.2 3 oP).trans h3
  obtain⟨h'',hx,fD⟩:=Nl hL en ns a b ents k hn s fm l[j].cond (hw _ (ak hj)).ew 1 h' eu eU q (aD hq dg.1) v fs (hv.keep λn hn=>dg.2 n (by omega)) dC
  have gb:Kp h.length h h'':=dg.trans (fD.le dg.1)
  rw[a8 hj] at dm
  have iR:CD s (l[j]::l.drop (j+1))=if yZ s l[j].cond 1=0 then CD s (l.drop (j+1)) else yZ s l[j].cond 1:=rfl
  rw[iR] at dm
  by_cases hz:yZ s l[j].cond 1=0
  ·rw[ai hz] at dm
   rw[hz] at hx
   simp[ym] at hx
   simp[hj,iF,iG,hx,kq]
   exact ih _ ⟨_,_,_,rfl,gb,dm⟩
  ·rw[ae hz] at dm
   simp[ym,hz] at hx
   simp[hj,iF,iG,hx]
   exact⟨h'',by simp[dm,ym,hz],gb⟩
 ·rintro st ⟨y4,g,h',rfl,dg,dm⟩
  rw[bk (an _)] at dm
  have:CD s l=0:=dm
  simp[Jd]
  exact⟨h',by simp[this,ym],dg⟩
end
section
variable {h h':List PObj} {b b' n o d:Nat} {i dv up:PV} {f:Fr} {fs:List Fr}
theorem Fr.same {f:Fr} (h:f.D=f.df):({ f with D:=f.df,df:=f.df }:Fr)=f:=by cases f; simp at h ⊢; exact h.symm
theorem TopAt.upTo (t:TopAt h b b' n o d i dv up f fs) {c:Nat} (hc:b≤c):TopAt h c b' n o d i dv up f fs where
 ln:=t.ln
 lo:=t.lo
 ld:=t.ld
 un:=aT t.un hc
 uo:=aT t.uo hc
 ud:=aT t.ud hc
 no:=t.no
 nd:=t.nd
 od:=t.od
 four:=t.four
 hn:=t.hn
 ho:=t.ho
 hd:=t.hd
 hi:=by
  rcases t.hi with h|⟨m,e1,e2,e3,e4,e5,e6,e7⟩
  ·exact .inl h
  ·exact .inr ⟨m,e1,e2,aT e3 hc,e4,e5,e6,e7⟩
 row:=by
  rcases t.row with h|⟨k,e1,e2,e3,e4⟩
  ·exact .inl h
  ·exact .inr ⟨k,e1,aT e2 hc,e3,e4⟩
 rne:=t.rne
 hup:=t.hup
theorem TopAt.push (t:TopAt h h.length b' n o d i dv up f fs) (df:List Str) (h1:List PObj) (wI:h1.length=h.length) (hk:∀k,k<b'→h1[k]? = h[k]?) (em:∀k,b'≤k→(∀s a len,dv≠.rowp k s a len)→k≠n→h1[k]? = h[k]?):
  TopAt ((h1++[PObj.cells (df.map PV.str)]).set n (.cells [up,.map (some o),.map (some d),i,.rowp h.length 1 false df.length])) (h.length+1) b' n o d i (.rowp h.length 1 false df.length) up { f with df:=df } fs:=by
 have ir:=t.un
 have mC:=t.ln
 have key:∀k,k<h.length→k≠n→(h1[k]? = h[k]?)→((h1++[PObj.cells (df.map PV.str)]).set n (.cells [up,.map (some o),.map (some d),i,.rowp h.length 1 false df.length]))[k]? = h[k]? := by
  intro k eO wJ hh
  rw[af (Ne.symm wJ),al (by omega)]
  exact hh
 refine⟨t.ln,t.lo,t.ld,by omega,by have:=t.uo; omega,by have:=t.ud; omega,t.no,t.nd,t.od,t.four,?_,?_,?_,?_,?_,?_,?_⟩
 ·rw[ar (by simp; omega)]
 ·rw[key o t.uo (Ne.symm t.no) (em o t.lo (λs a len e=>(t.rne _ _ _ _ e).2.1 rfl) (Ne.symm t.no))]
  exact t.ho
 ·rw[key d t.ud (Ne.symm t.nd) (em d t.ld (λs a len e=>(t.rne _ _ _ _ e).2.2.1 rfl) (Ne.symm t.nd))]
  exact t.hd
 ·rcases t.hi with h|⟨m,e1,e2,e3,e4,e5,e6,e7⟩
  ·exact .inl h
  ·refine .inr ⟨m,e1,e2,by omega,e4,e5,e6,?_⟩
   rw[key m e3 e4 (em m e2 (λs a len e=>(t.rne _ _ _ _ e).2.2.2 e1) e4)]
   exact e7
 ·refine .inr ⟨h.length,by omega,by omega,rfl,?_⟩
  rw[af (by omega),← wI]
  simp
 ·intro k s a len e
  simp only[PV.rowp.injEq] at e
  obtain⟨rfl,_⟩:=e
  have:=t.uo
  have:=t.ud
  refine⟨by omega,by omega,by omega,?_⟩
  rcases t.hi with⟨h1,_⟩|⟨m,e1,e2,e3,_⟩
  ·rw[h1]; simp
  ·rw[e1]; simp; omega
 ·refine t.hup.keep λk dq =>?_
  rw[key k (by omega) (by omega) (hk k dq)]
end
section
variable {L:Nat→Option PFunc} (hL:∀k f,LS k=some f→L k=some f) (en:List Enum) (ns:List Node) (a b:Int) (ents:zJ)
include hL
theorem c78 (k:Nat) (s:Place) (l:List Str) (iT:l.length≤1100000) (h:List PObj) (h2:h[2]? = some (yv ents)) (h3:h[3]? = some (yo en ns a b)) (q' n o d:Nat) (i dv up:PV) (f:Fr) (fs:List Fr) (t:TopAt h h.length q' n o d i dv up f fs) (dC:∀x,zn (f::fs) x=true↔x∈s.vis)
  (d0:List Str) (hD:f.D=f.df) (dI:∀x,(x∈f.I∨A6 fs x=true)↔(x∈s.inputs∨x∈d0)) (jE:f.df.length+l.length≤4000000) (V4 V5 V6:PV) {Q:PExit→St→Prop}
  (ok:(BD s l (d0++f.df)).1=0→∀h' dv' df' y5 y8,Kp q' h h'→(BD s l (d0++f.df)).2=d0++df'→TopAt h' h'.length q' n o d i dv' up { f with D:=df',df:=df' } fs→Q (.exit 0) ⟨[.ptr 3 0,.int .i64 k,.ptr n 0,V4,V5,y5,.list false (l.map PV.str),.int .i64 l.length,y8],[],1,h'⟩)
  (no:(BD s l (d0++f.df)).1≠0→∀h' y5 y8,Kp q' h h'→Q (.boom (zA 1 a b (BD s l (d0++f.df)).1)) ⟨[.ptr 3 0,.int .i64 k,.ptr n 0,V4,V5,y5,.list false (l.map PV.str),.int .i64 l.length,y8],[],1,h'⟩):
  wpL L Ln ⟨[.ptr 3 0,.int .i64 k,.ptr n 0,V4,V5,V6,.list false (l.map PV.str),.int .i64 l.length,.int .i64 0],[],1,h⟩ Q:=by
 rw[Ln]
 refine yK l.length (λj st=>∃y5 h' dv' df',st=⟨[.ptr 3 0,.int .i64 k,.ptr n 0,V4,V5,y5,.list false (l.map PV.str),.int .i64 l.length,.int .i64 j],[],1,h'⟩∧Kp q' h h'∧TopAt h' h'.length q' n o d i dv' up { f with D:=df',df:=df' } fs∧BD s l (d0++f.df)=BD s (l.drop j) (d0++df')∧df'.length=f.df.length+j) ?_ ?_ ⟨_,h,dv,f.df,rfl,Kp.refl _ _,by rw[Fr.same hD]; exact t,rfl,rfl⟩
 ·rintro j hj st ⟨y5,h',dv',df',rfl,dg,ht,dm,cS⟩ ih
  have hw:=yn j (by omega)
  have eu:h'[2]? = some (yv ents):=(dg.2 2 (by have:=ht.four; omega)).trans h2
  have eU:h'[3]? = some (yo en ns a b):=(dg.2 3 (by have:=ht.four; omega)).trans h3
  have hT:=λz=>DB hL en ns a b h' eU z
  have hF:=λz=>DC hL en ns a b h' eU z
  have hs:=JR hL l[j] _ h' _ _ ht.holds
  have fj:=c1p hL l[j] _ h' _ _ ht.holds
  have kj:zn ({ f with D:=df',df:=df' }::fs) l[j]=decide (l[j]∈s.vis):=by
   rw[aR,av,← dC]; rfl
  have kz:A6 ({ f with D:=df',df:=df' }::fs) l[j]=decide (l[j]∈s.inputs∨l[j]∈d0++df'):=by
   rw[aR,av]
   have:=dI l[j]
   simp only[A6,List.any_cons,bM,av,ay] at this ⊢
   constructor
   ·rintro((h1|h1)|h1)
    ·exact .inr (.inr h1)
    ·rcases this.1 (.inl h1) with h2|h2
     ·exact .inl h2
     ·exact .inr (.inl h2)
    ·rcases this.1 (.inr h1) with h2|h2
     ·exact .inl h2
     ·exact .inr (.inl h2)
   ·rintro(h1|h1|h1)
    ·rcases this.2 (.inl h1) with h2|h2
     ·exact .inl (.inr h2)
     ·exact .inr h2
    ·rcases this.2 (.inr h1) with h2|h2
     ·exact .inl (.inr h2)
     ·exact .inr h2
    ·exact .inl (.inl h1)
  rw[kj] at hs
  rw[kz] at fj
  have hn:=ht.hn
  have hd:=ht.hd
  rw[a8 hj] at dm
  simp only[BD] at dm
  by_cases hv:l[j]∈s.vis
  ·rw[ae (not_not_intro hv)] at dm
   by_cases qi:l[j]∈s.inputs∨l[j]∈d0++df'
   ·rw[ai qi] at dm
    rw[decide_eq_true qi] at fj
    rw[decide_eq_true hv] at hs
    simp[hj,hs,fj,hT,hF]
    have:=no (by rw[dm]; simp) h' (.str l[j]) (.int .i64 j) dg
    rw[dm] at this
    exact this
   ·rw[ae qi] at dm
    rw[decide_eq_false qi] at fj
    rw[decide_eq_true hv] at hs
    obtain⟨r',hr,_,iq⟩:=Da l[j] df'
    have gB:CK df' l[j]=df'++[l[j]]:=by
     unfold CK; rw[ae]; intro hm; exact qi (.inr (cw _ hm))
    rw[gB] at iq
    have i7:=ht.setD (df'++[l[j]])
    have kT:(h'.set d (PObj.map (bmE (df'++[l[j]])))).length=h'.length:=by simp
    have kU:Kp q' h (h'.set d (PObj.map (bmE (df'++[l[j]])))):=dg.trans (Kp.set ht.ld)
    obtain⟨h4,e4⟩:∃h4,h'.set d (PObj.map (bmE (df'++[l[j]])))=h4:=⟨_,rfl⟩
    rw[e4] at i7 kT kU
    rw[← kT] at i7
    have n4:=i7.hn
    have ir:=i7.un
    have mC:=i7.ln
    rcases i7.row with⟨rfl,gT⟩|⟨kr,eV,em,rfl,ib⟩
    ·simp only at gT
     subst gT
     obtain⟨h5,e5⟩:∃h5,h4.set n (.cells [up,.map (some o),.map (some d),i,.list false []])=h5:=⟨_,rfl⟩
     have iw:h5.length=h4.length:=by rw[← e5]; simp
     have n5:(h5++[PObj.cells [.str l[j]]])[n]? = some (.cells [up,.map (some o),.map (some d),i,.list false []]):=by
      rw[al (by omega),← e5,ar ir]
     have lO:=i7.push [l[j]] h5 iw (λc hc=>by rw[← e5,af (by omega)]) (λc _ _ lM=>by rw[← e5,af (Ne.symm lM)])
     simp only[az,bB,aB,bo] at lO
     simp only[bg] at e4 iq
     simp[hj,hs,fj,hT,hF,hn,hd,hr,iq,hw,zi,e4,n4,e5,n5,AD,yU,Ac]
     rw[iw]
     refine ih _ ⟨_,_,.rowp h4.length 1 false 1,[l[j]],rfl,?_,?_,?_,?_⟩
     ·refine Kp.trans kU ⟨by simp[iw],λc hc =>?_⟩
      rw[af (by omega),al (by have:=i7.four; omega),← e5,af (by omega)]
     ·have:((h5++[PObj.cells [.str l[j]]]).set n (.cells [up,.map (some o),.map (some d),i,.rowp h4.length 1 false 1])).length=h4.length+1:=by simp[iw]
      rw[this]
      exact lO
     ·rw[dm]; simp
     ·simp at cS ⊢; omega
    ·obtain⟨h5,e5⟩:∃h5,h4.set kr .gone=h5:=⟨_,rfl⟩
     have iw:h5.length=h4.length:=by rw[← e5]; simp
     have oZ:=(i7.rne _ _ _ _ rfl).1
     have n5:(h5++[PObj.cells (df'.map PV.str++[.str l[j]])])[n]? = some (.cells [up,.map (some o),.map (some d),i,.rowp kr 1 false df'.length]):=by
      rw[al (by omega),← e5,af oZ]; exact n4
     have lO:=i7.push (df'++[l[j]]) h5 iw (λc hc=>by rw[← e5,af (by omega)]) (λc hc fS lM=>by
      have:kr≠c:=by
       intro ic
       exact absurd rfl (fS 1 false df'.length |> λh=>by subst ic; exact h)
      rw[← e5,af this])
     simp only[bh,az,bB,ap,aB,bo] at lO
     simp only at ib
     have eP:df'.length≤2147483647:=by omega
     have dE:(df'.map PV.str).take df'.length=df'.map PV.str:=bQ (by simp)
     have jJ:(dem∘PV.str)=PV.str:=rfl
     have sY:List.map PV.str (df'.take df'.length)=List.map PV.str df':=by rw[aC]
     simp[hj,hs,fj,hT,hF,hn,hd,hr,iq,hw,zi,e4,n4,AD,ib,eP,dE,jJ,sY,yU,Ac,e5,n5]
     refine ih _ ⟨_,_,.rowp h4.length 1 false (df'.length+1),df'++[l[j]],rfl,?_,?_,?_,?_⟩
     ·refine Kp.trans kU ⟨by simp[iw],λc hc =>?_⟩
      rw[af (by omega),al (by have:=i7.four; omega),← e5,af (by omega)]
     ·have:((h5++[PObj.cells (df'.map PV.str++[.str l[j]])]).set n (.cells [up,.map (some o),.map (some d),i,.rowp h4.length 1 false (df'.length+1)])).length=h4.length+1:=by simp[iw]
      rw[this]
      exact lO
     ·rw[dm]; simp
     ·simp at cS ⊢; omega
  ·rw[ai hv] at dm
   rw[decide_eq_false hv] at hs
   simp[hj,hs,hF]
   have:=no (by rw[dm]; simp) h' (.str l[j]) (.int .i64 j) dg
   rw[dm] at this
   exact this
 ·rintro st ⟨y5,h',dv',df',rfl,dg,ht,dm,cS⟩
  rw[bk (an _)] at dm
  simp
  exact ok (by rw[dm]; rfl) h' dv' df' y5 _ dg (by rw[dm]; rfl) ht
theorem O6 (k:Nat) (dl:NodesIn ents ns k) (s:Place) (fm:s.before=ns.take k) (x:Eqn) (hx:QW x) (h:List PObj) (h2:h[2]? = some (yv ents)) (h3:h[3]? = some (yo en ns a b)) (q' n o d:Nat) (i dv up:PV) (f:Fr) (fs:List Fr) (t:TopAt h h.length q' n o d i dv up f fs) (dC:∀x,zn (f::fs) x=true↔x∈s.vis)
  (d0:List Str) (hD:f.D=f.df) (dI:∀x,(x∈f.I∨A6 fs x=true)↔(x∈s.inputs∨x∈d0)) (jE:f.df.length+x.left.length≤4000000):
  ∃h',yy L 61 [.ptr 3 0,.int .i64 k,.ptr n 0,yI x] h=some (ym 1 a b (Ak s x (d0++f.df)).1,h')∧Kp q' h h'∧((Ak s x (d0++f.df)).1=0→∃dv' df',(Ak s x (d0++f.df)).2=d0++df'∧TopAt h' h'.length q' n o d i dv' up { f with D:=df',df:=df' } fs):=by
 suffices H:∃res,yy L 61 [.ptr 3 0,.int .i64 k,.ptr n 0,yI x] h=some res∧∃h',res=(ym 1 a b (Ak s x (d0++f.df)).1,h')∧Kp q' h h'∧((Ak s x (d0++f.df)).1=0→∃dv' df',(Ak s x (d0++f.df)).2=d0++df'∧TopAt h' h'.length q' n o d i dv' up { f with D:=df',df:=df' } fs) by
  obtain⟨res,e1,h',e2,e3⟩:=H
  exact⟨h',by rw[e1,e2],e3⟩
 refine DA (hL 61 _ rfl) rfl ?_
 simp[FW]
 refine c78 hL en ns a b ents k s x.left hx.left h h2 h3 q' n o d i dv up f fs t dC d0 hD dI jE _ _ _ ?_ ?_
 ·intro hz h' dv' df' y5 y8 dg fj ht
  have eu:h'[2]? = some (yv ents):=(dg.2 2 (by have:=ht.four; omega)).trans h2
  have eU:h'[3]? = some (yo en ns a b):=(dg.2 3 (by have:=ht.four; omega)).trans h3
  obtain⟨h'',nU,fD⟩:=Nl hL en ns a b ents k dl s fm x.right hx.right.ew x.left.length h' eu eU h'.length (an _) _ _ ht.holds dC
  have he:Ak s x (d0++f.df)=(yZ s x.right x.left.length,d0++df'):=by
   unfold Ak z8
   rw[ai hz,fj]
  have mQ:q'≤h'.length:=aD ht.ln (Nat.le_of_lt ht.un)
  by_cases fl:yZ s x.right x.left.length=0
  ·rw[fl] at nU
   simp[ym] at nU
   simp[nU,FW]
   refine⟨h'',by rw[he]; simp[fl,ym],dg.trans (fD.le mQ),λ_=>⟨dv',df',by rw[he],(ht.keep fD.2).upTo fD.1⟩⟩
  ·simp[ym,fl] at nU
   simp[nU,FW]
   refine⟨h'',by rw[he]; simp[fl,ym],dg.trans (fD.le mQ),λh0 =>?_⟩
   rw[he] at h0
   exact absurd h0 fl
 ·intro hz h' y5 y8 dg
  have he:Ak s x (d0++f.df)=((BD s x.left (d0++f.df)).1,[]):=by
   unfold Ak
   exact BZ hz _
  simp[FW]
  refine⟨h',by rw[he]; simp[ym,hz],dg,λh0 =>?_⟩
  rw[he] at h0
  exact absurd h0 hz
end
def CN {α:Type} (P:α→Bool) (l:List α):Int:=match l.findIdx? P with
 | none => -1
 | some i=>i
theorem Hw {α:Type} {P:α→Bool} {l:List α} {j:Nat} (hj:j<l.length) (hp:P l[j]=true) (hn:∀i (hi:i<l.length),i<j→P l[i]=false):CN P l=j:=by
 have:l.findIdx? P=some j:=by
  rw[List.findIdx?_eq_some_iff_getElem]
  exact⟨hj,hp,λi hi=>by simpa using hn i (by omega) hi⟩
 simp[CN,this]
theorem Hx {α:Type} {P:α→Bool} {l:List α} (hn:∀i (hi:i<l.length),P l[i]=false):CN P l = -1:=by
 have:l.findIdx? P=none:=by
  rw[List.findIdx?_eq_none_iff]
  intro x hx
  obtain⟨i,hi,rfl⟩:=bH.1 hx
  exact hn i hi
 simp[CN,this]
theorem Jz {α:Type} (P:α→Bool) (l:List α):decide (0≤CN P l)=l.any P:=by
 unfold CN
 cases h:l.findIdx? P with
 | none =>
   rw[List.findIdx?_eq_none_iff] at h
   symm
   simp only[show ¬(0:Int)≤-1 by decide,decide_false]
   rw[List.any_eq_false]
   intro x hx; simp[h x hx]
 | some i =>
   have:=List.findIdx?_eq_some_iff_getElem.1 h
   obtain⟨h1,h2,_⟩:=this
   simp only[show (0:Int)≤(i:Int) by omega,decide_true]
   symm
   rw[List.any_eq_true]
   exact⟨_,ak h1,h2⟩
def d5o (h:List PObj) (v:PV) (l:List Str):Prop:=(∃o,v = .list o (l.map PV.str))∨∃k,v = .rowp k 1 false l.length∧h[k]? = some (.cells (l.map PV.str))
section
variable {L:Nat→Option PFunc} (hL:∀k f,LS k=some f→L k=some f)
include hL
theorem Nn (l:List Str) (hl:l.length≤2000000000) (v:PV) (h:List PObj) (hv:d5o h v l) (k:Nat) (cs:List PV) (P:Str→Bool) (dh:∀x∈l,x8 L k [.str x,.cptr cs] h=some (.bool (P x),h)):x8 L 151 [v,.func k [] [.cptr cs]] h=some (.int .i64 (CN P l),h):=by
 refine yp (hL 151 _ rfl) rfl ?_
 rcases hv with⟨o,rfl⟩|⟨n,rfl,hn⟩
 ·simp[F0]
  rw[LM]
  refine yK l.length (λj st=>∃y3,st=⟨[.list false (l.map PV.str),.func k [] [.cptr cs],.int .i64 0,y3,.int .i64 l.length,.int .i64 j],[],0,h⟩∧∀i (hi:i<l.length),i<j→P l[i]=false) ?_ ?_ ⟨_,rfl,λi _ hi=>by omega⟩
  ·rintro j hj st ⟨y3,rfl,hn⟩ ih
   have hw:=yn j (by omega)
   have hc:=dh l[j] (ak hj)
   cases hp:P l[j] with
   | true =>
     rw[hp] at hc
     simp[hj,hc,hw,Hw hj hp hn]
   | false =>
     rw[hp] at hc
     simp[hj,hc,hw]
     refine ih _ ⟨_,rfl,λi hi mJ =>?_⟩
     by_cases he:i=j
     ·subst he; exact hp
     ·exact hn i hi (by omega)
  ·rintro st ⟨y3,rfl,hn⟩
   simp[F0,Hx (λi hi=>hn i hi hi)]
 ·simp[F0]
  rw[LM]
  refine yK l.length (λj st=>∃y3,st=⟨[.rowp n 1 false l.length,.func k [] [.cptr cs],.int .i64 0,y3,.int .i64 l.length,.int .i64 j],[],0,h⟩∧∀i (hi:i<l.length),i<j→P l[i]=false) ?_ ?_ ⟨_,rfl,λi _ hi=>by omega⟩
  ·rintro j hj st ⟨y3,rfl,rN⟩ ih
   have hw:=yn j (by omega)
   have hc:=dh l[j] (ak hj)
   cases hp:P l[j] with
   | true =>
     rw[hp] at hc
     simp[hj,hc,hw,hn,Hw hj hp rN]
   | false =>
     rw[hp] at hc
     simp[hj,hc,hw,hn]
     refine ih _ ⟨_,rfl,λi hi mJ =>?_⟩
     by_cases he:i=j
     ·subst he; exact hp
     ·exact rN i hi (by omega)
  ·rintro st ⟨y3,rfl,rN⟩
   simp[F0,Hx (λi hi=>rN i hi hi)]
theorem c79 (l:List Str) (hl:l.length≤2000000000) (o:Bool) (h:List PObj) (k:Nat) (cs:List PV) (P:Str→Bool) (dh:∀x∈l,x8 L k [.str x,.cptr cs] h=some (.bool (P x),h)):x8 L 129 [.list o (l.map .str),.func k [] [.cptr cs]] h=some (.bool (l.any P),h):=by
 have hi:=Nn hL l hl _ h (.inl ⟨false,rfl⟩) k cs P dh
 refine yp (hL 129 _ rfl) rfl ?_
 simp[LE,hi,← Jz]
theorem Qq (l:List Str) (hl:l.length≤2000000000) (o:Bool) (s:Str) (h:List PObj):x8 L 110 [.list o (l.map .str),.str s] h=some (.bool (decide (s∈l)),h):=by
 obtain⟨P,hP⟩:∃P:Str→Bool,∀x,P x=decide (x=s):=⟨_,λ_=>rfl⟩
 have hi:x8 L 139 [.list false (l.map .str),.str s] h=some (.int .i64 (CN P l),h):=by
  refine yp (hL 139 _ rfl) rfl ?_
  simp[Jf]
  rw[PA]
  refine yK l.length (λj st=>∃y3,st=⟨[.list false (l.map PV.str),.str s,.int .i64 0,y3,.int .i64 l.length,.int .i64 j],[],0,h⟩∧∀i (hi:i<l.length),i<j→P l[i]=false) ?_ ?_ ⟨_,rfl,λi _ hi=>by omega⟩
  ·rintro j hj st ⟨y3,rfl,hn⟩ ih
   have hw:=yn j (by omega)
   by_cases hp:l[j]=s
   ·have fk:s=l[j]:=hp.symm
    have oS:P l[j]=true:=by rw[hP]; simpa using hp
    simp[hj,hw,tf hp,tf fk,Hw hj oS hn]
   ·have fk:¬s=l[j]:=λe=>hp e.symm
    have oS:P l[j]=false:=by rw[hP]; simpa using hp
    simp[hj,hw,tf hp,tf fk]
    refine ih _ ⟨_,rfl,λi hi mJ =>?_⟩
    by_cases he:i=j
    ·subst he; exact oS
    ·exact hn i hi (by omega)
  ·rintro st ⟨y3,rfl,hn⟩
   simp[Jf,Hx (λi hi=>hn i hi hi)]
 have ha:decide (s∈l)=l.any P:=by
  rw[aR,av,List.any_eq_true]
  constructor
  ·intro hm; exact⟨s,hm,by rw[hP]; simp⟩
  ·rintro⟨x,hm,hx⟩; rw[hP] at hx; simp at hx; subst hx; exact hm
 rw[ha]
 refine yp (hL 110 _ rfl) rfl ?_
 simp[LC,hi,← Jz]
theorem RP (l m:List Str) (hl:l.length≤2000000000) (hm:m.length≤2000000000) (o1 o2:Bool) (h:List PObj):x8 L 103 [.list o1 (l.map .str),.list o2 (m.map .str)] h=some (.bool (decide (l.length=m.length)&&l.all λx=>decide (x∈m)),h):=by
 have hc:∀x∈l,x8 L 130 [.str x,.cptr [.list false (m.map PV.str)]] []=some (.bool (!decide (x∈m)),[]):=by
  intro x _
  have:=Qq hL m hm false x []
  refine yp (hL 130 _ rfl) rfl ?_
  simp[LF,this]
 have ha:=c79 hL l hl false [] 130 [.list false (m.map PV.str)] (λx => !decide (x∈m)) hc
 refine yp (hL 103 _ rfl) rfl ?_
 have dJ:(l.all λx=>decide (x∈m)) = !(l.any λx => !decide (x∈m)):=by simp[List.all_eq_not_any_not]
 rw[dJ]
 by_cases cS:l.length=m.length
 ·have hi:(l.length:Int)=m.length:=by omega
  simp[I9,tf hi,ha,tf cS]
 ·have hi:¬(l.length:Int)=m.length:=by omega
  simp[I9,tf hi,tf cS]
end
section
variable {L:Nat→Option PFunc} (hL:∀k f,LS k=some f→L k=some f)
include hL
theorem b8Q (e:Expr) (h:List PObj):x8 L 242 [ye e] h=some (.bool (isVar e.kind),h):=by
 refine yp (hL 242 _ rfl) rfl ?_
 by_cases h2:e.kind=2
 ·simp[F3,isVar,h2]
 ·by_cases h8:e.kind=8
  ·simp[F3,isVar,h8]
  ·by_cases h9:e.kind=9
   ·simp[F3,isVar,h9]
   ·simp[F3,isVar,h2,h8,h9]
theorem c07 (e:Expr) (hp:e.parts≤1100000) (ih:∀x∈e.args,∀(l:List Str),l.length+x.parts≤2200000→x8 L 231 (BX (some 0) [.list true (l.map .str),ye x,.bool true]) []=some (.list true ((Bd l x).map .str),[]))
  (l:List Str) (hl:l.length+yr Expr.parts e.args≤2200000) (g:Nat) (y5 y6:PV) {Q:PExit→St→Prop}
  (hk:∀y5 y6 y9 g',Q (.exit 0) ⟨[.list true ((Df e.kind 0 l e.args).map .str),ye e,.bool true,.loc 0 [.int .i64 e.kind,.int .i64 e.op,.int .i64 e.t,.int .i64 e.v,.str e.name,.list false (e.args.map ye)],.list true [],y5,y6,.list false (e.args.map ye),.int .i64 e.args.length,y9],[],g',[]⟩):
  wpL L MA ⟨[.list true (l.map .str),ye e,.bool true,.loc 0 [.int .i64 e.kind,.int .i64 e.op,.int .i64 e.t,.int .i64 e.v,.str e.name,.list false (e.args.map ye)],.list true [],y5,y6,.list false (e.args.map ye),.int .i64 e.args.length,.int .i64 0],[],g,[]⟩ Q:=by
 rw[MA]
 have el:=Qp e
 refine yK e.args.length (λj st=>∃z y5 y6 g',st=⟨[.list true (z.map PV.str),ye e,.bool true,.loc 0 [.int .i64 e.kind,.int .i64 e.op,.int .i64 e.t,.int .i64 e.v,.str e.name,.list false (e.args.map ye)],.list true [],y5,y6,.list false (e.args.map ye),.int .i64 e.args.length,.int .i64 j],[],g',[]⟩∧Df e.kind j z (e.args.drop j)=Df e.kind 0 l e.args∧z.length≤l.length+yr Expr.parts (e.args.take j)) ?_ ?_ ⟨l,y5,y6,g,rfl,by simp,by simp[yr]⟩
 ·rintro j hj st ⟨z,y5,y6,g',rfl,h1,h2⟩ ih2
  have hw:=yn j (by omega)
  have h3:=c1w Expr.parts hj
  have h4:=c5v Expr.parts e.args (j+1)
  have hc:=ih e.args[j] (ak hj) z (by omega)
  rw[a8 hj,Df] at h1
  by_cases h5:e.kind=5
  ·have hd:Eh e.kind j=true:=by simp[Eh,h5]
   rw[ai hd] at h1
   have dq:=λy5 y6 y9 g'=>hk y5 y6 y9 g'
   rw[← h1] at dq
   have n7:¬e.kind=7:=by omega
   simp[hj,tf h5,n7,hw]
   simpa using dq _ _ _ _
  ·by_cases h7:e.kind=7
   ·by_cases h0:0<j
    ·have hd:Eh e.kind j=true:=by simp[Eh,h7,h0]
     rw[ai hd] at h1
     have dq:=λy5 y6 y9 g'=>hk y5 y6 y9 g'
     rw[← h1] at dq
     simp[hj,tf h7,h5,h0,hw]
     simpa using dq _ _ _ _
    ·have hd:Eh e.kind j=false:=by simp[Eh,h7]; omega
     rw[hd] at h1
     have ih3:=ih2
     simp[hj,tf h7,h5,h0,hw,hc]
     refine ih2 _ ⟨Bd z e.args[j],_,_,_,rfl,by simpa using h1,?_⟩
     have:=Hv z e.args[j]
     have e0:e.args[j].list.length=e.args[j].parts:=rfl
     omega
   ·have hd:Eh e.kind j=false:=by simp[Eh,h5,h7]
    rw[hd] at h1
    simp[hj,h5,h7,hw,hc]
    refine ih2 _ ⟨Bd z e.args[j],_,_,_,rfl,by simpa using h1,?_⟩
    have:=Hv z e.args[j]
    have e0:e.args[j].list.length=e.args[j].parts:=rfl
    omega
 ·rintro st ⟨z,y5,y6,g',rfl,h1,h2⟩
  simp only[List.drop_length,Df] at h1
  rw[← h1] at hk
  simp
  simpa using hk _ _ _ _
theorem c4R (e:Expr):e.parts≤1100000→∀(l:List Str),l.length+e.parts≤2200000→x8 L 231 (BX (some 0) [.list true (l.map .str),ye e,.bool true]) []=some (.list true ((Bd l e).map .str),[]):=by
 induction e using Expr.ind with
 | h e ih=>
 intro hp l hl
 have hv:=b8Q hL e []
 have hh:=Qq hL l (by omega) false e.name []
 have hi:=c8m l e
 have hpe:=parts_eq e
 have eK:l.length+1≤2147483648:=by omega
 have nf:=λ(l':List Str) (h':l'.length≤l.length+1) => @c07 L hL e hp (λx hx l h=>ih x hx (by have:=Qr hx; omega) l h) l' (by omega)
 refine c4f (hL 231 _ rfl) rfl ?_
 by_cases pK:isVar e.kind=true
 ·by_cases hm:e.name∈l
  ·have e1:Dg l e.kind e.name=l:=by simp[Dg,hm]
   rw[e1] at hi
   simp[Hr,CW,hv,hh,pK,hm]
   have hx:=nf l (by omega)
   refine hx _ _ _ ?_
   intro y5 y6 y9 g'
   simp[hi]
  ·have e1:Dg l e.kind e.name=l++[e.name]:=by simp[Dg,hm,pK]
   rw[e1] at hi
   simp[Hr,CW,hv,hh,pK,hm,eK]
   have hx:=nf (l++[e.name]) (by simp)
   simp only[bh,az,bB] at hx
   refine hx _ _ _ ?_
   intro y5 y6 y9 g'
   simp[hi]
 ·have e1:Dg l e.kind e.name=l:=by simp[Dg,pK]
  rw[e1] at hi
  simp[Hr,CW,hv,hh,pK]
  have hx:=nf l (by omega)
  refine hx _ _ _ ?_
  intro y5 y6 y9 g'
  simp[hi]
theorem c08 (e:Expr) (hp:e.parts≤1100000):x8 L 217 [ye e] []=some (.list true ((Bd [] e).map .str),[]):=by
 have hc:=c4R hL e hp [] (by simp; omega)
 refine yp (hL 217 _ rfl) rfl ?_
 simp at hc
 simp[Ml,hc]
end
section
variable {L:Nat→Option PFunc} (hL:∀k f,LS k=some f→L k=some f)
include hL
theorem c2W (l:List State) (hl:l.length≤2000000000) (o:Bool) (h:List PObj) (x:State):x8 L 100 [.list o (l.map yD),.func 101 [] [.cptr (yD x).cells]] h=some (.bool (l.any λs=>decide (s.name=x.name)),h):=by
 obtain⟨P,hP⟩:∃P:State→Bool,∀s,P s=decide (s.name=x.name):=⟨_,λ_=>rfl⟩
 have dh:∀s:State,x8 L 101 [yD s,.cptr (yD x).cells] h=some (.bool (P s),h):=by
  intro s
  rw[hP]
  refine yp (hL 101 _ rfl) rfl ?_
  simp[Lw]
 simp only[MK] at dh
 have hi:x8 L 125 [.list false (l.map yD),.func 101 [] [.cptr (yD x).cells]] h=some (.int .i64 (CN P l),h):=by
  refine yp (hL 125 _ rfl) rfl ?_
  simp[Jc]
  rw[Px]
  refine yK l.length (λj st=>∃y3,st=⟨[.list false (l.map yD),.func 101 [] [.cptr [.str x.name,.list false (x.locals.map yi),.list false (x.eqs.map yI),.list false (x.autos.map yS),.list false (x.unl.map zt),.list false (x.til.map zt)]],.int .i64 0,y3,.int .i64 l.length,.int .i64 j],[],0,h⟩∧∀i (hi:i<l.length),i<j→P l[i]=false) ?_ ?_ ⟨_,rfl,λi _ hi=>by omega⟩
  ·rintro j hj st ⟨y3,rfl,hn⟩ ih
   have hw:=yn j (by omega)
   have hc:=dh l[j]
   cases hp:P l[j] with
   | true =>
     rw[hp] at hc
     simp[hj,hc,hw,Hw hj hp hn]
   | false =>
     rw[hp] at hc
     simp[hj,hc,hw]
     refine ih _ ⟨_,rfl,λi hi mJ =>?_⟩
     by_cases he:i=j
     ·subst he; exact hp
     ·exact hn i hi (by omega)
  ·rintro st ⟨y3,rfl,hn⟩
   simp[Jc,Hx (λi hi=>hn i hi hi)]
 have ha:(l.any λs=>decide (s.name=x.name))=l.any P:=by
  congr 1; funext s; exact(hP s).symm
 rw[ha]
 simp only[MK] at hi
 refine yp (hL 100 _ rfl) rfl ?_
 simp[Lv,hi,← Jz]
theorem b5Z (o:Bool) (k:Nat) (cs:List PV) (h:List PObj):x8 L 127 [.list o [],.func k [] [.cptr cs]] h=some (.list false [],h):=by
 have hi:=Nn hL [] (by simp) (.list false []) h (.inl ⟨false,rfl⟩) k cs (λ_=>false) (by simp)
 refine yp (hL 127 _ rfl) rfl ?_
 simp[CN] at hi
 simp[Hf,hi]
theorem c2X (l:List Str) (hl:l.length≤2000000000) (h:List PObj) (kr:Nat) (hk:h[kr]? = some (.cells (l.map PV.str))) (k:Nat) (cs:List PV) (P:Str→Bool) (dh:∀o,∀x∈l,x8 L k [.str x,.cptr cs] (h.set kr o)=some (.bool (P x),h.set kr o)):x8 L 127 [.rowp kr 1 false l.length,.func k [] [.cptr cs]] h=some (.rowp kr 1 false (l.filter λx => !P x).length,h.set kr (.cells ((l.filter λx => !P x).map PV.str))):=by
 have eD:h.set kr (.cells (l.map PV.str))=h:=Cu hk
 have kV:kr<h.length:=(ah.1 hk).1
 have hi:=Nn hL l hl (.rowp kr 1 false l.length) h (.inr ⟨kr,rfl,hk⟩) k cs P (λx hx=>by have:=dh (.cells (l.map PV.str)) x hx; rwa [eD] at this)
 refine yp (hL 127 _ rfl) rfl ?_
 cases hf:l.findIdx? P with
 | none =>
   have fS:l.filter (λx => !P x)=l:=by
    rw[List.findIdx?_eq_none_iff] at hf
    rw[List.filter_eq_self]
    intro x hx; simp[hf x hx]
   simp[CN,hf] at hi
   simp[Hf,hi,fS,eD]
 | some i0 =>
   obtain⟨dF,wK,dI⟩:=List.findIdx?_eq_some_iff_getElem.1 hf
   simp[CN,hf] at hi
   have lH:=yn i0 (by omega)
   have qj:(l.take (i0+1)).filter (λx => !P x)=l.take i0:=by
    rw[aX,am dF]
    simp only[Option.toList,List.filter_append,cF,wK,Bool.not_true,aL,if_false,List.filter_nil,be]
    rw[List.filter_eq_self]
    intro x hx
    obtain⟨j,hj,rfl⟩:=bH.1 hx
    simp only[aY] at hj
    rw[List.getElem_take]
    have:=dI j (by omega)
    simpa using this
   have da:¬(i0:Int) = -1:=by omega
   simp[Hf,hi,lH,da]
   rw[Pz]
   refine yK (l.length - (i0+1)) (λj st=>∃y5 mid,st=⟨[.rowp kr 1 false l.length,.func k [] [.cptr cs],.list true [],.int .i64 ((l.take (i0+1+j)).filter λx => !P x).length,.int .i64 (i0+1+j:Nat),y5],[],0,h.set kr (.cells (((l.take (i0+1+j)).filter (λx => !P x)++mid++l.drop (i0+1+j)).map PV.str))⟩∧((l.take (i0+1+j)).filter λx => !P x).length+mid.length=i0+1+j) ?_ ?_ ⟨.dead,[l[i0]],?_,?_⟩
   ·rintro j hj st ⟨y5,mid,rfl,hm⟩ ih
    obtain⟨J,hJ⟩:∃J,J=i0+1+j:=⟨_,rfl⟩
    have nV:J<l.length:=by omega
    rw[← hJ] at hm ⊢
    have wL:i0+1+(j+1)=J+1:=by omega
    rw[wL] at ih
    have hw:=yn J (by omega)
    obtain⟨F,hF⟩:∃F,F=(l.take J).filter λx => !P x:=⟨_,rfl⟩
    rw[← hF] at hm ⊢
    have wM:=yn F.length (by omega)
    have nW:(l.take (J+1)).filter (λx => !P x)=F++if P l[J] then[] else[l[J]]:=by
     rw[aX,am nV,List.filter_append,← hF]
     simp only[Option.toList,cF,List.filter_nil]
     cases P l[J]<;>simp
    rw[nW] at ih
    have yC:(F++mid++l.drop J)[J]? = some l[J]:=by
     rw[aq (by simp; omega)]
     simp[hm,bi,am nV]
    have hc:=dh (.cells ((F++mid++l.drop J).map PV.str)) l[J] (ak nV)
    have hcell:(h.set kr (.cells ((F++mid++l.drop J).map PV.str)))[kr]? = some (.cells ((F++mid++l.drop J).map PV.str)):=by rw[ar kV]
    obtain⟨C,hC⟩:∃C,C=F++mid++l.drop J:=⟨_,rfl⟩
    rw[← hC] at yC hc hcell ⊢
    obtain⟨h1,e1⟩:∃h1,h.set kr (.cells (C.map PV.str))=h1:=⟨_,rfl⟩
    rw[e1] at hc hcell ⊢
    have uO:J<C.length:=(ah.1 yC).1
    have uP:C[J]=l[J]:=(ah.1 yC).2
    have hFJ:F.length≤J:=by omega
    cases hp:P l[J] with
    | true =>
      rw[hp] at hc ih
      simp only[if_true,be] at ih
      simp[nV,hcell,yC,hc,hw,uO,uP]
      have oM:C=F++(mid++[l[J]])++l.drop (J+1):=by rw[hC,a8 nV]; simp
      have:=ih ⟨[.rowp kr 1 false l.length,.func k [] [.cptr cs],.list true [],.int .i64 F.length,.int .i64 (J+1:Nat),.str l[J]],[],0,h1⟩ ⟨_,mid++[l[J]],by rw[← e1,oM],by simp; omega⟩
      simpa using this
    | false =>
      rw[hp] at hc ih
      simp only[aL,if_false] at ih
      have mA:F.length<l.length:=by omega
      have wN:F.length<C.length:=by omega
      have yw:∃mid',C.set F.length l[J]=F++[l[J]]++mid'++l.drop (J+1)∧(F++[l[J]]).length+mid'.length=J+1:=by
       rw[hC,a8 nV]
       generalize l.drop (J+1)=R
       generalize l[J]=x
       cases mid with
       | nil=>exact⟨[],by simp,by simp at hm ⊢; omega⟩
       | cons m0 ms=>exact⟨ms++[x],by simp,by simp at hm ⊢; omega⟩
      obtain⟨mid',eY,kl⟩:=yw
      have eM:h1.set kr (.cells ((C.map PV.str).set F.length (.str l[J])))=h.set kr (.cells ((F++[l[J]]++mid'++l.drop (J+1)).map PV.str)):=by rw[← e1,List.set_set,← eY,List.map_set]
      simp[nV,hcell,yC,hc,hw,uO,uP,wM,mA,wN,Ac,eM]
      have:=ih ⟨[.rowp kr 1 false l.length,.func k [] [.cptr cs],.list true [],.int .i64 (F++[l[J]]).length,.int .i64 (J+1:Nat),.str l[J]],[],0,h.set kr (.cells ((F++[l[J]]++mid'++l.drop (J+1)).map PV.str))⟩ ⟨_,mid',rfl,kl⟩
      simpa using this
   ·rintro st ⟨y5,mid,rfl,hm⟩
    have hJ:i0+1+(l.length - (i0+1))=l.length:=by omega
    rw[hJ] at hm ⊢
    rw[aC] at hm ⊢
    rw[List.drop_length]
    obtain⟨F,hF⟩:∃F,F=l.filter λx => !P x:=⟨_,rfl⟩
    rw[← hF] at hm ⊢
    have mA:F.length≤l.length:=by omega
    have gR:((F++mid).map PV.str).take F.length=F.map PV.str:=by rw[bh,cN (by simp),bQ (by simp)]
    rw[bh] at gR
    by_cases mN:F=[]
    ·subst mN
     simp[kV]
    ·have hF1:¬F.length=0:=λe=>mN (bC.1 e)
     have jn:cp (.rows kr 1 false F.length (l.length - F.length))=some (.rows kr 1 false F.length (l.length - F.length)):=rfl
     simp[kV,mA,mN,gR,jn]
   ·rw[bw,qj]
    have:(l.take i0).length=i0:=by simp; omega
    have eK:l.take i0++[l[i0]]++l.drop (i0+1)=l:=by
     rw[aN,List.singleton_append,List.getElem_cons_drop,bR]
    rw[this,eK,eD]
    simp
   ·rw[bw,qj]
    simp; omega
end
theorem c2Y (tags:List Str) (d:Decl) (l:List Decl) (v:List Str):zw tags (d::l) v=z8 (zw tags [d] v) (zw tags l):=by
 simp only[zw]
 split
 ·rw[BZ (by decide)]
 ·rfl
theorem c2Z (s:Place) {l:List Eqn} {d r:List Str} (h:AR s l d=(0,r)):r.length=d.length+(zg l).length:=by
 rw[((DD s l d r).1 h).1,ap]
section
variable {L:Nat→Option PFunc} (hL:∀k f,LS k=some f→L k=some f) (en:List Enum) (ns:List Node) (a b:Int) (ents:zJ)
include hL
theorem b9a (tags:List Str) (dX:Db ents tags) (l:List Decl) (hl:l.length≤1100000) (h:List PObj) (h2:h[2]? = some (yv ents)) (h3:h[3]? = some (yo en ns a b)) (q' n o d:Nat) (i dv up:PV) (f:Fr) (fs:List Fr) (t:TopAt h h.length q' n o d i dv up f fs) (vis:List Str) (dC:∀x,zn (f::fs) x=true↔x∈vis)
  (V0 V1 V2 V3 V4 V5 V7 V8 V9 V10 V14 V15 V16 V17 V18 V19 V20 V21 V22:PV) (gi g:Nat) {Q:PExit→St→Prop} (j6:V0 = .ptr 3 0)
  (ok:(zw tags l vis).1=0→∀h' O y7 g',Kp q' h h'→h'.length=h.length→TopAt h' h'.length q' n o d i dv up { f with O:=O } fs→(∀x,zn ({ f with O:=O }::fs) x=true↔x∈(zw tags l vis).2)→(∀x,x∈O↔x∈f.O∨x∈yd l)→Q (.exit 0) ⟨[V0,V1,V2,V3,V4,V5,.loc gi [.ptr n 0],y7,V8,V9,V10,.list false (l.map yi),.int .i64 l.length,.int .i64 l.length,V14,V15,V16,V17,V18,V19,V20,V21,V22],[],g',h'⟩)
  (no:(zw tags l vis).1≠0→∀h' y7 y13 g',Kp q' h h'→Q (.boom (zA 1 a b (zw tags l vis).1)) ⟨[V0,V1,V2,V3,V4,V5,.loc gi [.ptr n 0],y7,V8,V9,V10,.list false (l.map yi),.int .i64 l.length,y13,V14,V15,V16,V17,V18,V19,V20,V21,V22],[],g',h'⟩):
  wpL L Lx ⟨[V0,V1,V2,V3,V4,V5,.loc gi [.ptr n 0],V7,V8,V9,V10,.list false (l.map yi),.int .i64 l.length,.int .i64 0,V14,V15,V16,V17,V18,V19,V20,V21,V22],[],g,h⟩ Q:=by
 subst j6
 rw[Lx]
 refine yK l.length (λj st=>∃y7 g' h' O vis',st=⟨[.ptr 3 0,V1,V2,V3,V4,V5,.loc gi [.ptr n 0],y7,V8,V9,V10,.list false (l.map yi),.int .i64 l.length,.int .i64 j,V14,V15,V16,V17,V18,V19,V20,V21,V22],[],g',h'⟩∧Kp q' h h'∧h'.length=h.length∧TopAt h' h'.length q' n o d i dv up { f with O:=O } fs∧zw tags l vis=zw tags (l.drop j) vis'∧(∀x,zn ({ f with O:=O }::fs) x=true↔x∈vis')∧∀x,x∈O↔x∈f.O∨x∈yd (l.take j)) ?_ ?_ ⟨_,_,h,f.O,vis,rfl,Kp.refl _ _,rfl,t,rfl,dC,λx=>by simp[yd]⟩
 ·rintro j hj st ⟨y7,g',h',O,vis',rfl,dg,cS,ht,dm,hv,hO⟩ ih
  have hw:=yn j (by omega)
  have eu:h'[2]? = some (yv ents):=(dg.2 2 (by have:=ht.four; omega)).trans h2
  have eU:h'[3]? = some (yo en ns a b):=(dg.2 3 (by have:=ht.four; omega)).trans h3
  obtain⟨h'',O'',hx,fD,pO,ii,lD⟩:=O9 hL en ns a b ents tags dX [l[j]] (by simp) false h' eu eU _ q' n o d i dv up _ fs ht vis' hv
  simp only[az,bB] at hx
  have sZ:TopAt h'' h''.length q' n o d i dv up { f with O:=O'' } fs:=by rw[pO]; exact ii
  rw[a8 hj,c2Y] at dm
  have gN:yd (l.take (j+1))=yd (l.take j)++[l[j].name]:=by simp only[yd,aX,am hj,Option.toList,bh,az,bB]
  by_cases hz:(zw tags [l[j]] vis').1=0
  ·obtain⟨eJ,gM⟩:=lD hz
   have iR:zw tags l vis=zw tags (l.drop (j+1)) (zw tags [l[j]] vis').2:=by rw[dm]; exact ai hz
   rw[hz] at hx
   simp[ym] at hx
   simp[hj,hx,hw]
   refine ih _ ⟨_,_,h'',O'',_,rfl,dg.trans fD,by rw[pO,cS],sZ,iR,eJ,λx =>?_⟩
   rw[gM,hO,gN]
   simp[yd,or_assoc]
  ·rw[BZ hz] at dm
   simp[ym,hz] at hx
   simp[hj,hx]
   have:=no (by rw[dm]; exact hz) h'' (.loc g' (yi l[j]).cells) (.int .i64 j) (g'+1) (dg.trans fD)
   rw[dm] at this
   simpa using this
 ·rintro st ⟨y7,g',h',O,vis',rfl,dg,cS,ht,dm,hv,hO⟩
  rw[bk (an _)] at dm
  rw[aC] at hO
  simp
  exact ok (by rw[dm]; rfl) h' O y7 g' dg cS ht (by rw[dm]; exact hv) hO
theorem b9b (k:Nat) (dl:NodesIn ents ns k) (s:Place) (fm:s.before=ns.take k) (l:List Eqn) (hl:l.length≤1100000) (hq:∀x∈l,QW x) (h:List PObj) (h2:h[2]? = some (yv ents)) (h3:h[3]? = some (yo en ns a b)) (q' n o d:Nat) (i dv up:PV) (f:Fr) (fs:List Fr) (t:TopAt h h.length q' n o d i dv up f fs) (dC:∀x,zn (f::fs) x=true↔x∈s.vis)
  (d0:List Str) (hD:f.D=f.df) (dI:∀x,(x∈f.I∨A6 fs x=true)↔(x∈s.inputs∨x∈d0)) (jE:f.df.length+(zg l).length≤4000000)
  (V0 V1 V2 V3 V4 V5 V7 V8 V9 V10 V11 V12 V13 V17 V18 V19 V20 V21 V22:PV) (gi g:Nat) {Q:PExit→St→Prop} (j6:V0 = .ptr 3 0) (nX:V1 = .int .i64 k)
  (ok:(AR s l (d0++f.df)).1=0→∀h' dv' df' y8 g',Kp q' h h'→(AR s l (d0++f.df)).2=d0++df'→TopAt h' h'.length q' n o d i dv' up { f with D:=df',df:=df' } fs→Q (.exit 2) ⟨[V0,V1,V2,V3,V4,V5,.loc gi [.ptr n 0],V7,y8,V9,V10,V11,V12,V13,.list false (l.map yI),.int .i64 l.length,.int .i64 l.length,V17,V18,V19,V20,V21,V22],[],g',h'⟩)
  (no:(AR s l (d0++f.df)).1≠0→∀h' y8 y16 g',Kp q' h h'→Q (.boom (zA 1 a b (AR s l (d0++f.df)).1)) ⟨[V0,V1,V2,V3,V4,V5,.loc gi [.ptr n 0],V7,y8,V9,V10,V11,V12,V13,.list false (l.map yI),.int .i64 l.length,y16,V17,V18,V19,V20,V21,V22],[],g',h'⟩):
  wpL L Ly ⟨[V0,V1,V2,V3,V4,V5,.loc gi [.ptr n 0],V7,V8,V9,V10,V11,V12,V13,.list false (l.map yI),.int .i64 l.length,.int .i64 0,V17,V18,V19,V20,V21,V22],[],g,h⟩ Q:=by
 subst j6
 subst nX
 rw[Ly]
 refine yK l.length (λj st=>∃y8 g' h' dv' df',st=⟨[.ptr 3 0,.int .i64 k,V2,V3,V4,V5,.loc gi [.ptr n 0],V7,y8,V9,V10,V11,V12,V13,.list false (l.map yI),.int .i64 l.length,.int .i64 j,V17,V18,V19,V20,V21,V22],[],g',h'⟩∧Kp q' h h'∧TopAt h' h'.length q' n o d i dv' up { f with D:=df',df:=df' } fs∧AR s l (d0++f.df)=AR s (l.drop j) (d0++df')∧df'.length+(zg (l.drop j)).length=f.df.length+(zg l).length) ?_ ?_ ⟨_,_,h,dv,f.df,rfl,Kp.refl _ _,by rw[Fr.same hD]; exact t,rfl,rfl⟩
 ·rintro j hj st ⟨y8,g',h',dv',df',rfl,dg,ht,dm,cS⟩ ih
  have hw:=yn j (by omega)
  have eu:h'[2]? = some (yv ents):=(dg.2 2 (by have:=ht.four; omega)).trans h2
  have eU:h'[3]? = some (yo en ns a b):=(dg.2 3 (by have:=ht.four; omega)).trans h3
  have rY:(zg (l.drop j)).length=l[j].left.length+(zg (l.drop (j+1))).length:=by
   rw[a8 hj]; simp only[zg,aM,ap]
  obtain⟨h'',hx,fD,lD⟩:=O6 hL en ns a b ents k dl s fm l[j] (hq _ (ak hj)) h' eu eU q' n o d i dv' up _ fs ht (by intro x; exact dC x) d0 rfl dI (by simp only; omega)
  simp only at hx lD
  rw[a8 hj] at dm
  simp only[AR] at dm
  by_cases hz:(Ak s l[j] (d0++df')).1=0
  ·obtain⟨dv'',df'',eJ,gM⟩:=lD hz
   have iR:AR s l (d0++f.df)=AR s (l.drop (j+1)) (d0++df''):=by
    rw[dm]
    unfold z8
    rw[ai hz,eJ]
   have ej:df''.length=df'.length+l[j].left.length:=by
    have h5:=(IT.1 (DP hz)).1
    rw[eJ] at h5
    have:=aI List.length h5
    simp at this
    omega
   rw[hz] at hx
   simp[ym] at hx
   simp[hj,hx,hw]
   exact ih _ ⟨_,_,h'',dv'',df'',rfl,dg.trans fD,gM,iR,by omega⟩
  ·rw[BZ hz] at dm
   simp[ym,hz] at hx
   simp[hj,hx]
   have:=no (by rw[dm]; exact hz) h'' (.loc g' (yI l[j]).cells) (.int .i64 j) (g'+1) (dg.trans fD)
   rw[dm] at this
   simpa using this
 ·rintro st ⟨y8,g',h',dv',df',rfl,dg,ht,dm,cS⟩
  rw[bk (an _)] at dm
  simp
  exact ok (by rw[dm]; rfl) h' dv' df' y8 g' dg (by rw[dm]; rfl) ht
end
def GT (L:Nat→Option PFunc) (en:List Enum) (ns:List Node) (a b:Int) (ents:zJ) (x:List State):Prop:=
 ∀ (k : Nat), NodesIn ents ns k → ∀ (s : Place), s.before = ns.take k → Db ents s.tags → ∀ (h : List PObj), h[2]? = some (yv ents) → h[3]? = some (yo en ns a b) → ∀ (q' n o d : Nat) (i dv up : PV) (f : Fr) (fs : List Fr), TopAt h h.length q' n o d i dv up f fs → (∀ x, zn (f :: fs) x = true ↔ x ∈ s.vis) →
   ∀(d0:List Str),f.D=f.df→(∀x,(x∈f.I∨A6 fs x=true)↔(x∈s.inputs∨x∈d0))→f.df.length+(zj [x]).length≤4000000 →
   ∃h',yy L 62 [.ptr 3 0,.int .i64 k,.ptr n 0,yS x] h=some (ym 1 a b (AX s (d0++f.df) x).1,h')∧Kp q' h h'∧((AX s (d0++f.df) x).1=0→∃dv' df',(d0++f.df)++(AX s (d0++f.df) x).2=d0++df'∧TopAt h' h'.length q' n o d i dv' up { f with D:=df',df:=df' } fs)
theorem O7 {s:Place} {d:List Str} {x:List State} (h:(AX s d x).1=0):(AX s d x).2=zj [x]:=by
 have h1:zc s d [x]=(0,d++(AX s d x).2):=by
  rw[KW,DO]
  exact⟨h,by simp[zc]⟩
 have h2:=(F9 [x] s d _ h1).1
 exact List.append_cancel_left h2
section
variable {L:Nat→Option PFunc} (hL:∀k f,LS k=some f→L k=some f) (en:List Enum) (ns:List Node) (a b:Int) (ents:zJ)
include hL
theorem b9c (k:Nat) (dl:NodesIn ents ns k) (s:Place) (fm:s.before=ns.take k) (dX:Db ents s.tags) (l:List (List State)) (hl:l.length≤1100000) (hq:∀x∈l,GT L en ns a b ents x) (h:List PObj) (h2:h[2]? = some (yv ents)) (h3:h[3]? = some (yo en ns a b)) (q' n o d:Nat) (i dv up:PV) (f:Fr) (fs:List Fr) (t:TopAt h h.length q' n o d i dv up f fs) (dC:∀x,zn (f::fs) x=true↔x∈s.vis)
  (d0:List Str) (hD:f.D=f.df) (dI:∀x,(x∈f.I∨A6 fs x=true)↔(x∈s.inputs∨x∈d0)) (jE:f.df.length+(zj l).length≤4000000)
  (V0 V1 V2 V3 V4 V5 V7 V8 V9 V10 V11 V12 V13 V14 V15 V16 V20 V21 V22:PV) (gi g:Nat) {Q:PExit→St→Prop} (j6:V0 = .ptr 3 0) (nX:V1 = .int .i64 k)
  (ok:(zc s (d0++f.df) l).1=0→∀h' dv' df' y9 g',Kp q' h h'→(zc s (d0++f.df) l).2=d0++df'→TopAt h' h'.length q' n o d i dv' up { f with D:=df',df:=df' } fs→Q (.exit 4) ⟨[V0,V1,V2,V3,V4,V5,.loc gi [.ptr n 0],V7,V8,y9,V10,V11,V12,V13,V14,V15,V16,.list false (l.map yS),.int .i64 l.length,.int .i64 l.length,V20,V21,V22],[],g',h'⟩)
  (no:(zc s (d0++f.df) l).1≠0→∀h' y9 y19 g',Kp q' h h'→Q (.boom (zA 1 a b (zc s (d0++f.df) l).1)) ⟨[V0,V1,V2,V3,V4,V5,.loc gi [.ptr n 0],V7,V8,y9,V10,V11,V12,V13,V14,V15,V16,.list false (l.map yS),.int .i64 l.length,y19,V20,V21,V22],[],g',h'⟩):
  wpL L Lz ⟨[V0,V1,V2,V3,V4,V5,.loc gi [.ptr n 0],V7,V8,V9,V10,V11,V12,V13,V14,V15,V16,.list false (l.map yS),.int .i64 l.length,.int .i64 0,V20,V21,V22],[],g,h⟩ Q:=by
 have _:=hL
 subst j6
 subst nX
 rw[Lz]
 refine yK l.length (λj st=>∃y9 g' h' dv' df',st=⟨[.ptr 3 0,.int .i64 k,V2,V3,V4,V5,.loc gi [.ptr n 0],V7,V8,y9,V10,V11,V12,V13,V14,V15,V16,.list false (l.map yS),.int .i64 l.length,.int .i64 j,V20,V21,V22],[],g',h'⟩∧Kp q' h h'∧TopAt h' h'.length q' n o d i dv' up { f with D:=df',df:=df' } fs∧zc s (d0++f.df) l=zc s (d0++df') (l.drop j)∧df'.length+(zj (l.drop j)).length=f.df.length+(zj l).length) ?_ ?_ ⟨_,_,h,dv,f.df,rfl,Kp.refl _ _,by rw[Fr.same hD]; exact t,rfl,rfl⟩
 ·rintro j hj st ⟨y9,g',h',dv',df',rfl,dg,ht,dm,cS⟩ ih
  have hw:=yn j (by omega)
  have eu:h'[2]? = some (yv ents):=(dg.2 2 (by have:=ht.four; omega)).trans h2
  have eU:h'[3]? = some (yo en ns a b):=(dg.2 3 (by have:=ht.four; omega)).trans h3
  have rY:(zj (l.drop j)).length=(zj [l[j]]).length+(zj (l.drop (j+1))).length:=by
   rw[a8 hj,Fh,Fh]; simp[zj]
  obtain⟨h'',hx,fD,lD⟩:=hq _ (ak hj) k dl s fm dX h' eu eU q' n o d i dv' up _ fs ht (by intro x; exact dC x) d0 rfl dI (by simp only; omega)
  simp only at hx lD
  rw[a8 hj,KW] at dm
  by_cases hz:(AX s (d0++df') l[j]).1=0
  ·obtain⟨dv'',df'',eJ,gM⟩:=lD hz
   have iR:zc s (d0++f.df) l=zc s (d0++df'') (l.drop (j+1)):=by
    rw[dm]
    unfold z8
    rw[ai hz]
    exact aI (λz=>zc s z (l.drop (j+1))) eJ
   have ej:df''.length=df'.length+(zj [l[j]]).length:=by
    rw[O7 hz] at eJ
    have:=aI List.length eJ
    simp at this
    omega
   rw[hz] at hx
   simp[ym] at hx
   simp[hj,hx,hw]
   exact ih _ ⟨_,_,h'',dv'',df'',rfl,dg.trans fD,gM,iR,by omega⟩
  ·rw[BZ hz] at dm
   simp[ym,hz] at hx
   simp[hj,hx]
   have:=no (by rw[dm]; exact hz) h'' (.loc g' (yS l[j]).cells) (.int .i64 j) (g'+1) (dg.trans fD)
   rw[dm] at this
   simpa using this
 ·rintro st ⟨y9,g',h',dv',df',rfl,dg,ht,dm,cS⟩
  rw[bk (an _)] at dm
  simp
  exact ok (by rw[dm]; simp[zc]) h' dv' df' y9 g' dg (by rw[dm]; simp[zc]) ht
theorem b9d (l:List Decl) (hl:l.length≤1100000) (h:List PObj) (h3:h[3]? = some (yo en ns a b)) (q' n o d:Nat) (i dv up:PV) (f:Fr) (fs:List Fr) (t:TopAt h h.length q' n o d i dv up f fs)
  (V0 V1 V2 V3 V4 V5 V7 V8 V9 V10 V11 V12 V13 V14 V15 V16 V17 V18 V19:PV) (gi g:Nat) {Q:PExit→St→Prop} (j6:V0 = .ptr 3 0)
  (ok:(∀x∈yd l,x∈f.D)→∀y10 g',Q (.exit 6) ⟨[V0,V1,V2,V3,V4,V5,.loc gi [.ptr n 0],V7,V8,V9,y10,V11,V12,V13,V14,V15,V16,V17,V18,V19,.list false (l.map yi),.int .i64 l.length,.int .i64 l.length],[],g',h⟩)
  (no:¬(∀x∈yd l,x∈f.D)→∀y10 y22 g',Q (.boom (zA 1 a b 8)) ⟨[V0,V1,V2,V3,V4,V5,.loc gi [.ptr n 0],V7,V8,V9,y10,V11,V12,V13,V14,V15,V16,V17,V18,V19,.list false (l.map yi),.int .i64 l.length,y22],[],g',h⟩):
  wpL L LA ⟨[V0,V1,V2,V3,V4,V5,.loc gi [.ptr n 0],V7,V8,V9,V10,V11,V12,V13,V14,V15,V16,V17,V18,V19,.list false (l.map yi),.int .i64 l.length,.int .i64 0],[],g,h⟩ Q:=by
 subst j6
 have hT:=DB hL en ns a b h h3 8
 have hF:=DC hL en ns a b h h3 8
 have hn:=t.hn
 have hd:=t.hd
 rw[LA]
 refine yK l.length (λj st=>∃y10 g',st=⟨[.ptr 3 0,V1,V2,V3,V4,V5,.loc gi [.ptr n 0],V7,V8,V9,y10,V11,V12,V13,V14,V15,V16,V17,V18,V19,.list false (l.map yi),.int .i64 l.length,.int .i64 j],[],g',h⟩∧∀x∈yd (l.take j),x∈f.D) ?_ ?_ ⟨_,_,rfl,by simp[yd]⟩
 ·rintro j hj st ⟨y10,g',rfl,el⟩ ih
  have hw:=yn j (by omega)
  obtain⟨r,hr,ft,_⟩:=Da l[j].name f.D
  have gN:yd (l.take (j+1))=yd (l.take j)++[l[j].name]:=by simp only[yd,aX,am hj,Option.toList,bh,az,bB]
  by_cases hx:l[j].name∈f.D
  ·simp[hx] at ft
   obtain⟨c,rfl⟩:=ft
   simp[hj,hn,hd,hr,zi,hT,hw]
   refine ih _ ⟨_,_,rfl,?_⟩
   rw[gN]
   intro x hm
   rcases ay.1 hm with h1|h1
   ·exact el x h1
   ·rw[aP.1 h1]; exact hx
  ·simp[hx] at ft
   subst ft
   simp[hj,hn,hd,hr,zi,hF]
   have:=no (λdJ=>hx (dJ _ (bc.2 ⟨_,ak hj,rfl⟩))) (.loc g' (yi l[j]).cells) (.int .i64 j) (g'+1)
   simpa using this
 ·rintro st ⟨y10,g',rfl,el⟩
  rw[aC] at el
  simp
  exact ok el _ _
end
theorem c1r (l:List Str):Aj 1 false (l.map PV.str) l.length 0=some (l.map PV.str):=by
 suffices H:∀(n off:Nat),off+n=l.length→Aj 1 false (l.map PV.str) n off=some ((l.drop off).map PV.str) by simpa using H l.length 0 (by omega)
 intro n
 induction n with
 | zero=>intro off h; rw[bk (by omega)]; rfl
 | succ n ih =>
   intro off h
   have ho:off<l.length:=by omega
   simp only[Aj,ih (off+1) (by omega)]
   simp[yh,ho]
   rw[a8 (i:=off) (l:=l.map PV.str) (by simpa using ho)]
   simp
theorem c21 (s:Place) (d:List Str) (x:State):Bt s d x =
  z8 (Aa s.vis s.tags x.locals) λvis=>z8 (AR (s.at vis) x.eqs d) λd1=>z8 (zc (s.at vis) d1 x.autos) λd2=>
  z8 (CD s x.unl,[]) λ_=>z8 (CD (s.at vis) x.til,[]) λ_=>if zk (yd x.locals) (zk d2 d)=[] then(0,zk (zk d2 d) (yd x.locals)) else(8,[]):=by
 cases x; simp only[Bt]; rfl
theorem c8a (x:State):Cy x=zg x.eqs++zj x.autos:=by cases x; rfl
section
variable {L:Nat→Option PFunc} (hL:∀k f,LS k=some f→L k=some f) (en:List Enum) (ns:List Node) (a b:Int) (ents:zJ)
include hL
theorem c22 (h:List PObj) (hb:4≤h.length) (n:Nat) (fs:List Fr) (hv:Holds h h.length (.ptr n 0) fs):∃h',yy L 58 [.ptr n 0] h=some (.val (.ptr (h.length+2) 0),h')∧x8 L 58 [.ptr n 0] h=some (.ptr (h.length+2) 0,h')∧Kp h.length h h'∧TopAt h' h'.length h.length (h.length+2) h.length (h.length+1) (.map none) (.list true []) (.ptr n 0) ⟨[],[],[],[]⟩ fs:=by
 have hK:∀n',n'<h.length→(h++[PObj.map [],.map [],.cells [.ptr n 0,.map (some h.length),.map (some (h.length+1)),.map none,.list true []]])[n']? = h[n']? := λn hn=>by rw[al (by omega)]
 refine⟨h++[.map [],.map [],.cells [.ptr n 0,.map (some h.length),.map (some (h.length+1)),.map none,.list true []]],?_,?_,Kp.app (an _),?_⟩
 ·refine Bh (hL 58 _ rfl) rfl ?_
  simp[GR,PV.cells]
 ·refine yp (hL 58 _ rfl) rfl ?_
  simp[GR,PV.cells]
 ·exact⟨by omega,by omega,by omega,by simp,by simp,by simp,by omega,by omega,by omega,hb,by simp,by simp[bmE],by simp[bmE],.inl ⟨rfl,rfl⟩,.inl ⟨rfl,rfl⟩,λ_ _ _ _ e=>by simp at e,hv.keep hK⟩
def StOut (a b:Int) (e:EN) (r:Out):Prop:=if e.1=0 then ∃o,r = .val (.list o (e.2.map PV.str)) else r = .boom (zA 1 a b e.1)
omit hL in
theorem StOut.no {e:EN} {z:Int} (hz:z≠0) (he:e=(z,[])):StOut a b e (.boom (zA 1 a b z)):=by
 unfold StOut; rw[he,ae hz]
theorem c5m (x:State) (hx:SW x) (hA:∀y∈x.autos,GT L en ns a b ents y) (hp:(Cy x).length≤4000000) (k:Nat) (dl:NodesIn ents ns k) (s:Place) (fm:s.before=ns.take k) (dX:Db ents s.tags) (h:List PObj) (h2:h[2]? = some (yv ents)) (h3:h[3]? = some (yo en ns a b)) (q' n o d:Nat) (i dv up:PV) (f:Fr) (fs:List Fr) (t:TopAt h h.length q' n o d i dv up f fs) (dC:∀x,zn (f::fs) x=true↔x∈s.vis)
  (d0:List Str) (hD:f.D=f.df) (dI:∀x,(x∈f.I∨A6 fs x=true)↔(x∈s.inputs∨x∈d0)):
  ∃h' r,yy L 102 [.ptr 3 0,.int .i64 k,.ptr n 0,yD x] h=some (r,h')∧Kp h.length h h'∧StOut a b (Bt s (d0++f.df) x) r:=by
 suffices H:∃res,yy L 102 [.ptr 3 0,.int .i64 k,.ptr n 0,yD x] h=some res∧∃h' r,res=(r,h')∧Kp h.length h h'∧StOut a b (Bt s (d0++f.df) x) r by
  obtain⟨res,e1,h',r,e2,e3⟩:=H
  exact⟨h',r,by rw[e1,e2],e3⟩
 have h4:4≤h.length:=by have:=t.four; have:=t.ln; have:=t.un; omega
 obtain⟨h1,e1,e1',k1,t1⟩:=c22 hL h h4 n (f::fs) t.holds
 have uQ:h1[2]? = some (yv ents):=(k1.2 2 (by omega)).trans h2
 have uR:h1[3]? = some (yo en ns a b):=(k1.2 3 (by omega)).trans h3
 have jo:∀x,zn (⟨[],[],[],[]⟩::f::fs) x=true↔x∈s.vis:=λx=>by rw[← dC]; simp[zn]
 have hN:=c21 s (d0++f.df) x
 refine DA (hL 102 _ rfl) rfl ?_
 simp[LB,e1',e1]
 refine b9a hL en ns a b ents s.tags dX x.locals hx.locals h1 uQ uR h.length _ _ _ _ _ _ _ _ t1 s.vis jo _ _ _ _ _ _ _ _ _ _ _ _ _ _ _ _ _ _ _ _ _ rfl ?_ ?_
 ·intro pY h5 O y7 g5 k5 iw t5 qk wO
  have uS:h5[2]? = some (yv ents):=(k5.2 2 (by omega)).trans uQ
  have s0:h5[3]? = some (yo en ns a b):=(k5.2 3 (by omega)).trans uR
  obtain⟨vis,lN⟩:∃vis,vis=(zw s.tags x.locals s.vis).2:=⟨_,rfl⟩
  rw[← lN] at qk
  have hs:=Pa hL en ns a b x.locals (by have:=hx.locals; omega) hx.ls false h5 s0 _ _ _ t5.holds vis qk
  have uT:Aa s.vis s.tags x.locals=(CX vis x.locals,vis):=by
   unfold Aa z8
   rw[ai pY,lN]
  by_cases fA:CX vis x.locals=0
  ·rw[fA] at hs
   simp[ym] at hs
   simp[hs]
   obtain⟨D,qm⟩:∃D,D=d0++f.df:=⟨_,rfl⟩
   rw[← qm] at hN ⊢
   have qn:∀y,(y∈([]:List Str)∨A6 (f::fs) y=true)↔(y∈(s.at vis).inputs∨y∈D):=by
    intro y
    have:=dI y
    rw[qm]
    simp only[A6,List.any_cons,bM,av,ay,List.not_mem_nil,false_or,Place.at,hD] at this ⊢
    constructor
    ·rintro((h1|h1)|h1)
     ·exact .inr (.inr h1)
     ·rcases this.1 (.inl h1) with h|h
      ·exact .inl h
      ·exact .inr (.inl h)
     ·rcases this.1 (.inr h1) with h|h
      ·exact .inl h
      ·exact .inr (.inl h)
    ·rintro(h1|h1|h1)
     ·rcases this.2 (.inl h1) with h|h
      ·exact .inl (.inr h)
      ·exact .inr h
     ·rcases this.2 (.inr h1) with h|h
      ·exact .inl (.inr h)
      ·exact .inr h
     ·exact .inl (.inl h1)
   rw[c8a,ap] at hp
   have s4:Aa s.vis s.tags x.locals=(0,vis):=by rw[uT,fA]
   rw[s4,Ia] at hN
   refine b9b hL en ns a b ents k dl (s.at vis) fm x.eqs hx.eqs hx.es h5 uS s0 h.length _ _ _ _ _ _ _ _ t5 qk D rfl qn (by simp only[bo]; omega) _ _ _ _ _ _ _ _ _ _ _ _ _ _ _ _ _ _ _ _ _ rfl rfl ?_ ?_
   ·intro fl h6 dv6 df6 y8 g6 k6 uU t6
    simp only[be] at fl uU
    have uV:h6[2]? = some (yv ents):=(k6.2 2 (by omega)).trans uS
    have uW:h6[3]? = some (yo en ns a b):=(k6.2 3 (by omega)).trans s0
    have s6:AR (s.at vis) x.eqs D=(0,D++df6):=by rw[← uU,← fl]
    have wP:=c2Z _ s6
    simp only[ap] at wP
    rw[s6,Ia] at hN
    simp
    refine b9c hL en ns a b ents k dl (s.at vis) fm dX x.autos hx.autos hA h6 uV uW h.length _ _ _ _ _ _ _ _ t6 qk D rfl qn (by simp only; omega) _ _ _ _ _ _ _ _ _ _ _ _ _ _ _ _ _ _ _ _ _ rfl rfl ?_ ?_
    ·intro md h7 dv7 df7 y9 g7 k7 uX t7
     simp only at md uX
     have h27:h7[2]? = some (yv ents):=(k7.2 2 (by omega)).trans uV
     have uY:h7[3]? = some (yo en ns a b):=(k7.2 3 (by omega)).trans uW
     have uZ:zc (s.at vis) (D++df6) x.autos=(0,D++df7):=by rw[← uX,← md]
     rw[uZ,Ia] at hN
     have k07:Kp h.length h h7:=((k1.trans k5).trans k6).trans k7
     obtain⟨h8,e8,k8⟩:=RN hL en ns a b ents k dl s fm x.unl hx.unl hx.us false h7 h27 uY h.length k07.1 _ _ (t.holds.keep k07.2) dC
     by_cases qo:CD s x.unl=0
     ·rw[qo] at e8
      simp[ym] at e8
      have wQ:h8[2]? = some (yv ents):=(k8.2 2 (by have:=k07.1; omega)).trans h27
      have u4:h8[3]? = some (yo en ns a b):=(k8.2 3 (by have:=k07.1; omega)).trans uY
      have t8:=(t7.keep k8.2).upTo k8.1
      obtain⟨h9,e9,k9⟩:=RN hL en ns a b ents k dl (s.at vis) fm x.til hx.til hx.ts false h8 wQ u4 h8.length (an _) _ _ t8.holds qk
      rw[qo,Ia] at hN
      by_cases qq:CD (s.at vis) x.til=0
      ·rw[qq] at e9
       simp[ym] at e9
       rw[qq,Ia] at hN
       have h39:h9[3]? = some (yo en ns a b):=(k9.2 3 (by have:=k07.1; have:=k8.1; omega)).trans u4
       have t9:=(t8.keep k9.2).upTo k9.1
       have k09:Kp h.length h h9:=(k07.trans (k8.le k07.1)).trans (k9.le (aD k07.1 k8.1))
       have u5:=(DD (s.at vis) x.eqs D _).1 s6
       have oX:=F9 x.autos (s.at vis) (D++df6) _ uZ
       have fj:df7=zg x.eqs++zj x.autos:=by
        have e1:=oX.1
        rw[u5.1,aN] at e1
        exact List.append_cancel_left e1
       have s7:∀y∈df7,y∉D:=by
        intro y hy
        rw[fj] at hy
        rcases ay.1 hy with h|h
        ·exact(u5.2.1.1 y h).2.2
        ·exact λhm=>(oX.2.1.1 y h).2.2 (bU _ hm)
       rw[Q7 s7] at hN
       simp[e8,e9]
       refine b9d hL en ns a b x.locals hx.locals h9 h39 h.length _ _ _ _ _ _ _ _ t9 _ _ _ _ _ _ _ _ _ _ _ _ _ _ _ _ _ _ _ _ _ rfl ?_ ?_
       ·intro dJ y10 g9
        simp only at dJ
        have fJ:zk (yd x.locals) df7=[]:=FU.2 dJ
        rw[ai fJ] at hN
        have n9:=t9.hn
        have o9:=t9.ho
        rcases t9.row with⟨rfl,gT⟩|⟨kr,eV,em,rfl,ib⟩
        ·simp only at gT
         have hd:=b5Z hL false 128 [.ptr (h.length+2) 0] h9
         simp[n9,hd]
         refine⟨h9,_,⟨rfl,rfl⟩,k09,?_⟩
         unfold StOut
         rw[hN,ai rfl]
         exact⟨false,by simp[gT,zk]⟩
        ·have oZ:=t9.rne _ _ _ _ rfl
         have hd:=c2X hL df7 (by rw[fj,ap]; omega) h9 kr ib 128 [.ptr (h.length+2) 0] (λy=>decide (y∈yd x.locals)) (by
          intro w y _
          have n9':=(af (l:=h9) (a:=w) oZ.1).trans n9
          have o9':=(af (l:=h9) (a:=w) oZ.2.1).trans o9
          obtain⟨r,hr,ft,_⟩:=Da y O
          have u6:y∈O↔y∈yd x.locals:=by rw[wO]; simp
          refine yp (hL 128 _ rfl) rfl ?_
          by_cases hy:y∈O
          ·simp[hy] at ft
           obtain⟨c,rfl⟩:=ft
           simp[Je,n9',o9',hr,zi,u6.1 hy]
          ·simp[hy] at ft
           subst ft
           have gU:¬y∈yd x.locals:=λh=>hy (u6.2 h)
           simp[Je,n9',o9',hr,zi,gU])
         have p8:df7.filter (λy => !decide (y∈yd x.locals))=zk df7 (yd x.locals):=rfl
         rw[p8] at hd
         obtain⟨R,hR⟩:∃R,R=zk df7 (yd x.locals):=⟨_,rfl⟩
         rw[← hR] at hd hN
         have kV:kr<h9.length:=(ah.1 ib).1
         have i8:(h9.set kr (.cells (R.map PV.str)))[kr]? = some (.cells (R.map PV.str)):=by rw[ar kV]
         have wR:=c1r R
         simp[n9,hd,i8,wR,Ib]
         refine⟨_,_,⟨rfl,rfl⟩,k09.trans (Kp.set eV),?_⟩
         unfold StOut
         rw[hN,ai rfl]
         exact⟨false,rfl⟩
       ·intro fS y10 y22 g9
        have fJ:¬zk (yd x.locals) df7=[]:=λe=>fS (FU.1 e)
        rw[ae fJ] at hN
        simp
        exact⟨h9,_,⟨rfl,rfl⟩,k09,StOut.no a b (by decide) hN⟩
      ·simp[ym,qq] at e9
       simp[e8,e9]
       exact⟨h9,_,⟨rfl,rfl⟩,(k07.trans (k8.le k07.1)).trans (k9.le (aD k07.1 k8.1)),StOut.no a b qq (by rw[hN]; exact BZ (a:=(_,[])) qq _)⟩
     ·simp[ym,qo] at e8
      simp[e8]
      exact⟨h8,_,⟨rfl,rfl⟩,k07.trans (k8.le k07.1),StOut.no a b qo (by rw[hN]; exact BZ (a:=(_,[])) qo _)⟩
    ·intro md h7 y9 y19 g7 k7
     simp only at md
     simp
     exact⟨h7,_,⟨rfl,rfl⟩,((k1.trans k5).trans k6).trans k7,StOut.no a b md (by rw[hN]; exact BZ md _)⟩
   ·intro fl h6 y8 y16 g6 k6
    simp only[be] at fl ⊢
    simp
    exact⟨h6,_,⟨rfl,rfl⟩,(k1.trans k5).trans k6,StOut.no a b fl (by rw[hN]; exact BZ fl _)⟩
  ·simp[ym,fA] at hs
   simp[hs]
   exact⟨h5,_,⟨rfl,rfl⟩,k1.trans k5,StOut.no a b fA (by rw[hN,uT,BZ fA])⟩
 ·intro hz h5 y7 y13 g5 k5
  simp
  refine⟨h5,_,⟨rfl,rfl⟩,k1.trans k5,StOut.no a b hz ?_⟩
  have:Aa s.vis s.tags x.locals=((zw s.tags x.locals s.vis).1,[]):=by
   unfold Aa; exact BZ hz _
  rw[hN,this]
  exact BZ (a:=(_,[])) hz _
end
section
variable {L:Nat→Option PFunc} (hL:∀k f,LS k=some f→L k=some f) (en:List Enum) (ns:List Node) (a b:Int) (ents:zJ)
include hL
theorem c1s (l:List State) (hl:l.length≤1100000) (h:List PObj) (h3:h[3]? = some (yo en ns a b)) (V0 V1 V2 V3 V5 V6 V7 V8 V9 V10 V11 V12 V16 V17 V18 V19 V20 V21:PV) (gi g:Nat) {Q:PExit→St→Prop} (j6:V0 = .ptr 3 0)
  (ok:(l.map (·.name)).Nodup→∀y5 y6 g',Q (.exit 0) ⟨[V0,V1,V2,V3,.loc gi [.list false (l.map yD)],y5,y6,V7,V8,V9,V10,V11,V12,.list false (l.map yD),.int .i64 l.length,.int .i64 l.length,V16,V17,V18,V19,V20,V21],[],g',h⟩)
  (no:¬(l.map (·.name)).Nodup→∀y5 y6 y15 g',Q (.boom (zA 1 a b 7)) ⟨[V0,V1,V2,V3,.loc gi [.list false (l.map yD)],y5,y6,V7,V8,V9,V10,V11,V12,.list false (l.map yD),.int .i64 l.length,y15,V16,V17,V18,V19,V20,V21],[],g',h⟩):
  wpL L Lo ⟨[V0,V1,V2,V3,.loc gi [.list false (l.map yD)],V5,V6,V7,V8,V9,V10,V11,V12,.list false (l.map yD),.int .i64 l.length,.int .i64 0,V16,V17,V18,V19,V20,V21],[],g,h⟩ Q:=by
 subst j6
 have hT:=DB hL en ns a b h h3 7
 have hF:=DC hL en ns a b h h3 7
 rw[Lo]
 refine yK l.length (λj st=>∃y5 y6 g',st=⟨[.ptr 3 0,V1,V2,V3,.loc gi [.list false (l.map yD)],y5,y6,V7,V8,V9,V10,V11,V12,.list false (l.map yD),.int .i64 l.length,.int .i64 j,V16,V17,V18,V19,V20,V21],[],g',h⟩∧((l.take j).map (·.name)).Nodup) ?_ ?_ ⟨_,_,_,rfl,by simp⟩
 ·rintro j hj st ⟨y5,y6,g',rfl,dl⟩ ih
  have hw:=yn j (by omega)
  have s8:j≤l.length:=by omega
  have hc:=c2W hL (l.take j) (by simp; omega) false [] l[j]
  simp only[MK] at hc
  have d9:(l.map yD).take j=(l.take j).map yD:=by rw[List.map_take]
  have gN:(l.take (j+1)).map (·.name)=(l.take j).map (·.name)++[l[j].name]:=by simp only[aX,am hj,Option.toList,bh,az,bB]
  obtain⟨T,u7⟩:∃T,T=(l.take j).map yD:=⟨_,rfl⟩
  have rt:yq T=true:=by rw[u7]; exact c04 _
  rw[← u7] at hc d9
  have nG:yU 6 (l.map yD)=true:=by
   cases l with
   | nil=>rfl
   | cons z l=>simp[yU]
  cases me:(l.take j).any λs=>decide (s.name=l[j].name) with
  | false =>
    rw[me] at hc
    simp[hj,hw,hc,hT,d9,nG,s8,bound,rt]
    refine ih _ ⟨_,_,_,rfl,?_⟩
    rw[gN,bW]
    refine⟨dl,by simp,?_⟩
    intro x hx y hy e
    rw[aP.1 hy] at e
    subst e
    obtain⟨z,hz,s9⟩:=bc.1 hx
    have:=List.any_eq_false.1 me z hz
    simp[s9] at this
  | true =>
    rw[me] at hc
    simp[hj,hw,hc,hF,d9,nG,s8,bound,rt]
    refine no ?_ _ _ _ _
    intro hn
    obtain⟨z,hz,s9⟩:=List.any_eq_true.1 me
    have hs:l.map (·.name)=((l.take j).map (·.name)++[l[j].name])++(l.drop (j+1)).map (·.name):=by rw[← gN,← bh,bR]
    rw[hs,bW,bW] at hn
    exact hn.1.2.2 l[j].name (bc.2 ⟨z,hz,by simpa using s9⟩) _ (aP.2 rfl) rfl
 ·rintro st ⟨y5,y6,g',rfl,dl⟩
  rw[aC] at dl
  simp
  exact ok dl _ _ _
theorem c1t (l:List Str) (hl:l.length≤4000000) (h:List PObj) (q' n o d:Nat) (i dv up:PV) (f:Fr) (fs:List Fr) (t:TopAt h h.length q' n o d i dv up f fs) (ee:∀x∈l,x∉f.D) (dl:l.Nodup)
  (V0 V1 V3 V4 V5 V6 V7 V8 V9 V10 V11 V12 V13 V14 V15 V16 V17 V18:PV) (g:Nat) {Q:PExit→St→Prop}
  (ok:∀h' y12,Kp q' h h'→h'.length=h.length→TopAt h' h'.length q' n o d i dv up { f with D:=f.D++l } fs→Q (.exit 4) ⟨[V0,V1,.ptr n 0,V3,V4,V5,V6,V7,V8,V9,V10,V11,y12,V13,V14,V15,V16,V17,V18,.list false (l.map PV.str),.int .i64 l.length,.int .i64 l.length],[],g,h'⟩):
  wpL L Lq ⟨[V0,V1,.ptr n 0,V3,V4,V5,V6,V7,V8,V9,V10,V11,V12,V13,V14,V15,V16,V17,V18,.list false (l.map PV.str),.int .i64 l.length,.int .i64 0],[],g,h⟩ Q:=by
 have _:=hL
 rw[Lq]
 refine yK l.length (λj st=>∃y12 h',st=⟨[V0,V1,.ptr n 0,V3,V4,V5,V6,V7,V8,V9,V10,V11,y12,V13,V14,V15,V16,V17,V18,.list false (l.map PV.str),.int .i64 l.length,.int .i64 j],[],g,h'⟩∧Kp q' h h'∧h'.length=h.length∧TopAt h' h'.length q' n o d i dv up { f with D:=f.D++l.take j } fs) ?_ ?_ ⟨_,h,rfl,Kp.refl _ _,rfl,by simpa using t⟩
 ·rintro j hj st ⟨y12,h',rfl,dg,cS,ht⟩ ih
  have hw:=yn j (by omega)
  have hn:=ht.hn
  have hd:=ht.hd
  obtain⟨r',hr,_,iq⟩:=Da l[j] (f.D++l.take j)
  have gB:CK (f.D++l.take j) l[j]=f.D++l.take (j+1):=by
   unfold CK
   rw[ae]
   ·rw[aX,am hj]; simp
   ·intro hm
    rcases ay.1 hm with h1|h1
    ·exact ee _ (ak hj) h1
    ·obtain⟨c,hc,oW⟩:=bH.1 h1
     simp only[aY] at hc
     rw[List.getElem_take] at oW
     have:=(List.getElem_inj (h₀:=by omega) (h₁:=hj) dl).1 oW
     omega
  rw[gB] at iq
  simp[hj,hn,hd,hr,iq,hw]
  have mf:=ht.setD (f.D++l.take (j+1))
  refine ih _ ⟨_,_,rfl,dg.trans (Kp.set ht.ld),by simp[cS],by simpa using mf⟩
 ·rintro st ⟨y12,h',rfl,dg,cS,ht⟩
  rw[aC] at ht
  simp
  exact ok h' _ dg cS ht
end
def No (L:Nat→Option PFunc) (en:List Enum) (ns:List Node) (a b:Int) (ents:zJ) (x:State):Prop:=
 ∀ (k : Nat), NodesIn ents ns k → ∀ (s : Place), s.before = ns.take k → Db ents s.tags → ∀ (h : List PObj), h[2]? = some (yv ents) → h[3]? = some (yo en ns a b) → ∀ (q' n o d : Nat) (i dv up : PV) (f : Fr) (fs : List Fr), TopAt h h.length q' n o d i dv up f fs → (∀ x, zn (f :: fs) x = true ↔ x ∈ s.vis) →
   ∀(d0:List Str),f.D=f.df→(∀x,(x∈f.I∨A6 fs x=true)↔(x∈s.inputs∨x∈d0)) →
   ∃h' r,yy L 102 [.ptr 3 0,.int .i64 k,.ptr n 0,yD x] h=some (r,h')∧Kp h.length h h'∧StOut a b (Bt s (d0++f.df) x) r
theorem RQ {l m:List Str} (hl:l.Nodup) (hm:m.Nodup):DQ l m=(decide (l.length=m.length)&&l.all λx=>decide (x∈m)):=by
 rw[aR]
 simp only[DQ,ao,av,aJ,FU]
 constructor
 ·rintro⟨h1,h2⟩
  have p1:=List.Nodup.length_le_of_subset hl h1
  have p2:=List.Nodup.length_le_of_subset hm h2
  exact⟨by omega,h1⟩
 ·rintro⟨h1,h2⟩
  refine⟨h2,λx hx=>co λhn =>?_⟩
  have hc:(x::l).Nodup:=b8.2 ⟨hn,hl⟩
  have:=List.Nodup.length_le_of_subset hc (by
   intro y hy
   rcases aA.1 hy with rfl|hy
   ·exact hx
   ·exact h2 y hy)
  simp at this
  omega
section
variable {L:Nat→Option PFunc} (hL:∀k f,LS k=some f→L k=some f) (en:List Enum) (ns:List Node) (a b:Int) (ents:zJ)
include hL
theorem c1u (l:List State) (hl:l.length≤1100000) (hS:∀y∈l,No L en ns a b ents y) (k:Nat) (dl:NodesIn ents ns k) (s:Place) (fm:s.before=ns.take k) (dX:Db ents s.tags) (h:List PObj) (h2:h[2]? = some (yv ents)) (h3:h[3]? = some (yo en ns a b)) (q' n o d:Nat) (i dv up:PV) (f:Fr) (fs:List Fr) (t:TopAt h h.length q' n o d i dv up f fs) (dC:∀x,zn (f::fs) x=true↔x∈s.vis)
  (d0:List Str) (hD:f.D=f.df) (dI:∀x,(x∈f.I∨A6 fs x=true)↔(x∈s.inputs∨x∈d0)) (mK:∀y∈l,(Ab y).length≤4000000)
  (V0 V1 V2 V3 V4 V5 V6 V9 V10 V11 V12 V13 V14 V15 V19 V20 V21:PV) (g:Nat) {Q:PExit→St→Prop} (j6:V0 = .ptr 3 0) (nX:V1 = .int .i64 k) (wS:V2 = .ptr n 0)
  (ok:(zQ s (d0++f.df) l).1=0→∀h' y9 y10 y11 g' F,Kp h.length h h'→((l=[]∧F = .list true [])∨F = .list false (((l.map Ab).headD []).map PV.str))→Q (.exit 2) ⟨[V0,V1,V2,V3,V4,V5,V6,F,.bool (l.all λy=>DQ (Ab y) ((l.map Ab).headD [])),y9,y10,y11,V12,V13,V14,V15,.list false (l.map yD),.int .i64 l.length,.int .i64 l.length,V19,V20,V21],[],g',h'⟩)
  (no:(zQ s (d0++f.df) l).1≠0→∀h' W g',Kp h.length h h'→Q (.boom (zA 1 a b (zQ s (d0++f.df) l).1)) ⟨W,[],g',h'⟩):
  wpL L Lp ⟨[V0,V1,V2,V3,V4,V5,V6,.list true [],.bool true,V9,V10,V11,V12,V13,V14,V15,.list false (l.map yD),.int .i64 l.length,.int .i64 0,V19,V20,V21],[],g,h⟩ Q:=by
 subst j6
 subst nX
 subst wS
 have h4:4≤h.length:=by have:=t.four; have:=t.ln; have:=t.un; omega
 obtain⟨D,qm⟩:∃D,D=d0++f.df:=⟨_,rfl⟩
 obtain⟨T,hT⟩:∃T,T=(l.map Ab).headD []:=⟨_,rfl⟩
 rw[← qm] at ok no
 rw[← hT] at ok
 obtain⟨sm,kH⟩:∃sm:Nat→Bool,∀j,sm j=(l.take j).all (λx=>DQ (Ab x) T):=⟨_,λ_=>rfl⟩
 rw[Lp]
 refine yK l.length (λj st=>∃F y9 y10 y11 g' h',st=⟨[.ptr 3 0,.int .i64 k,.ptr n 0,V3,V4,V5,V6,F,.bool (sm j),y9,y10,y11,V12,V13,V14,V15,.list false (l.map yD),.int .i64 l.length,.int .i64 j,V19,V20,V21],[],g',h'⟩∧Kp h.length h h'∧(∀c (hc:c<l.length),c<j→(Bt s D l[c]).1=0)∧((j=0∧F = .list true [])∨F = .list false (T.map PV.str))) ?_ ?_ ⟨_,_,_,_,_,h,by rw[kH]; rfl,Kp.refl _ _,λc _ hc=>by omega,.inl ⟨rfl,rfl⟩⟩
 ·rintro j hj st ⟨F,y9,y10,y11,g',h',rfl,dg,hz,hF⟩ ih
  have hw:=yn j (by omega)
  have eu:h'[2]? = some (yv ents):=(dg.2 2 (by omega)).trans h2
  have eU:h'[3]? = some (yo en ns a b):=(dg.2 3 (by omega)).trans h3
  obtain⟨h'',r,hx,fD,hr⟩:=hS _ (ak hj) k dl s fm dX h' eu eU q' n o d i dv up f fs ((t.keep dg.2).upTo dg.1) dC d0 hD dI
  rw[← qm] at hr
  have gb:Kp h.length h h'':=dg.trans (fD.le dg.1)
  unfold StOut at hr
  by_cases fA:(Bt s D l[j]).1=0
  ·rw[ai fA] at hr
   obtain⟨ow,rfl⟩:=hr
   have u9:=M9 l[j] s D _ (DP fA)
   rw[u9.1] at hx
   obtain⟨R,hR⟩:∃R,R=Ab l[j]:=⟨_,rfl⟩
   have ta:R.Nodup:=by rw[hR]; exact u9.2.1.2
   have ru:R.length≤4000000:=by rw[hR]; exact mK _ (ak hj)
   have jr:sm (j+1)=(sm j&&DQ R T):=by
    have e:l.take (j+1)=l.take j++[l[j]]:=by rw[aX,am hj]; rfl
    rw[kH,kH,e,cr,hR]
    simp only[List.all_cons,List.all_nil,bu]
   rw[← hR] at hx
   have iH:∀c (hc:c<l.length),c<j+1→(Bt s D l[c]).1=0:=by
    intro c hc lP
    by_cases e:c=j
    ·subst e; exact fA
    ·exact hz c hc (by omega)
   by_cases o5:j=0
   ·subst o5
    have wT:R=T:=by
     rw[hR,hT]
     cases l with
     | nil=>simp at hj
     | cons y l=>rfl
    rw[← wT] at jr ih hF
    have el:=RP hL R R (by omega) (by omega) false false []
    rw[← RQ ta ta] at el
    have fV:sm 0=true:=by rw[kH]; rfl
    rw[fV,cq] at jr
    simp[hj,hx,hw,fV,el]
    exact ih _ ⟨_,_,_,_,_,h'',by rw[jr]; rfl,gb,iH,.inr rfl⟩
   ·have wU:F = .list false (T.map PV.str):=by
     rcases hF with⟨e,_⟩|e
     ·exact absurd e o5
     ·exact e
    subst wU
    have o6:T=Ab (l[0]'(by omega)):=by
     rw[hT]
     cases l with
     | nil=>simp at hj
     | cons y l=>rfl
    have wV:T.Nodup:=by
     rw[o6]
     exact(M9 _ s D _ (DP (hz 0 (by omega) (by omega)))).2.1.2
    have wW:T.length≤4000000:=by rw[o6]; exact mK _ (ak _)
    have el:=RP hL R T (by omega) (by omega) false false []
    rw[← RQ ta wV] at el
    have rE:¬(j:Int)=0:=by omega
    cases va:sm j with
    | true =>
      rw[va,cq] at jr
      simp[hj,hx,hw,o5,rE,el]
      exact ih _ ⟨_,_,_,_,_,h'',by rw[jr]; rfl,gb,iH,.inr rfl⟩
    | false =>
      rw[va,cd] at jr
      simp[hj,hx,hw,o5,rE,el]
      exact ih _ ⟨_,_,_,_,_,h'',by rw[jr]; rfl,gb,iH,.inr rfl⟩
  ·rw[ae fA] at hr
   subst hr
   have hb:=Rr hj fA (λc hc lP=>hz c hc lP)
   simp[hj,hx]
   have nj:(zQ s D l).1=(Bt s D l[j]).1:=by rw[hb]
   rw[← nj]
   exact no (by rw[nj]; exact fA) h'' _ _ gb
 ·rintro st ⟨F,y9,y10,y11,g',h',rfl,dg,hz,hF⟩
  have dJ:=Rq (s:=s) (d:=D) (l:=l) (λy hy=>by
   obtain⟨c,hc,rfl⟩:=bH.1 hy
   exact hz c hc hc)
  have jI:sm l.length=l.all (λx=>DQ (Ab x) T):=by rw[kH,aC]
  rw[jI]
  simp
  refine ok (by rw[dJ]) h' _ _ _ _ F dg ?_
  rcases hF with⟨e,e2⟩|e
  ·exact .inl ⟨bC.1 e,e2⟩
  ·exact .inr e
end
theorem cells_str:∀l:List Str,(l.map PV.str).flatMap PV.cells=l.map PV.str
 | []=>rfl
 | x::l=>by rw[az,aM,cells_str l]; rfl
section
variable {L:Nat→Option PFunc} (hL:∀k f,LS k=some f→L k=some f) (en:List Enum) (ns:List Node) (a b:Int) (ents:zJ)
include hL
theorem RR (l:List State) (hl:l.length≤1100000) (hS:∀y∈l,No L en ns a b ents y) (mK:∀y∈l,(Ab y).length≤4000000):GT L en ns a b ents l:=by
 intro k dl s fm dX h h2 h3 q' n o d i dv up f fs t dC d0 hD dI jE
 suffices H:∃res,yy L 62 [.ptr 3 0,.int .i64 k,.ptr n 0,yS l] h=some res∧∃h',res=(ym 1 a b (AX s (d0++f.df) l).1,h')∧Kp q' h h'∧((AX s (d0++f.df) l).1=0→∃dv' df',(d0++f.df)++(AX s (d0++f.df) l).2=d0++df'∧TopAt h' h'.length q' n o d i dv' up { f with D:=df',df:=df' } fs) by
  obtain⟨res,e1,h',e2,e3⟩:=H
  exact⟨h',by rw[e1,e2],e3⟩
 have mQ:q'≤h.length:=aD t.ln (Nat.le_of_lt t.un)
 have h4:4≤h.length:=by have:=t.four; omega
 refine DA (hL 62 _ rfl) rfl ?_
 simp[Lr]
 refine c1s hL en ns a b l hl h h3 _ _ _ _ _ _ _ _ _ _ _ _ _ _ _ _ _ _ _ _ rfl ?_ ?_
 ·intro hn y5 y6 g1
  simp
  refine c1u hL en ns a b ents l hl hS k dl s fm dX h h2 h3 q' n o d i dv up f fs t dC d0 hD dI mK _ _ _ _ _ _ _ _ _ _ _ _ _ _ _ _ _ _ rfl rfl rfl ?_ ?_
  ·intro hz h' y9 y10 y11 g2 F dg hF
   obtain⟨T,hT⟩:∃T,T=(l.map Ab).headD []:=⟨_,rfl⟩
   rw[← hT] at hF ⊢
   obtain⟨b1,b2⟩:=Na l s (d0++f.df) (zQ s (d0++f.df) l).2 (by rw[← hz])
   have dn:zQ s (d0++f.df) l=(0,l.map Ab):=by rw[← b1,← hz]
   have iZ:AX s (d0++f.df) l=if l.all (λy=>DQ (Ab y) T) then(0,T) else(8,[]):=by
    unfold AX
    rw[ae (by simpa using hn),dn,ae (by simp),List.all_map,← hT]
    rfl
   have eU:h'[3]? = some (yo en ns a b):=(dg.2 3 (by omega)).trans h3
   have wX:=DB hL en ns a b h' eU 8
   have wY:=DC hL en ns a b h' eU 8
   have t1:=(t.keep dg.2).upTo dg.1
   cases el:l.all (λy=>DQ (Ab y) T) with
   | false =>
     rw[el] at iZ
     simp[wY]
     exact⟨h',by rw[iZ]; exact⟨rfl,rfl⟩,dg.le mQ,by rw[iZ]; simp⟩
   | true =>
     rw[el] at iZ
     simp only[if_true] at iZ
     have vb:Defs s (d0++f.df) T:=by
      rw[hT]
      cases l with
      | nil=>exact Defs.nil _ _
      | cons y l=>exact(b2 y (by simp)).1
     have wW:T.length≤4000000:=by
      rw[hT]
      cases l with
      | nil=>simp
      | cons y l=>exact mK y (by simp)
     have hTs:T.length+f.df.length≤4000000:=by
      have:zj [l]=T:=by rw[Fh,← hT]; simp[zj]
      rw[this] at jE; omega
     have ee:∀x∈T,x∉f.D:=λx hx hm=>(vb.1 x hx).2.2 (cw _ (hD▸hm))
     have mA:∃ow,F = .list ow (T.map PV.str):=by
      rcases hF with⟨jF,e⟩|e
      ·subst jF; exact⟨true,by rw[e,hT]; rfl⟩
      ·exact⟨false,e⟩
     obtain⟨ow,rfl⟩:=mA
     simp[wX]
     refine c1t hL T (by omega) h' q' n o d i dv up f fs t1 ee vb.2 _ _ _ _ _ _ _ _ _ _ _ _ _ _ _ _ _ _ _ ?_
     intro ig y12 kU kT t4
     have n4:=t4.hn
     have ir:=t4.un
     have mC:=t4.ln
     have tc:Kp q' h ig:=(dg.le mQ).trans kU
     have mR:f.D++T=f.df++T:=by rw[hD]
     have fin:∀(hh:List PObj) (dv':PV),Kp q' h hh→TopAt hh hh.length q' n o d i dv' up { f with D:=f.D++T,df:=f.df++T } fs→∃h'',((Out.val (PV.tuple [])=ym 1 a b (AX s (d0++f.df) l).1∧hh=h''))∧Kp q' h h''∧((AX s (d0++f.df) l).1=0→∃dv',TopAt h'' h''.length q' n o d i dv' up { O:=f.O,D:=f.df++(AX s (d0++f.df) l).2,I:=f.I,df:=f.df++(AX s (d0++f.df) l).2 } fs):=by
      intro hh dv' hk ht
      refine⟨hh,by rw[iZ]; exact⟨rfl,rfl⟩,hk,λ_=>⟨dv',?_⟩⟩
      rw[mR] at ht
      rw[iZ]
      exact ht
     have dS:(T.map PV.str).flatMap PV.cells=T.map PV.str:=cells_str T
     have jJ:(dem∘PV.str)=PV.str:=rfl
     have nG:yU 1 (T.map PV.str)=true:=by cases T<;>rfl
     rcases t4.row with⟨rfl,gT⟩|⟨kr,eV,em,rfl,ib⟩
     ·simp only at gT
      by_cases vd:T=[]
      ·subst vd
       have eD:ig.set n (.cells [up,.map (some o),.map (some d),i,.list true []])=ig:=Cu n4
       obtain⟨h5,e5⟩:∃h5,ig.set n (.cells [up,.map (some o),.map (some d),i,.list false []])=h5:=⟨_,rfl⟩
       have n5:h5[n]? = some (.cells [up,.map (some o),.map (some d),i,.list false []]):=by rw[← e5,ar ir]
       have wZ:h5.set n (.cells [up,.map (some o),.map (some d),i,.list true []])=ig:=by rw[← e5,List.set_set]; exact eD
       simp[n4,AD,Ac,e5,n5,wZ]
       exact fin ig _ tc (by simpa using t4)
      ·obtain⟨h5,e5⟩:∃h5,ig.set n (.cells [up,.map (some o),.map (some d),i,.list false []])=h5:=⟨_,rfl⟩
       have iw:h5.length=ig.length:=by rw[← e5]; simp
       have n5:(h5++[PObj.cells (T.map PV.str)])[n]? = some (.cells [up,.map (some o),.map (some d),i,.list false []]):=by
        rw[al (by omega),← e5,ar ir]
       have lO:=t4.push T h5 iw (λc hc=>by rw[← e5,af (by omega)]) (λc _ _ lM=>by rw[← e5,af (Ne.symm lM)])
       have eP:T.length≤2147483648:=by omega
       simp[n4,e5,n5,AD,dS,nG,vd,eP,jJ,Ac]
       rw[iw]
       refine fin _ (.rowp ig.length 1 false T.length) ?_ ?_
       ·refine Kp.trans tc ⟨by simp[iw],λc hc =>?_⟩
        rw[af (by omega),al (by omega),← e5,af (by omega)]
       ·have:((h5++[PObj.cells (T.map PV.str)]).set n (.cells [up,.map (some o),.map (some d),i,.rowp ig.length 1 false T.length])).length=ig.length+1:=by simp[iw]
        rw[this,gT,bg]
        exact lO
     ·obtain⟨h5,e5⟩:∃h5,ig.set kr .gone=h5:=⟨_,rfl⟩
      have iw:h5.length=ig.length:=by rw[← e5]; simp
      have oZ:=(t4.rne _ _ _ _ rfl).1
      simp only at ib
      have n5:(h5++[PObj.cells (f.df.map PV.str++T.map PV.str)])[n]? = some (.cells [up,.map (some o),.map (some d),i,.rowp kr 1 false f.df.length]):=by
       rw[al (by omega),← e5,af oZ]; exact n4
      have lO:=t4.push (f.df++T) h5 iw (λc hc=>by rw[← e5,af (by omega)]) (λc hc fS lM=>by
       have:kr≠c:=by
        intro ic
        exact absurd rfl (fS 1 false f.df.length |> λh=>by subst ic; exact h)
       rw[← e5,af this])
      simp only[bh,ap] at lO
      have eP:f.df.length+T.length≤2147483648:=by omega
      have dE:(f.df.map PV.str).take f.df.length=f.df.map PV.str:=bQ (by simp)
      have sY:List.map PV.str (f.df.take f.df.length)=List.map PV.str f.df:=by rw[aC]
      simp[n4,AD,ib,dS,nG,eP,dE,jJ,sY,e5,n5,Ac]
      refine fin _ (.rowp ig.length 1 false (f.df.length+T.length)) ?_ ?_
      ·refine Kp.trans tc ⟨by simp[iw],λc hc =>?_⟩
       rw[af (by omega),al (by omega),← e5,af (by omega)]
      ·have:((h5++[PObj.cells (f.df.map PV.str++T.map PV.str)]).set n (.cells [up,.map (some o),.map (some d),i,.rowp ig.length 1 false (f.df.length+T.length)])).length=ig.length+1:=by simp[iw]
       rw[this]
       exact lO
  ·intro hz h' W g2 dg
   simp
   have iZ:AX s (d0++f.df) l=((zQ s (d0++f.df) l).1,[]):=by
    unfold AX
    rw[ae (by simpa using hn),ai hz]
   exact⟨h',by rw[iZ]; simp[ym,hz],dg.le mQ,λh0=>absurd (by rw[iZ] at h0; exact h0) hz⟩
 ·intro hn y5 y6 y15 g1
  simp
  have iZ:AX s (d0++f.df) l=(7,[]):=by unfold AX; rw[ai hn]
  exact⟨h,by rw[iZ]; exact⟨rfl,rfl⟩,Kp.refl _ _,by rw[iZ]; simp⟩
end
theorem K0:∀l:List Eqn,(zg l).length≤yr Eqn.parts l
 | []=>by simp[zg,yr]
 | q :: l => by
   have:=K0 l
   have e:zg (q::l)=q.left++zg l:=by simp[zg]
   rw[e]
   simp only[ap,yr,Eqn.parts]
   omega
theorem Np (x:State):(Ab x).length≤(Cy x).length:=by unfold Ab zk; exact List.length_filter_le _ _
theorem K1:∀l:List (List State),(∀a∈l,∀x∈a,(Cy x).length≤x.parts)→(zj l).length≤B0 l
 | [],_=>by simp[zj,B0]
 | a :: l, h => by
   have:=K1 l (λb hb=>h b (by simp[hb]))
   rw[Fh]
   cases a with
   | nil=>simp[B0,DE]; omega
   | cons y a =>
     have h1:=h (y::a) (by simp) y (by simp)
     have h2:=Np y
     simp only[az,List.headD_cons,ap,B0,DE]
     omega
theorem IV (x:State):(Cy x).length≤x.parts:=by
 induction x using State.ind with
 | h s ih =>
   cases s with
   | mk n l e a u w =>
     have h1:=K0 e
     have h2:=K1 a ih
     simp only[Cy,ap,State.parts]
     omega
section
variable {L:Nat→Option PFunc} (hL:∀k f,LS k=some f→L k=some f) (en:List Enum) (ns:List Node) (a b:Int) (ents:zJ)
include hL
theorem c24 (x:State):SW x→x.parts≤4000000→No L en ns a b ents x:=by
 induction x using State.ind with
 | h x ih =>
   intro hx hp
   have cV:∀y∈x.autos,∀z∈y,z.parts≤x.parts:=by
    intro y hy z hz
    cases x with
    | mk n l e au u w =>
      have hy:y∈au:=hy
      have h1:DE y≤B0 au:=by
       rw[GV,FT]
       have:=D9 (λa=>1+yr State.parts a) hy
       omega
      have h2:z.parts≤DE y:=by rw[FT]; exact D9 _ hz
      simp only[State.parts]
      omega
   intro k dl s fm dX h h2 h3 q' n o d i dv up f fs t dC d0 hD dI
   refine c5m hL en ns a b ents x hx ?_ (aD (IV x) hp) k dl s fm dX h h2 h3 q' n o d i dv up f fs t dC d0 hD dI
   intro y hy
   refine RR hL en ns a b ents y (hx.as y hy) (λz hz=>ih y hy z hz (hx.ss y hy z hz) (aD (cV y hy z hz) hp)) (λz hz =>?_)
   exact aD (Np z) (aD (IV z) (aD (cV y hy z hz) hp))
theorem c5n (x:List State) (hl:x.length≤1100000) (hx:∀y∈x,SW y) (hp:∀y∈x,y.parts≤4000000):GT L en ns a b ents x:=
 RR hL en ns a b ents x hl (λz hz=>c24 hL en ns a b ents z (hx z hz) (hp z hz)) (λz hz=>aD (Np z) (aD (IV z) (hp z hz)))
end
section
variable {L:Nat→Option PFunc} (hL:∀k f,LS k=some f→L k=some f) (en:List Enum) (ns:List Node) (a b:Int) (ents:zJ)
include hL
theorem b7p (k:Nat) (hn:NodesIn ents ns k) (s:Place) (fm:s.before=ns.take k) (l:List Expr) (hl:l.length≤1100000) (hw:∀x∈l,XW x) (h:List PObj) (h2:h[2]? = some (yv ents)) (h3:h[3]? = some (yo en ns a b)) (v:PV) (fs:List Fr) (hv:Holds h h.length v fs) (dC:∀x,zn fs x=true↔x∈s.vis)
  (V0 V1 V2 V3 V4 V5 V6 V7 V8 V9:PV) (g:Nat) {Q:PExit→St→Prop} (j6:V0 = .ptr 3 0) (nX:V1 = .int .i64 k) (sh:V4=v)
  (ok:yj (λe=>yZ s e 1) l=0→∀h' y6 g',Kp h.length h h'→Q (.exit 2) ⟨[V0,V1,V2,V3,V4,V5,y6,V7,V8,V9,.list false (l.map ye),.int .i64 l.length,.int .i64 l.length],[],g',h'⟩)
  (no:yj (λe=>yZ s e 1) l≠0→∀h' W g',Kp h.length h h'→Q (.boom (zA 1 a b (yj (λe=>yZ s e 1) l))) ⟨W,[],g',h'⟩):
  wpL L IS ⟨[V0,V1,V2,V3,V4,V5,V6,V7,V8,V9,.list false (l.map ye),.int .i64 l.length,.int .i64 0],[],g,h⟩ Q:=by
 subst j6
 subst nX
 subst sh
 have iF:=hv.cp
 have iG:=hv.tkv
 have lN:=hv.dem
 rw[IS]
 refine yK l.length (λj st=>∃y6 g' h',st=⟨[.ptr 3 0,.int .i64 k,V2,V3,V4,V5,y6,V7,V8,V9,.list false (l.map ye),.int .i64 l.length,.int .i64 j],[],g',h'⟩∧Kp h.length h h'∧yj (λe=>yZ s e 1) l=yj (λe=>yZ s e 1) (l.drop j)) ?_ ?_ ⟨_,_,h,rfl,Kp.refl _ _,rfl⟩
 ·rintro j hj st ⟨y6,g',h',rfl,dg,dm⟩ ih
  have kq:=yn j (by omega)
  have oP:3<h.length:=(ah.1 h3).1
  have eu:h'[2]? = some (yv ents):=(dg.2 2 (by omega)).trans h2
  have eU:h'[3]? = some (yo en ns a b):=(dg.2 3 oP).trans h3
  obtain⟨h'',hx,fD⟩:=Nl hL en ns a b ents k hn s fm l[j] (hw _ (ak hj)).ew 1 h' eu eU h.length dg.1 V4 fs (hv.keep dg.2) dC
  have gb:Kp h.length h h'':=dg.trans (fD.le dg.1)
  rw[a8 hj] at dm
  have iR:yj (λe=>yZ s e 1) (l[j]::l.drop (j+1))=if yZ s l[j] 1=0 then yj (λe=>yZ s e 1) (l.drop (j+1)) else yZ s l[j] 1:=rfl
  rw[iR] at dm
  by_cases hz:yZ s l[j] 1=0
  ·rw[ai hz] at dm
   rw[hz] at hx
   simp[ym] at hx
   simp[hj,iF,iG,hx,kq]
   exact ih _ ⟨_,_,_,rfl,gb,dm⟩
  ·rw[ae hz] at dm
   simp[ym,hz] at hx
   simp[hj,iF,iG,hx]
   rw[← dm]
   exact no (by rw[dm]; exact hz) h'' _ _ gb
 ·rintro st ⟨y6,g',h',rfl,dg,dm⟩
  rw[bk (an _)] at dm
  simp
  exact ok dm h' _ _ dg
end
def GW (sz by':Nat) (z:List PV):PFunc:=⟨2,3,(S (R [t 2 (.c (.list true []))]) (S (B [m v1,b .lss l0 (k 0)] l1 (R [m (.c .dead),r (.mov (.c .dead))]) Z) (S (S (R [m v1,m v0,p (.cap l1),m v0,n l3,b .sub l2 l4,b .sub l0 l5,t 1 l6]) (B [m v1,b .gtr l0 (k 0)] l1 (R [m v0,m v0,p (.cap l1),p (.slice false sz l0 none (some l2)),m v1,p (.h (.happz sz true by' z l3 l4)),m v0,n l6,p (.slice false sz l5 none (some l7)),t 0 l8]) Z)) (S (R [m v0,t 2 l0]) Y)))),[.keep 2],false,none,none⟩
def Lb:PC:=(.loop (S (B [b .lss v8 v7] l0 Z (X 0)) (S (K 1 (S (R [i 1 v6 v8,c l0,t 3 l1]) (S (R [m v2,m v3,n l1,b .add l0 l2,t 2 l3]) (B [m v2,b .lss l0 (k 0)] l1 (R [m (.c .dead),r (.mov (.c .dead))]) Z)))) (R [b .add v8 (k 1),q 8 (.mov l0)]))))
def Lc (sz by':Nat):PC:=(.loop (S (B [b .lss ze zr] l0 Z (X 2)) (S (K 3 (S (R [i 1 v9 ze,c l0,t 5 l1]) (R [p (.take v4),m v5,p (.h (.happ sz true by' l0 l1)),t 4 l2]))) (R [b .add ze (k 1),q 11 (.mov l0)]))))
def Pj (sz by' gr:Nat) (res:PRes):PFunc:=⟨1,12,(S (R [t 1 (.c .nils)]) (S (R [t 2 (k 0)]) (S (S (R [q 6 (.mov v0),q 7 (.len false v6),q 8 (.mov (k 0))]) (K 0 Lb)) (S (R [m v2,fh gr [(.c .nils),l0],t 4 l1]) (S (S (R [q 9 (.mov v0),q 10 (.len false v9),q 11 (.mov (k 0))]) (K 2 (Lc sz by'))) (S (R [m v4,t 1 l0]) Y)))))),[res],false,none,none⟩
structure Enc {α:Type} (e:α→PV) (sz:Nat):Prop where
 agg:∀x,e x = .agg (e x).cells
 len:∀x,(e x).cells.length=sz
 dem:∀x,(e x).cells.map dem=(e x).cells
 pos:0<sz
section
variable {α:Type} {e:α→PV} {sz:Nat} (he:Enc e sz)
def RowOf (e:α→PV) (sz:Nat) (h:List PObj) (b:Nat) (v:PV) (l:List α):Prop:=(v = .nils∧l=[])∨∃k cs,b≤k∧v = .rowp k sz true l.length∧h[k]? = some (.cells cs)∧l.length*sz≤cs.length∧cs.take (l.length*sz)=(l.map e).flatMap PV.cells
def As (e:α→PV) (gs:List (List α)):List PV:=gs.map λg => .list false (g.map e)
def zX (gs:List (List α)):Nat:=yr List.length gs
theorem Ld:∀(a b:List (List α)),zX (a++b)=zX a+zX b
 | [],b=>by simp[zX,yr]
 | x :: a, b => by
   have:=Ld a b
   simp only[zX] at this
   simp only[zX,aK,yr,this]; omega
theorem Pk (gs:List (List α)) (j:Nat) (hj:j<gs.length):zX (gs.take (j+1))=zX (gs.take j)+gs[j].length:=by
 rw[AB hj,Ld]
 simp[zX,yr]
theorem Pl (gs:List (List α)) (j:Nat):zX (gs.take j)≤zX gs:=by
 have:=Ld (gs.take j) (gs.drop j)
 rw[bR] at this; omega
theorem O5 (gs:List (List α)):gs.flatten.length=zX gs:=by
 induction gs with
 | nil=>rfl
 | cons x gs ih=>rw[List.flatten_cons,ap,ih]; simp[zX,yr]
include he
theorem Enc.cellsDem:∀l:List α,((l.map e).flatMap PV.cells).map PI.dem=(l.map e).flatMap PV.cells
 | []=>rfl
 | x :: l => by
   rw[az,aM,bh,Enc.cellsDem l,he.dem]
theorem Enc.cellsLen:∀l:List α,((l.map e).flatMap PV.cells).length=l.length*sz
 | []=>by simp
 | x :: l => by
   rw[az,aM,ap,Enc.cellsLen l,he.len,aB,Nat.succ_mul]; omega
theorem Enc.head (l:List α):yU sz (l.map e)=true:=by
 cases l with
 | nil=>rfl
 | cons x l=>simp[yU,he.len]
theorem Enc.els (l:List α) (cs:List PV) (hc:cs.take (l.length*sz)=(l.map e).flatMap PV.cells):Aj sz true cs l.length 0=some (l.map e):=by
 have key:∀(l:List α) (pre post:List PV),Aj sz true (pre++((l.map e).flatMap PV.cells++post)) l.length pre.length=some (l.map e):=by
  intro l
  induction l with
  | nil=>intro pre post; rfl
  | cons x l ih =>
    intro pre post
    have h1:=ih (pre++(e x).cells) post
    rw[ap,he.len] at h1
    have h2:pre++(e x).cells++((l.map e).flatMap PV.cells++post)=pre++(((x::l).map e).flatMap PV.cells++post):=by simp
    rw[h2] at h1
    have h3:yh sz true (pre++(((x::l).map e).flatMap PV.cells++post)) pre.length=some (e x):=by
     have hl:=he.len x
     have h4:pre.length+sz≤(pre++(((x::l).map e).flatMap PV.cells++post)).length:=by
      rw[ap,ap,az,aM,ap]; omega
     simp only[yh,if_true,h4,List.drop_left']
     rw[az,aM,aN,List.take_left' hl,he.dem,← he.agg]
    rw[aB,Aj,h3,aw,h1]
    rfl
 have:=key l [] (cs.drop (l.length*sz))
 rw[← hc,bR] at this
 exact this
theorem Enc.happ {by':Nat} (gX:by'≤16384) (h:List PObj) (b:Nat) (hb:b≤h.length) (v:PV) (l m:List α) (hv:RowOf e sz h b v l) (hl:l.length+m.length≤3300000):∃v' h',(∀st:St,st.heap=h→AD h sz true by' (m.map e) v st=some (v',{ st with heap:=h' }))∧Kp b h h'∧RowOf e sz h' b v' (l++m):=by
 have mI:=he.head m
 rcases hv with⟨rfl,rfl⟩|⟨k,cs,hk,rfl,hc,dA,mB⟩
 ·by_cases hm:m=[]
  ·subst hm
   refine⟨.nils,h,?_,Kp.refl _ _,.inl ⟨rfl,rfl⟩⟩
   intro st dn
   simp[AD,← dn]
  ·refine⟨.rowp h.length sz true m.length,h++[.cells ((m.map e).flatMap PV.cells)],?_,Kp.app hb,.inr ⟨h.length,(m.map e).flatMap PV.cells,hb,by simp,by simp,?_,?_⟩⟩
   ·intro st dn
    have h1:m.length≤2147483648:=by simp at hl; omega
    have rm:¬m.map e=[]:=by simpa using hm
    simp only[AD,rm,if_false,mI,aG,h1,he.cellsDem,gX]
    simp[dn]
   ·rw[he.cellsLen]; simp
   ·rw[bg,bQ (by rw[he.cellsLen]; omega)]
 ·have eO:k<h.length:=(ah.1 hc).1
  refine⟨.rowp h.length sz true (l.length+m.length),h.set k .gone++[.cells ((l.map e).flatMap PV.cells++(m.map e).flatMap PV.cells)],?_,⟨by simp,λn hn =>?_⟩,.inr ⟨h.length,(l.map e).flatMap PV.cells++(m.map e).flatMap PV.cells,hb,by simp,?_,?_,?_⟩⟩
  ·intro st dn
   have h1:l.length+m.length≤2147483648:=by omega
   simp only[AD,hc,mI,aG,h1,dA,mB,he.cellsDem,gX]
   simp
  ·rw[al (by simp; omega),af (by omega)]
  ·have:(h.set k .gone).length=h.length:=by simp
   rw[← this,aq (an _)]
   simp
  ·rw[ap,ap,he.cellsLen,he.cellsLen,aQ]; omega
  ·rw[bh,bN,bQ (by rw[ap,ap,he.cellsLen,he.cellsLen,aQ]; omega)]
end
theorem RowOf.cp {α:Type} {e:α→PV} {sz:Nat} {h:List PObj} {b:Nat} {v:PV} {l:List α} (hv:RowOf e sz h b v l):cp v=some v∧tkv v=some (v,false)∧dem v=v:=by
 rcases hv with⟨rfl,_⟩|⟨k,cs,_,rfl,_⟩<;>exact⟨rfl,rfl,rfl⟩
section
variable {L:Nat→Option PFunc} {α:Type} {e:α→PV} {sz by' gr:Nat} {z:List PV} (he:Enc e sz) (gX:by'≤16384)
theorem d48 {sz by':Nat} {z:List PV} (hf:L gr=some (GW sz by' z)) (h:List PObj):x8 L gr [.nils,.int .i64 0] h=some (.nils,h):=by
 refine yp hf rfl ?_
 have lH:IntKind.i64.wrap (-IntKind.i64.wrap 0)=0:=by decide
 simp[GW,lH]
theorem d49 {sz by':Nat} {z:List PV} (gX:by'≤16384) (hf:L gr=some (GW sz by' z)) (n:Nat) (h0:0<n) (hn:n≤3300000) (h:List PObj):∃cs,x8 L gr [.nils,.int .i64 n] h=some (.rowp h.length sz true 0,h++[.cells cs]):=by
 have sd:(0:Int)<n:=by omega
 have vV:(n:Int)≤2147483648:=by omega
 have se:¬(n:Int)<0:=by omega
 have sf:IntKind.i64.wrap 0=0:=by decide
 have hw:IntKind.i64.wrap (n:Int)=n:=by
  have:=yn (n - 1) (by omega)
  have e:((n - 1:Nat):Int)+1=n:=by omega
  rw[e] at this
  rw[this]
  omega
 refine⟨(List.replicate n (z.map dem)).flatten,?_⟩
 refine yp hf rfl ?_
 simp[GW,sd,vV,se,h0,hw,sf,gX]
theorem d1d (gs:List (List α)) (hg:gs.length≤1100000) (hn:zX gs≤3300000) (h:List PObj) (V0 V1 V3 V4 V5 V9 V10 V11:PV) (g:Nat) {Q:PExit→St→Prop}
  (ok:∀y3,Q (.exit 0) ⟨[V0,V1,.int .i64 (zX gs),y3,V4,V5,.list false (As e gs),.int .i64 gs.length,.int .i64 gs.length,V9,V10,V11],[],g,h⟩):
  wpL L Lb ⟨[V0,V1,.int .i64 0,V3,V4,V5,.list false (As e gs),.int .i64 gs.length,.int .i64 0,V9,V10,V11],[],g,h⟩ Q:=by
 rw[Lb]
 refine yK gs.length (λj st=>∃y3,st=⟨[V0,V1,.int .i64 (zX (gs.take j)),y3,V4,V5,.list false (As e gs),.int .i64 gs.length,.int .i64 j,V9,V10,V11],[],g,h⟩) ?_ ?_ ⟨_,by simp[zX,yr]; rfl⟩
 ·rintro j hj st ⟨y3,rfl⟩ ih
  have hw:=yn j (by omega)
  have ht:=Pk gs j hj
  have ez:=Pl gs (j+1)
  obtain⟨A,hA⟩:∃A,A=zX (gs.take j):=⟨_,rfl⟩
  obtain⟨B,hB⟩:∃B,B=zX (gs.take (j+1)):=⟨_,rfl⟩
  rw[← hA,← hB] at ht
  rw[← hB] at ez
  have np:IntKind.i64.wrap ((A:Int)+gs[j].length)=B:=by
   have:=BA (A+gs[j].length) (by omega)
   rw[show (A:Int)+gs[j].length=((A+gs[j].length:Nat):Int) by omega,this,ht]
  have pJ:j<(As e gs).length:=by simpa[As] using hj
  have nq:(As e gs)[j]? = some (.list false (gs[j].map e)):=by simp[As,hj]
  rw[← hA]
  rw[← hB] at ih
  obtain⟨GS,sg⟩:∃GS,GS=As e gs:=⟨_,rfl⟩
  rw[← sg] at ih pJ nq ⊢
  have nx:GS[j] = .list false (gs[j].map e):=(ah.1 nq).2
  have dA:∀es,(PV.list false es).cells=[.list false es]:=λ_=>rfl
  have vW:¬(B:Int)<0:=by omega
  simp[hj,pJ,nq,hw,np,nx,dA,vW]
  exact ih _ ⟨_,rfl⟩
 ·rintro st ⟨y3,rfl⟩
  rw[aC]
  simp
  exact ok _
include he gX
theorem Pm (gs:List (List α)) (hg:gs.length≤1100000) (hn:zX gs≤3300000) (h:List PObj) (b:Nat) (hb:b≤h.length) (V4:PV) (sh:RowOf e sz h b V4 []) (V0 V1 V2 V3 V5 V6 V7 V8:PV) (g:Nat) {Q:PExit→St→Prop}
  (ok:∀h' v y5,Kp b h h'→RowOf e sz h' b v gs.flatten→Q (.exit 2) ⟨[V0,V1,V2,V3,v,y5,V6,V7,V8,.list false (As e gs),.int .i64 gs.length,.int .i64 gs.length],[],g,h'⟩):
  wpL L (Lc sz by') ⟨[V0,V1,V2,V3,V4,V5,V6,V7,V8,.list false (As e gs),.int .i64 gs.length,.int .i64 0],[],g,h⟩ Q:=by
 rw[Lc]
 refine yK gs.length (λj st=>∃v y5 h',st=⟨[V0,V1,V2,V3,v,y5,V6,V7,V8,.list false (As e gs),.int .i64 gs.length,.int .i64 j],[],g,h'⟩∧Kp b h h'∧RowOf e sz h' b v (gs.take j).flatten) ?_ ?_ ⟨_,_,h,rfl,Kp.refl _ _,sh⟩
 ·rintro j hj st ⟨v,y5,h',rfl,dg,hv⟩ ih
  have hw:=yn j (by omega)
  have ht:=Pk gs j hj
  have ez:=Pl gs (j+1)
  have fG:(gs.take (j+1)).flatten=(gs.take j).flatten++gs[j]:=by
   rw[AB hj,List.flatten_append]; simp
  obtain⟨v',h'',gk,fD,ev⟩:=he.happ gX h' b (aD hb dg.1) v _ gs[j] hv (by rw[O5]; omega)
  have nq:(As e gs)[j]? = some (.list false (gs[j].map e)):=by simp[As,hj]
  have pJ:j<(As e gs).length:=by simpa[As] using hj
  obtain⟨GS,sg⟩:∃GS,GS=As e gs:=⟨_,rfl⟩
  rw[← sg] at ih pJ nq ⊢
  have nx:GS[j] = .list false (gs[j].map e):=(ah.1 nq).2
  have dA:∀es,(PV.list false es).cells=[.list false es]:=λ_=>rfl
  have hc:=hv.cp
  have gO:=ev.cp
  rw[← fG] at ev
  simp[hj,pJ,nq,hw,nx,dA,hc.1,hc.2.1,hc.2.2,gk,gO.1,gO.2.1,gO.2.2]
  exact ih _ ⟨v',_,h'',rfl,dg.trans fD,ev⟩
 ·rintro st ⟨v,y5,h',rfl,dg,hv⟩
  rw[aC] at hv
  simp
  exact ok h' v y5 dg hv
theorem c4E {k:Nat} (hf:L k=some (Pj sz by' gr (.keep 1))) (oN:L gr=some (GW sz by' z)) (gs:List (List α)) (hg:gs.length≤1100000) (hn:zX gs≤3300000) (o:Bool) (h:List PObj):∃v h',x8 L k [.list o (As e gs)] h=some (v,h')∧Kp h.length h h'∧RowOf e sz h' h.length v gs.flatten:=by
 suffices H:∃r,x8 L k [.list o (As e gs)] h=some r∧Kp h.length h r.2∧RowOf e sz r.2 h.length r.1 gs.flatten from by
  obtain⟨⟨v,h'⟩,h1,h2,h3⟩:=H
  exact⟨v,h',h1,h2,h3⟩
 refine AW hf rfl ?_
 have si:(As e gs).length=gs.length:=by simp[As]
 simp[Pj,si]
 refine d1d gs hg hn h _ _ _ _ _ _ _ _ _ ?_
 intro y3
 by_cases h0:zX gs=0
 ·have oN:=d48 oN h
  have sd:(zX gs:Int)=0:=by omega
  simp[sd,oN,si]
  refine Pm he gX gs hg hn h h.length (an _) .nils (.inl ⟨rfl,rfl⟩) _ _ _ _ _ _ _ _ _ ?_
  intro h' v y5 hk hv
  have hc:=hv.cp
  simp[hc.1,hc.2.1,hc.2.2,yA]
  exact⟨hk,hv⟩
 ·obtain⟨cs,oN⟩:=d49 gX oN (zX gs) (by omega) hn h
  simp[oN,si]
  refine Pm he gX gs hg hn _ h.length (by simp) (.rowp h.length sz true 0) (.inr ⟨h.length,cs,an _,rfl,by simp,by simp,by simp⟩) _ _ _ _ _ _ _ _ _ ?_
  intro h' v y5 hk hv
  have hc:=hv.cp
  simp[hc.1,hc.2.1,hc.2.2,yA]
  exact⟨(Kp.app (an _)).trans hk,hv⟩
end
theorem Le:Enc yi 3:=⟨λ_=>rfl,λ_=>rfl,λ_=>rfl,by decide⟩
section
variable {L:Nat→Option PFunc} (hL:∀k f,LS k=some f→L k=some f)
include hL
theorem c5o (l:List On) (hl:l.length≤1100000) (o:Bool) (h:List PObj):∃r,x8 L 34 [.list o (l.map eOn)] h=some (.list r (l.map eOn),h):=by
 refine⟨true,?_⟩
 refine b9H (hL 34 _ rfl) rfl rfl ?_ ?_
 ·intro hv
  cases l with
  | nil=>simp at hv
  | cons x l =>
    rw[aB] at hl
    have h1:l.length+1≤9223372036854775807:=by omega
    have h2:(l.length+1)*32≤140737488355328:=by omega
    have h3:l.length+1≤2147483648:=by omega
    simp[I2,h1,h2,h3]
 ·intro hv
  cases l with
  | nil=>simp[I2]
  | cons x l=>simp at hv
end
section
variable {L:Nat→Option PFunc} (hL:∀k f,LS k=some f→L k=some f)
include hL
theorem O4 (gs:List (List Decl)) (hg:gs.length≤1100000) (hn:zX gs≤3300000) (o:Bool) (h:List PObj):∃v h',x8 L 33 [.list o (As yi gs)] h=some (v,h')∧Kp h.length h h'∧RowOf yi 3 h' h.length v gs.flatten:=
 c4E Le (by decide) (k:=33) (by':=48) (gr:=74) (hL 33 _ rfl) (hL 74 _ rfl) gs hg hn o h
theorem O2 (l:List Decl) (cs:List PV) (hc:cs.take (l.length*3)=(l.map yi).flatMap PV.cells) (hl:l.length*3≤cs.length) (j:Nat) (hj:j<l.length):
  j*3+3≤cs.length∧List.map dem (List.take 3 (List.drop (j*3) cs))=[.str l[j].name,.int .i64 l[j].type,.list false (l[j].clock.map eOn)]∧cs.set (j*3+2) (.list false (l[j].clock.map eOn))=cs:=by
 have _:=hL
 have he:=Le.els l cs hc
 obtain⟨_,hg⟩:=JJ he
 have h1:=hg j (yi l[j]) (by simp[hj])
 simp only[aS,yh,if_true] at h1
 have hb:j*3+3≤cs.length:=by omega
 rw[ai hb,Jx] at h1
 simp only[aa,PV.agg.injEq] at h1
 refine⟨hb,h1,?_⟩
 have cV:j*3+2<cs.length:=by omega
 have hx:cs[j*3+2]? = some (.list false (l[j].clock.map eOn)):=by
  have cY:∀(l:List Decl) (j:Nat) (hj:j<l.length),((l.map yi).flatMap PV.cells)[j*3+2]? = some (.list false (l[j].clock.map eOn)):=by
   intro l
   induction l with
   | nil=>intro j hj; simp at hj
   | cons x l ih =>
     intro j hj
     rw[az,aM]
     cases j with
     | zero=>rfl
     | succ j =>
       have:=ih j (by simpa using hj)
       have e:(j+1)*3+2=(yi x).cells.length+(j*3+2):=by show _=3+_; omega
       rw[e,aq (by omega),Nat.add_sub_cancel_left]
       simpa using this
  have:=cY l j hj
  rw[← hc,cy (by omega)] at this
  exact this
 obtain⟨h2,h3⟩:=ah.1 hx
 rw[← h3]; exact List.set_getElem_self h2
theorem O8 (n:Node) (h1:n.ins.length≤1100000) (h2:n.outs.length≤1100000) (h3:n.locals.length≤1100000) (hd:∀d∈vars n,d.clock.length≤1100000):∃h',x8 L 11 [yx n] []=some (.list false ((vars n).map yi),h'):=by
 suffices H:∃r,x8 L 11 [yx n] []=some r∧r.1 = .list false ((vars n).map yi) by
  obtain⟨⟨v,h'⟩,h1,h2⟩:=H
  simp only at h2; subst h2
  exact⟨h',h1⟩
 obtain⟨v,h',hc,_,hr⟩:=O4 hL [n.ins,n.outs,n.locals] (by simp) (by simp[zX,yr]; omega) false []
 have hf:[n.ins,n.outs,n.locals].flatten=vars n:=by simp[vars]
 rw[hf] at hr
 have hx:As yi [n.ins,n.outs,n.locals]=[.list false (n.ins.map yi),.list false (n.outs.map yi),.list false (n.locals.map yi)]:=rfl
 rw[hx] at hc
 have nb:(vars n).length≤3300000:=by simp[vars]; omega
 obtain⟨D,hD⟩:∃D,D=vars n:=⟨_,rfl⟩
 rw[← hD] at hr hd nb ⊢
 refine AW (hL 11 _ rfl) rfl ?_
 rcases hr with⟨rfl,rfl⟩|⟨k,cs,_,rfl,hk,hl,ht⟩
 ·simp[I0,hc]
  rw[Lh,Ct]
  simp[yA]
 ·simp[I0,hc]
  rw[Lh]
  refine yK D.length (λj st=>∃y4 y5 g,st=⟨[yx n,.loc 0 (yx n).cells,.list true [],.rowp k 3 true D.length,y4,y5,.rowp k 3 true D.length,.int .i64 D.length,.int .i64 j],[],g,h'⟩) ?_ ?_ ⟨_,_,_,rfl⟩
  ·rintro j hj st ⟨y4,y5,g,rfl⟩ ih
   have hw:=yn j (by omega)
   obtain⟨r1,r2,r3⟩:=O2 hL D cs ht hl j hj
   obtain⟨o,dA⟩:=c5o hL D[j].clock (hd _ (ak hj)) false []
   have yw:h'.set k (.cells cs)=h':=Cu hk
   have r4:j*3+2<cs.length:=by omega
   simp[hj,hw,hk,r1,r2,r3,r4,dA,yw]
   exact ih _ ⟨_,_,_,rfl⟩
  ·rintro st ⟨y4,y5,g,rfl⟩
   simp[yA,hk,Le.els _ _ ht]
end
section
variable {L:Nat→Option PFunc} (hL:∀k f,LS k=some f→L k=some f) (en:List Enum) (ns:List Node) (a b:Int) (ents:zJ)
include hL
theorem O1 (h:List PObj) (hb:4≤h.length):∃h',x8 L 58 [.nilptr] h=some (.ptr (h.length+2) 0,h')∧h'.length=h.length+3∧Kp h.length h h'∧TopAt h' h'.length h.length (h.length+2) h.length (h.length+1) (.map none) (.list true []) .nilptr ⟨[],[],[],[]⟩ []:=by
 refine⟨h++[.map [],.map [],.cells [.nilptr,.map (some h.length),.map (some (h.length+1)),.map none,.list true []]],?_,by simp,Kp.app (an _),?_⟩
 ·refine yp (hL 58 _ rfl) rfl ?_
  simp[GR,PV.cells]
 ·exact⟨by omega,by omega,by omega,by simp,by simp,by simp,by omega,by omega,by omega,hb,by simp,by simp[bmE],by simp[bmE],.inl ⟨rfl,rfl⟩,.inl ⟨rfl,rfl⟩,λ_ _ _ _ e=>by simp at e,rfl⟩
theorem IP (l m:List Decl):yd (l++m)=yd l++yd m:=by have _:=hL; simp[yd]
theorem b6P (F:List Decl) (hF:F.length≤3300000) (h:List PObj) (q q' n o d:Nat) (i dv up:PV) (fs:List Fr) (t:TopAt h q q' n o d i dv up ⟨[],[],[],[]⟩ fs) (kr:Nat) (lR:q≤kr) (cs:List PV) (hk:h[kr]? = some (.cells cs)) (hl:F.length*3≤cs.length) (ht:cs.take (F.length*3)=(F.map yi).flatMap PV.cells)
  (V0 V1 V2 V3 V5 V6 V10 V11 V12:PV) (g:Nat) {Q:PExit→St→Prop}
  (ok:∀y5 g' h' O,h'.length=h.length→Kp q' h h'→TopAt h' q q' n o d i dv up ⟨O,[],[],[]⟩ fs→(∀x,x∈O↔x∈yd F)→Q (.exit 0) ⟨[V0,V1,V2,V3,.ptr n 0,y5,V6,.rowp kr 3 true F.length,.int .i64 F.length,.int .i64 F.length,V10,V11,V12],[],g',h'⟩):
  wpL L IQ ⟨[V0,V1,V2,V3,.ptr n 0,V5,V6,.rowp kr 3 true F.length,.int .i64 F.length,.int .i64 0,V10,V11,V12],[],g,h⟩ Q:=by
 rw[IQ]
 refine yK F.length (λj st=>∃y5 g' h' O,st=⟨[V0,V1,V2,V3,.ptr n 0,y5,V6,.rowp kr 3 true F.length,.int .i64 F.length,.int .i64 j,V10,V11,V12],[],g',h'⟩∧h'.length=h.length∧Kp q' h h'∧h'[kr]? = some (.cells cs)∧TopAt h' q q' n o d i dv up ⟨O,[],[],[]⟩ fs∧∀x,x∈O↔x∈yd (F.take j)) ?_ ?_ ⟨_,_,h,[],rfl,rfl,Kp.refl _ _,hk,t,by simp[yd]⟩
 ·rintro j hj st ⟨y5,g',h',O,rfl,cS,dg,hk,t,hO⟩ ih
  have hw:=yn j (by omega)
  obtain⟨r1,r2,r3⟩:=O2 hL F cs ht hl j hj
  obtain⟨r,hr,_,iq⟩:=Da F[j].name O
  have e1:=t.hn
  have e2:=t.ho
  have da:t.uo=t.uo:=rfl
  have uF:=t.uo
  simp only[] at e1 e2
  simp[hj,hw,hk,r1,r2,e1,e2,hr,zi]
  refine ih _ ⟨_,_,_,CK O F[j].name,rfl,by simpa using cS,dg.trans (Kp.set t.lo),by rw[af (by omega)]; exact hk,?_,λx =>?_⟩
  ·rw[iq]
   exact t.setO _
  ·rw[IR,hO,AB hj,IP hL,ay]
   simp[yd]
 ·rintro st ⟨y5,g',h',O,rfl,cS,dg,hk,t,hO⟩
  rw[aC] at hO
  simp
  exact ok _ _ _ _ cS dg t hO
theorem O3 (k:Nat) (dl:NodesIn ents ns k) (s:Place) (fm:s.before=ns.take k) (l:List Expr) (hl:l.length≤1100000) (hw:∀x∈l,XW x) (gs:List (List Decl)) (hg:gs.length≤1100000) (hn:zX gs≤3300000) (dC:∀x,x∈yd gs.flatten↔x∈s.vis) (o1 o2:Bool)
  (h:List PObj) (h4:4≤h.length) (h2:h[2]? = some (yv ents)) (h3:h[3]? = some (yo en ns a b)):
  ∃h',yy L 63 [.ptr 3 0,.int .i64 k,.list o1 (l.map ye),.list o2 (As yi gs)] h=some (ym 1 a b (yj (λe=>yZ s e 1) l),h')∧Kp h.length h h':=by
 suffices H:∃res,yy L 63 [.ptr 3 0,.int .i64 k,.list o1 (l.map ye),.list o2 (As yi gs)] h=some res∧∃h',res=(ym 1 a b (yj (λe=>yZ s e 1) l),h')∧Kp h.length h h' by
  obtain⟨res,e1,h',e2,e3⟩:=H
  exact⟨h',by rw[e1,e2],e3⟩
 obtain⟨h1,c1,d8,k1,t1⟩:=O1 hL h h4
 obtain⟨v,hx,c2,k2,hr⟩:=O4 hL gs hg hn false h1
 have fD:Kp h.length h hx:=k1.trans (k2.le k1.1)
 have tx:TopAt hx h1.length h.length (h.length+2) h.length (h.length+1) (.map none) (.list true []) .nilptr ⟨[],[],[],[]⟩ []:=t1.keep k2.2
 obtain⟨F,hF⟩:∃F,F=gs.flatten:=⟨_,rfl⟩
 have mA:F.length≤3300000:=by rw[hF,O5]; exact hn
 rw[← hF] at hr dC
 have eM:∀(V3 V5 V6 V7 V8 V9:PV) (g:Nat) (h':List PObj) (O:List Str),h1.length≤h'.length→Kp h.length hx h'→TopAt h' h1.length h.length (h.length+2) h.length (h.length+1) (.map none) (.list true []) .nilptr ⟨O,[],[],[]⟩ []→(∀x,x∈O↔x∈yd F) →
   wpL L IS ⟨[.ptr 3 0,.int .i64 k,.list false (l.map ye),V3,.ptr (h.length+2) 0,V5,V6,V7,V8,V9,.list false (l.map ye),.int .i64 l.length,.int .i64 0],[],g,h'⟩ (Dz 2 (Fg L FR λres=>∃h',res=(ym 1 a b (yj (λe=>yZ s e 1) l),h')∧Kp h.length h h')):=by
  intro V3 V5 V6 V7 V8 V9 g h' O ez dg t hO
  have dq:=fD.trans dg
  refine b7p hL en ns a b ents k dl s fm l hl hw h' ((dq.2 2 (by omega)).trans h2) ((dq.2 3 (by omega)).trans h3) (.ptr (h.length+2) 0) [⟨O,[],[],[]⟩] (t.holds.up ez) (λx=>by simp[zn,hO,dC]) _ _ _ _ _ _ _ _ _ _ _ rfl rfl rfl ?_ ?_
  ·intro hz h'' y6 g' hk''
   rw[hz]
   simp[ym,FR]
   exact dq.trans (hk''.le dq.1)
  ·intro hz h'' W g' hk''
   simp[ym,hz]
   exact dq.trans (hk''.le dq.1)
 refine DA (hL 63 _ rfl) rfl ?_
 rcases hr with⟨rfl,rfl⟩|⟨kr,cs,lR,rfl,hk,dA,mB⟩
 ·simp[FR,c1,c2]
  rw[IQ,Ct]
  simp
  exact eM _ _ _ _ _ _ _ hx [] (by have:=k2.1; omega) (Kp.refl _ _) tx (by simp[yd])
 ·simp[FR,c1,c2]
  refine b6P hL F mA hx h1.length h.length _ _ _ _ _ _ [] tx kr lR cs hk dA mB _ _ _ _ _ _ _ _ _ _ ?_
  intro y5 g' h' O cS dg t hO
  simp
  exact eM _ _ _ _ _ _ _ h' O (by have:=k2.1; omega) dg t hO
end
section
variable {h:List PObj} {b b' n o d:Nat} {dv up:PV} {f:Fr} {fs:List Fr}
theorem TopAt.newI (t:TopAt h h.length b' n o d (.map none) dv up f fs) (hd:dv = .list true []) (hI:f.I=[]):
  TopAt ((h++[PObj.map []]).set n (PObj.cells [up,.map (some o),.map (some d),.map (some h.length),dv])) (h.length+1) b' n o d (.map (some h.length)) dv up f fs:=by
 have ir:=t.un
 have uF:=t.uo
 have vK:=t.ud
 have mC:=t.ln
 have key:∀k,k<h.length→k≠n→((h++[PObj.map []]).set n (PObj.cells [up,.map (some o),.map (some d),.map (some h.length),dv]))[k]? = h[k]? := λk h1 h2=>by
  rw[af (Ne.symm h2),al h1]
 refine⟨t.ln,t.lo,t.ld,by omega,by omega,by omega,t.no,t.nd,t.od,t.four,?_,?_,?_,.inr ⟨h.length,rfl,by omega,by omega,by omega,by omega,by omega,?_⟩,?_,?_,?_⟩
 ·rw[ar (by simp; omega)]
 ·rw[key o uF (Ne.symm t.no)]; exact t.ho
 ·rw[key d vK (Ne.symm t.nd)]; exact t.hd
 ·rw[hI,af (by omega)]; simp[bmE]
 ·rcases t.row with h1|⟨k,e1,e2,e3,e4⟩
  ·exact .inl h1
  ·rw[hd] at e3; simp at e3
 ·intro k s a len e; rw[hd] at e; simp at e
 ·exact t.hup.keep λk hk=>key k (by omega) (by omega)
theorem TopAt.setI {m:Nat} (t:TopAt h b b' n o d (.map (some m)) dv up f fs) (I:List Str):h[m]? = some (.map (bmE f.I))∧b'≤m∧TopAt (h.set m (.map (bmE I))) b b' n o d (.map (some m)) dv up { f with I:=I } fs:=by
 have hi:=t.hi
 rcases hi with⟨h1,_⟩|⟨m',e1,e2,e3,e4,e5,e6,e7⟩
 ·simp at h1
 ·simp only[PV.map.injEq,aa] at e1
  subst e1
  have hl:=(ah.1 e7).1
  refine⟨e7,e2,t.ln,t.lo,t.ld,t.un,t.uo,t.ud,t.no,t.nd,t.od,t.four,?_,?_,?_,.inr ⟨m,rfl,e2,e3,e4,e5,e6,by rw[ar hl]⟩,?_,t.rne,t.hup.keep λk dq=>af (by omega)⟩
  ·rw[af e4]; exact t.hn
  ·rw[af e5]; exact t.ho
  ·rw[af e6]; exact t.hd
  ·rcases t.row with h1|⟨k,e1,e2,e3,e4⟩
   ·exact .inl h1
   ·exact .inr ⟨k,e1,e2,e3,by rw[af (λe=>(t.rne _ _ _ _ e3).2.2.2 (by rw[e]))]; exact e4⟩
end
section
variable {L:Nat→Option PFunc} (hL:∀k f,LS k=some f→L k=some f)
include hL
theorem c0U (l:List Decl) (hl:l.length≤1100000) (h:List PObj) (q q' n o d m:Nat) (dv up:PV) (f:Fr) (fs:List Fr) (t:TopAt h q q' n o d (.map (some m)) dv up f fs) (hI:f.I=[])
  (V0 V1 V2 V4 V5 V6 V7 V8 V12 V13 V14 V15 V16 V17 V18 V19 V20:PV) (g:Nat) {Q:PExit→St→Prop}
  (ok:∀y4 g' h' I,h'.length=h.length→Kp q' h h'→TopAt h' q q' n o d (.map (some m)) dv up { f with I:=I } fs→(∀x,x∈I↔x∈yd l)→Q (.exit 0) ⟨[V0,V1,V2,.ptr n 0,y4,V5,V6,V7,V8,.list false (l.map yi),.int .i64 l.length,.int .i64 l.length,V12,V13,V14,V15,V16,V17,V18,V19,V20],[],g',h'⟩):
  wpL L KT ⟨[V0,V1,V2,.ptr n 0,V4,V5,V6,V7,V8,.list false (l.map yi),.int .i64 l.length,.int .i64 0,V12,V13,V14,V15,V16,V17,V18,V19,V20],[],g,h⟩ Q:=by
 rw[KT]
 refine yK l.length (λj st=>∃y4 g' h' I,st=⟨[V0,V1,V2,.ptr n 0,y4,V5,V6,V7,V8,.list false (l.map yi),.int .i64 l.length,.int .i64 j,V12,V13,V14,V15,V16,V17,V18,V19,V20],[],g',h'⟩∧h'.length=h.length∧Kp q' h h'∧TopAt h' q q' n o d (.map (some m)) dv up { f with I:=I } fs∧∀x,x∈I↔x∈yd (l.take j)) ?_ ?_ ⟨_,_,h,[],rfl,rfl,Kp.refl _ _,by rw[← hI]; exact t,by simp[yd]⟩
 ·rintro j hj st ⟨y4,g',h',I,rfl,cS,dg,t,hI⟩ ih
  have hw:=yn j (by omega)
  obtain⟨r,hr,_,iq⟩:=Da l[j].name I
  have e1:=t.hn
  obtain⟨e2,e3,t2⟩:=t.setI (CK I l[j].name)
  simp only[] at e1 e2
  simp[hj,hw,e1,e2,hr,zi]
  refine ih _ ⟨_,_,_,CK I l[j].name,rfl,by simpa using cS,dg.trans (Kp.set e3),by rw[iq]; exact t2,λx =>?_⟩
  rw[IR,hI,AB hj,IP hL,ay]
  simp[yd]
 ·rintro st ⟨y4,g',h',I,rfl,cS,dg,t,hI⟩
  rw[aC] at hI
  simp
  exact ok _ _ _ _ cS dg t hI
theorem b8J (s:Place) (q:Eqn) (qs:List Eqn) (k:Nat) (d:List Str):AM s (q::qs) k d=if (Ak s q d).1=0 then AM s qs (k+1) (Ak s q d).2 else .inl (k,(Ak s q d).1):=by have _:=hL; rfl
variable (en:List Enum) (ns:List Node) (ents:zJ)
theorem c0V (i:Nat) (dl:NodesIn ents ns i) (s:Place) (fm:s.before=ns.take i) (l:List Eqn) (hl:l.length≤1100000) (hq:∀q∈l,QW q) (h:List PObj) (h2:h[2]? = some (yv ents)) (c:Int) (h3:h[3]? = some (yo en ns i c)) (q' n o d:Nat) (iv dv up:PV) (f:Fr) (t:TopAt h h.length q' n o d iv dv up f []) (dC:∀x,zn [f] x=true↔x∈s.vis)
  (hD:f.D=f.df) (dI:∀x,x∈f.I↔x∈s.inputs) (jE:f.df.length+(zg l).length≤4000000) (h0:f.df=[])
  (V2 V4 V5 V6 V7 V8 V9 V10 V11 V15 V16 V17 V18 V19 V20:PV) (g:Nat) {Q:PExit→St→Prop}
  (ok:∀df,AM s l 0 [] = .inr df→∀y5 y6 g' h' c' dv',Kp q' h (h'.set 3 (yo en ns i c))→h'[3]? = some (yo en ns i c')→TopAt h' h'.length q' n o d iv dv' up { f with D:=df,df:=df } []→Q (.exit 2) ⟨[.ptr 3 0,.int .i64 i,V2,.ptr n 0,V4,y5,y6,V7,V8,V9,V10,V11,.list false (l.map yI),.int .i64 l.length,.int .i64 l.length,V15,V16,V17,V18,V19,V20],[],g',h'⟩)
  (no:∀k e,AM s l 0 [] = .inl (k,e)→∀W g' h',Kp q' h (h'.set 3 (yo en ns i c))→Q (.boom (zA 1 i k e)) ⟨W,[],g',h'⟩):
  wpL L KU ⟨[.ptr 3 0,.int .i64 i,V2,.ptr n 0,V4,V5,V6,V7,V8,V9,V10,V11,.list false (l.map yI),.int .i64 l.length,.int .i64 0,V15,V16,V17,V18,V19,V20],[],g,h⟩ Q:=by
 rw[KU]
 have vL:∀{h':List PObj},Kp q' h (h'.set 3 (yo en ns i c))→h'[2]? = some (yv ents):=λ{h'} hk=>by
  have:=hk.2 2 (by have:=t.four; omega)
  rw[af (by decide)] at this
  exact this.trans h2
 have h4q:=t.four
 refine yK l.length (λj st=>∃y5 y6 g' h' c' dv' df,st=⟨[.ptr 3 0,.int .i64 i,V2,.ptr n 0,V4,y5,y6,V7,V8,V9,V10,V11,.list false (l.map yI),.int .i64 l.length,.int .i64 j,V15,V16,V17,V18,V19,V20],[],g',h'⟩∧Kp q' h (h'.set 3 (yo en ns i c))∧h'[3]? = some (yo en ns i c')∧TopAt h' h'.length q' n o d iv dv' up { f with D:=df,df:=df } []∧AM s l 0 []=AM s (l.drop j) j df∧df.length+(zg (l.drop j)).length≤4000000) ?_ ?_ ⟨_,_,_,h,c,dv,[],rfl,⟨by simp,λk hk=>by
   by_cases ib:k=3
   ·subst ib; rw[ar (ah.1 h3).1]; exact h3.symm
   ·rw[af (Ne.symm ib)]⟩,h3,by
   have:({ f with D:=[],df:=[] }:Fr)=f:=by cases f; simp only at hD h0; subst h0; subst hD; rfl
   rw[this]; exact t,rfl,by rw[h0] at jE; simpa using jE⟩
 ·rintro j hj st ⟨y5,y6,g',h',c',dv',df,rfl,dg,eU,t,hd,ez⟩ ih
  have hw:=yn j (by omega)
  have rX:=(ah.1 eU).1
  rw[a8 hj] at hd ez
  rw[b8J hL] at hd
  have mD:zg (l[j]::l.drop (j+1))=l[j].left++zg (l.drop (j+1)):=by unfold zg; rw[aM]
  rw[mD,ap] at ez
  have kE:(h'.set 3 (yo en ns i j))[3]? = some (yo en ns i j):=by rw[ar rX]
  have eZ:(h'.set 3 (yo en ns i j))[2]? = some (yv ents):=by rw[af (by decide)]; exact vL dg
  have tH:TopAt (h'.set 3 (yo en ns i j)) (h'.set 3 (yo en ns i j)).length q' n o d iv dv' up { f with D:=df,df:=df } []:=by
   rw[ba]
   have key:∀k,4≤k→(h'.set 3 (yo en ns i j))[k]? = h'[k]? := λk hk=>af (by omega)
   exact⟨t.ln,t.lo,t.ld,t.un,t.uo,t.ud,t.no,t.nd,t.od,t.four,(key _ (by have:=t.ln; omega)).trans t.hn,(key _ (by have:=t.lo; omega)).trans t.ho,(key _ (by have:=t.ld; omega)).trans t.hd,t.hi.imp id (fun⟨m,e1,e2,e3,e4,e5,e6,e7⟩=>⟨m,e1,e2,e3,e4,e5,e6,(key _ (by omega)).trans e7⟩),t.row.imp id (fun⟨k,e1,e2,e3,e4⟩=>⟨k,e1,e2,e3,(key _ (by omega)).trans e4⟩),t.rne,t.hup⟩
  obtain⟨h'',hx,fD,dQ⟩:=O6 hL en ns i j ents i dl s fm l[j] (hq _ (ak hj)) _ eZ kE q' n o d iv dv' up { f with D:=df,df:=df } [] tH (λx=>by have:=dC x; simpa[zn] using this) [] rfl (λx=>by simp[A6,dI]) (by simp only; omega)
  simp only[bg] at hx dQ
  have gb:Kp q' h (h''.set 3 (yo en ns i c)):=by
   refine⟨by have:=dg.1; have:=fD.1; simp at *; omega,λk hk =>?_⟩
   by_cases ib:k=3
   ·subst ib
    have:=fD.1
    rw[ar (by simp at this; omega)]; exact h3.symm
   ·rw[af (Ne.symm ib),fD.2 k hk,af (Ne.symm ib)]
    have:=dg.2 k hk
    rwa [af (Ne.symm ib)] at this
  have h3'':h''[3]? = some (yo en ns i j):=(fD.2 3 (by omega)).trans kE
  have dn:h'.set 3 (.cells [.list false (en.map yu),.list false (ns.map yx),.int .i64 i,.int .i64 j,.map (some 2)])=h'.set 3 (yo en ns i j):=rfl
  have mE:h'[3]? = some (.cells [.list false (en.map yu),.list false (ns.map yx),.int .i64 i,.int .i64 c',.map (some 2)]):=eU
  by_cases hz:(Ak s l[j] df).1=0
  ·rw[ai hz] at hd
   obtain⟨dv2,df2,e1,t2⟩:=dQ hz
   rw[hz] at hx
   simp[ym] at hx
   simp[hj,mE,dn,hx,hw]
   have vM:df2.length=df.length+l[j].left.length:=by
    have h1:=(IT.1 (Prod.ext hz e1:Ak s l[j] df=(0,df2))).1
    rw[h1,ap]
   exact ih _ ⟨_,_,_,h'',j,dv2,df2,rfl,gb,h3'',t2,by rw[hd,e1],by omega⟩
  ·rw[ae hz] at hd
   simp[ym,hz] at hx
   simp[hj,mE,dn,hx]
   exact no _ _ hd _ _ _ gb
 ·rintro st ⟨y5,y6,g',h',c',dv',df,rfl,dg,eU,t,hd,ez⟩
  rw[bk (an _)] at hd
  simp
  exact ok df hd _ _ _ _ _ _ dg eU t
end
end PI.Sc
