import Derived.Test.YtljbhgpanekomaaGreatDoorPiScLaw1
set_option maxRecDepth 100000
set_option linter.unusedSimpArgs false
set_option linter.unusedVariables false
set_option linter.unusedSectionVars false
namespace PI.Sc
open Go (IntKind BinOp UnOp)
open Short
theorem c0u (p:Prog) (h:List PObj):AS h [xd p]=some [xd p]:=rfl
section
variable {L:Nat→Option PFunc} (hL:∀k f,LS k=some f→L k=some f)
include hL
theorem J6 (c:UInt8) (h:List PObj):wn L 24 [.int .u8 c.toNat] h=some (.bool (low c),h):=by
 refine wJ (hL 24 _ rfl) rfl ?_
 have e:low c=decide ((97:Int)≤c.toNat∧(c.toNat:Int)≤122):=by unfold low; rw[aI,aq,aq]; omega
 rw[e]
 by_cases h1:(97:Int)≤c.toNat
 ·by_cases h2:(c.toNat:Int)≤122
  ·simp[Fb,h1,h2]
  ·simp[Fb,h1,h2]
 ·simp[Fb,h1]
end
theorem J7:zK.list=[zK]:=by simp[zK,Expr.list,Dg]
theorem c0v:XW zK:=by
 refine⟨by unfold Expr.parts; rw[J7]; simp,?_⟩
 intro x hx
 rw[J7] at hx
 simp only[aO] at hx
 subst hx
 simp[zK,Expr.t,Expr.v,Expr.args,Al]
theorem c2e {n:Node} {s:Str} {k:Nat} (h:NW n) (hl:n.locals.length≤200) (he:n.eqs.length≤200) (hk:k≤2):NW (wL n s k):=by
 refine⟨h.ins,h.is,h.outs,h.os,?_,?_,?_,?_,h.autos,h.assume,h.as,h.ensure,h.gs⟩
 ·simp[wL]; omega
 ·intro d hd
  rcases ak.1 hd with hd|hd
  ·exact h.ls d hd
  ·simp only[aO] at hd; subst hd
   exact⟨by simp[A5,Al],by simp[A5],by intro o ho; simp[A5] at ho⟩
 ·simp[wL]; omega
 ·intro q hq
  rcases ak.1 hq with hq|hq
  ·exact h.es q hq
  ·obtain⟨_,rfl⟩:=List.mem_replicate.1 hq
   exact⟨by simp[Am],c0v⟩
theorem NJ {en:List Enum} {ns:List Node} {n:Node} {s:Str} {k:Nat} (h:PW ⟨en,ns++[n]⟩) (hl:n.locals.length≤200) (he:n.eqs.length≤200) (hk:k≤2):PW ⟨en,ns++[wL n s k]⟩:=by
 refine⟨h.enums,h.tags,by simpa using h.nodes,?_⟩
 intro m hm
 rcases ak.1 hm with hm|hm
 ·exact h.ns m (bq _ hm)
 ·simp only[aO] at hm; subst hm
  exact c2e (h.ns n (by simp)) hl he hk
theorem NK {α:Type} (f:α→Nat) (x:α):∀k,wl f (List.replicate k x)=k*f x
 | 0=>by simp[wl]
 | k+1=>by rw[List.replicate_succ]; simp only[wl]; rw[NK f x k,Nat.succ_mul]; omega
theorem NL {en:List Enum} {ns:List Node} {n:Node} {s:Str} {k:Nat} (hs:s.length≤40) (hk:k≤2):parts ⟨en,ns++[wL n s k]⟩≤parts ⟨en,ns++[n]⟩+7:=by
 have h1:(A5 s).parts=1:=by unfold Decl.parts A5; simp; omega
 have h2:(Am s).parts=3:=by unfold Eqn.parts Am; simp[Expr.parts,J7]
 have h3:(wL n s k).parts≤n.parts+7:=by
  unfold Node.parts
  have e1:wl Decl.parts (wL n s k).locals=wl Decl.parts n.locals+1:=by simp[wL,D9,wl,h1]
  have e2:wl Eqn.parts (wL n s k).eqs=wl Eqn.parts n.eqs+k*3:=by simp[wL,D9,NK,h2]
  have e3:(wL n s k).ins=n.ins∧(wL n s k).outs=n.outs∧(wL n s k).assume=n.assume∧(wL n s k).ensure=n.ensure∧(wL n s k).autos=n.autos:=⟨rfl,rfl,rfl,rfl,rfl⟩
  rw[e1,e2,e3.1,e3.2.1,e3.2.2.1,e3.2.2.2.1,e3.2.2.2.2]
  omega
 unfold parts
 simp only[D9,wl]
 omega
theorem b7g (p:Prog) (base:Str) (h1:base≠[]) (h2:base.length≤30) (h3:base.all low=true) (hp:parts p≤1600):zf (BH p base)=true∧(BH p base).length≤40:=by
 obtain⟨m,m1,m2,_,_,hf⟩:=J8 p base
 have dp:=NM p
 have hi:=c2r (m:=m) h1 h2 h3 (by omega)
 rw[hf]
 refine⟨hi,?_⟩
 unfold zf at hi
 simp only[al,aq] at hi
 exact hi.1.1.1.2
end PI.Sc
