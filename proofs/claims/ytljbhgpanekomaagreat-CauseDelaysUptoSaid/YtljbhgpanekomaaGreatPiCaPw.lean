import Derived.Test.YtljbhgpanekomaaGreatPiCaC6
import Derived.Test.YtljbhgpanekomaaGreatPiCaC6
set_option linter.unusedSimpArgs false
set_option linter.unusedVariables false
namespace PI.Sc
theorem Oe (nm:Str) (e:Expr):(yp nm e).parts≤e.parts:=(FC nm e).2
theorem c32 {nm:Str} {e:Expr} (h:EW e):EW (yp nm e):=by
 intro x hx
 rcases(FC nm e).1 x hx with rfl|⟨y,hy,hl⟩
 ·exact⟨show AB 0 by decide,show AB 0 by decide,show 0≤140737488355328 by decide⟩
 ·have:=h y hy
  rw[hl.t,hl.v,hl.args]; exact this
theorem c33 {nm:Str} {q:Eqn} (h:QW q):QW (zD nm q):=⟨h.left,aR (Oe nm q.right) h.right.1,c32 h.right.2⟩
theorem c34 {n:Node} (h:NW n):NW (xz n):=
 { h with
   eqs:=by show (n.eqs.map _).length≤_; rw[aA]; exact h.eqs
   es:=λq hq=>by
    obtain⟨q0,nj,rfl⟩:=bc.1 hq
    exact c33 (h.es q0 nj) }
theorem c35 {p:Prog} {k:Nat} (hk:k<p.nodes.length) (h:PW p):PW (AP p k hk):=
 { h with
   nodes:=by show (p.nodes.set k _).length≤_; rw[bp]; exact h.nodes
   ns:=λn hn=>by
    rcases List.mem_or_eq_of_mem_set hn with hn|rfl
    ·exact h.ns n hn
    ·exact c34 (h.ns _ (aj hk)) }
theorem Of {α β:Type} (f:α→Nat) (g:β→Nat) (m:β→α):∀(l:List β),(∀x∈l,f (m x)≤g x)→wx f (l.map m)≤wx g l
 | [],_=>ao _
 | x :: l, h => by
   have h1:=h x (by simp)
   have h2:=Of f g m l (λy hy=>h y (by simp[hy]))
   simp only[ax,wx]; omega
theorem Og {α:Type} (f:α→Nat):∀(l:List α) (k:Nat) (hk:k<l.length) (y:α),f y≤f l[k]→wx f (l.set k y)≤wx f l
 | x::l,0,_,y,h=>by simp only[List.set_cons_zero,wx]; simp only[bK] at h; omega
 | x :: l, k + 1, hk, y, h => by
   simp only[bS] at h
   have:=Og f l k (by simpa using hk) y h
   simp only[List.set_cons_succ,wx]; omega
theorem b6D (n:Node):(xz n).parts≤n.parts:=by
 have h:=Of Eqn.parts Eqn.parts (zD (zV n)) n.eqs (λq _=>by
  have:=Oe (zV n) q.right
  unfold Eqn.parts zD
  simp only; omega)
 unfold Node.parts xz
 simp only; omega
theorem b6E {p:Prog} {k:Nat} (hk:k<p.nodes.length):parts (AP p k hk)≤parts p:=by
 have:=Og Node.parts p.nodes k hk (xz p.nodes[k]) (b6D _)
 unfold parts AP
 simp only; omega
theorem N3 {p:Prog} (h:Ab p=none):∀n∈p.nodes,CU p.enums n:=by
 unfold Ab at h
 cases hs:zM p with
 | some b=>rw[hs] at h; cases h
 | none =>
   unfold zM at hs
   split at hs
   ·cases hs
   ·split at hs
    ·cases hs
    ·exact FD.1 hs
theorem Km {en:List Enum} {pt:Bool} {d:Decl} (h:yT en pt d=0):d.clock.length≤4:=by
 unfold yT at h
 simp only[yy] at h
 simpa using Eb (by decide) h.2.2.2.1
theorem N4 {en:List Enum} {n:Node} (hw:NW n) (h:CU en n):EdN n:=by
 obtain⟨h1,h2,h3⟩:=h
 unfold yx at h1
 simp only[yy] at h1
 obtain⟨_,a2,_,a4,a5,a6⟩:=h1
 have a2:=Eb (by decide) a2
 simp only[aw] at a2
 have hq:∀q∈n.eqs,q.left.length≤64∧q.right.parts≤400:=by
  intro q hq
  have hb:=yS.1 h2 q hq
  unfold zm Ae Cr at hb
  simp only[yy] at hb
  obtain⟨_,b2,_,⟨⟨b4,_⟩,_⟩,_⟩:=hb
  have b2:=Eb (by decide) b2
  have b4:=Eb (by decide) b4
  simp only[aw] at b2 b4
  have hp:=(hw.es q hq).right.1
  have hs:=Oh hp
  refine⟨b2,?_⟩
  have:=b4.1
  rw[hs] at this
  omega
 refine⟨a2.2.2.2.1,λq h=>(hq q h).1,λq h=>(hq q h).2,a2.1,a2.2.1,a2.2.2.1,?_⟩
 intro d hd
 simp only[vars,ay] at hd
 rcases hd with(hd|hd)|hd
 ·exact Km (yS.1 a4 d hd)
 ·exact Km (yS.1 a5 d hd)
 ·exact Km (yS.1 a6 d hd)
end PI.Sc
