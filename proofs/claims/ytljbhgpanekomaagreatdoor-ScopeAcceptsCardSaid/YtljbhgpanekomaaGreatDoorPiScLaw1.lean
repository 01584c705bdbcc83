import Derived.Test.YtljbhgpanekomaaGreatDoorPiScSpec2
import Derived.Test.YtljbhgpanekomaaGreatDoorPiScRun1
set_option linter.unusedSimpArgs false
set_option linter.unusedVariables false
set_option linter.unusedSectionVars false
namespace PI.Sc
open Go (IntKind BinOp UnOp)
theorem GI {α:Type} {a b:List α}:(a++b).Nodup↔a.Nodup∧b.Nodup∧∀x∈b,x∉a:=by
 rw[cj]
 constructor
 ·rintro⟨h1,h2,h3⟩; exact⟨h1,h2,λx hx hy=>h3 x hy x hx rfl⟩
 ·rintro⟨h1,h2,h3⟩; exact⟨h1,h2,λx hx y hy e=>h3 y hy (e▸hx)⟩
theorem b6P {l o:List Str} {x:Str}:x∈wM l o↔x∈l∧x∉o:=by simp[wM]
theorem Nk (a b o:List Str):wM (a++b) o=wM a o++wM b o:=by simp[wM]
theorem b5s {l o:List Str} (h:∀x∈l,x∉o):wM l o=l:=by
 unfold wM
 rw[List.filter_eq_self]
 intro x hx; simp[h x hx]
theorem Ci {l o:List Str}:wM l o=[]↔∀x∈l,x∈o:=by
 unfold wM
 rw[List.filter_eq_nil_iff]
 constructor
 ·intro h x hx; have:=h x hx; simpa using this
 ·intro h x hx; simp[h x hx]
theorem Nl {d y:List Str} (h:∀x∈y,x∉d):wM (d++y) d=y:=by
 rw[Nk,Ci.2 (λx hx=>hx),b5s h]; rfl
theorem b35 {l o:List Str} (h:l.Nodup):(wM l o).Nodup:=h.filter _
theorem JC:∀(m l:List Str),m.Nodup→(∀x∈m,x∉l)→yx l m=l++m
 | [],l,_,_=>by simp[yx]
 | x :: m, l, hn, h => by
   have hx:=h x (by simp)
   rw[cw] at hn
   unfold yx
   rw[List.foldl_cons,ae hx]
   have:=JC m (l++[x]) hn.2 (by
    intro y hy hm
    rcases aw.1 hm with h1|h1
    ·exact h y (by simp[hy]) h1
    ·simp only[bg] at h1; subst h1; exact hn.1 hy)
   unfold yx at this
   rw[this]; simp
theorem zV {a:EN} {f:List Str→EN} {r:List Str}:xY a f=(0,r)↔a.1=0∧f a.2=(0,r):=by
 unfold xY
 by_cases h:a.1=0
 ·simp[h]
 ·simp only[h,if_false,false_and,iff_false]
  intro e; exact h (by simpa using aD Prod.fst e)
theorem zW {a:EN} (h:a.1=0):a=(0,a.2):=by rw[← h]
def Defs (s:Place) (d xs:List Str):Prop:=(∀x∈xs,x∈s.vis∧x∉s.inputs∧x∉d)∧xs.Nodup
theorem Defs.nil (s:Place) (d:List Str):Defs s d []:=⟨by simp,by simp⟩
theorem Defs.app {s:Place} {d a b:List Str}:Defs s d (a++b)↔Defs s d a∧Defs s (d++a) b:=by
 unfold Defs
 rw[GI]
 constructor
 ·rintro⟨h1,h2,h3,h4⟩
  refine⟨⟨λx hx=>h1 x (by simp[hx]),h2⟩,λx hx =>?_,h3⟩
  have:=h1 x (by simp[hx])
  have h5:=h4 x hx
  exact⟨this.1,this.2.1,by simp[this.2.2,h5]⟩
 ·rintro⟨⟨h1,h2⟩,h3,h4⟩
  refine⟨λx hx =>?_,h2,h4,λx hx =>?_⟩
  ·rcases aw.1 hx with h|h
   ·exact h1 x h
   ·have:=h3 x h
    exact⟨this.1,this.2.1,λhd=>this.2.2 (by simp[hd])⟩
  ·have:=h3 x hx
   exact λha=>this.2.2 (by simp[ha])
theorem JD (s:Place):∀(xs d r:List Str),Au s xs d=(0,r)↔r=d++xs∧Defs s d xs
 | [],d,r=>by simp only[Au,aW,Defs.nil,and_true,ac,true_and]; exact eq_comm
 | x :: xs, d, r => by
   have ih:=JD s xs (d++[x]) r
   have pN:x::xs=[x]++xs:=rfl
   rw[pN,Defs.app]
   have h1:Defs s d [x]↔x∈s.vis∧x∉s.inputs∧x∉d:=by unfold Defs; simp
   simp only[Au,ba,be]
   by_cases hv:x∈s.vis
   ·by_cases hd:x∈s.inputs∨x∈d
    ·have:¬Defs s d [x]:=by rw[h1]; rintro⟨_,a,b⟩; rcases hd with h|h; (exact a h); exact b h
     simp[hv,hd,this]
    ·simp only[not_or] at hd
     have:Defs s d [x]:=h1.2 ⟨hv,hd.1,hd.2⟩
     simp[hv,hd,this,ih]
   ·have:¬Defs s d [x]:=by rw[h1]; exact λh=>hv h.1
    simp[hv,this]
theorem FY {s:Place} {q:Eqn} {d r:List Str}:ym s q d=(0,r)↔r=d++q.left∧Defs s d q.left∧wR s q.right q.left.length=0:=by
 unfold ym
 rw[zV]
 constructor
 ·rintro⟨h1,h2⟩
  have h3:=(JD s q.left d _).1 (zW h1)
  simp only[ac] at h2
  exact⟨by rw[← h2.2,h3.1],h3.2,h2.1⟩
 ·rintro⟨rfl,h1,h2⟩
  rw[(JD s q.left d _).2 ⟨rfl,h1⟩]
  exact⟨rfl,by simp[h2]⟩
def xe (l:List Eqn):List Str:=l.flatMap (·.left)
theorem A7 (s:Place):∀(l:List Eqn) (d r:List Str),yy s l d=(0,r)↔r=d++xe l∧Defs s d (xe l)∧∀q∈l,wR s q.right q.left.length=0
 | [],d,r=>by simp only[yy,xe,List.flatMap_nil,aW,Defs.nil,true_and,List.not_mem_nil,false_imp_iff,implies_true,and_true,ac]; exact eq_comm
 | q :: l, d, r => by
   simp only[yy]
   rw[zV]
   have hl:xe (q::l)=q.left++xe l:=by simp[xe]
   rw[hl,Defs.app]
   constructor
   ·rintro⟨h1,h2⟩
    obtain⟨h3,h4,h5⟩:=FY.1 (zW h1)
    rw[h3] at h2
    obtain⟨h6,h7,h8⟩:=(A7 s l _ r).1 h2
    refine⟨by rw[h6,aJ],⟨h4,h7⟩,?_⟩
    intro x hx
    rcases az.1 hx with rfl|hx
    ·exact h5
    ·exact h8 x hx
   ·rintro⟨h1,⟨h2,h3⟩,h4⟩
    rw[FY.2 ⟨rfl,h2,h4 q (by simp)⟩]
    refine⟨rfl,(A7 s l _ r).2 ⟨by rw[h1,aJ],h3,λx hx=>h4 x (by simp[hx])⟩⟩
theorem F1 (s:Place):∀(l:List Eqn) (k:Nat) (d r:List Str),zQ s l k d = .inr r↔yy s l d=(0,r)
 | [],k,d,r=>by simp[zQ,yy]
 | q :: l, k, d, r => by
   simp only[zQ,yy]
   rw[zV]
   by_cases h:(ym s q d).1=0
   ·simp only[h,if_true,true_and]; exact F1 s l (k+1) _ r
   ·simp[h]
theorem JE (tags:List Str):∀(l:List Decl) (v r:List Str),xq tags l v=(0,r)↔r=v++vV l∧(∀x∈vV l,x∉v∧x∉tags)∧(vV l).Nodup
 | [],v,r=>by simp only[xq,vV,bA,aW,List.not_mem_nil,false_imp_iff,implies_true,List.nodup_nil,and_true,ac,true_and]; exact eq_comm
 | d :: l, v, r => by
   have ih:=JE tags l (v++[d.name]) r
   simp only[xq]
   have hn:vV (d::l)=d.name::vV l:=rfl
   rw[hn,cw]
   by_cases h:d.name∈v∨d.name∈tags
   ·simp only[h,if_true,ac]
    constructor
    ·rintro⟨h,_⟩; exact absurd h (by decide)
    ·rintro⟨_,h2,_⟩
     have:=h2 d.name (by simp)
     rcases h with h|h
     ·exact absurd h this.1
     ·exact absurd h this.2
   ·simp only[h,if_false,ih]
    simp only[not_or] at h
    constructor
    ·rintro⟨h1,h2,h3⟩
     refine⟨by rw[h1]; simp,?_,?_,h3⟩
     ·intro x hx
      rcases az.1 hx with rfl|hx
      ·exact h
      ·have:=h2 x hx
       exact⟨λhv=>this.1 (by simp[hv]),this.2⟩
     ·intro hm
      exact(h2 _ hm).1 (by simp)
    ·rintro⟨h1,h2,h3,h4⟩
     refine⟨by rw[h1]; simp,?_,h4⟩
     intro x hx
     have:=h2 x (by simp[hx])
     refine⟨?_,this.2⟩
     intro hm
     rcases aw.1 hm with h5|h5
     ·exact this.1 h5
     ·simp only[bg] at h5; subst h5; exact h3 hx
theorem zX {b:Bool} {e:Int} (he:e≠0):need b e=0↔b=true:=by cases b<;>simp[he]
theorem Nn {v:List Str} {l:List Decl}:AI v l=0↔∀d∈l,∀o∈d.clock,o.name∈v:=by
 unfold AI
 rw[ze]
 constructor
 ·intro h d hd o ho
  have:=ze.1 (h d hd) o ho
  simpa using(zX (by decide)).1 this
 ·intro h d hd
  rw[ze]
  intro o ho
  rw[zX (by decide)]; simpa using h d hd o ho
theorem JF {v tags:List Str} {l:List Decl} {r:List Str}:ye v tags l=(0,r)↔r=v++vV l∧((∀x∈vV l,x∉v∧x∉tags)∧(vV l).Nodup)∧∀d∈l,∀o∈d.clock,o.name∈r:=by
 unfold ye
 rw[zV]
 constructor
 ·rintro⟨h1,h2⟩
  obtain⟨h3,h4⟩:=(JE tags l v _).1 (zW h1)
  simp only[ac] at h2
  rw[← h2.2]
  exact⟨h3,h4,Nn.1 h2.1⟩
 ·rintro⟨h1,h2,h3⟩
  rw[(JE tags l v _).2 ⟨rfl,h2⟩]
  refine⟨rfl,?_⟩
  rw[← h1,Nn.2 h3]
mutual
def wX:List (List State)→List Str
 | []=>[]
 | []::xs=>wX xs
 | (s::r)::xs=>wM (Ag s) (vV s.locals)++wX xs
def Ag:State→List Str
 | .mk n l e a u w=>xe e++wX a
end
def xT (x:State):List Str:=wM (Ag x) (vV x.locals)
theorem CK (x:List State) (xs:List (List State)):wX (x::xs)=(x.map xT).headD []++wX xs:=by cases x<;>simp[wX,xT]
theorem No {l:List Eqn} (h:(xe l).Nodup):zt l=xe l:=by
 have:=JC (xe l) [] h (by simp)
 simpa[zt,xe] using this
mutual
theorem JG:∀(x:State) (s:Place) (d l:List Str),yD s d x=(0,l)→l=xT x∧Defs s d (xT x)∧zJ x=Ag x
 | .mk n l e a u w, s, d, r, h => by
   simp only[yD] at h
   rw[zV] at h; obtain⟨h1,h⟩:=h
   rw[zV] at h; obtain⟨h2,h⟩:=h
   rw[zV] at h; obtain⟨h3,h⟩:=h
   rw[zV] at h; obtain⟨h4,h⟩:=h
   rw[zV] at h; obtain⟨h5,h⟩:=h
   obtain⟨v1,v2,v3⟩:=JF.1 (zW h1)
   generalize (ye s.vis s.tags l).2=vis at *
   obtain⟨e1,e2,e3⟩:=(A7 (s.at vis) e d _).1 (zW h2)
   generalize (yy (s.at vis) e d).2=d1 at *
   obtain⟨a1,a2,a3⟩:=CV a (s.at vis) d1 _ (zW h3)
   generalize (wV (s.at vis) d1 a).2=d2 at *
   have hD:Defs (s.at vis) d (xe e++wX a):=Defs.app.2 ⟨e2,by rw[← e1]; exact a2⟩
   have gT:d2=d++(xe e++wX a):=by rw[a1,e1,aJ]
   have hw:wM d2 d=xe e++wX a:=by rw[gT]; exact Nl λx hx=>(hD.1 x hx).2.2
   rw[hw] at h
   have iz:zJ (.mk n l e a u w)=Ag (.mk n l e a u w):=by
    simp only[zJ,Ag]
    rw[No e2.2]
    exact a3 _ λy hy hm=>(a2.1 y hy).2.2 (by rw[e1]; simp[hm])
   have dp:xT (.mk n l e a u w)=wM (xe e++wX a) (vV l):=by simp[xT,Ag]
   have dq:Defs s d (xT (.mk n l e a u w)):=by
    rw[dp]
    refine⟨?_,b35 hD.2⟩
    intro x hx
    rw[b6P] at hx
    have:=hD.1 x hx.1
    refine⟨?_,this.2⟩
    have hv:x∈vis:=this.1
    rw[v1] at hv
    rcases aw.1 hv with h6|h6
    ·exact h6
    ·exact absurd h6 hx.2
   by_cases lI:wM (vV l) (xe e++wX a)=[]
   ·rw[ah lI] at h
    simp only[ac,true_and] at h
    exact⟨by rw[dp,h],dq,iz⟩
   ·rw[ae lI] at h
    simp only[ac] at h
    exact absurd h.1 (by decide)
theorem JH:∀(xs:List State) (s:Place) (d:List Str) (ls:List (List Str)),xr s d xs=(0,ls)→ls=xs.map xT∧∀x∈xs,Defs s d (xT x)∧zJ x=Ag x
 | [],s,d,ls,h=>by simp only[xr,ac,true_and] at h; subst h; simp
 | x :: xs, s, d, ls, h => by
   simp only[xr] at h
   by_cases h1:(yD s d x).1=0
   ·by_cases h2:(xr s d xs).1=0
    ·simp only[h1,h2,if_true,ac,true_and] at h
     obtain⟨a1,a2⟩:=JG x s d _ (zW h1)
     obtain⟨b1,b2⟩:=JH xs s d (xr s d xs).2 (by rw[← h2])
     refine⟨by rw[← h,a1,b1]; rfl,?_⟩
     intro y hy
     rcases az.1 hy with rfl|hy
     ·exact a2
     ·exact b2 y hy
    ·simp[h1,h2] at h
   ·simp[h1] at h
theorem CV:∀(a:List (List State)) (s:Place) (d r:List Str),wV s d a=(0,r)→r=d++wX a∧Defs s d (wX a)∧∀out:List Str,(∀y∈wX a,y∉out)→yE out a=out++wX a
 | [], s, d, r, h => by
   simp only[wV,ac,true_and] at h
   subst h
   simp only[wX,aW,Defs.nil,yE,true_and,implies_true]
 | x :: xs, s, d, r, h => by
   simp only[wV] at h
   by_cases hn:(x.map (·.name)).Nodup
   ·simp only[hn,bh,if_false] at h
    by_cases h1:(xr s d x).1=0
    ·simp only[h1,ne_eq,bh,if_false] at h
     obtain⟨b1,b2⟩:=JH x s d (xr s d x).2 (by rw[← h1])
     rw[b1] at h
     split at h
     ·obtain⟨c1,c2,c3⟩:=CV xs s _ r h
      rw[CK]
      have hd:Defs s d ((x.map xT).headD []):=by
       cases x with
       | nil=>exact Defs.nil s d
       | cons y x=>exact(b2 y (by simp)).1
      have gE:=Defs.app.2 ⟨hd,c2⟩
      refine⟨by rw[c1,aJ],gE,?_⟩
      intro out ho
      cases x with
      | nil =>
        simp only[bA,List.headD_nil,be] at ho ⊢
        simp only[yE]
        exact c3 out ho
      | cons y x =>
        simp only[aF,List.headD_cons] at *
        simp only[yE]
        have hy:=(b2 y (by simp)).2
        rw[hy]
        have hr:wM (Ag y) (vV y.locals)=xT y:=rfl
        rw[hr,JC _ _ hd.2 (λz hz=>ho z (by simp[hz]))]
        rw[c3 (out++xT y) ?_,aJ]
        intro z hz hm
        rcases aw.1 hm with h5|h5
        ·exact ho z (by simp[hz]) h5
        ·exact(c2.1 z hz).2.2 (by simp[h5])
     ·simp only[ac] at h; exact absurd h.1 (by decide)
    ·simp[h1] at h
   ·simp only[hn,cm,if_true,ac] at h; exact absurd h.1 (by decide)
end
def Seen (b:List Node) (l:List Expr):Prop:=∀e∈l,∃(s:Place) (n:Nat),s.before=b∧wR s e n=0
theorem Seen.app {b:List Node} {l m:List Expr}:Seen b (l++m)↔Seen b l∧Seen b m:=by
 unfold Seen
 constructor
 ·intro h; exact⟨λe he=>h e (by simp[he]),λe he=>h e (by simp[he])⟩
 ·rintro⟨h1,h2⟩ e he
  rcases aw.1 he with h|h
  ·exact h1 e h
  ·exact h2 e h
theorem Np {s:Place} {l:List Trn}:Ah s l=0↔∀t∈l,wR s t.cond 1=0:=ze
mutual
theorem b6Q:∀(x:State) (s:Place) (d l:List Str),yD s d x=(0,l)→Seen s.before (EX x)
 | .mk n l e a u w, s, d, r, h => by
   simp only[yD] at h
   rw[zV] at h; obtain⟨h1,h⟩:=h
   rw[zV] at h; obtain⟨h2,h⟩:=h
   rw[zV] at h; obtain⟨h3,h⟩:=h
   rw[zV] at h; obtain⟨h4,h⟩:=h
   rw[zV] at h; obtain⟨h5,h⟩:=h
   obtain⟨e1,e2,e3⟩:=(A7 _ e d _).1 (zW h2)
   have ha:=JI a _ _ _ (zW h3)
   simp only[EX]
   rw[Seen.app,Seen.app,Seen.app]
   refine⟨⟨⟨?_,ha⟩,?_⟩,?_⟩
   ·intro y hy
    obtain⟨q,hq,rfl⟩:=aM.1 hy
    exact⟨s.at (ye s.vis s.tags l).2,_,rfl,e3 q hq⟩
   ·intro y hy
    obtain⟨t,ht,rfl⟩:=aM.1 hy
    exact⟨s,1,rfl,Np.1 h4 t ht⟩
   ·intro y hy
    obtain⟨t,ht,rfl⟩:=aM.1 hy
    exact⟨s.at (ye s.vis s.tags l).2,1,rfl,Np.1 h5 t ht⟩
theorem Nq:∀(xs:List State) (s:Place) (d:List Str) (ls:List (List Str)),xr s d xs=(0,ls)→Seen s.before (Cm xs)
 | [],s,d,ls,h=>by intro e he; simp[Cm] at he
 | x :: xs, s, d, ls, h => by
   simp only[xr] at h
   by_cases h1:(yD s d x).1=0
   ·by_cases h2:(xr s d xs).1=0
    ·simp only[Cm]
     rw[Seen.app]
     exact⟨b6Q x s d _ (zW h1),Nq xs s d (xr s d xs).2 (by rw[← h2])⟩
    ·simp[h1,h2] at h
   ·simp[h1] at h
theorem JI:∀(a:List (List State)) (s:Place) (d r:List Str),wV s d a=(0,r)→Seen s.before (zu a)
 | [],s,d,r,h=>by intro e he; simp[zu] at he
 | x :: xs, s, d, r, h => by
   simp only[wV] at h
   by_cases hn:(x.map (·.name)).Nodup
   ·simp only[hn,bh,if_false] at h
    by_cases h1:(xr s d x).1=0
    ·simp only[h1,ne_eq,bh,if_false] at h
     split at h
     ·simp only[zu]
      rw[Seen.app]
      exact⟨Nq x s d (xr s d x).2 (by rw[← h1]),JI xs s _ r h⟩
     ·simp only[ac] at h; exact absurd h.1 (by decide)
    ·simp[h1] at h
   ·simp only[hn,cm,if_true,ac] at h; exact absurd h.1 (by decide)
end
structure NodeOK (before:List Node) (tags:List Str) (n:Node) (c:List Str):Prop where
 new:n.name∉before.map (·.name)
 decl:ye [] tags (vars n)=(0,vV (vars n))
 eqs:yy ⟨before,vV (vars n),vV n.ins,tags⟩ n.eqs []=(0,xe n.eqs)
 autos:wV ⟨before,vV (vars n),vV n.ins,tags⟩ (xe n.eqs) n.autos=(0,c)
 assume:∀e∈n.assume,wR ⟨before,vV n.ins,vV n.ins,tags⟩ e 1=0
 ensure:∀e∈n.ensure,wR ⟨before,vV n.ins++vV n.outs,vV n.ins,tags⟩ e 1=0
 all:∀x∈vV n.outs++vV n.locals,x∈c
theorem Nr {before:List Node} {tags:List Str} {n:Node}:zG before tags n=none↔∃c,NodeOK before tags n c:=by
 constructor
 ·intro h
  simp only[zG] at h
  split at h
  ·simp at h
  ·rename_i h1
   split at h
   ·simp at h
   ·rename_i h2
    simp only[ne_eq,Decidable.not_not] at h2
    have hd:=zW h2
    obtain⟨d1,d2,d3⟩:=JF.1 hd
    simp only[be] at d1
    rw[d1] at h
    split at h
    ·simp at h
    ·rename_i d hq
     have mY:=(F1 _ n.eqs 0 [] d).1 hq
     have oi:=(A7 _ n.eqs [] d).1 mY
     simp only[be] at oi
     have pO:=oi.1
     subst pO
     split at h
     ·simp at h
     ·rename_i h3
      simp only[ne_eq,Decidable.not_not] at h3
      split at h
      ·simp at h
      ·rename_i h4
       simp only[ne_eq,Decidable.not_not] at h4
       split at h
       ·simp at h
       ·rename_i h5
        simp only[ne_eq,Decidable.not_not] at h5
        split at h
        ·rename_i h6
         refine⟨_,h1,by rw[hd,d1],mY,zW h3,ze.1 h4,ze.1 h5,Ci.1 h6⟩
        ·simp at h
 ·rintro⟨c,h⟩
  simp only[zG]
  rw[ae h.new,h.decl]
  simp only[ne_eq,bh,if_false]
  rw[(F1 _ n.eqs 0 [] _).2 h.eqs]
  simp only[h.autos,bh,if_false]
  have ha:wg (λe=>wR (Place.at ⟨before,vV (vars n),vV n.ins,tags⟩ (vV n.ins)) e 1) n.assume=0:=ze.2 h.assume
  have hg:wg (λe=>wR (Place.at ⟨before,vV (vars n),vV n.ins,tags⟩ (vV n.ins++vV n.outs)) e 1) n.ensure=0:=ze.2 h.ensure
  rw[ha,hg,Ci.2 h.all]
  simp
theorem NodeOK.c_eq {before:List Node} {tags:List Str} {n:Node} {c:List Str} (h:NodeOK before tags n c):c=xe n.eqs++wX n.autos:=(CV _ _ _ _ h.autos).1
theorem NodeOK.defs {before:List Node} {tags:List Str} {n:Node} {c:List Str} (h:NodeOK before tags n c):Defs ⟨before,vV (vars n),vV n.ins,tags⟩ [] c:=by
 rw[h.c_eq]
 refine Defs.app.2 ⟨((A7 _ _ _ _).1 h.eqs).2.1,?_⟩
 exact(CV _ _ _ _ h.autos).2.1
theorem NodeOK.defined {before:List Node} {tags:List Str} {n:Node} {c:List Str} (h:NodeOK before tags n c):defined n=c:=by
 have h1:=((A7 _ _ _ _).1 h.eqs).2.1
 have h2:=CV _ _ _ _ h.autos
 unfold Sc.defined
 rw[No h1.2,h2.2.2 _ (λy hy=>(h2.2.1.1 y hy).2.2),← h2.1]
theorem Ns (n:Node):vV (vars n)=vV n.ins++(vV n.outs++vV n.locals):=by simp[vV,vars]
theorem NodeOK.length {before:List Node} {tags:List Str} {n:Node} {c:List Str} (h:NodeOK before tags n c):c.length=n.outs.length+n.locals.length:=by
 obtain⟨_,⟨_,hv⟩,_⟩:=JF.1 h.decl
 rw[Ns,GI] at hv
 have hp:c.Perm (vV n.outs++vV n.locals):=by
  rw[List.perm_ext_iff_of_nodup h.defs.2 hv.2.1]
  intro x
  constructor
  ·intro hx
   have:=h.defs.1 x hx
   have h1:x∈vV (vars n):=this.1
   rw[Ns] at h1
   rcases aw.1 h1 with h2|h2
   ·exact absurd h2 this.2.1
   ·exact h2
  ·exact h.all x
 rw[hp.length_eq]; simp[vV]
theorem NodeOK.seen {before:List Node} {tags:List Str} {n:Node} {c:List Str} (h:NodeOK before tags n c):Seen before (zf n):=by
 unfold zf
 rw[Seen.app,Seen.app,Seen.app]
 refine⟨⟨⟨?_,JI _ _ _ _ h.autos⟩,λe he=>⟨_,1,rfl,h.assume e he⟩⟩,λe he=>⟨_,1,rfl,h.ensure e he⟩⟩
 intro y hy
 obtain⟨q,hq,rfl⟩:=aM.1 hy
 exact⟨_,_,rfl,((A7 _ _ _ _).1 h.eqs).2.2 q hq⟩
theorem b98 {b:List Node} {e:Expr} {s:Place} {n:Nat} (hs:s.before=b) (h:wR s e n=0):∀y∈e.list,y.kind=10→y.name∈b.map (·.name):=by
 have key:∀(m:Nat) (y:Expr),y.kind=10→yV s m y=0→y.name∈b.map (·.name):=by
  intro m y hk h0
  unfold yV at h0
  simp only[hk] at h0
  rw[ae (by decide)] at h0
  simp only[if_true] at h0
  unfold EY at h0
  split at h0
  ·simp at h0
  ·rename_i x hx
   unfold callee at hx
   rw[hs] at hx
   have h1:=List.mem_of_find?_eq_some hx
   have h2:=List.find?_some hx
   simp only[an] at h2
   exact aM.2 ⟨x,h1,h2⟩
 unfold wR at h
 rw[zp] at h
 intro y hy hk
 rw[Expr.list_eq] at hy
 rcases az.1 hy with rfl|hy
 ·exact key n y hk h.1
 ·exact key 1 y hk (ze.1 h.2 y hy)
theorem b39 {before:List Node} {tags:List Str} {n:Node} {c:List Str} (h:NodeOK before tags n c):∀x∈EZ n,x∈before.map (·.name):=by
 intro x hx
 unfold EZ at hx
 obtain⟨y,hy,rfl⟩:=aM.1 hx
 rw[bD] at hy
 obtain⟨e,he,m6⟩:=cz.1 hy.1
 obtain⟨s,m,hs,hz⟩:=h.seen e he
 exact b98 hs hz y m6 (by simpa using hy.2)
theorem Nt (tags:List Str):∀(ns b:List Node),Ad tags b ns=none↔∀i (h:i<ns.length),∃c,NodeOK (b++ns.take i) tags ns[i] c
 | [],b=>by simp[Ad]
 | n :: ns, b => by
   simp only[Ad]
   have ih:=Nt tags ns (b++[n])
   cases hn:zG b tags n with
   | some x =>
     simp only[reduceCtorEq,false_iff]
     intro h
     have:=h 0 (by simp)
     simp only[List.take_zero,aW,bG] at this
     rw[Nr.2 this] at hn
     simp at hn
   | none =>
     simp only[ih]
     constructor
     ·intro h i hi
      cases i with
      | zero=>simpa using Nr.1 hn
      | succ i=>have:=h i (by simpa using hi); simpa using this
     ·intro h i hi
      have:=h (i+1) (by simpa using hi)
      simpa using this
structure OK (p:Prog):Prop where
 shape:AJ p=none
 enums:Bt p.enums=true
 nodes:Ad (yQ p.enums) [] p.nodes=none
theorem Nu {p:Prog}:BS p=none↔OK p:=by
 unfold BS
 cases h:AJ p with
 | some b=>simp only[reduceCtorEq,false_iff]; intro x; have:=x.shape; rw[h] at this; simp at this
 | none =>
   simp only
   cases he:Bt p.enums with
   | false=>simp only[aH,if_false,reduceCtorEq,false_iff]; intro x; have:=x.enums; rw[he] at this; simp at this
   | true=>simp only[if_true]; exact⟨λhn=>⟨h,he,hn⟩,λx=>x.nodes⟩
theorem b6R {p:Prog} (h:BS p=none):∀i (hi:i<p.nodes.length),(defined p.nodes[i]).length=p.nodes[i].outs.length+p.nodes[i].locals.length∧(∀d∈p.nodes[i].outs,d.name∈defined p.nodes[i])∧(∀d∈p.nodes[i].locals,d.name∈defined p.nodes[i])∧∀k∈zw p.nodes p.nodes[i],k<i:=by
 intro i hi
 obtain⟨c,hc⟩:=(Nt _ _ _).1 (Nu.1 h).nodes i hi
 simp only[be] at hc
 rw[hc.defined]
 refine⟨hc.length,λd hd=>hc.all _ ?_,λd hd=>hc.all _ ?_,?_⟩
 ·rw[aw]; exact .inl (aM.2 ⟨d,hd,rfl⟩)
 ·rw[aw]; exact .inr (aM.2 ⟨d,hd,rfl⟩)
 ·intro k hk
  unfold zw at hk
  rw[bD] at hk
  obtain⟨gn,ez⟩:=hk
  simp only[an] at ez
  have hb:=b39 hc _ ez.2
  obtain⟨m,hm,uG⟩:=aM.1 hb
  obtain⟨j,hj,rfl⟩:=bz.1 hm
  have sK:j<i∧j<p.nodes.length:=by simpa[Nat.lt_min] using hj
  have hf:=ez.1
  unfold Ai at hf
  rw[cI] at hf
  obtain⟨q1,q2,q3⟩:=hf
  refine cH λeg =>?_
  have:=q3 j (by omega)
  simp only[an] at this
  apply this
  rw[← uG]; simp
theorem L5 (en:List Enum):∀(ns:List Node) (i:Nat),zK en ns i=none↔∀n∈ns,∀k:Nat,yz en n k=none
 | [],i=>by simp[zK]
 | n :: ns, i => by
   have hk:∀k:Nat,yz en n i=none↔yz en n k=none:=by
    intro k
    unfold yz
    split
    ·simp
    ·cases zY (Aj en) n.eqs 0 with
     | some x=>simp
     | none=>simp only; split<;>simp
   simp only[zK,az,forall_eq_or_imp]
   cases hn:yz en n i with
   | some x =>
     simp only[reduceCtorEq,false_iff,not_and]
     intro h
     rw[h i] at hn; simp at hn
   | none =>
     simp only
     rw[L5 en ns (i+1)]
     exact⟨λh=>⟨λk=>(hk k).1 hn,h⟩,λh=>h.2⟩
end PI.Sc
set_option linter.unusedSimpArgs false
set_option linter.unusedVariables false
namespace PI.Sc
open Go (IntKind BinOp UnOp)
open Go.Lib (decDigits)
theorem JJ:∀(l m:List Str),l.Nodup→(∀x∈l,x∈m)→l.length≤m.length
 | [],m,_,_=>by simp
 | x :: l, m, hn, h => by
   rw[cw] at hn
   have:=JJ l (m.erase x) hn.2 (by
    intro y hy
    have c9:y≠x:=λe=>hn.1 (e▸hy)
    exact(List.mem_erase_of_ne c9).2 (h y (by simp[hy])))
   have hx:=List.length_erase_of_mem (h x (by simp))
   have hp:0<m.length:=List.length_pos_of_mem (h x (by simp))
   simp only[bc]
   omega
def low (b:UInt8):Bool:=decide (97≤b.toNat∧b.toNat≤122)
structure Near (x:Str) (s s':Place):Prop where
 before:s'.before=s.before
 inputs:s'.inputs=s.inputs
 tags:s'.tags=s.tags
 more:∀y∈s.vis,y∈s'.vis
 less:∀y∈s'.vis,y∈s.vis∨y=x
theorem Near.at {x:Str} {s s':Place} (h:Near x s s') (l:List Str):Near x (s.at (s.vis++l)) (s'.at (s'.vis++l)):=by
 refine⟨h.before,h.inputs,h.tags,?_,?_⟩
 ·intro y hy
  rcases aw.1 hy with h1|h1
  ·exact cd _ (h.more y h1)
  ·exact cg _ h1
 ·intro y hy
  rcases aw.1 hy with h1|h1
  ·rcases h.less y h1 with h2|h2
   ·exact .inl (cd _ h2)
   ·exact .inr h2
  ·exact .inl (cg _ h1)
theorem GJ {α:Type} {f:α→Int}:∀{l:List α} {i:Nat},zY f l i=none↔∀x∈l,f x=0
 | [],i=>by simp[zY]
 | x :: l, i => by
   unfold zY
   by_cases h:f x=0
   ·simp[h,GJ (l:=l)]
   ·simp[h]
theorem b5t {en:List Enum} {n:Node} {i:Nat}:yz en n i=none↔zo en n=0∧(∀q∈n.eqs,Aj en q=0)∧Ak en n=0:=by
 unfold yz
 by_cases h1:zo en n=0
 ·simp only[h1,ne_eq,bh,if_false,true_and]
  cases h2:zY (Aj en) n.eqs 0 with
  | none =>
    have:=GJ.1 h2
    by_cases h3:Ak en n=0
    ·simp[h3]; exact this
    ·simp[h3]
  | some x =>
    simp only[reduceCtorEq,false_iff,not_and]
    intro h
    rw[GJ.2 h] at h2; simp at h2
 ·simp[h1]
end PI.Sc
set_option linter.unusedSimpArgs false
set_option linter.unusedVariables false
namespace PI.Sc
open Go (IntKind BinOp UnOp)
section
variable {L:Nat→Option PFunc} {Q:PExit→St→Prop}
theorem b5v {α:Type} {f:α→Int} {l:List α} {i:Nat} (hi:i<l.length) (h:f l[i]≠0) (hk:∀k (hk:k<l.length),k<i→f l[k]=0):wg f l=f l[i]:=
 Nw hi h λk h1=>hk k (by omega) h1
theorem zx {α γ:Type} {c:PC} {V:List PV} {g:Nat} {h:List PObj} (l:List α) (f:α→Int) (M:Nat→γ→List (Nat×PV)) (G:Nat→γ→Nat) (H:Nat→γ→List PObj) (x0:γ)
  (step:∀i (hi:i<l.length),f l[i]=0→∀x,(∀y,wpL L (.loop c) ⟨upd V (M (i+1) y),[],G (i+1) y,H (i+1) y⟩ Q)→wpL L c ⟨upd V (M i x),[],G i x,H i x⟩ (xA L c Q))
  (fail:∀i (hi:i<l.length),f l[i]≠0→wg f l=f l[i]→∀x,wpL L c ⟨upd V (M i x),[],G i x,H i x⟩ (xA L c Q))
  (last:wg f l=0→∀x,wpL L c ⟨upd V (M l.length x),[],G l.length x,H l.length x⟩ (xA L c Q)) (hV:upd V (M 0 x0)=V) (hG:G 0 x0=g) (hH:H 0 x0=h):wpL L (.loop c) ⟨V,[],g,h⟩ Q:=by
 refine JL l.length (λi=>if h:i<l.length then decide (f l[i]=0) else true) M G H x0 ?_ ?_ ?_ hV hG hH
 ·intro i hi cV x ih
  simp only[hi,dif_pos,an] at cV
  exact step i hi cV x ih
 ·intro i hi cV hk x
  simp only[hi,dif_pos,bZ] at cV
  refine fail i hi cV (b5v hi cV λk h1 h2 =>?_) x
  have:=hk k h2
  simp only[h1,dif_pos,an] at this
  exact this
 ·intro cV x
  refine last (ze.2 ?_) x
  intro y hy
  obtain⟨k,hk,rfl⟩:=bz.1 hy
  have:=cV k hk
  simp only[hk,dif_pos,an] at this
  exact this
theorem Nx {α γ:Type} {c:PC} {V:List PV} {g:Nat} {h:List PObj} (l:List α) (f:α→Int) (M:Nat→γ→List (Nat×PV)) (x0:γ)
  (step:∀i (hi:i<l.length),f l[i]=0→∀x,(∀y,wpL L (.loop c) ⟨upd V (M (i+1) y),[],g,h⟩ Q)→wpL L c ⟨upd V (M i x),[],g,h⟩ (xA L c Q))
  (fail:∀i (hi:i<l.length),f l[i]≠0→wg f l=f l[i]→∀x,wpL L c ⟨upd V (M i x),[],g,h⟩ (xA L c Q))
  (last:wg f l=0→∀x,wpL L c ⟨upd V (M l.length x),[],g,h⟩ (xA L c Q)) (hV:upd V (M 0 x0)=V):wpL L (.loop c) ⟨V,[],g,h⟩ Q:=
 zx l f M (λ_ _=>g) (λ_ _=>h) x0 step fail last hV rfl rfl
theorem c1Q {γ:Type} {c:PC} {V:List PV} {g:Nat} {h:List PObj} (n:Nat) (M:Nat→γ→List (Nat×PV)) (G:Nat→γ→Nat) (H:Nat→γ→List PObj) (x0:γ)
  (step:∀i,i<n→∀x,(∀y,wpL L (.loop c) ⟨upd V (M (i+1) y),[],G (i+1) y,H (i+1) y⟩ Q)→wpL L c ⟨upd V (M i x),[],G i x,H i x⟩ (xA L c Q))
  (last:∀x,wpL L c ⟨upd V (M n x),[],G n x,H n x⟩ (xA L c Q)) (hV:upd V (M 0 x0)=V) (hG:G 0 x0=g) (hH:H 0 x0=h):wpL L (.loop c) ⟨V,[],g,h⟩ Q:=
 JL n (λ_=>true) M G H x0 (λi hi _=>step i hi) (λ_ _ h=>by simp at h) (λ_=>last) hV hG hH
end
theorem wS {L:Nat→Option PFunc} {c:PC} {Q:PExit→St→Prop} (n:Nat) (Inv:Nat→St→Prop) {st:St}
  (step:∀i,i<n→∀st,Inv i st→(∀st',Inv (i+1) st'→wpL L (.loop c) st' Q)→wpL L c st (xA L c Q))
  (last:∀st,Inv n st→wpL L c st (xA L c Q)) (h0:Inv 0 st):wpL L (.loop c) st Q:=by
 have key:∀k i st,i+k=n→Inv i st→wpL L (.loop c) st Q:=by
  intro k
  induction k with
  | zero =>
    intro i st hi hh
    have:i=n:=by omega
    subst this
    rw[zE]
    exact last st hh
  | succ k ih =>
    intro i st hi hh
    rw[zE]
    exact step i (by omega) st hh λst' h'=>ih (i+1) st' (by omega) h'
 exact key n 0 st (by omega) h0
def vT {α:Type} (f:α→Nat):List α→Nat
 | []=>0
 | x::xs=>f x+vT f xs
theorem JK {α:Type} (f:α→Nat):∀a b:List α,vT f (a++b)=vT f a+vT f b
 | [],b=>by simp[vT]
 | x::a,b=>by simp[vT,JK f a b]; omega
theorem zR {α:Type} (f:α→Nat) {x:α}:∀{l:List α},x∈l→f x≤vT f l
 | [],h=>by simp at h
 | y :: l, h => by
   simp only[vT]
   rcases az.1 h with rfl|h
   ·omega
   ·have:=zR f h; omega
theorem GG {α:Type} (f:α→Nat) (h:∀x,1≤f x):∀l:List α,l.length≤vT f l
 | []=>by simp
 | x::l=>by have:=h x; have:=GG f h l; simp only[vT,bc]; omega
def Expr.parts (e:Expr):Nat:=e.list.length
def Eqn.parts (q:Eqn):Nat:=1+q.left.length+q.right.parts
def Decl.parts (d:Decl):Nat:=1+d.clock.length+d.name.length / 100
def Trn.parts (t:Trn):Nat:=1+t.cond.parts
mutual
def State.parts:State→Nat
 | .mk n l e a u w=>1+vT Decl.parts l+vT Eqn.parts e+vT Trn.parts u+vT Trn.parts w+xh a
def zB:List State→Nat
 | []=>0
 | x::xs=>x.parts+zB xs
def xh:List (List State)→Nat
 | []=>0
 | x::xs=>1+zB x+xh xs
end
theorem Bs:∀l:List State,zB l=vT State.parts l
 | []=>rfl
 | x::l=>by simp[zB,vT,Bs l]
theorem CL:∀l:List (List State),xh l=vT (λa=>1+vT State.parts a) l
 | []=>rfl
 | x::l=>by simp[xh,vT,CL l,Bs]
def Node.parts (n:Node):Nat:=1+vT Decl.parts n.ins+vT Decl.parts n.outs+vT Decl.parts n.locals+vT Eqn.parts n.eqs+vT (λe=>1+Expr.parts e) n.assume+vT (λe=>1+Expr.parts e) n.ensure+xh n.autos
def Enum.parts (u:Enum):Nat:=1+u.tags.length
def parts (p:Prog):Nat:=vT Enum.parts p.enums+vT Node.parts p.nodes
def EV (p:Prog):Bool:=decide (1500≤parts p)
def Cap (m n T:Int):Prop:=(n<m↔T<m)∧(n<m→n=T)
theorem Cap.refl (m n:Int):Cap m n n:=⟨Iff.rfl,λ_=>rfl⟩
theorem Cap.min {m T:Int}:Cap m (if T<m then T else m) T:=by unfold Cap; split<;>omega
theorem Cap.add {m a b A B:Int} (h1:Cap m a A) (h2:Cap m b B) (p1:0≤a) (p2:0≤b) (p3:0≤A) (p4:0≤B):Cap m (a+b) (A+B):=by unfold Cap at *; omega
end PI.Sc
set_option maxRecDepth 100000
set_option linter.unusedSimpArgs false
set_option linter.unusedVariables false
namespace PI.Sc
open Go (IntKind BinOp UnOp)
theorem yO {α:Type} {l:List α} {i:Nat} (h:i<l.length):l.take (i+1)=l.take i++[l[i]]:=by rw[bR,aq h]; rfl
theorem zy {α:Type} (f:α→Nat) {l:List α} {i:Nat} (h:i<l.length):vT f (l.take (i+1))=vT f (l.take i)+f l[i]:=by rw[yO h,JK]; simp[vT]
theorem c19 {α:Type} (f:α→Nat) (l:List α) (i:Nat):vT f (l.take i)≤vT f l:=by
 have:=JK f (l.take i) (l.drop i)
 rw[bM] at this
 omega
theorem parts_eq (e:Expr):e.parts=1+vT Expr.parts e.args:=by
 unfold Expr.parts
 rw[Expr.list_eq]
 have:∀l:List Expr,(l.flatMap Expr.list).length=vT (λx=>x.list.length) l:=by
  intro l
  induction l with
  | nil=>rfl
  | cons x l ih=>simp only[bl,ax,vT,ih]
 simp only[bc,this]
 show _=1+vT (λe=>e.list.length) e.args
 omega
theorem c0r (e:Expr):1≤e.parts:=by rw[parts_eq]; omega
theorem c2a (e:Expr):e.args.length<e.parts:=by
 have:=GG Expr.parts c0r e.args
 rw[parts_eq]; omega
theorem c0s {e x:Expr} (h:x∈e.args):x.parts<e.parts:=by
 have:=zR Expr.parts h
 rw[parts_eq e]; omega
theorem Mg (n:Nat) (h:n≤9223372036854775807):IntKind.i64.wrap (n:Int)=n:=xl _ (by omega) (by omega)
theorem b82 {e:Expr} (h:e.parts≤1500):e.size=e.parts:=by unfold Expr.size; exact Mg _ (by unfold Expr.parts at h; omega)
def EW (e:Expr):Prop:=∀x∈e.list,Aw x.t∧Aw x.v∧x.args.length≤140737488355328
theorem EW.self {e:Expr} (h:EW e):Aw e.t∧Aw e.v∧e.args.length≤140737488355328:=h e (by rw[Expr.list_eq]; simp)
theorem EW.arg {e x:Expr} (h:EW e) (hx:x∈e.args):EW x:=λy hy=>h y (by rw[Expr.list_eq]; exact bx _ (cz.2 ⟨x,hx,hy⟩))
theorem EW.mem {e x:Expr} (h:EW e) (hx:x∈e.list):EW x:=by
 induction e using Expr.ind with
 | h e ih =>
   rw[Expr.list_eq] at hx
   rcases az.1 hx with rfl|hx
   ·exact h
   ·obtain⟨y,hy,hx⟩:=cz.1 hx
    exact ih y hy (h.arg hy) hx
@[simp] theorem d31 (a b:Int):(a==b)=decide (a=b):=by rw[aC]; simp
@[simp] theorem d32 (a b:Int):(a != b) = !decide (a=b):=by rw[aC]; simp
@[simp] theorem d33 (a b:Str):(a==b)=decide (a=b):=by rw[aC]; simp
@[simp] theorem d34 (a b:Str):(a != b) = !decide (a=b):=by rw[aC]; simp
@[simp] theorem d35 (a b:Bool):(a==b)=decide (a=b):=by cases a<;>cases b<;>rfl
theorem Oa (k:Int):k<1∨k=1∨k=2∨k=3∨k=4∨k=5∨k=6∨k=7∨k=8∨k=9∨k=10∨k=11∨11<k:=by omega
@[simp] theorem c8F (cs:List PV):(PV.agg cs).cells=cs:=rfl
def yj (s:Str):List PV:=s.map λb => .bool (b==49)
theorem N8 (b:UInt8):x9 b=true↔b.toNat=48∨b.toNat=49:=by
 unfold x9
 simp only[bu,bm,← UInt8.toNat_inj]
 rfl
theorem d2T (b:UInt8):(b==49)=decide ((b.toNat:Int)=49):=by
 rw[aC,bm,an,← UInt8.toNat_inj]
 show b.toNat=49↔_
 omega
theorem JV (s:Str):wu (yj s)=true:=by unfold yj; exact As (λ_=>rfl) s
theorem N9 (s:Str):(yj s).length=s.length:=by simp[yj]
class TF (p:Prop) (r:outParam Prop):Prop where
 fact:p→r
instance (priority:=low) tfPos (p:Prop):TF p (p=True):=⟨eq_true⟩
instance tfNeg (p:Prop):TF (¬p) (p=False):=⟨eq_false⟩
theorem tf {p r:Prop} [TF p r] (h:p):r:=TF.fact h
theorem kfs {k c:Int} (h:k=c):(k=1)=(c=1)∧(k=2)=(c=2)∧(k=3)=(c=3)∧(k=4)=(c=4)∧(k=5)=(c=5)∧(k=6)=(c=6)∧(k=7)=(c=7)∧(k=8)=(c=8)∧(k=9)=(c=9)∧(k=10)=(c=10)∧(k=11)=(c=11)∧(k<1)=(c<1)∧(11<k)=(11<c)∧(1≤k)=(1≤c)∧(k≤11)=(c≤11):=by subst h; simp
end PI.Sc
set_option maxRecDepth 100000
set_option linter.unusedSimpArgs false
set_option linter.unusedVariables false
namespace PI.Sc
open Go (IntKind BinOp UnOp)
open Short
structure XW (e:Expr):Prop where
 parts:e.parts≤1500
 ew:EW e
structure DW (d:Decl):Prop where
 type:Aw d.type
 clock:d.clock.length≤1500
 on:∀o∈d.clock,Aw o.t
structure QW (q:Eqn):Prop where
 left:q.left.length≤1500
 right:XW q.right
inductive SW:State→Prop
 | mk (s:State) (locals:s.locals.length≤1500) (ls:∀d∈s.locals,DW d) (eqs:s.eqs.length≤1500) (es:∀q∈s.eqs,QW q) (unl:s.unl.length≤1500) (us:∀t∈s.unl,XW t.cond) (til:s.til.length≤1500) (ts:∀t∈s.til,XW t.cond) (autos:s.autos.length≤1500) (as:∀a∈s.autos,a.length≤1500) (ss:∀a∈s.autos,∀x∈a,SW x):SW s
theorem SW.locals {s:State}:SW s→s.locals.length≤1500 | .mk _ h .. => h
theorem SW.ls {s:State}:SW s→∀d∈s.locals,DW d | .mk _ _ h .. => h
theorem SW.eqs {s:State}:SW s→s.eqs.length≤1500 | .mk _ _ _ h .. => h
theorem SW.es {s:State}:SW s→∀q∈s.eqs,QW q | .mk _ _ _ _ h .. => h
theorem SW.unl {s:State}:SW s→s.unl.length≤1500 | .mk _ _ _ _ _ h .. => h
theorem SW.us {s:State}:SW s→∀t∈s.unl,XW t.cond | .mk _ _ _ _ _ _ h .. => h
theorem SW.til {s:State}:SW s→s.til.length≤1500 | .mk _ _ _ _ _ _ _ h .. => h
theorem SW.ts {s:State}:SW s→∀t∈s.til,XW t.cond | .mk _ _ _ _ _ _ _ _ h .. => h
theorem SW.autos {s:State}:SW s→s.autos.length≤1500 | .mk _ _ _ _ _ _ _ _ _ h .. => h
theorem SW.as {s:State}:SW s→∀a∈s.autos,a.length≤1500 | .mk _ _ _ _ _ _ _ _ _ _ h _=>h
theorem SW.ss {s:State}:SW s→∀a∈s.autos,∀x∈a,SW x | .mk _ _ _ _ _ _ _ _ _ _ _ h=>h
structure AsW (l:List (List State)):Prop where
 len:l.length≤1500
 as:∀a∈l,a.length≤1500
 ss:∀a∈l,∀x∈a,SW x
theorem SW.asW {s:State} (h:SW s):AsW s.autos:=⟨h.autos,h.as,h.ss⟩
structure NW (n:Node):Prop where
 ins:n.ins.length≤1500
 is:∀d∈n.ins,DW d
 outs:n.outs.length≤1500
 os:∀d∈n.outs,DW d
 locals:n.locals.length≤1500
 ls:∀d∈n.locals,DW d
 eqs:n.eqs.length≤1500
 es:∀q∈n.eqs,QW q
 autos:AsW n.autos
 assume:n.assume.length≤1500
 as:∀e∈n.assume,XW e
 ensure:n.ensure.length≤1500
 gs:∀e∈n.ensure,XW e
structure PW (p:Prog):Prop where
 enums:p.enums.length≤1500
 tags:∀u∈p.enums,u.tags.length≤1500
 nodes:p.nodes.length≤1500
 ns:∀n∈p.nodes,NW n
section
variable {L:Nat→Option PFunc} {Q:PExit→St→Prop}
theorem J0 {α γ:Type} {c:PC} {V:List PV} {g:Nat} {h:List PObj} (l:List α) (ok:Nat→α→Bool) (M:Nat→γ→List (Nat×PV)) (G:Nat→γ→Nat) (H:Nat→γ→List PObj) (x0:γ)
  (step:∀i (hi:i<l.length),ok i l[i]=true→∀x,(∀y,wpL L (.loop c) ⟨upd V (M (i+1) y),[],G (i+1) y,H (i+1) y⟩ Q)→wpL L c ⟨upd V (M i x),[],G i x,H i x⟩ (xA L c Q))
  (fail:∀i (hi:i<l.length),ok i l[i]=false→(∀k (hk:k<l.length),k<i→ok k l[k]=true)→∀x,wpL L c ⟨upd V (M i x),[],G i x,H i x⟩ (xA L c Q))
  (last:(∀k (hk:k<l.length),ok k l[k]=true)→∀x,wpL L c ⟨upd V (M l.length x),[],G l.length x,H l.length x⟩ (xA L c Q)) (hV:upd V (M 0 x0)=V) (hG:G 0 x0=g) (hH:H 0 x0=h):wpL L (.loop c) ⟨V,[],g,h⟩ Q:=by
 refine JL l.length (λi=>if h:i<l.length then ok i l[i] else true) M G H x0 ?_ ?_ ?_ hV hG hH
 ·intro i hi cV x ih
  simp only[hi,dif_pos] at cV
  exact step i hi cV x ih
 ·intro i hi cV hk x
  simp only[hi,dif_pos] at cV
  refine fail i hi cV (λk h1 h2 =>?_) x
  have:=hk k h2
  simpa only[h1,dif_pos] using this
 ·intro cV x
  refine last (λk hk =>?_) x
  have:=cV k hk
  simpa only[hk,dif_pos] using this
theorem N7 {α γ:Type} {c:PC} {V:List PV} {g:Nat} {h:List PObj} (l:List α) (ok:Nat→α→Bool) (M:Nat→γ→List (Nat×PV)) (x0:γ)
  (step:∀i (hi:i<l.length),ok i l[i]=true→∀x,(∀y,wpL L (.loop c) ⟨upd V (M (i+1) y),[],g,h⟩ Q)→wpL L c ⟨upd V (M i x),[],g,h⟩ (xA L c Q))
  (fail:∀i (hi:i<l.length),ok i l[i]=false→(∀k (hk:k<l.length),k<i→ok k l[k]=true)→∀x,wpL L c ⟨upd V (M i x),[],g,h⟩ (xA L c Q))
  (last:(∀k (hk:k<l.length),ok k l[k]=true)→∀x,wpL L c ⟨upd V (M l.length x),[],g,h⟩ (xA L c Q)) (hV:upd V (M 0 x0)=V):wpL L (.loop c) ⟨V,[],g,h⟩ Q:=
 J0 l ok M (λ_ _=>g) (λ_ _=>h) x0 step fail last hV rfl rfl
end
theorem Oh {α:Type} {f:α→Int}:∀{l:List α} {i j:Nat} (hi:i<l.length),f l[i]≠0→(∀k (hk:k<l.length),k<i→f l[k]=0)→zY f l j=some (j+i,f l[i])
 | [],i,j,hi,_,_=>by simp at hi
 | x::l,0,j,hi,h,_=>by simp only[bG] at h; simp[zY,h]
 | x :: l, i + 1, j, hi, h, hk => by
   have h0:=hk 0 (by simp) (by omega)
   simp only[bG] at h0
   simp only[co] at h
   simp only[zY,h0,if_true,co]
   rw[Oh (l:=l) (i:=i) (by simpa using hi) h (λk dg h1=>by have:=hk (k+1) (by simpa using dg) (by omega); simpa using this)]
   congr 2; omega
theorem Oi {en:List Enum}:∀{l:List Node} {i j:Nat} (hi:i<l.length) {b:Bad},yz en l[i] (j+i)=some b→(∀k (hk:k<l.length),k<i→yz en l[k] (j+k)=none)→zK en l j=some b
 | [],i,j,hi,b,_,_=>by simp at hi
 | x::l,0,j,hi,b,h,_=>by simp only[bG,bo] at h; simp[zK,h]
 | x :: l, i + 1, j, hi, b, h, hk => by
   have h0:=hk 0 (by simp) (by omega)
   simp only[bG,bo] at h0
   simp only[co] at h
   simp only[zK,h0]
   exact Oi (l:=l) (i:=i) (by simpa using hi) (by rw[show j+1+i=j+(i+1) by omega]; exact h) (λk dg h1=>by have:=hk (k+1) (by simpa using dg) (by omega); rw[show j+1+k=j+(k+1) by omega]; simpa using this)
theorem Oj {en:List Enum}:∀{l:List Node} {j:Nat},(∀k (hk:k<l.length),yz en l[k] (j+k)=none)→zK en l j=none
 | [],j,_=>rfl
 | x :: l, j, h => by
   have h0:=h 0 (by simp)
   simp only[bG,bo] at h0
   simp only[zK,h0]
   exact Oj (λk hk=>by have:=h (k+1) (by simpa using hk); rw[show j+1+k=j+(k+1) by omega]; simpa using this)
def zS (b:Bad):PV := .tuple [.agg [.int .i64 b.node,.int .i64 b.eq],.int .i64 b.err]
section
variable {L:Nat→Option PFunc} (hL:∀k f,LS k=some f→L k=some f)
include hL
theorem c2e (l:List Str) (hl:l.length≤9223372036854775807) (s:Str) (o:Bool) (h:List PObj):vU L 21 [.list o (l.map .str),.str s] h=some (.bool (decide (s∈l)),h):=by
 refine wj (hL 21 _ rfl) rfl ?_
 simp[IJ]
 refine N7 l (λ_ n => !decide (n=s)) (λi (_:Unit)=>[(3,.int .i64 i)]) () ?_ ?_ ?_ rfl
 ·intro i hi cV x ih
  have hw:=wk i (by omega)
  simp only[bF,bZ] at cV
  simp[hi,hw,cV]
  simpa using ih ()
 ·intro i hi cV fo x
  simp only[Bool.not_eq_false',an] at cV
  have hm:s∈l:=cV▸ai hi
  simp[hi,cV,hm]
 ·intro dq x
  have hm:s∉l:=by
   intro hm
   obtain⟨k,hk,rfl⟩:=bz.1 hm
   have:=dq k hk
   simp at this
  simp[hm]
end
def ePl (en:List Enum) (ns:List Node) (i:Int) (v x t:List Str):PV := .agg [.list false (en.map wo),.list false (ns.map wE),.int .i64 i,.list false (v.map .str),.list false (x.map .str),.list false (t.map .str)]
section
variable (en:List Enum) (ns:List Node) (i:Int) (v x t:List Str)
theorem c44:ePl en ns i v x t = .agg [.list false (en.map wo),.list false (ns.map wE),.int .i64 i,.list false (v.map .str),.list false (x.map .str),.list false (t.map .str)]:=rfl
@[simp] theorem c8G:(ePl en ns i v x t).cells=[.list false (en.map wo),.list false (ns.map wE),.int .i64 i,.list false (v.map .str),.list false (x.map .str),.list false (t.map .str)]:=rfl
@[simp] theorem d2D:cp (ePl en ns i v x t)=some (ePl en ns i v x t):=rfl
@[simp] theorem d1M:tkv (ePl en ns i v x t)=some (ePl en ns i v x t,false):=rfl
@[simp] theorem c3k:zU (ePl en ns i v x t)=some (ePl en ns i v x t).cells:=rfl
@[simp] theorem d1N:dem (ePl en ns i v x t)=ePl en ns i v x t:=rfl
@[simp] theorem d0q:yZ (ePl en ns i v x t)=ePl en ns i v x t:=rfl
@[simp] theorem d0r:w9 (ePl en ns i v x t)=none:=rfl
@[simp] theorem c2f:PV.agg [.list false (en.map wo),.list false (ns.map wE),.int .i64 i,.list false (v.map .str),.list false (x.map .str),.list false (t.map .str)]=ePl en ns i v x t:=rfl
@[simp] theorem d0s:wr (ePl en ns i v x t)=true:=by rw[c44]; simp[-c2f]
end
@[simp] theorem d0t:PV.agg [.str [],.list false [],.list false [],.list false [],.list false [],.list false [],.list false [],.list false []]=wE ⟨[],[],[],[],[],[],[],[]⟩:=rfl
theorem State.ind {P:State→Prop} (h:∀s:State,(∀a∈s.autos,∀x∈a,P x)→P s):∀s,P s:=by
 intro s
 refine State.rec (motive_1:=P) (motive_2:=λl:List (List State)=>∀a∈l,∀x∈a,P x) (motive_3:=λl:List State=>∀x∈l,P x) ?_ ?_ ?_ ?_ ?_ s
 ·intro n l e a u w ih; exact h _ ih
 ·simp
 ·intro a l h1 h2 b hb x hx
  rcases az.1 hb with rfl|hb
  ·exact h1 x hx
  ·exact h2 b hb x hx
 ·simp
 ·intro x l h1 h2 y hy
  rcases az.1 hy with rfl|hy
  ·exact h1
  ·exact h2 y hy
def yn (s:Place) (d:List Str) (x:List State):EN:=
 if ¬(x.map (·.name)).Nodup then(7,[])
 else if (xr s d x).1≠0 then((xr s d x).1,[])
 else if (xr s d x).2.all (λl=>By l ((xr s d x).2.headD [])) then(0,(xr s d x).2.headD [])
 else(8,[])
theorem Ir (s:Place) (d:List Str) (x:List State) (xs:List (List State)):wV s d (x::xs)=xY (yn s d x) λl=>wV s (d++l) xs:=by
 simp only[wV,yn]
 by_cases h1:(x.map (·.name)).Nodup
 ·simp only[h1,bh,if_false]
  by_cases h2:(xr s d x).1=0
  ·simp only[h2,ne_eq,bh,if_false]
   split
   ·rfl
   ·exact(zF (a:=(8,[])) (by decide) _).symm
  ·simp only[h2,ne_eq,cm,if_true]
   exact(zF (a:=((xr s d x).1,[])) h2 _).symm
 ·simp only[h1,cm,if_true]
  exact(zF (a:=(7,[])) (by decide) _).symm
theorem NS {s:Place} {d:List Str}:∀{l:List State},(∀x∈l,(yD s d x).1=0)→xr s d l=(0,l.map λx=>(yD s d x).2)
 | [],_=>rfl
 | x :: l, h => by
   have h1:=h x (by simp)
   have h2:=NS (l:=l) (λy hy=>h y (by simp[hy]))
   simp only[xr,h1,if_true,h2,aF]
theorem NT {s:Place} {d:List Str}:∀{l:List State} {i:Nat} (hi:i<l.length),(yD s d l[i]).1≠0→(∀k (hk:k<l.length),k<i→(yD s d l[k]).1=0)→xr s d l=((yD s d l[i]).1,[])
 | [],i,hi,_,_=>by simp at hi
 | x :: l, 0, hi, h, _ => by
   simp only[bG] at h
   simp only[xr,bG]
   rw[ae h]
 | x :: l, i + 1, hi, h, hk => by
   have h0:=hk 0 (by simp) (by omega)
   simp only[bG] at h0
   simp only[co] at h
   have ih:=NT (l:=l) (i:=i) (by simpa using hi) h (λk dg h1=>by have:=hk (k+1) (by simpa using dg) (by omega); simpa using this)
   simp only[xr,h0,if_true,ih,co]
   rw[ae h]
theorem JS {α:Type}:∀{l:List α},l.Nodup↔∀i (hi:i<l.length),l[i]∉l.take i:=by
 intro l
 rw[List.nodup_iff_pairwise_ne,List.pairwise_iff_getElem]
 constructor
 ·intro h i hi hm
  obtain⟨j,hj,e⟩:=bz.1 hm
  have pQ:j<i:=by simp at hj; omega
  simp only[List.getElem_take] at e
  exact h j i (by omega) hi pQ e
 ·intro h i j hi hj kD e
  refine h j hj ?_
  rw[← e,List.mem_take_iff_getElem]
  exact⟨i,by omega,rfl⟩
theorem Defs.len {s:Place} {d xs:List Str} (h:Defs s d xs):xs.length≤s.vis.length:=JJ _ _ h.2 λx hx=>(h.1 x hx).1
theorem State.parts_eq (x:State):x.parts=1+vT Decl.parts x.locals+vT Eqn.parts x.eqs+vT Trn.parts x.unl+vT Trn.parts x.til+xh x.autos:=by
 cases x; simp only[State.parts,State.locals_mk,State.eqs_mk,State.autos_mk,State.unl_mk,State.til_mk]
def Sub (d vis:List Str):Prop:=d.Nodup∧∀y∈d,y∈vis
theorem Sub.len {d vis:List Str} (h:Sub d vis):d.length≤vis.length:=JJ _ _ h.1 h.2
theorem Sub.app {s:Place} {d xs:List Str} (h:Sub d s.vis) (hx:Defs s d xs):Sub (d++xs) s.vis:=by
 refine⟨GI.2 ⟨h.1,hx.2,λx hm=>(hx.1 x hm).2.2⟩,λy hy =>?_⟩
 rcases aw.1 hy with h1|h1
 ·exact h.2 y h1
 ·exact(hx.1 y h1).1
theorem NU (s:Place):∀(l:List Eqn) (k:Nat) (d:List Str) (i:Nat) (e:Int),zQ s l k d = .inl (i,e)→e≠0
 | [],k,d,i,e,h=>by simp[zQ] at h
 | q :: l, k, d, i, e, h => by
   simp only[zQ] at h
   split at h
   ·exact NU s l _ _ _ _ h
   ·rename_i c9
    simp only[Sum.inl.injEq,ac] at h
    rw[← h.2]; exact c9
theorem b8T {before:List Node} {tags:List Str} {n:Node} {b:Bad} (h:zG before tags n=some b):b.node=before.length∧b.err≠0:=by
 simp only[zG] at h
 split at h
 ·simp only[aa] at h; subst h; exact⟨rfl,by simp⟩
 ·split at h
  ·rename_i h1
   simp only[aa] at h; subst h; exact⟨rfl,h1⟩
  ·split at h
   ·rename_i k e hq
    simp only[aa] at h; subst h; exact⟨rfl,NU _ _ _ _ _ _ hq⟩
   ·split at h
    ·rename_i h1
     simp only[aa] at h; subst h; exact⟨rfl,h1⟩
    ·split at h
     ·rename_i h1
      simp only[aa] at h; subst h; exact⟨rfl,h1⟩
     ·split at h
      ·rename_i h1
       simp only[aa] at h; subst h; exact⟨rfl,h1⟩
      ·split at h
       ·simp at h
       ·simp only[aa] at h; subst h; exact⟨rfl,by simp⟩
theorem L3 {α:Type} {T l:List α}:(T++l).Nodup↔T.Nodup∧∀k (hk:k<l.length),l[k]∉T++l.take k:=by
 rw[GI,JS (l:=l)]
 constructor
 ·rintro⟨h1,h2,h3⟩
  refine⟨h1,λk hk hm =>?_⟩
  rcases aw.1 hm with h|h
  ·exact h3 _ (ai hk) h
  ·exact h2 k hk h
 ·rintro⟨h1,h2⟩
  refine⟨h1,λk hk hm=>h2 k hk (cg _ hm),λx hx hm =>?_⟩
  obtain⟨k,hk,rfl⟩:=bz.1 hx
  exact h2 k hk (cd _ hm)
def BR (en:List Enum) (i:Nat) (u:Enum):Bool:=decide (u.name∉(en.take i).map (·.name)∧(yQ (en.take i)++u.tags).Nodup)
theorem F2 {en:List Enum} {i:Nat} (h:i<en.length):yQ (en.take (i+1))=yQ (en.take i)++en[i].tags:=by unfold yQ; rw[yO h,List.flatMap_append]; simp
theorem L4 {en:List Enum}:Bt en=true↔∀i (hi:i<en.length),BR en i en[i]=true:=by
 unfold Bt BR
 simp only[an]
 constructor
 ·rintro⟨h1,h2⟩ i hi
  constructor
  ·have:=(JS.1 h1) i (by simpa using hi)
   rw[← List.map_take] at this
   simpa using this
  ·rw[← F2 hi]
   refine h2.sublist ?_
   unfold yQ
   have:en.flatMap (·.tags)=(en.take (i+1)).flatMap (·.tags)++(en.drop (i+1)).flatMap (·.tags):=by rw[← List.flatMap_append,bM]
   rw[this]
   exact List.sublist_append_left _ _
 ·intro h
  constructor
  ·rw[JS]
   intro i hi
   have:=(h i (by simpa using hi)).1
   rw[← List.map_take]; simpa using this
  ·cases hn:en.length with
   | zero=>have:en=[]:=br.1 hn; subst this; simp[yQ]
   | succ m =>
     have:=(h m (by omega)).2
     rw[← F2 (by omega),← hn,aB] at this
     exact this
theorem b8U {en:List Enum} {i:Nat} (hi:i≤en.length) (h:∀k (hk:k<en.length),k<i→BR en k en[k]=true):(yQ (en.take i)).Nodup:=by
 cases i with
 | zero=>simp[yQ]
 | succ i =>
   have:=h i (by omega) (by omega)
   unfold BR at this
   simp only[an] at this
   rw[F2 (by omega)]; exact this.2
theorem L8 {p:Prog} {b:Bad} (hs:AJ p=some b):b.err≠0:=by
 intro he
 unfold AJ at hs
 split at hs
 ·simp only[aa] at hs; rw[← hs] at he; exact absurd he (by decide)
 ·split at hs
  ·rename_i h1; simp only[aa] at hs; rw[← hs] at he; exact h1 he
  ·have key:∀(l:List Node) (j:Nat),zK p.enums l j=some b→b.err≠0:=by
    intro l
    induction l with
    | nil=>intro j hj; simp[zK] at hj
    | cons n l ih =>
      intro j hj
      simp only[zK] at hj
      cases hn:yz p.enums n j with
      | none=>rw[hn] at hj; exact ih _ hj
      | some y =>
        rw[hn] at hj
        simp only[aa] at hj
        subst hj
        unfold yz at hn
        split at hn
        ·rename_i h1; simp only[aa] at hn; rw[← hn]; exact h1
        ·split at hn
         ·rename_i k e hf
          have:∀(l:List Eqn) (m:Nat),zY (Aj p.enums) l m=some (k,e)→e≠0:=by
           intro l
           induction l with
           | nil=>intro m hm; simp[zY] at hm
           | cons q l ih2 =>
             intro m hm
             simp only[zY] at hm
             split at hm
             ·exact ih2 _ hm
             ·rename_i h2; simp only[aa,ac] at hm; rw[← hm.2]; exact h2
          simp only[aa] at hn; rw[← hn]; exact this _ _ hf
         ·split at hn
          ·rename_i h1; simp only[aa] at hn; rw[← hn]; exact h1
          ·simp at hn
   exact key _ _ hs he
structure DF (d:Decl):Prop where
 type:Aw d.type
 clock:d.clock.length≤140737488355328
 name:d.name.length≤9223372036854775807
 on:∀o∈d.clock,Aw o.t
structure QF (q:Eqn):Prop where
 left:q.left.length≤140737488355328
 right:EW q.right
inductive SF:State→Prop
 | mk (s:State) (locals:s.locals.length≤140737488355328) (ls:∀d∈s.locals,DF d) (eqs:s.eqs.length≤140737488355328) (es:∀q∈s.eqs,QF q) (unl:s.unl.length≤140737488355328) (us:∀t∈s.unl,EW t.cond) (til:s.til.length≤140737488355328) (ts:∀t∈s.til,EW t.cond) (autos:s.autos.length≤140737488355328) (as:∀a∈s.autos,a.length≤140737488355328) (ss:∀a∈s.autos,∀x∈a,SF x):SF s
theorem SF.locals {s:State}:SF s→s.locals.length≤140737488355328 | .mk _ h .. => h
theorem SF.ls {s:State}:SF s→∀d∈s.locals,DF d | .mk _ _ h .. => h
theorem SF.eqs {s:State}:SF s→s.eqs.length≤140737488355328 | .mk _ _ _ h .. => h
theorem SF.es {s:State}:SF s→∀q∈s.eqs,QF q | .mk _ _ _ _ h .. => h
theorem SF.unl {s:State}:SF s→s.unl.length≤140737488355328 | .mk _ _ _ _ _ h .. => h
theorem SF.us {s:State}:SF s→∀t∈s.unl,EW t.cond | .mk _ _ _ _ _ _ h .. => h
theorem SF.til {s:State}:SF s→s.til.length≤140737488355328 | .mk _ _ _ _ _ _ _ h .. => h
theorem SF.ts {s:State}:SF s→∀t∈s.til,EW t.cond | .mk _ _ _ _ _ _ _ _ h .. => h
theorem SF.autos {s:State}:SF s→s.autos.length≤140737488355328 | .mk _ _ _ _ _ _ _ _ _ h .. => h
theorem SF.as {s:State}:SF s→∀a∈s.autos,a.length≤140737488355328 | .mk _ _ _ _ _ _ _ _ _ _ h _=>h
theorem SF.ss {s:State}:SF s→∀a∈s.autos,∀x∈a,SF x | .mk _ _ _ _ _ _ _ _ _ _ _ h=>h
structure AsF (l:List (List State)):Prop where
 len:l.length≤140737488355328
 as:∀a∈l,a.length≤140737488355328
 ss:∀a∈l,∀x∈a,SF x
theorem SF.asF {s:State} (h:SF s):AsF s.autos:=⟨h.autos,h.as,h.ss⟩
structure NF (n:Node):Prop where
 ins:n.ins.length≤140737488355328
 is:∀d∈n.ins,DF d
 outs:n.outs.length≤140737488355328
 os:∀d∈n.outs,DF d
 locals:n.locals.length≤140737488355328
 ls:∀d∈n.locals,DF d
 eqs:n.eqs.length≤140737488355328
 es:∀q∈n.eqs,QF q
 autos:AsF n.autos
 assume:n.assume.length≤140737488355328
 as:∀e∈n.assume,EW e
 ensure:n.ensure.length≤140737488355328
 gs:∀e∈n.ensure,EW e
structure PF (p:Prog):Prop where
 enums:p.enums.length≤140737488355328
 tags:∀u∈p.enums,u.tags.length≤140737488355328
 nodes:p.nodes.length≤140737488355328
 ns:∀n∈p.nodes,NF n
theorem c8u (n:Nat):Int.tdiv (n:Int) 100=((n / 100:Nat):Int):=by
 rw[Int.tdiv_eq_ediv_of_nonneg (by omega)]; omega
theorem Cq {α:Type} (f:α→Nat):∀l:List α,vT (λx=>1+f x) l=l.length+vT f l
 | []=>rfl
 | x::l=>by simp only[vT,Cq f l,bc]; omega
section
variable {L:Nat→Option PFunc} {Q:PExit→St→Prop}
theorem BW {γ:Type} {c:PC} {V:List PV} {g:Nat} {h:List PObj} (len:Nat) (m:Int) (T:Nat→Int) (B:Int) (M:Nat→Int→γ→List (Nat×PV)) (G:Nat→γ→Nat) (n0:Int) (x0:γ)
  (mono:∀i,i<len→T i≤T (i+1)) (h0:Cap m n0 (T 0)∧0≤n0∧n0≤B)
  (step:∀i,i<len→∀n,n<m→n=T i→0≤n→∀x,(∀n' y,Cap m n' (T (i+1))→0≤n'→n'≤B→wpL L (.loop c) ⟨upd V (M (i+1) n' y),[],G (i+1) y,h⟩ Q)→wpL L c ⟨upd V (M i n x),[],G i x,h⟩ (xA L c Q))
  (stop:∀i,i≤len→∀n,(m≤n∨i=len)→Cap m n (T len)→0≤n→n≤B→∀x,wpL L c ⟨upd V (M i n x),[],G i x,h⟩ (xA L c Q))
  (hV:upd V (M 0 n0 x0)=V) (hG:G 0 x0=g):wpL L (.loop c) ⟨V,[],g,h⟩ Q:=by
 have mono':∀d i,i+d=len→T i≤T len:=by
  intro d
  induction d with
  | zero => intro i hi; have : i = len := by omega
            subst this; exact Int.le_refl _
  | succ d ih=>intro i hi; have h1:=mono i (by omega); have h2:=ih (i+1) (by omega); omega
 have key:∀(d i:Nat),i+d=len→∀n,Cap m n (T i)→0≤n→n≤B→∀x,wpL L (.loop c) ⟨upd V (M i n x),[],G i x,h⟩ Q:=by
  intro d
  induction d with
  | zero =>
    intro i hi n hc hn hb x
    have:i=len:=by omega
    subst this
    rw[zE]
    exact stop i (ao _) n (.inr rfl) hc hn hb x
  | succ d ih =>
    intro i hi n hc hn hb x
    rw[zE]
    by_cases hm:n<m
    ·exact step i (by omega) n hm (hc.2 hm) hn x (λn' y h1 h2 h3=>ih (i+1) (by omega) n' h1 h2 h3 y)
    ·refine stop i (by omega) n (.inl (by omega)) ?_ hn hb x
     have:=mono' (d+1) i hi
     unfold Cap at *; omega
 have:=key len 0 (by omega) n0 h0.1 h0.2.1 h0.2.2 x0
 rwa [hV,hG] at this
end
section
variable {L:Nat→Option PFunc} (hL:∀k f,LS k=some f→L k=some f)
include hL
theorem JT (e:Expr):EW e→∀(m:Int),1≤m→m≤1500→∀h,vU L 95 [vX e,.int .i64 m] h=some (.int .i64 (if (e.parts:Int)<m then e.parts else m),h):=by
 induction e using Expr.ind with
 | h e ih=>
 intro he m jH jI h
 refine wj (hL 95 _ rfl) rfl ?_
 obtain⟨_,_,dr⟩:=he.self
 have uW:=parts_eq e
 simp[I9]
 refine BW e.args.length m (λi=>1+(vT Expr.parts (e.args.take i):Nat)) 1501 (λi n (_:Unit)=>[(4,.int .i64 n),(5,.int .i64 i)]) (λ_ _=>1) 1 () ?_ ?_ ?_ ?_ rfl rfl
 ·intro i hi
  have:=zy Expr.parts hi
  simp only[this]; omega
 ·refine⟨?_,by omega,by omega⟩
  simp[vT,Cap.refl]
 ·intro i hi n hn hT h0 x ih2
  have hw:=wk i (by omega)
  have ht:=zy Expr.parts hi
  have hT:n=1+(vT Expr.parts (e.args.take i):Nat):=hT
  have hc:=ih e.args[i] (ai hi) (he.arg (ai hi)) (m - n) (by omega) (by omega) []
  have jN:IntKind.i64.wrap (m - n)=m - n:=xl _ (by omega) (by omega)
  have ih2:=ih2 (n+(if (e.args[i].parts:Int)<m - n then(e.args[i].parts:Int) else m - n)) ()
  rw[ht] at ih2
  generalize e.args[i].parts=q at *
  generalize vT Expr.parts (e.args.take i)=t at *
  have ih2:=ih2 (by unfold Cap; split<;>omega) (by split<;>omega) (by split<;>omega)
  have hr:0≤(if (q:Int)<m - n then(q:Int) else m - n)∧(if (q:Int)<m - n then(q:Int) else m - n)≤1500:=by split<;>omega
  generalize (if (q:Int)<m - n then(q:Int) else m - n)=r at *
  have kZ:IntKind.i64.wrap (n+r)=n+r:=xl _ (by omega) (by omega)
  simp[hi,hn,hw,jN,kZ,hc]
  simpa using ih2
 ·intro i hi n hx hc h0 hb x
  simp only[aB] at hc
  have hT:(1:Int)+(vT Expr.parts e.args:Nat)=e.parts:=by omega
  rw[hT] at hc
  have dp:(if m<n then m else n)=(if (e.parts:Int)<m then(e.parts:Int) else m):=by
   unfold Cap at hc
   split<;>split<;>omega
  have m9:¬(i<e.args.length∧n<m):=by omega
  by_cases h1:i<e.args.length
  ·have h2:¬n<m:=by omega
   simp[h1,h2,AA,dp]
  ·have fw:¬(i:Int)<e.args.length:=by omega
   simp[h1,fw,AA,dp]
theorem GM (l:List Decl) (hl:l.length≤140737488355328) (hd:∀d∈l,DF d) (m:Int) (jH:1≤m) (jI:m≤1500) (o:Bool) (h:List PObj):∃n:Int,vU L 52 [.list o (l.map wc),.int .i64 m] h=some (.int .i64 n,h)∧Cap m n (vT Decl.parts l)∧0≤n∧n≤100000000000000000:=by
 suffices H:∃r,vU L 52 [.list o (l.map wc),.int .i64 m] h=some r∧∃n:Int,r=(.int .i64 n,h)∧Cap m n (vT Decl.parts l)∧0≤n∧n≤100000000000000000 by
  obtain⟨r,h1,n,rfl,h2⟩:=H
  exact⟨n,h1,h2⟩
 refine zq (hL 52 _ rfl) rfl ?_
 have pR:vT Decl.parts l=l.length+vT (λd:Decl=>d.clock.length+d.name.length / 100) l:=by
  rw[← Cq]
  congr 1
  funext d; unfold Decl.parts; omega
 simp[IT]
 refine BW l.length m (λi=>(l.length:Int)+(vT (λd:Decl=>d.clock.length+d.name.length / 100) (l.take i):Nat)) 100000000000000000 (λi n (_:Unit)=>[(3,.int .i64 n),(4,.int .i64 i)]) (λ_ _=>0) l.length () ?_ ?_ ?_ ?_ rfl rfl
 ·intro i hi
  have:=zy (λd:Decl=>d.clock.length+d.name.length / 100) hi
  simp only[this]; omega
 ·refine⟨?_,by omega,by omega⟩
  simp[vT,Cap.refl]
 ·intro i hi n hn hT h0 x ih2
  have hw:=wk i (by omega)
  have ht:=zy (λd:Decl=>d.clock.length+d.name.length / 100) hi
  have d9:=hd _ (ai hi)
  have dD:=d9.clock
  have lU:=d9.name
  have hT:n=(l.length:Int)+(vT (λd:Decl=>d.clock.length+d.name.length / 100) (l.take i):Nat):=hT
  have ih2:=ih2 (n+l[i].clock.length+(l[i].name.length / 100:Nat)) ()
  rw[ht] at ih2
  have ih2 := ih2 (by rw [hT]; have : (l.length : Int) + (vT (fun d : Decl => d.clock.length + d.name.length / 100) (l.take i) : Nat) + l[i].clock.length + (l[i].name.length / 100 : Nat) = (l.length : Int) + ((vT (fun d : Decl => d.clock.length + d.name.length / 100) (l.take i) + (l[i].clock.length + l[i].name.length / 100) : Nat) : Int) := by omega
                      rw[this]; exact Cap.refl _ _) (by omega) (by omega)
  have jN:IntKind.i64.wrap (n+(l[i].clock.length:Int))=n+l[i].clock.length:=xl _ (by omega) (by omega)
  have hq:=c8u l[i].name.length
  have kZ:IntKind.i64.wrap ((l[i].name.length / 100:Nat):Int)=((l[i].name.length / 100:Nat):Int):=xl _ (by omega) (by omega)
  have uX:IntKind.i64.wrap (n+(l[i].clock.length:Int)+((l[i].name.length / 100:Nat):Int))=n+l[i].clock.length+(l[i].name.length / 100:Nat):=xl _ (by omega) (by omega)
  generalize l[i].name.length / 100=q at *
  simp[hi,hn,hw,jN,hq,kZ,uX]
  simpa using ih2
 ·intro i hi n hx hc h0 hb x
  simp only[aB] at hc
  rw[show (l.length:Int)+(vT (λd:Decl=>d.clock.length+d.name.length / 100) l:Nat)=(vT Decl.parts l:Nat) by omega] at hc
  have dL:xi [.var 2] (λr=>∃n:Int,r=(.int .i64 n,h)∧Cap m n (vT Decl.parts l)∧0≤n∧n≤100000000000000000) .ret ⟨[.list false (l.map wc),.int .i64 m,.int .i64 n,.int .i64 n,.int .i64 i],[],0,h⟩:=⟨.inr rfl,.int .i64 n,rfl,n,rfl,hc,h0,hb⟩
  by_cases h1:i<l.length
  ·have h2:¬n<m:=by omega
   simp[h1,h2]
   exact dL
  ·have fw:¬(i:Int)<l.length:=by omega
   simp[h1,fw]
   exact dL
theorem NV (l:List Trn) (hl:l.length≤140737488355328) (hd:∀x∈l,EW x.cond) (m:Int) (jH:1≤m) (jI:m≤1500) (o:Bool) (h:List PObj):∃n:Int,vU L 96 [.list o (l.map wJ),.int .i64 m] h=some (.int .i64 n,h)∧Cap m n (vT Trn.parts l)∧0≤n∧n≤100000000000000000:=by
 suffices H:∃r,vU L 96 [.list o (l.map wJ),.int .i64 m] h=some r∧∃n:Int,r=(.int .i64 n,h)∧Cap m n (vT Trn.parts l)∧0≤n∧n≤100000000000000000 by
  obtain⟨r,h1,n,rfl,h2⟩:=H
  exact⟨n,h1,h2⟩
 refine zq (hL 96 _ rfl) rfl ?_
 have pR:vT Trn.parts l=l.length+vT (λt:Trn=>t.cond.parts) l:=by
  rw[← Cq]; rfl
 simp[Ja]
 refine BW l.length m (λi=>(l.length:Int)+(vT (λt:Trn=>t.cond.parts) (l.take i):Nat)) 100000000000000000 (λi n (_:Unit)=>[(3,.int .i64 n),(4,.int .i64 i)]) (λ_ _=>0) l.length () ?_ ?_ ?_ ?_ rfl rfl
 ·intro i hi
  have:=zy (λt:Trn=>t.cond.parts) hi
  simp only[this]; omega
 ·refine⟨?_,by omega,by omega⟩
  simp[vT,Cap.refl]
 ·intro i hi n hn hT h0 x ih2
  have hw:=wk i (by omega)
  have ht:=zy (λt:Trn=>t.cond.parts) hi
  have d9:=hd _ (ai hi)
  have hT:n=(l.length:Int)+(vT (λt:Trn=>t.cond.parts) (l.take i):Nat):=hT
  have hc:=JT hL l[i].cond d9 m jH jI []
  have ih2:=ih2 (n+(if (l[i].cond.parts:Int)<m then(l[i].cond.parts:Int) else m)) ()
  rw[ht] at ih2
  generalize vT (λt:Trn=>t.cond.parts) (l.take i)=T at *
  generalize l[i].cond.parts=q at *
  have hr:0≤(if (q:Int)<m then(q:Int) else m)∧(if (q:Int)<m then(q:Int) else m)≤1500:=by split<;>omega
  have ih2:=ih2 (by unfold Cap; split<;>omega) (by omega) (by omega)
  generalize (if (q:Int)<m then(q:Int) else m)=r at *
  have kZ:IntKind.i64.wrap (n+r)=n+r:=xl _ (by omega) (by omega)
  simp[hi,hn,hw,hc,kZ]
  simpa using ih2
 ·intro i hi n hx hc h0 hb x
  simp only[aB] at hc
  rw[show (l.length:Int)+(vT (λt:Trn=>t.cond.parts) l:Nat)=(vT Trn.parts l:Nat) by omega] at hc
  have dL:xi [.var 2] (λr=>∃n:Int,r=(.int .i64 n,h)∧Cap m n (vT Trn.parts l)∧0≤n∧n≤100000000000000000) .ret ⟨[.list false (l.map wJ),.int .i64 m,.int .i64 n,.int .i64 n,.int .i64 i],[],0,h⟩:=⟨.inr rfl,.int .i64 n,rfl,n,rfl,hc,h0,hb⟩
  by_cases h1:i<l.length
  ·have h2:¬n<m:=by omega
   simp[h1,h2]
   exact dL
  ·have fw:¬(i:Int)<l.length:=by omega
   simp[h1,fw]
   exact dL
theorem NX (l:List Expr) (hl:l.length≤140737488355328) (hd:∀x∈l,EW x) (m:Int) (jH:1≤m) (jI:m≤1500) (o:Bool) (h:List PObj):∃n:Int,vU L 54 [.list o (l.map vX),.int .i64 m] h=some (.int .i64 n,h)∧Cap m n (vT (λe:Expr=>1+Expr.parts e) l)∧0≤n∧n≤100000000000000000:=by
 suffices H:∃r,vU L 54 [.list o (l.map vX),.int .i64 m] h=some r∧∃n:Int,r=(.int .i64 n,h)∧Cap m n (vT (λe:Expr=>1+Expr.parts e) l)∧0≤n∧n≤100000000000000000 by
  obtain⟨r,h1,n,rfl,h2⟩:=H
  exact⟨n,h1,h2⟩
 refine zq (hL 54 _ rfl) rfl ?_
 have pR:vT (λe:Expr=>1+Expr.parts e) l=l.length+vT Expr.parts l:=by
  rw[← Cq]
 simp[IV]
 refine BW l.length m (λi=>(l.length:Int)+(vT Expr.parts (l.take i):Nat)) 100000000000000000 (λi n (_:Unit)=>[(3,.int .i64 n),(4,.int .i64 i)]) (λ_ _=>0) l.length () ?_ ?_ ?_ ?_ rfl rfl
 ·intro i hi
  have:=zy Expr.parts hi
  simp only[this]; omega
 ·refine⟨?_,by omega,by omega⟩
  simp[vT,Cap.refl]
 ·intro i hi n hn hT h0 x ih2
  have hw:=wk i (by omega)
  have ht:=zy Expr.parts hi
  have d9:=hd _ (ai hi)
  have hT:n=(l.length:Int)+(vT Expr.parts (l.take i):Nat):=hT
  have hc:=JT hL l[i] d9 m jH jI []
  have ih2:=ih2 (n+(if (l[i].parts:Int)<m then(l[i].parts:Int) else m)) ()
  rw[ht] at ih2
  generalize vT Expr.parts (l.take i)=T at *
  generalize l[i].parts=q at *
  have hr:0≤(if (q:Int)<m then(q:Int) else m)∧(if (q:Int)<m then(q:Int) else m)≤1500:=by split<;>omega
  have ih2:=ih2 (by unfold Cap; split<;>omega) (by omega) (by omega)
  generalize (if (q:Int)<m then(q:Int) else m)=r at *
  have kZ:IntKind.i64.wrap (n+r)=n+r:=xl _ (by omega) (by omega)
  simp[hi,hn,hw,hc,kZ]
  simpa using ih2
 ·intro i hi n hx hc h0 hb x
  simp only[aB] at hc
  rw[show (l.length:Int)+(vT Expr.parts l:Nat)=(vT (λe:Expr=>1+Expr.parts e) l:Nat) by omega] at hc
  have dL:xi [.var 2] (λr=>∃n:Int,r=(.int .i64 n,h)∧Cap m n (vT (λe:Expr=>1+Expr.parts e) l)∧0≤n∧n≤100000000000000000) .ret ⟨[.list false (l.map vX),.int .i64 m,.int .i64 n,.int .i64 n,.int .i64 i],[],0,h⟩:=⟨.inr rfl,.int .i64 n,rfl,n,rfl,hc,h0,hb⟩
  by_cases h1:i<l.length
  ·have h2:¬n<m:=by omega
   simp[h1,h2]
   exact dL
  ·have fw:¬(i:Int)<l.length:=by omega
   simp[h1,fw]
   exact dL
theorem NY (l:List Eqn) (hl:l.length≤140737488355328) (hd:∀x∈l,QF x) (m:Int) (jH:1≤m) (jI:m≤1500) (o:Bool) (h:List PObj):∃n:Int,vU L 53 [.list o (l.map ww),.int .i64 m] h=some (.int .i64 n,h)∧Cap m n (vT Eqn.parts l)∧0≤n∧n≤100000000000000000:=by
 suffices H:∃r,vU L 53 [.list o (l.map ww),.int .i64 m] h=some r∧∃n:Int,r=(.int .i64 n,h)∧Cap m n (vT Eqn.parts l)∧0≤n∧n≤100000000000000000 by
  obtain⟨r,h1,n,rfl,h2⟩:=H
  exact⟨n,h1,h2⟩
 refine zq (hL 53 _ rfl) rfl ?_
 have pR:vT Eqn.parts l=l.length+vT (λq:Eqn=>q.left.length+q.right.parts) l:=by
  rw[← Cq]
  congr 1
  funext d; try (unfold Eqn.parts; omega)
 simp[IU]
 refine BW l.length m (λi=>(l.length:Int)+(vT (λq:Eqn=>q.left.length+q.right.parts) (l.take i):Nat)) 100000000000000000 (λi n (_:Unit)=>[(3,.int .i64 n),(4,.int .i64 i)]) (λ_ _=>0) l.length () ?_ ?_ ?_ ?_ rfl rfl
 ·intro i hi
  have:=zy (λq:Eqn=>q.left.length+q.right.parts) hi
  simp only[this]; omega
 ·refine⟨?_,by omega,by omega⟩
  simp[vT,Cap.refl]
 ·intro i hi n hn hT h0 x ih2
  have hw:=wk i (by omega)
  have ht:=zy (λq:Eqn=>q.left.length+q.right.parts) hi
  have d9:=hd _ (ai hi)
  have q9:=d9.left
  have hT:n=(l.length:Int)+(vT (λq:Eqn=>q.left.length+q.right.parts) (l.take i):Nat):=hT
  have hc:=JT hL l[i].right d9.right m jH jI []
  have ih2:=ih2 (n+l[i].left.length+(if (l[i].right.parts:Int)<m then(l[i].right.parts:Int) else m)) ()
  rw[ht] at ih2
  generalize vT (λq:Eqn=>q.left.length+q.right.parts) (l.take i)=T at *
  generalize l[i].right.parts=q at *
  have hr:0≤(if (q:Int)<m then(q:Int) else m)∧(if (q:Int)<m then(q:Int) else m)≤1500:=by split<;>omega
  have ih2:=ih2 (by unfold Cap; split<;>omega) (by omega) (by omega)
  generalize (if (q:Int)<m then(q:Int) else m)=r at *
  have jN:IntKind.i64.wrap (n+(l[i].left.length:Int))=n+l[i].left.length:=xl _ (by omega) (by omega)
  have kZ:IntKind.i64.wrap (n+(l[i].left.length:Int)+r)=n+l[i].left.length+r:=xl _ (by omega) (by omega)
  simp[hi,hn,hw,hc,jN,kZ]
  simpa using ih2
 ·intro i hi n hx hc h0 hb x
  simp only[aB] at hc
  rw[show (l.length:Int)+(vT (λq:Eqn=>q.left.length+q.right.parts) l:Nat)=(vT Eqn.parts l:Nat) by omega] at hc
  have dL:xi [.var 2] (λr=>∃n:Int,r=(.int .i64 n,h)∧Cap m n (vT Eqn.parts l)∧0≤n∧n≤100000000000000000) .ret ⟨[.list false (l.map ww),.int .i64 m,.int .i64 n,.int .i64 n,.int .i64 i],[],0,h⟩:=⟨.inr rfl,.int .i64 n,rfl,n,rfl,hc,h0,hb⟩
  by_cases h1:i<l.length
  ·have h2:¬n<m:=by omega
   simp[h1,h2]
   exact dL
  ·have fw:¬(i:Int)<l.length:=by omega
   simp[h1,fw]
   exact dL
end
theorem b8V (l:List (List State)):xh l=l.length+vT (λa=>vT State.parts a) l:=by
 rw[CL,← Cq]
section
variable {L:Nat→Option PFunc} (hL:∀k f,LS k=some f→L k=some f)
include hL
def WA (L:Nat→Option PFunc) (l:List (List State)):Prop:=∀(m:Int),1≤m→m≤1500→∀(o:Bool) (h:List PObj),∃n:Int,vU L 55 [.list o (l.map wq),.int .i64 m] h=some (.int .i64 n,h)∧Cap m n (xh l)∧0≤n∧n≤m+500000000000000000
theorem NZ (l:List (List State)) (hl:AsF l) (ih:∀a∈l,∀x∈a,WA L x.autos):WA L l:=by
 intro m jH jI o h
 suffices H:∃r,vU L 55 [.list o (l.map wq),.int .i64 m] h=some r∧∃n:Int,r=(.int .i64 n,h)∧Cap m n (xh l)∧0≤n∧n≤m+500000000000000000 by
  obtain⟨r,h1,n,rfl,h2⟩:=H
  exact⟨n,h1,h2⟩
 refine zq (hL 55 _ rfl) rfl ?_
 have pR:=b8V l
 have sT:=hl.len
 simp[IW]
 refine BW l.length m (λi=>(l.length:Int)+(vT (λa=>vT State.parts a) (l.take i):Nat)) (m+500000000000000000) (λi n (x:(PV×PV)×Nat)=>[(3,.int .i64 n),(4,.int .i64 i),(5,x.1.1),(6,x.1.2)]) (λ_ x=>x.2) l.length ((.dead,.dead),0) ?_ ?_ ?_ ?_ rfl rfl
 ·intro i hi
  have:=zy (λa=>vT State.parts a) hi
  simp only[this]; omega
 ·refine⟨?_,by omega,by omega⟩
  simp[vT,Cap.refl]
 ·intro i hi n hn hT h0 x ih2
  have hw:=wk i (by omega)
  have ht:=zy (λa=>vT State.parts a) hi
  have hT:n=(l.length:Int)+(vT (λa=>vT State.parts a) (l.take i):Nat):=hT
  have dr:=hl.as _ (ai hi)
  simp[hi,hn]
  refine BW l[i].length m (λj=>n+(vT State.parts (l[i].take j):Nat)) (m+500000000000000000) (λj n' (x:PV×Nat)=>[(3,.int .i64 n'),(5,.int .i64 j),(6,x.1)]) (λ_ x=>x.2) n (x.1.2,x.2) ?_ ?_ ?_ ?_ rfl rfl
  ·intro j hj
   have:=zy State.parts hj
   simp only[this]; omega
  ·refine⟨?_,by omega,by omega⟩
   simp[vT,Cap.refl]
  ·intro j hj n' jF sV j8 y ih3
   have fV:=wk j (by omega)
   have jf:=zy State.parts hj
   have sV:n'=n+(vT State.parts (l[i].take j):Nat):=sV
   have kE:=hl.ss _ (ai hi) _ (ai hj)
   have uW:=State.parts_eq l[i][j]
   obtain⟨w1,c1,q1,a1,b1⟩:=GM hL l[i][j].locals kE.locals kE.ls m jH jI false []
   obtain⟨w2,c2,q2,a2,b2⟩:=NY hL l[i][j].eqs kE.eqs kE.es m jH jI false []
   obtain⟨w3,c3,q3,a3,b3⟩:=NV hL l[i][j].unl kE.unl kE.us m jH jI false []
   obtain⟨w4,c4,q4,a4,b4⟩:=NV hL l[i][j].til kE.til kE.ts m jH jI false []
   have z0:IntKind.i64.wrap (n'+1)=n'+1:=xl _ (by omega) (by omega)
   have z1:IntKind.i64.wrap (n'+1+w1)=n'+1+w1:=xl _ (by omega) (by omega)
   have z2:IntKind.i64.wrap (n'+1+w1+w2)=n'+1+w1+w2:=xl _ (by omega) (by omega)
   have z3:IntKind.i64.wrap (n'+1+w1+w2+w3)=n'+1+w1+w2+w3:=xl _ (by omega) (by omega)
   have hS:∃S:Int,S=n'+1+w1+w2+w3+w4:=⟨_,rfl⟩
   obtain⟨S,hS⟩:=hS
   have z4:IntKind.i64.wrap (n'+1+w1+w2+w3+w4)=S:=by rw[hS]; exact xl _ (by omega) (by omega)
   rw[jf] at ih3
   have hSc:Cap m S (n+(vT State.parts (l[i].take j):Nat)+(1+vT Decl.parts l[i][j].locals+vT Eqn.parts l[i][j].eqs+vT Trn.parts l[i][j].unl+vT Trn.parts l[i][j].til:Nat)):=by
    unfold Cap at *; omega
   by_cases ov:S<m
   ·have ge:IntKind.i64.wrap (m - S)=m - S:=xl _ (by omega) (by omega)
    obtain⟨w5,c5,q5,a5,b5⟩:=ih _ (ai hi) _ (ai hj) (m - S) (by omega) (by omega) false []
    have z5:IntKind.i64.wrap (S+w5)=S+w5:=xl _ (by omega) (by omega)
    have ih3:=λy=>ih3 (S+w5) y (by unfold Cap at *; omega) (by omega) (by omega)
    simp[hi,hj,jF,fV,c1,c2,c3,c4,z0,z1,z2,z3,z4,ov,ge,c5,z5]
    simpa using ih3 (_,_)
   ·have ih3:=λy=>ih3 S y (by unfold Cap at *; omega) (by omega) (by omega)
    simp[hi,hj,jF,fV,c1,c2,c3,c4,z0,z1,z2,z3,z4,ov]
    simpa using ih3 (_,_)
  ·intro j hj n' hx hc j8 hb y
   simp only[aB] at hc
   rw[ht] at ih2
   have ih2:=λy=>ih2 n' y (by rw[show (l.length:Int)+((vT (λa=>vT State.parts a) (l.take i)+vT State.parts l[i]:Nat):Int)=n+(vT State.parts l[i]:Nat) by omega]; exact hc) j8 hb
   by_cases h1:j<l[i].length
   ·have h2:¬n'<m:=by omega
    simp[hi,h1,h2,hw]
    simpa using ih2 ((_,_),_)
   ·have fw:¬(j:Int)<l[i].length:=by omega
    simp[hi,h1,fw,hw]
    simpa using ih2 ((_,_),_)
 ·intro i hi n hx hc h0 hb x
  simp only[aB] at hc
  rw[show (l.length:Int)+(vT (λa=>vT State.parts a) l:Nat)=(xh l:Nat) by omega] at hc
  have dL:xi [.var 2] (λr=>∃n:Int,r=(.int .i64 n,h)∧Cap m n (xh l)∧0≤n∧n≤m+500000000000000000) .ret ⟨[.list false (l.map wq),.int .i64 m,.int .i64 n,.int .i64 n,.int .i64 i,x.1.1,x.1.2],[],x.2,h⟩:=⟨.inr rfl,.int .i64 n,rfl,n,rfl,hc,h0,hb⟩
  by_cases h1:i<l.length
  ·have h2:¬n<m:=by omega
   simp[h1,h2]
   exact dL
  ·have fw:¬(i:Int)<l.length:=by omega
   simp[h1,fw]
   exact dL
theorem b8W (l:List (List State)) (hl:AsF l):WA L l:=by
 refine NZ hL l hl λa ha x hx =>?_
 have key:∀s:State,SF s→WA L s.autos:=by
  intro s
  induction s using State.ind with
  | h s ih=>intro hs; exact NZ hL s.autos hs.asF λa ha x hx=>ih a ha x hx (hs.ss a ha x hx)
 exact key x (hl.ss a ha x hx)
theorem c0e (p:Prog) (hp:PF p) (h:List PObj):∃n:Int,vU L 25 [wT p,.int .i64 1500] h=some (.int .i64 n,h)∧Cap 1500 n (parts p):=by
 suffices H:∃r,vU L 25 [wT p,.int .i64 1500] h=some r∧∃n:Int,r=(.int .i64 n,h)∧Cap 1500 n (parts p) by
  obtain⟨r,h1,n,rfl,h2⟩:=H
  exact⟨n,h1,h2⟩
 refine zq (hL 25 _ rfl) rfl ?_
 have l1:=hp.enums
 have l2:=hp.nodes
 have t1:vT Enum.parts p.enums=p.enums.length+vT (λu:Enum=>u.tags.length) p.enums:=by rw[← Cq]; rfl
 obtain⟨f,hf⟩:∃f:Node→Nat,∀n,f n=n.parts - 1:=⟨_,λ_=>rfl⟩
 have db:∀n:Node,n.parts=1+f n:=by
  intro n
  have:1≤n.parts:=by unfold Node.parts; omega
  rw[hf]; omega
 have t2:vT Node.parts p.nodes=p.nodes.length+vT f p.nodes:=by
  rw[← Cq]
  congr 1
  funext n; exact db n
 have iZ:(parts p:Int)=(p.enums.length:Int)+p.nodes.length+(vT (λu:Enum=>u.tags.length) p.enums:Nat)+(vT f p.nodes:Nat):=by unfold parts; omega
 have lI:IntKind.i64.wrap ((p.enums.length:Int)+p.nodes.length)=(p.enums.length:Int)+p.nodes.length:=xl _ (by omega) (by omega)
 simp[IL,lI]
 refine BW p.enums.length 1500 (λi=>(p.enums.length:Int)+p.nodes.length+(vT (λu:Enum=>u.tags.length) (p.enums.take i):Nat)) 1000000000000000000 (λi n (_:Unit)=>[(4,.int .i64 n),(5,.int .i64 i)]) (λ_ _=>1) ((p.enums.length:Int)+p.nodes.length) () ?_ ?_ ?_ ?_ rfl rfl
 ·intro i hi
  have:=zy (λu:Enum=>u.tags.length) hi
  simp only[this]; omega
 ·refine⟨?_,by omega,by omega⟩
  simp[vT,Cap.refl]
 ·intro i hi n hn hT h0 x ih2
  have hw:=wk i (by omega)
  have ht:=zy (λu:Enum=>u.tags.length) hi
  have nE:=hp.tags _ (ai hi)
  have hT:n=(p.enums.length:Int)+p.nodes.length+(vT (λu:Enum=>u.tags.length) (p.enums.take i):Nat):=hT
  have ih2:=ih2 (n+p.enums[i].tags.length) ()
  rw[ht] at ih2
  have ih2:=ih2 (by unfold Cap; omega) (by omega) (by omega)
  have jN:IntKind.i64.wrap (n+(p.enums[i].tags.length:Int))=n+p.enums[i].tags.length:=xl _ (by omega) (by omega)
  simp[hi,hn,hw,jN]
  simpa using ih2
 ·intro i hi n hx hc h0 hb x
  simp only[aB] at hc
  have mS:wpL L Mu ⟨[wT p,.int .i64 1500,.loc 0 (wT p).cells,.int .i64 0,.int .i64 n,.int .i64 i,.int .i64 0,.dead],[],1,h⟩ (A5 2 (Bz L (S (R [m v4,t 3 l0]) Y) (xi [.var 3] λr=>∃n:Int,r=(.int .i64 n,h)∧Cap 1500 n (parts p)))):=by
   have na:∃T0:Int,T0=(p.enums.length:Int)+p.nodes.length+(vT (λu:Enum=>u.tags.length) p.enums:Nat):=⟨_,rfl⟩
   obtain⟨T0,na⟩:=na
   rw[← na] at hc iZ
   have uY:0≤T0:=by omega
   refine BW p.nodes.length 1500 (λi=>T0+(vT f (p.nodes.take i):Nat)) 2000000000000000000 (λi n (x:PV×Nat)=>[(4,.int .i64 n),(6,.int .i64 i),(7,x.1)]) (λ_ x=>x.2) n (.dead,1) ?_ ?_ ?_ ?_ rfl rfl
   ·intro i hi
    have:=zy f hi
    simp only[this]; omega
   ·refine⟨?_,by omega,by omega⟩
    simpa[vT] using hc
   ·intro i hi n hn hT h0 x ih2
    have hw:=wk i (by omega)
    have ht:=zy f hi
    have gI:=hp.ns _ (ai hi)
    have oz:f p.nodes[i]=vT Decl.parts p.nodes[i].ins+vT Decl.parts p.nodes[i].outs+vT Decl.parts p.nodes[i].locals+vT Eqn.parts p.nodes[i].eqs+vT (λe=>1+Expr.parts e) p.nodes[i].assume+vT (λe=>1+Expr.parts e) p.nodes[i].ensure+xh p.nodes[i].autos:=by
     rw[hf]; unfold Node.parts; omega
    have hT:n=T0+(vT f (p.nodes.take i):Nat):=hT
    obtain⟨w1,c1,q1,a1,b1⟩:=GM hL p.nodes[i].ins gI.ins gI.is 1500 (by omega) (by omega) false []
    obtain⟨w2,c2,q2,a2,b2⟩:=GM hL p.nodes[i].outs gI.outs gI.os 1500 (by omega) (by omega) false []
    obtain⟨w3,c3,q3,a3,b3⟩:=GM hL p.nodes[i].locals gI.locals gI.ls 1500 (by omega) (by omega) false []
    obtain⟨w4,c4,q4,a4,b4⟩:=NY hL p.nodes[i].eqs gI.eqs gI.es 1500 (by omega) (by omega) false []
    obtain⟨w5,c5,q5,a5,b5⟩:=NX hL p.nodes[i].assume gI.assume gI.as 1500 (by omega) (by omega) false []
    obtain⟨w6,c6,q6,a6,b6⟩:=NX hL p.nodes[i].ensure gI.ensure gI.gs 1500 (by omega) (by omega) false []
    have z1:IntKind.i64.wrap (n+w1)=n+w1:=xl _ (by omega) (by omega)
    have z2:IntKind.i64.wrap (n+w1+w2)=n+w1+w2:=xl _ (by omega) (by omega)
    have z3:IntKind.i64.wrap (n+w1+w2+w3)=n+w1+w2+w3:=xl _ (by omega) (by omega)
    have z4:IntKind.i64.wrap (n+w1+w2+w3+w4)=n+w1+w2+w3+w4:=xl _ (by omega) (by omega)
    have z5:IntKind.i64.wrap (n+w1+w2+w3+w4+w5)=n+w1+w2+w3+w4+w5:=xl _ (by omega) (by omega)
    obtain⟨S,hS⟩:∃S:Int,S=n+w1+w2+w3+w4+w5+w6:=⟨_,rfl⟩
    have z6:IntKind.i64.wrap (n+w1+w2+w3+w4+w5+w6)=S:=by rw[hS]; exact xl _ (by omega) (by omega)
    have k1:=Cap.add (Cap.refl 1500 n) q1 h0 a1 h0 (by omega)
    have k2:=Cap.add k1 q2 (by omega) a2 (by omega) (by omega)
    have k3:=Cap.add k2 q3 (by omega) a3 (by omega) (by omega)
    have k4:=Cap.add k3 q4 (by omega) a4 (by omega) (by omega)
    have k5:=Cap.add k4 q5 (by omega) a5 (by omega) (by omega)
    have k6:=Cap.add k5 q6 (by omega) a6 (by omega) (by omega)
    rw[← hS] at k6
    have hSn:0≤S:=by omega
    have hSb:S≤1000000000000000000:=by omega
    clear k1 k2 k3 k4 k5 q1 q2 q3 q4 q5 q6
    rw[ht,oz] at ih2
    obtain⟨U,hU⟩:∃U:Int,U=n+(vT Decl.parts p.nodes[i].ins:Nat)+(vT Decl.parts p.nodes[i].outs:Nat)+(vT Decl.parts p.nodes[i].locals:Nat)+(vT Eqn.parts p.nodes[i].eqs:Nat)+(vT (λe=>1+Expr.parts e) p.nodes[i].assume:Nat)+(vT (λe=>1+Expr.parts e) p.nodes[i].ensure:Nat):=⟨_,rfl⟩
    rw[← hU] at k6
    have sW:T0+((vT f (p.nodes.take i)+(vT Decl.parts p.nodes[i].ins+vT Decl.parts p.nodes[i].outs+vT Decl.parts p.nodes[i].locals+vT Eqn.parts p.nodes[i].eqs+vT (λe=>1+Expr.parts e) p.nodes[i].assume+vT (λe=>1+Expr.parts e) p.nodes[i].ensure+xh p.nodes[i].autos):Nat):Int)=U+(xh p.nodes[i].autos:Nat):=by omega
    have hUn:0≤U:=by omega
    rw[sW] at ih2
    clear sW hU hT oz
    by_cases ov:S<1500
    ·have ge:IntKind.i64.wrap (1500 - S)=1500 - S:=xl _ (by omega) (by omega)
     obtain⟨w7,c7,q7,a7,b7⟩:=b8W hL p.nodes[i].autos gI.autos (1500 - S) (by omega) (by omega) false []
     have z7:IntKind.i64.wrap (S+w7)=S+w7:=xl _ (by omega) (by omega)
     have cT:Cap 1500 (S+w7) (U+(xh p.nodes[i].autos:Nat)):=by
      clear ih2 c1 c2 c3 c4 c5 c6 c7 z1 z2 z3 z4 z5 z6 z7 hS
      unfold Cap at *; omega
     have ih2:=λy=>ih2 (S+w7) y cT (by omega) (by omega)
     simp[hi,hn,hw,c1,c2,c3,c4,c5,c6,z1,z2,z3,z4,z5,z6,ov,ge,c7,z7]
     simpa using ih2 (_,_)
    ·have cT:Cap 1500 S (U+(xh p.nodes[i].autos:Nat)):=by
      clear ih2 c1 c2 c3 c4 c5 c6 z1 z2 z3 z4 z5 z6 hS
      unfold Cap at *; omega
     have ih2:=λy=>ih2 S y cT (by omega) (by omega)
     simp[hi,hn,hw,c1,c2,c3,c4,c5,c6,z1,z2,z3,z4,z5,z6,ov]
     simpa using ih2 (_,_)
   ·intro i hi n hx hc h0 hb x
    simp only[aB] at hc
    rw[← iZ] at hc
    by_cases h1:i<p.nodes.length
    ·have h2:¬n<1500:=by omega
     simp[h1,h2]
     exact⟨.inr rfl,.int .i64 n,rfl,n,rfl,hc⟩
    ·have fw:¬(i:Int)<p.nodes.length:=by omega
     simp[h1,fw]
     exact⟨.inr rfl,.int .i64 n,rfl,n,rfl,hc⟩
  by_cases h1:i<p.enums.length
  ·have h2:¬n<1500:=by omega
   simp[h1,h2]
   simpa using mS
  ·have fw:¬(i:Int)<p.enums.length:=by omega
   simp[h1,fw]
   simpa using mS
end
theorem JM (a b c:List Str):yx a (b++c)=yx (yx a b) c:=by unfold yx; rw[List.foldl_append]
theorem E0 (a:List Str):∀b:List Str,(yx a b).length≤a.length+b.length:=by
 intro b
 induction b generalizing a with
 | nil=>simp[yx]
 | cons x b ih =>
   have e:yx a (x::b)=yx (if x∈a then a else a++[x]) b:=rfl
   rw[e]
   have:=ih (if x∈a then a else a++[x])
   split at this
   ·rename_i h; rw[ah h]; simp only[bc]; omega
   ·rename_i h; rw[ae h]; simp only[bc,ax,bO] at *; omega
theorem JN (l m:List Str):(wM l m).length≤l.length:=List.length_filter_le _ _
theorem Ny:∀l:List Eqn,(l.flatMap (·.left)).length≤vT Eqn.parts l
 | []=>by simp[vT]
 | q :: l => by
   have:=Ny l
   simp only[bl,ax,vT,Eqn.parts]
   omega
theorem JO (l:List Eqn):(zt l).length≤vT Eqn.parts l:=by
 have h1:=E0 [] (l.flatMap (·.left))
 have h2:=Ny l
 unfold zt
 simp only[bO] at h1
 omega
mutual
theorem Nz:∀s:State,(zJ s).length≤s.parts
 | .mk n l e a u w => by
   have h1:=JO e
   have h2:=JP (zt e) a
   simp only[zJ,State.parts]
   omega
theorem JP:∀(out:List Str) (l:List (List State)),(yE out l).length≤out.length+xh l
 | out,[]=>by simp[yE,xh]
 | out, [] :: xs => by
   have:=JP out xs
   simp only[yE,xh]; omega
 | out, (s :: r) :: xs => by
   have h1:=Nz s
   have h2:=JN (zJ s) (vV s.locals)
   have h3:=E0 out (wM (zJ s) (vV s.locals))
   have h4:=JP (yx out (wM (zJ s) (vV s.locals))) xs
   simp only[yE,xh,zB]; omega
end
theorem b6U (s:State):zJ s=yE (zt s.eqs) s.autos:=by cases s; simp[zJ,State.eqs,State.autos]
theorem b8O (s:State):EX s=s.eqs.map (·.right)++zu s.autos++s.unl.map (·.cond)++s.til.map (·.cond):=by cases s; simp[EX,State.eqs,State.autos,State.unl,State.til]
theorem DF.dw {d:Decl} (h:DF d) (hp:d.parts≤1500):DW d:=⟨h.type,by unfold Decl.parts at hp; omega,h.on⟩
theorem QF.qw {q:Eqn} (h:QF q) (hp:q.parts≤1500):QW q:=⟨by unfold Eqn.parts at hp; omega,⟨by unfold Eqn.parts at hp; omega,h.right⟩⟩
theorem At {α:Type} (f:α→Nat) (h1:∀x,1≤f x) {l:List α} (h:vT f l≤1500):l.length≤1500∧∀x∈l,f x≤1500:=
 ⟨aL (GG f h1 l) h,λx hx=>aL (zR f hx) h⟩
theorem GH (d:Decl):1≤d.parts:=by unfold Decl.parts; omega
theorem Nh (q:Eqn):1≤q.parts:=by unfold Eqn.parts; omega
theorem Ni (t:Trn):1≤t.parts:=by unfold Trn.parts; omega
theorem c8q (s:State):1≤s.parts:=by cases s; simp only[State.parts]; omega
theorem Nj {l:List (List State)} (h:xh l≤1500):l.length≤1500∧(∀a∈l,a.length≤1500)∧∀a∈l,∀x∈a,x.parts≤1500:=by
 rw[CL] at h
 obtain⟨h1,h2⟩:=At (λa:List State=>1+vT State.parts a) (λa=>by omega) h
 refine⟨h1,λa ha =>?_,λa ha x hx =>?_⟩
 ·have:1+vT State.parts a≤1500:=h2 a ha
  have h3:=GG State.parts c8q a
  omega
 ·have:1+vT State.parts a≤1500:=h2 a ha
  have h3:=zR State.parts hx
  omega
theorem SF.sw {s:State} (h:SF s) (hp:s.parts≤1500):SW s:=by
 induction s using State.ind with
 | h s ih =>
   have e:=State.parts_eq s
   obtain⟨a1,a2⟩:=At Decl.parts GH (l:=s.locals) (by omega)
   obtain⟨b1,b2⟩:=At Eqn.parts Nh (l:=s.eqs) (by omega)
   obtain⟨c1,c2⟩:=At Trn.parts Ni (l:=s.unl) (by omega)
   obtain⟨d1,d2⟩:=At Trn.parts Ni (l:=s.til) (by omega)
   obtain⟨e1,e2,e3⟩:=Nj (l:=s.autos) (by omega)
   exact .mk s a1 (λd hd=>(h.ls d hd).dw (a2 d hd)) b1 (λq hq=>(h.es q hq).qw (b2 q hq)) c1 (λt ht=>⟨by have:=c2 t ht; unfold Trn.parts at this; omega,h.us t ht⟩) d1 (λt ht=>⟨by have:=d2 t ht; unfold Trn.parts at this; omega,h.ts t ht⟩) e1 e2 (λa ha x hx=>ih a ha x hx (h.ss a ha x hx) (e3 a ha x hx))
theorem NF.nw {n:Node} (h:NF n) (hp:n.parts≤1500):NW n:=by
 have e:n.parts=1+vT Decl.parts n.ins+vT Decl.parts n.outs+vT Decl.parts n.locals+vT Eqn.parts n.eqs+vT (λe=>1+Expr.parts e) n.assume+vT (λe=>1+Expr.parts e) n.ensure+xh n.autos:=rfl
 obtain⟨a1,a2⟩:=At Decl.parts GH (l:=n.ins) (by omega)
 obtain⟨b1,b2⟩:=At Decl.parts GH (l:=n.outs) (by omega)
 obtain⟨c1,c2⟩:=At Decl.parts GH (l:=n.locals) (by omega)
 obtain⟨d1,d2⟩:=At Eqn.parts Nh (l:=n.eqs) (by omega)
 obtain⟨f1,f2⟩:=At (λe=>1+Expr.parts e) (λx=>by omega) (l:=n.assume) (by omega)
 obtain⟨g1,g2⟩:=At (λe=>1+Expr.parts e) (λx=>by omega) (l:=n.ensure) (by omega)
 obtain⟨e1,e2,e3⟩:=Nj (l:=n.autos) (by omega)
 exact⟨a1,λd hd=>(h.is d hd).dw (a2 d hd),b1,λd hd=>(h.os d hd).dw (b2 d hd),c1,λd hd=>(h.ls d hd).dw (c2 d hd),d1,λq hq=>(h.es q hq).qw (d2 q hq),⟨e1,e2,λa ha x hx=>(h.autos.ss a ha x hx).sw (e3 a ha x hx)⟩,
  f1,λx hx=>⟨by have:1+x.parts≤1500:=f2 x hx; omega,h.as x hx⟩,g1,λx hx=>⟨by have:1+x.parts≤1500:=g2 x hx; omega,h.gs x hx⟩⟩
theorem b8M {p:Prog} (hs:parts p≤1500):∀n∈p.nodes,n.parts≤1500:=λn hn=>by
 have:=zR Node.parts hn
 unfold parts at hs; omega
theorem PF.pw {p:Prog} (h:PF p) (hs:parts p≤1500):PW p:=by
 have iW:=hs
 unfold parts at hs
 obtain⟨a1,a2⟩:=At Enum.parts (λu=>by unfold Enum.parts; omega) (l:=p.enums) (by omega)
 obtain⟨b1,b2⟩:=At Node.parts (λu=>by unfold Node.parts; omega) (l:=p.nodes) (by omega)
 exact⟨a1,λu hu=>by have:=a2 u hu; unfold Enum.parts at this; omega,b1,λn hn=>(h.ns n hn).nw (b2 n hn)⟩
def isT:Option (PV×List PObj)→Bool
 | some (.bool true,[])=>true
 | _=>false
theorem c4E {r:Option (PV×List PObj)} (h:isT r=true):r=some (.bool true,[]):=by
 unfold isT at h
 split at h
 ·rfl
 ·simp at h
theorem b8N:isT (call LS 200 7 [] [])=true:=by decide +kernel
theorem b96:vU LS 7 [] []=some (.bool true,[]):=A3.2 ⟨200,c4E b8N⟩
section
variable {L:Nat→Option PFunc} (hL:∀k f,LS k=some f→L k=some f)
include hL
theorem b97 (p:Prog) (hp:PF p) (h:List PObj):vU L 6 [wT p] h=some (.bool (EV p),h):=by
 obtain⟨n,h1,h2⟩:=c0e hL p hp []
 have e:decide (1500≤n)=EV p:=by unfold EV; rw[aC,an,an]; unfold Cap at h2; omega
 refine wj (hL 6 _ rfl) rfl ?_
 simp[IF,h1,e]
end
theorem N1 (c:UInt8):∀s:Str,c∉s→Go.Lib.indexByte s c = -1
 | [],_=>rfl
 | b :: s, h => by
   simp only[az,not_or] at h
   have:(b==c)=false:=by simpa using λe=>h.1 e.symm
   simp[Go.Lib.indexByte,this,N1 c s h.2]
theorem N2 (c:UInt8):∀(a r:Str),c∉a→Go.Lib.indexByte (a++c::r) c=a.length
 | [],r,_=>by simp[Go.Lib.indexByte]
 | b :: a, r, h => by
   simp only[az,not_or] at h
   have h1:(b==c)=false:=by simpa using λe=>h.1 e.symm
   have h2:=N2 c a r h.2
   simp only[ba,Go.Lib.indexByte,h1,aH,if_false,h2]
   have:((a.length:Int) == -1)=false:=by simp
   rw[this]; rfl
theorem c0f (c:UInt8) (s:Str):c∉s∨∃a r,s=a++c::r∧c∉a:=by
 induction s with
 | nil=>left; simp
 | cons b s ih =>
   by_cases hb:b=c
   ·exact .inr ⟨[],s,by simp[hb],by simp⟩
   ·rcases ih with h|⟨a,r,e,hn⟩
    ·exact .inl (by simp[Ne.symm hb,h])
    ·exact .inr ⟨b::a,r,by simp[e],by simp[Ne.symm hb,hn]⟩
theorem N3 {c:UInt8}:∀{a a' r r':Str},c∉a→c∉a'→a++c::r=a'++c::r'→a=a'∧r=r'
 | [],[],r,r',_,_,h=>by simpa using h
 | [],x::a',r,r',_,h2,h=>by simp only[be,ba,bq] at h; exact absurd (by simp[h.1]) h2
 | x::a,[],r,r',h1,_,h=>by simp only[be,ba,bq] at h; exact absurd (by simp[h.1]) h1
 | x :: a, y :: a', r, r', h1, h2, h => by
   simp only[ba,bq] at h
   simp only[az,not_or] at h1 h2
   obtain⟨e1,e2⟩:=N3 h1.2 h2.2 h.2
   exact⟨by rw[h.1,e1],e2⟩
theorem N4 (s:Str):CX s=true↔∃a b:Str,s=a++40::(b++[41])∧a.all x9=true∧b.all x9=true∧b≠[]∧a.length+b.length≤64:=by
 unfold CX
 simp only[an]
 constructor
 ·rintro⟨h1,h2,h3,h4,h5,h6⟩
  obtain⟨t,ht⟩:=List.takeWhile_prefix (p:=x9) (l:=s)
  have ha:Al s 0=s.takeWhile x9:=by simp[Al]
  have dq:(Al s 0).all x9=true:=by rw[ha]; exact List.all_takeWhile
  rw[← ha] at ht
  generalize Al s 0=a at *
  have kF:t.head? = some 40:=by
   rw[← ht] at h2
   rw[ap (ao _),Nat.sub_self] at h2
   rw[List.head?_eq_getElem?]; exact h2
  obtain⟨r,rfl⟩:∃r,t=40::r:=by cases t with | nil=>simp at kF | cons x r=>simp at kF; exact⟨r,by rw[kF]⟩
  have hb:Al s (a.length+1)=r.takeWhile x9:=by
   unfold Al
   rw[← ht]
   have:(a++40::r).drop (a.length+1)=r:=by
    rw[List.drop_append,aU (by omega)]; simp
   rw[this]
  obtain⟨u,hu⟩:=List.takeWhile_prefix (p:=x9) (l:=r)
  have oA:(Al s (a.length+1)).all x9=true:=by rw[hb]; exact List.all_takeWhile
  rw[← hb] at hu
  generalize Al s (a.length+1)=b at *
  have cK:u.length=1:=by
   have:=aD List.length ht
   rw[← hu] at this
   simp at this; omega
  obtain⟨x,rfl⟩:=List.length_eq_one_iff.1 cK
  have hx:x=41:=by
   rw[← ht,← hu] at h4
   have:(a++40::(b++[x]))[a.length+b.length+1]? = some x:=by
    rw[ap (by omega),show a.length+b.length+1 - a.length=b.length+1 by omega,cE,ap (ao _)]; simp
   rw[this] at h4; simpa using h4
  subst hx
  exact⟨a,b,by rw[← ht,← hu],dq,oA,λe=>h5 (by rw[e]; rfl),h6⟩
 ·rintro⟨a,b,rfl,h1,h2,h3,h4⟩
  have ha:Al (a++40::(b++[41])) 0=a:=by
   unfold Al
   rw[List.drop_zero,List.takeWhile_append_of_pos (by simpa using h1)]
   have:x9 40=false:=rfl
   simp[List.takeWhile_cons,this]
  have hb:Al (a++40::(b++[41])) (a.length+1)=b:=by
   unfold Al
   have:(a++40::(b++[41])).drop (a.length+1)=b++[41]:=by
    rw[List.drop_append,aU (by omega)]; simp
   rw[this,List.takeWhile_append_of_pos (by simpa using h2)]
   have:x9 41=false:=rfl
   simp[List.takeWhile_cons,this]
  rw[ha,hb]
  have gS:b.length≠0:=λe=>h3 (br.1 e)
  refine⟨by simp; omega,?_,by simp; omega,?_,gS,h4⟩
  ·rw[ap (ao _),Nat.sub_self]; rfl
  ·rw[ap (by omega),show a.length+b.length+1 - a.length=b.length+1 by omega,cE,ap (ao _)]; simp
def zL (r:Str):Bool:=decide (r.drop (r.length - 1)=[41])
theorem JU {r:Str}:zL r=true↔∃b,r=b++[41]:=by
 unfold zL
 rw[an]
 constructor
 ·intro e
  refine⟨r.take (r.length - 1),?_⟩
  rw[← e,bM]
 ·rintro⟨b,rfl⟩
  simp
section
variable {L:Nat→Option PFunc} (hL:∀k f,LS k=some f→L k=some f)
include hL
theorem b8X (s:Str) (h:List PObj):vU L 183 [.str s,.int .u8 40] h=some (.int .i64 (Go.Lib.indexByte s 40),h):=by
 rw[JR (hL 183 _ rfl) rfl rfl]; rfl
theorem N5 (s:Str) (h:List PObj):vU L 181 [.str s,.str [40]] h=some (.int .i64 (Go.Lib.indexByte s 40),h):=by
 refine wj (hL 181 _ rfl) rfl ?_
 by_cases h1:s=[40]
 ·subst h1; simp[Gz]; rfl
 ·have h2:¬[40]=s:=λe=>h1 e.symm
  simp[Gz,h1,h2,b8X hL]
theorem c8v (s:Str) (hs:s.length≤1000) (hn:(40:UInt8)∉s) (h:List PObj):vU L 172 [.str s,.str [40]] h=some (.tuple [.str s,.str [],.bool false],h):=by
 have h1:vU L 179 [.str s,.str [40]] []=some (.tuple [.str s,.str [],.bool false],[]):=by
  refine wj (hL 179 _ rfl) rfl ?_
  have:=N5 hL s []
  rw[N1 40 s hn] at this
  simp[Gx,this]
 refine wj (hL 172 _ rfl) rfl ?_
 simp[Gw,h1]
theorem c4I (a r:Str) (hs:(a++40::r).length≤1000) (hn:(40:UInt8)∉a) (h:List PObj):vU L 172 [.str (a++40::r),.str [40]] h=some (.tuple [.str a,.str r,.bool true],h):=by
 have h1:vU L 179 [.str (a++40::r),.str [40]] []=some (.tuple [.str a,.str r,.bool true],[]):=by
  refine wj (hL 179 _ rfl) rfl ?_
  have:=N5 hL (a++40::r) []
  rw[N2 40 a r hn] at this
  have hl:(a++40::r).length=a.length+(r.length+1):=by simp
  obtain⟨p,hp⟩:∃p,p=a.length+1:=⟨_,rfl⟩
  have hw:IntKind.i64.wrap ((a.length:Int)+1)=(p:Int):=by rw[xl]<;>omega
  have ht:(a++40::r).take a.length=a:=by simp
  have hd:(a++40::r).drop p=r:=by rw[hp,List.drop_append,aU (by omega)]; simp
  generalize a++40::r=s at *
  have q1:a.length≤s.length:=by omega
  have q2:p≤s.length:=by omega
  have q2i:(p:Int)≤s.length:=by omega
  simp[Gx,this,hw,q1,q2,q2i,ht,hd]
 refine wj (hL 172 _ rfl) rfl ?_
 generalize a++40::r=s at *
 simp[Gw,h1]
theorem b8Y (r:Str) (hr:r.length≤1000) (h:List PObj):vU L 182 [.str r,.str [41]] h=some (.bool (zL r),h):=by
 refine wj (hL 182 _ rfl) rfl ?_
 unfold zL
 by_cases h0:r=[]
 ·subst h0
  simp[EU]
 ·have hp:0<r.length:=bQ.2 h0
  have pG:(1:Int)≤r.length:=by omega
  have hw:IntKind.i64.wrap ((r.length:Int) - 1)=((r.length - 1:Nat):Int):=by rw[xl]<;>omega
  have eg:r.length - 1≤r.length:=by omega
  have j9:1≤r.length:=by omega
  by_cases hx:r.drop (r.length - 1)=[41]
  ·simp[EU,pG,j9,hw,eg,hx]
  ·simp[EU,pG,j9,hw,eg,hx]
theorem N6 (r:Str) (hr:r.length≤1000) (h:List PObj):vU L 173 [.str r,.str [41]] h=some (.tuple [.str (if zL r then r.take (r.length - 1) else r),.bool (zL r)],h):=by
 have h1:vU L 180 [.str r,.str [41]] []=some (.tuple [.str (if zL r then r.take (r.length - 1) else r),.bool (zL r)],[]):=by
  refine wj (hL 180 _ rfl) rfl ?_
  have iJ:=b8Y hL r hr []
  cases hc:zL r with
  | false=>rw[hc] at iJ; simp[Gy,iJ]
  | true =>
    rw[hc] at iJ
    obtain⟨b,rfl⟩:=JU.1 hc
    obtain⟨q,hq⟩:∃q,q=(b++[41]).length - 1:=⟨_,rfl⟩
    have sX:(b++[41]).length=b.length+1:=by simp
    have hw:IntKind.i64.wrap (((b++[41]).length:Int) - 1)=(q:Int):=by rw[xl]<;>omega
    have eg:q≤(b++[41]).length:=by omega
    rw[← hq]
    generalize b++[41]=r at *
    simp[Gy,iJ,hw,eg]
 refine wj (hL 173 _ rfl) rfl ?_
 simp[Jv,h1]
theorem GN (s:Str) (hs:s.length≤1000) (h:List PObj):∃o:Bool,vU L 174 [.str s] h=some (.tuple [.list o (if s.all x9 then yj s else[]),.bool (s.all x9)],h):=by
 refine⟨false,?_⟩
 refine wj (hL 174 _ rfl) rfl ?_
 generalize hA:s.all x9=A
 simp[Jw]
 refine N7 s (λ_ b=>x9 b) (λi (x:PV)=>[(3,.list true (yj (s.take i))),(4,x),(6,.int .i64 i)]) .dead ?_ ?_ ?_ (by simp[yj])
 ·intro i hi cV x ih
  have hw:=wk i (by omega)
  have hb:=(N8 s[i]).1 cV
  have uZ:=d2T s[i]
  have ih:=ih (.int .i64 i)
  have happ:yj (s.take (i+1))=yj (s.take i)++[.bool (s[i]==49)]:=by unfold yj; rw[yO hi,bj]; rfl
  rw[happ,uZ] at ih
  have cK:(yj (s.take i)).length+1≤2147483648:=by simp[yj]; omega
  have i7:wL 1 (yj (s.take i))=true:=by cases s.take i<;>simp[yj]
  generalize yj (s.take i)=z at *
  rcases hb with hb|hb
  ·simp[hi,hb,hw,cK,i7]
   simpa[hb] using ih
  ·simp[hi,hb,hw,cK,i7]
   simpa[hb] using ih
 ·intro i hi cV _ x
  have hb:=N8 s[i]
  rw[cV] at hb
  simp only[aH,false_iff,not_or] at hb
  have b1:¬(s[i].toNat:Int)=48:=by omega
  have b2:¬(s[i].toNat:Int)=49:=by omega
  have dq:s.all x9=false:=NP hi cV
  rw[dq] at hA; subst hA
  simp[hi,b1,b2]
 ·intro cV x
  have dq:s.all x9=true:=NO cV
  rw[dq] at hA; subst hA
  simp
theorem c10 (a b:List PV) (ha:a.length≤1000) (hb:b.length≤1000) (o1 o2:Bool) (h:List PObj):vU L 175 [.agg [.list o1 a,.list o2 b]] h=some (.int .i64 (if b.length=0 then 5 else if 64<a.length+b.length then 3 else 0),h):=by
 refine wj (hL 175 _ rfl) rfl ?_
 have hw:IntKind.i64.wrap ((a.length:Int)+(b.length:Int))=((a.length+b.length:Nat):Int):=by rw[xl]<;>omega
 by_cases h1:b.length=0
 ·have:b=[]:=br.1 h1
  subst this
  simp[ET]
 ·have sY:¬b=[]:=λe=>h1 (by rw[e]; rfl)
  generalize hm:a.length+b.length=m at *
  by_cases h2:64<m
  ·have:(64:Int)<m:=by omega
   simp[ET,h1,sY,hw,h2,this]
  ·have:¬(64:Int)<m:=by omega
   simp[ET,h1,sY,hw,h2,this]
theorem c13 (s:Str) (h:List PObj):∃(o1 o2:Bool) (a b:List PV) (e:Int),wu a=true∧wu b=true∧(e=0↔CX s=true)∧vU L 164 [.str s] h=some (.tuple [.agg [.list o1 a,.list o2 b],.int .i64 e],h):=by
 by_cases h0:66<s.length
 ·refine⟨false,false,[],[],3,rfl,rfl,?_,wj (hL 164 _ rfl) rfl ?_⟩
  ·unfold CX; simp; omega
  ·have:(66:Int)<s.length:=by omega
   simp[BV,this]
 have j8:¬(66:Int)<s.length:=by omega
 rcases c0f 40 s with hn|⟨a,r,rfl,hn⟩
 ·have fZ:=c8v hL s (by omega) hn []
  have iJ:=N6 hL [] (by simp) []
  obtain⟨o1,d8⟩:=GN hL s (by omega) []
  obtain⟨o2,em⟩:=GN hL [] (by simp) []
  have dS:zL []=false:=rfl
  rw[dS] at iJ
  simp at iJ
  refine⟨false,false,[],[],5,rfl,rfl,?_,wj (hL 164 _ rfl) rfl ?_⟩
  ·rw[N4]
   constructor
   ·intro e; exact absurd e (by decide)
   ·rintro⟨a,b,e,_⟩; exact absurd (by rw[e]; simp) hn
  ·have f1:wu (if s.all x9 then yj s else[])=true:=by split; exact JV s; rfl
   generalize (if s.all x9 then yj s else[])=za at *
   simp[yj] at em
   simp[BV,j8,fZ,iJ,d8,em,f1]
 ·have fZ:=c4I hL a r (by omega) hn []
  have cK:(a++40::r).length=a.length+(r.length+1):=by simp
  have iJ:=N6 hL r (by omega) []
  obtain⟨o1,d8⟩:=GN hL a (by omega) []
  have sX:(if zL r then r.take (r.length - 1) else r).length≤r.length:=by split<;>simp<;>omega
  obtain⟨o2,em⟩:=GN hL (if zL r then r.take (r.length - 1) else r) (by omega) []
  obtain⟨B,hB⟩:∃B,B=(if zL r then r.take (r.length - 1) else r):=⟨_,rfl⟩
  rw[← hB] at iJ em sX
  have fT:CX (a++40::r)=true↔zL r=true∧a.all x9=true∧B.all x9=true∧B≠[]∧a.length+B.length≤64:=by
   rw[N4]
   constructor
   ·rintro⟨a',b',e,h1,h2,h3,h4⟩
    have jF:(40:UInt8)∉a':=λhm=>by have:=aG.1 h1 _ hm; revert this; decide
    obtain⟨rfl,rfl⟩:=N3 hn jF e
    have hc:zL (b'++[41])=true:=JU.2 ⟨b',rfl⟩
    have rF:B=b':=by rw[hB,ah hc]; simp
    rw[rF]
    exact⟨hc,h1,h2,h3,h4⟩
   ·rintro⟨hc,h1,h2,h3,h4⟩
    obtain⟨b,rfl⟩:=JU.1 hc
    have rF:B=b:=by rw[hB,ah hc]; simp
    rw[rF] at h2 h3 h4
    exact⟨a,b,rfl,h1,h2,h3,h4⟩
  have la:(yj a).length=a.length:=N9 a
  have lb:(yj B).length=B.length:=N9 B
  have fa:=JV a
  have fb:=JV B
  have mt:=c10 hL (yj a) (yj B) (by omega) (by omega) false false []
  rw[la,lb] at mt
  have kB:(if B.length=0 then(5:Int) else if a.length+B.length>64 then 3 else 0)=0↔B≠[]∧a.length+B.length≤64:=by
   split
   ·rename_i h1; have:B=[]:=br.1 h1
    simp[this]
   ·rename_i h1; have:B≠[]:=λe=>h1 (by rw[e]; rfl)
    split
    ·simp; intro _; omega
    ·simp[this]; omega
  simp only[gt_iff_lt] at kB
  generalize u3:(if B.length=0 then(5:Int) else if 64<a.length+B.length then 3 else 0)=ce at *
  generalize yj a=za at *
  generalize yj B=zb at *
  generalize hAl:a.all x9=qa at *
  generalize hBl:B.all x9=qb at *
  generalize a++40::r=s at *
  generalize zL r=cl at *
  cases cl with
  | false =>
    refine⟨false,false,[],[],5,rfl,rfl,by rw[fT]; simp,wj (hL 164 _ rfl) rfl ?_⟩
    have f1:wu (if qa=true then za else[])=true:=by split; exact fa; rfl
    have f2:wu (if qb=true then zb else[])=true:=by split; exact fb; rfl
    generalize (if qa=true then za else[])=ya at *
    generalize (if qb=true then zb else[])=yb at *
    simp[BV,j8,fZ,iJ,d8,em,f1,f2]
  | true =>
    cases qa with
    | false =>
      refine⟨false,false,[],[],5,rfl,rfl,by rw[fT]; simp,wj (hL 164 _ rfl) rfl ?_⟩
      have f2:wu (if qb=true then zb else[])=true:=by split; exact fb; rfl
      generalize (if qb=true then zb else[])=yb at *
      simp at d8
      simp[BV,j8,fZ,iJ,d8,em,f2]
    | true =>
      cases qb with
      | false =>
        refine⟨false,false,[],[],5,rfl,rfl,by rw[fT]; simp,wj (hL 164 _ rfl) rfl ?_⟩
        simp at d8 em
        simp[BV,j8,fZ,iJ,d8,em,fa]
      | true =>
        simp at d8 em
        by_cases hz:ce=0
        ·refine⟨false,false,za,zb,0,fa,fb,by rw[fT,← kB]; simp[hz],wj (hL 164 _ rfl) rfl ?_⟩
         subst hz
         simp[BV,j8,fZ,iJ,d8,em,fa,fb,mt]
        ·refine⟨false,false,[],[],5,rfl,rfl,by rw[fT,← kB]; simp[hz],wj (hL 164 _ rfl) rfl ?_⟩
         simp[BV,j8,fZ,iJ,d8,em,fa,fb,mt,hz]
end
def DQ (t n:Int):Bool:=decide (t=1∧n=2∨3≤t∧1≤n∧n≤16)
def ofA (e:Expr):Bool:=
 let n:Int:=e.args.length
 if e.kind=1∨e.kind=2∨e.kind=11 then decide (n=0)
 else if e.kind=3 then decide (n=if e.op=1∨e.op=2 then 1 else 2)
 else if e.kind=4 then decide (n=3)
 else if e.kind=5∨e.kind=8 then decide (n=1)
 else if e.kind=6∨e.kind=7 then decide (n=2)
 else if e.kind=9 then decide (e.t≠2)&&DQ e.t n
 else if e.kind=10 then decide (e.v≤n) else false
def ofT (e:Expr):Bool:=
 if e.kind=1 then decide (e.t=2∧-32768≤e.v∧e.v≤32767)||decide (e.t≠2)&&BA e.t e.v
 else if e.kind=8 then decide (e.t≠2)&&BA e.t e.v
 else if e.kind=9 then decide (e.v=0)
 else if e.kind=10 then decide (e.t=0∧(e.v=0∨e.v=1))
 else if 1≤e.kind∧e.kind≤11 then decide (e.t=0∧e.v=0) else false
theorem c0g (e:Expr):GO e=(ofA e&&ofT e&&E3 e&&JW e):=by
 have key:(decide (1≤e.kind∧e.kind≤11)&&JX e&&JY e)=(ofA e&&ofT e):=by
  unfold JX JY ofA ofT DQ BA
  rcases Oa e.kind with hk|hk|hk|hk|hk|hk|hk|hk|hk|hk|hk|hk|hk
  ·have n1:¬e.kind=1:=by omega
   have n2:¬e.kind=2:=by omega
   have n3:¬e.kind=3:=by omega
   have n4:¬e.kind=4:=by omega
   have n5:¬e.kind=5:=by omega
   have n6:¬e.kind=6:=by omega
   have n7:¬e.kind=7:=by omega
   have n8:¬e.kind=8:=by omega
   have n9:¬e.kind=9:=by omega
   have n10:¬e.kind=10:=by omega
   have n11:¬e.kind=11:=by omega
   have:¬1≤e.kind:=by omega
   simp[n1,n2,n3,n4,n5,n6,n7,n8,n9,n10,n11,this]
  ·simp only[hk]
   rw[aC]
   simp
   intro _; split<;>omega
  ·simp only[hk]
   rw[aC]
   simp
   try omega
  ·simp only[hk]
   rw[aC]
   simp
   try omega
  ·simp only[hk]
   rw[aC]
   simp
   try omega
  ·simp only[hk]
   rw[aC]
   simp
   try omega
  ·simp only[hk]
   rw[aC]
   simp
   try omega
  ·simp only[hk]
   rw[aC]
   simp
   try omega
  ·simp only[hk]
   rw[aC]
   simp
   try omega
  ·simp only[hk]
   rw[aC]
   simp
   split<;>omega
  ·simp only[hk]
   rw[aC]
   simp
   try omega
  ·simp only[hk]
   rw[aC]
   simp
   try omega
  ·have n1:¬e.kind=1:=by omega
   have n2:¬e.kind=2:=by omega
   have n3:¬e.kind=3:=by omega
   have n4:¬e.kind=4:=by omega
   have n5:¬e.kind=5:=by omega
   have n6:¬e.kind=6:=by omega
   have n7:¬e.kind=7:=by omega
   have n8:¬e.kind=8:=by omega
   have n9:¬e.kind=9:=by omega
   have n10:¬e.kind=10:=by omega
   have n11:¬e.kind=11:=by omega
   have:¬e.kind≤11:=by omega
   simp[n1,n2,n3,n4,n5,n6,n7,n8,n9,n10,n11,this]
 unfold GO
 rw[key]
section
variable {L:Nat→Option PFunc} (hL:∀k f,LS k=some f→L k=some f)
include hL
theorem Bb (t v:Int) (h:List PObj):vU L 169 [.int .i64 t,.int .i64 v] h=some (.bool (BA t v),h):=by
 refine wj (hL 169 _ rfl) rfl ?_
 by_cases h1:t=1
 ·subst h1
  by_cases h2:v=0
  ·simp[DJ,BA,h2]
  ·by_cases h3:v=1<;>simp[DJ,BA,h2,h3]
 ·by_cases h2:3≤t
  ·by_cases h3:0≤v<;>by_cases h4:v<16<;>simp[DJ,BA,h1,h2,h3,h4]
  ·simp[DJ,BA,h1,h2]
theorem Bc (o:Int) (h:List PObj):vU L 170 [.int .i64 o] h=some (.int .i64 (if o=1∨o=2 then 1 else 2),h):=by
 refine wj (hL 170 _ rfl) rfl ?_
 by_cases h1:o=1
 ·simp[Gv,h1]
 ·by_cases h2:o=2<;>simp[Gv,h1,h2]
theorem Bd (t n:Int) (h:List PObj):vU L 171 [.int .i64 t,.int .i64 n] h=some (.bool (DQ t n),h):=by
 refine wj (hL 171 _ rfl) rfl ?_
 by_cases h1:t=1
 ·subst h1
  by_cases h2:n=2<;>simp[ES,DQ,h2]
 ·by_cases h2:3≤t
  ·by_cases h3:1≤n<;>by_cases h4:n≤16<;>simp[ES,DQ,h1,h2,h3,h4]
  ·simp[ES,DQ,h1,h2]
def xm (e:Expr):PV := .agg [.bool (ofA e),.bool (decide (e.kind=3)),.bool (ofT e),.bool (xV e.kind),.bool (decide (e.kind=11))]
theorem c4J (e:Expr) (hk:e.kind=1) (h:List PObj):vU L 163 [vX e] h=some (xm e,h):=by
 refine wj (hL 163 _ rfl) rfl ?_
 have cL:=Bc hL e.op []
 have dR:=Bb hL e.t e.v []
 have eS:=Bd hL e.t e.args.length []
 obtain⟨n,hn⟩:∃n:Int,n=e.args.length:=⟨_,rfl⟩
 have kf:=kfs hk
 by_cases t0:e.t=0
 ·have t2:¬e.t=2:=by omega
  by_cases v0:e.v=0
  ·simp[yh,xm,ofA,ofT,xV,cL,dR,eS,wz,wh,kf,tf t0,tf t2,tf v0]
  ·simp[yh,xm,ofA,ofT,xV,cL,dR,eS,wz,wh,kf,tf t0,tf t2,tf v0]
 ·skip
  by_cases t2:e.t=2
  ·by_cases a1 : -32768≤e.v<;>by_cases a2:e.v≤32767<;>simp[yh,xm,ofA,ofT,xV,cL,dR,eS,wz,wh,kf,tf t0,tf t2,tf a1,tf a2]
  ·simp[yh,xm,ofA,ofT,xV,cL,dR,eS,wz,wh,kf,tf t0,tf t2]
theorem c4K (e:Expr) (hk:e.kind=2) (h:List PObj):vU L 163 [vX e] h=some (xm e,h):=by
 refine wj (hL 163 _ rfl) rfl ?_
 have cL:=Bc hL e.op []
 have dR:=Bb hL e.t e.v []
 have eS:=Bd hL e.t e.args.length []
 obtain⟨n,hn⟩:∃n:Int,n=e.args.length:=⟨_,rfl⟩
 have kf:=kfs hk
 by_cases t0:e.t=0<;>by_cases v0:e.v=0<;>simp[yh,xm,ofA,ofT,xV,cL,dR,eS,wz,wh,kf,tf t0,tf v0]
theorem c4L (e:Expr) (hk:e.kind=3) (h:List PObj):vU L 163 [vX e] h=some (xm e,h):=by
 refine wj (hL 163 _ rfl) rfl ?_
 have cL:=Bc hL e.op []
 have dR:=Bb hL e.t e.v []
 have eS:=Bd hL e.t e.args.length []
 obtain⟨n,hn⟩:∃n:Int,n=e.args.length:=⟨_,rfl⟩
 have kf:=kfs hk
 by_cases t0:e.t=0<;>by_cases v0:e.v=0<;>simp[yh,xm,ofA,ofT,xV,cL,dR,eS,wz,wh,kf,tf t0,tf v0]
theorem c4M (e:Expr) (hk:e.kind=4) (h:List PObj):vU L 163 [vX e] h=some (xm e,h):=by
 refine wj (hL 163 _ rfl) rfl ?_
 have cL:=Bc hL e.op []
 have dR:=Bb hL e.t e.v []
 have eS:=Bd hL e.t e.args.length []
 obtain⟨n,hn⟩:∃n:Int,n=e.args.length:=⟨_,rfl⟩
 have kf:=kfs hk
 by_cases t0:e.t=0<;>by_cases v0:e.v=0<;>simp[yh,xm,ofA,ofT,xV,cL,dR,eS,wz,wh,kf,tf t0,tf v0]
theorem c4N (e:Expr) (hk:e.kind=5) (h:List PObj):vU L 163 [vX e] h=some (xm e,h):=by
 refine wj (hL 163 _ rfl) rfl ?_
 have cL:=Bc hL e.op []
 have dR:=Bb hL e.t e.v []
 have eS:=Bd hL e.t e.args.length []
 obtain⟨n,hn⟩:∃n:Int,n=e.args.length:=⟨_,rfl⟩
 have kf:=kfs hk
 by_cases t0:e.t=0<;>by_cases v0:e.v=0<;>simp[yh,xm,ofA,ofT,xV,cL,dR,eS,wz,wh,kf,tf t0,tf v0]
theorem c4O (e:Expr) (hk:e.kind=6) (h:List PObj):vU L 163 [vX e] h=some (xm e,h):=by
 refine wj (hL 163 _ rfl) rfl ?_
 have cL:=Bc hL e.op []
 have dR:=Bb hL e.t e.v []
 have eS:=Bd hL e.t e.args.length []
 obtain⟨n,hn⟩:∃n:Int,n=e.args.length:=⟨_,rfl⟩
 have kf:=kfs hk
 by_cases t0:e.t=0<;>by_cases v0:e.v=0<;>simp[yh,xm,ofA,ofT,xV,cL,dR,eS,wz,wh,kf,tf t0,tf v0]
theorem c4P (e:Expr) (hk:e.kind=7) (h:List PObj):vU L 163 [vX e] h=some (xm e,h):=by
 refine wj (hL 163 _ rfl) rfl ?_
 have cL:=Bc hL e.op []
 have dR:=Bb hL e.t e.v []
 have eS:=Bd hL e.t e.args.length []
 obtain⟨n,hn⟩:∃n:Int,n=e.args.length:=⟨_,rfl⟩
 have kf:=kfs hk
 by_cases t0:e.t=0<;>by_cases v0:e.v=0<;>simp[yh,xm,ofA,ofT,xV,cL,dR,eS,wz,wh,kf,tf t0,tf v0]
theorem c4Q (e:Expr) (hk:e.kind=8) (h:List PObj):vU L 163 [vX e] h=some (xm e,h):=by
 refine wj (hL 163 _ rfl) rfl ?_
 have cL:=Bc hL e.op []
 have dR:=Bb hL e.t e.v []
 have eS:=Bd hL e.t e.args.length []
 obtain⟨n,hn⟩:∃n:Int,n=e.args.length:=⟨_,rfl⟩
 have kf:=kfs hk
 by_cases t0:e.t=0
 ·have t2:¬e.t=2:=by omega
  by_cases v0:e.v=0
  ·simp[yh,xm,ofA,ofT,xV,cL,dR,eS,wz,wh,kf,tf t0,tf t2,tf v0]
  ·simp[yh,xm,ofA,ofT,xV,cL,dR,eS,wz,wh,kf,tf t0,tf t2,tf v0]
 ·skip
  by_cases t2:e.t=2<;>simp[yh,xm,ofA,ofT,xV,cL,dR,eS,wz,wh,kf,tf t0,tf t2]
theorem c4R (e:Expr) (hk:e.kind=9) (h:List PObj):vU L 163 [vX e] h=some (xm e,h):=by
 refine wj (hL 163 _ rfl) rfl ?_
 have cL:=Bc hL e.op []
 have dR:=Bb hL e.t e.v []
 have eS:=Bd hL e.t e.args.length []
 obtain⟨n,hn⟩:∃n:Int,n=e.args.length:=⟨_,rfl⟩
 have kf:=kfs hk
 by_cases t0:e.t=0
 ·have t2:¬e.t=2:=by omega
  by_cases v0:e.v=0
  ·simp[yh,xm,ofA,ofT,xV,cL,dR,eS,wz,wh,kf,tf t0,tf t2,tf v0]
  ·simp[yh,xm,ofA,ofT,xV,cL,dR,eS,wz,wh,kf,tf t0,tf t2,tf v0]
 ·skip
  by_cases t2:e.t=2<;>simp[yh,xm,ofA,ofT,xV,cL,dR,eS,wz,wh,kf,tf t0,tf t2]
theorem c14 (e:Expr) (hk:e.kind=10) (h:List PObj):vU L 163 [vX e] h=some (xm e,h):=by
 refine wj (hL 163 _ rfl) rfl ?_
 have cL:=Bc hL e.op []
 have dR:=Bb hL e.t e.v []
 have eS:=Bd hL e.t e.args.length []
 obtain⟨n,hn⟩:∃n:Int,n=e.args.length:=⟨_,rfl⟩
 have kf:=kfs hk
 by_cases t0:e.t=0
 ·have t2:¬e.t=2:=by omega
  by_cases v0:e.v=0
  ·simp[yh,xm,ofA,ofT,xV,cL,dR,eS,wz,wh,kf,tf t0,tf t2,tf v0]
  ·by_cases v1:e.v=1<;>simp[yh,xm,ofA,ofT,xV,cL,dR,eS,wz,wh,kf,tf t0,tf t2,tf v0,tf v1]
 ·skip
  by_cases v1:e.v=1<;>simp[yh,xm,ofA,ofT,xV,cL,dR,eS,wz,wh,kf,tf t0,tf v1]
theorem c15 (e:Expr) (hk:e.kind=11) (h:List PObj):vU L 163 [vX e] h=some (xm e,h):=by
 refine wj (hL 163 _ rfl) rfl ?_
 have cL:=Bc hL e.op []
 have dR:=Bb hL e.t e.v []
 have eS:=Bd hL e.t e.args.length []
 obtain⟨n,hn⟩:∃n:Int,n=e.args.length:=⟨_,rfl⟩
 have kf:=kfs hk
 by_cases t0:e.t=0<;>by_cases v0:e.v=0<;>simp[yh,xm,ofA,ofT,xV,cL,dR,eS,wz,wh,kf,tf t0,tf v0]
theorem d1K (e:Expr) (h:List PObj):vU L 163 [vX e] h=some (xm e,h):=by
 rcases Oa e.kind with hk|hk|hk|hk|hk|hk|hk|hk|hk|hk|hk|hk|hk
 ·refine wj (hL 163 _ rfl) rfl ?_
  have k1:¬e.kind=1:=by omega
  have k2:¬e.kind=2:=by omega
  have k3:¬e.kind=3:=by omega
  have k4:¬e.kind=4:=by omega
  have k5:¬e.kind=5:=by omega
  have k6:¬e.kind=6:=by omega
  have k7:¬e.kind=7:=by omega
  have k8:¬e.kind=8:=by omega
  have k9:¬e.kind=9:=by omega
  have k10:¬e.kind=10:=by omega
  have k11:¬e.kind=11:=by omega
  have kr:¬(1≤e.kind∧e.kind≤11):=by omega
  have ht:ofT e=false:=by unfold ofT; simp only[k1,k8,k9,k10,kr,if_false]
  have ha:ofA e=false:=by unfold ofA; simp only[k1,k2,k3,k4,k5,k6,k7,k8,k9,k10,k11,or_self,if_false]
  by_cases t0:e.t=0<;>by_cases v0:e.v=0<;>simp[yh,xm,ha,ht,xV,wz,wh,k1,k2,k3,k4,k5,k6,k7,k8,k9,k10,k11,tf t0,tf v0]
 ·exact c4J hL e hk h
 ·exact c4K hL e hk h
 ·exact c4L hL e hk h
 ·exact c4M hL e hk h
 ·exact c4N hL e hk h
 ·exact c4O hL e hk h
 ·exact c4P hL e hk h
 ·exact c4Q hL e hk h
 ·exact c4R hL e hk h
 ·exact c14 hL e hk h
 ·exact c15 hL e hk h
 ·refine wj (hL 163 _ rfl) rfl ?_
  have k1:¬e.kind=1:=by omega
  have k2:¬e.kind=2:=by omega
  have k3:¬e.kind=3:=by omega
  have k4:¬e.kind=4:=by omega
  have k5:¬e.kind=5:=by omega
  have k6:¬e.kind=6:=by omega
  have k7:¬e.kind=7:=by omega
  have k8:¬e.kind=8:=by omega
  have k9:¬e.kind=9:=by omega
  have k10:¬e.kind=10:=by omega
  have k11:¬e.kind=11:=by omega
  have kr:¬(1≤e.kind∧e.kind≤11):=by omega
  have ht:ofT e=false:=by unfold ofT; simp only[k1,k8,k9,k10,kr,if_false]
  have ha:ofA e=false:=by unfold ofA; simp only[k1,k2,k3,k4,k5,k6,k7,k8,k9,k10,k11,or_self,if_false]
  by_cases t0:e.t=0<;>by_cases v0:e.v=0<;>simp[yh,xm,ha,ht,xV,wz,wh,k1,k2,k3,k4,k5,k6,k7,k8,k9,k10,k11,tf t0,tf v0]
theorem c8w (e:Expr) (h:List PObj):vU L 150 [vX e] h=some (.int .i64 (BB e),h):=by
 refine wj (hL 150 _ rfl) rfl ?_
 have io:=d1K hL e []
 have gZ:=NQ hL e.name []
 obtain⟨b1,b2,wa,wb,er,f1,f2,rB,sZ⟩:=c13 hL e.name []
 have dc:=c0g e
 unfold BB
 by_cases cK:64<e.args.length
 ·have d8:(64:Int)<e.args.length:=by omega
  have em:¬e.args.length≤64:=by omega
  simp[zr,cK,d8,em,need,wd]
 have d8:¬(64:Int)<e.args.length:=by omega
 have em:e.args.length≤64:=by omega
 unfold xm at io
 generalize ofA e=A at *
 generalize ofT e=T at *
 cases A with
 | false=>simp[zr,cK,d8,em,io,wz,dc,need,wd]
 | true=>
 cases T with
 | false=>simp[zr,cK,d8,em,io,wz,dc,need,wd]
 | true=>
 simp only[cn] at dc
 have rG:(E3 e=true∧(e.kind=3→e.op≠0∧1≤e.op∧e.op≤16)∧(e.kind≠3→e.op=0))∨(E3 e=false∧(e.kind=3→e.op<1∨16<e.op)∧(e.kind≠3→e.op≠0)):=by
  unfold E3
  by_cases hk:e.kind=3
  ·by_cases ho:1≤e.op∧e.op≤16
   ·left; simp[hk,ho]; omega
   ·right; simp[hk]; omega
  ·by_cases ho:e.op=0
   ·left; simp[hk,ho]
   ·right; simp[hk,ho]
 rcases rG with⟨q1,q2,q3⟩|⟨q1,q2,q3⟩
 ·rw[q1,cn] at dc
  have fI:∀(O:Bool),(decide (e.kind=3))=O→wpL L zr.code ⟨[vX e,.dead,.dead,.dead,.dead,.dead],[],0,h⟩ (Cr [.var 2] (.int .i64 (wd (need (decide (e.args.length≤64)) 3) (wd (need (GO e) 5) (need (!xV e.kind||Av e.name) 6))),h)):=by
   intro O hO
   have oB:(O=true→¬e.op=0∧¬e.op<1∧¬16<e.op)∧(O=false→e.op=0):=by
    constructor
    ·intro ho; rw[ho,an] at hO; have:=q2 hO; omega
    ·intro ho; rw[ho,bZ] at hO; exact q3 hO
   rw[hO] at io
   unfold JW at dc
   generalize xV e.kind=N at *
   cases O with
   | true =>
     have hk:e.kind=3:=by simpa using hO
     have gw:¬e.kind=11:=by omega
     obtain⟨o1,o2,o3⟩:=oB.1 rfl
     cases N with
     | true =>
       cases hi:Av e.name<;>rw[hi] at gZ<;>simp[zr,cK,d8,em,io,wz,dc,gZ,o1,o2,o3,need,wd]
     | false =>
       by_cases iH:e.name=[]
       ·simp[zr,cK,d8,em,io,wz,dc,tf iH,o1,o2,o3,tf gw,need,wd]
       ·simp[zr,cK,d8,em,io,wz,dc,tf iH,o1,o2,o3,tf gw,need,wd]
   | false =>
     have o1:=oB.2 rfl
     cases N with
     | true =>
       cases hi:Av e.name<;>rw[hi] at gZ<;>simp[zr,cK,d8,em,io,wz,dc,gZ,tf o1,need,wd]
     | false =>
       by_cases gw:e.kind=11
       ·by_cases he:er=0
        ·have hw:=rB.1 he
         simp[zr,cK,d8,em,io,wz,dc,sZ,f1,f2,tf gw,he,hw,tf o1,need,wd]
        ·have hw:CX e.name=false:=by
          rw[← Bool.not_eq_true]; exact λhh=>he (rB.2 hh)
         by_cases iH:e.name=[]<;>simp[zr,cK,d8,em,io,wz,dc,sZ,f1,f2,tf gw,he,hw,tf o1,tf iH,need,wd]
       ·by_cases iH:e.name=[]
        ·simp[zr,cK,d8,em,io,wz,dc,tf iH,tf o1,tf gw,need,wd]
        ·simp[zr,cK,d8,em,io,wz,dc,tf iH,tf o1,tf gw,need,wd]
  have hq:=fI _ rfl
  rw[← b91 e] at hq
  exact hq
 ·rw[q1,bI] at dc
  by_cases hk:e.kind=3
  ·by_cases o0:e.op=0
   ·simp[zr,cK,d8,em,io,wz,dc,tf hk,tf o0,need,wd]
   ·rcases q2 hk with o1|o1
    ·simp[zr,cK,d8,em,io,wz,dc,tf hk,tf o0,o1,need,wd]
    ·have o2:¬e.op<1:=by omega
     simp[zr,cK,d8,em,io,wz,dc,tf hk,tf o0,o1,o2,need,wd]
  ·have o0:=q3 hk
   simp[zr,cK,d8,em,io,wz,dc,tf hk,tf o0,need,wd]
theorem c0h (e:Expr):e.parts≤1500→∀h,vU L 149 [vX e] h=some (.int .i64 e.depth,h):=by
 induction e using Expr.ind with
 | h e ih=>
 intro hp h
 have dr:=c2a e
 refine wj (hL 149 _ rfl) rfl ?_
 simp[Js]
 refine c1Q e.args.length (λi (x:PV×Nat)=>[(3,.int .i64 ((e.args.take i).foldl (λm x=>if x.depth>m then x.depth else m) 0)),(4,x.1),(7,.int .i64 i)]) (λ_ x=>x.2) (λ_ _=>h) (.dead,1) ?_ ?_ (by simp) rfl rfl
 ·intro i hi x ih2
  have hw:=wk i (by omega)
  have pN:=c0s (ai hi)
  have hc:=ih e.args[i] (ai hi) (by omega) []
  have ih2:=λy=>ih2 y
  rw[yO hi,List.foldl_append] at ih2
  generalize (e.args.take i).foldl (λm x=>if x.depth>m then x.depth else m) 0=a at *
  simp[hi,hw,hc,AA]
  simpa using ih2 (_,_)
 ·intro _
  have:=Expr.depth_eq e
  unfold wrap at this
  simp[this]
end
end PI.Sc
