import Derived.Test.YtljbhgpanekomaaGreatDoorPiScSpec2
import Derived.Test.YtljbhgpanekomaaGreatDoorPiScRun1
set_option linter.unusedSimpArgs false
set_option linter.unusedVariables false
set_option linter.unusedSectionVars false
namespace PI.Sc
open Go (IntKind BinOp UnOp)
theorem Fu {α:Type} {a b:List α}:(a++b).Nodup↔a.Nodup∧b.Nodup∧∀x∈b,x∉a:=by
 rw[cz]
 constructor
 ·rintro⟨h1,h2,h3⟩; exact⟨h1,h2,λx hx hy=>h3 x hy x hx rfl⟩
 ·rintro⟨h1,h2,h3⟩; exact⟨h1,h2,λx hx y hy e=>h3 y hy (e▸hx)⟩
theorem Of {l o:List Str} {x:Str}:x∈xy l o↔x∈l∧x∉o:=by simp[xy]
theorem b7k (a b o:List Str):xy (a++b) o=xy a o++xy b o:=by simp[xy]
theorem b5X {l o:List Str} (h:∀x∈l,x∉o):xy l o=l:=by
 unfold xy
 rw[List.filter_eq_self]
 intro x hx; simp[h x hx]
theorem CM {l o:List Str}:xy l o=[]↔∀x∈l,x∈o:=by
 unfold xy
 rw[List.filter_eq_nil_iff]
 constructor
 ·intro h x hx; have:=h x hx; simpa using this
 ·intro h x hx; simp[h x hx]
theorem Hb {d y:List Str} (h:∀x∈y,x∉d):xy (d++y) d=y:=by
 rw[b7k,CM.2 (λx hx=>hx),b5X h]; rfl
theorem b4p {l o:List Str} (h:l.Nodup):(xy l o).Nodup:=h.filter _
theorem Ke:∀(m l:List Str),m.Nodup→(∀x∈m,x∉l)→Ee l m=l++m
 | [],l,_,_=>by simp[Ee]
 | x :: m, l, hn, h => by
   have hx:=h x (by simp)
   rw[cw] at hn
   unfold Ee
   rw[List.foldl_cons,af hx]
   have:=Ke m (l++[x]) hn.2 (by
    intro y hy hm
    rcases ak.1 hm with h1|h1
    ·exact h y (by simp[hy]) h1
    ·simp only[aO] at h1; subst h1; exact hn.1 hy)
   unfold Ee at this
   rw[this]; simp
theorem zX {a:EN} {f:List Str→EN} {r:List Str}:yt a f=(0,r)↔a.1=0∧f a.2=(0,r):=by
 unfold yt
 by_cases h:a.1=0
 ·simp[h]
 ·simp only[h,if_false,false_and,iff_false]
  intro e; exact h (by simpa using aE Prod.fst e)
theorem zS {a:EN} (h:a.1=0):a=(0,a.2):=by rw[← h]
def Defs (s:Place) (d xs:List Str):Prop:=(∀x∈xs,x∈s.vis∧x∉s.inputs∧x∉d)∧xs.Nodup
theorem Defs.nil (s:Place) (d:List Str):Defs s d []:=⟨by simp,by simp⟩
theorem Defs.app {s:Place} {d a b:List Str}:Defs s d (a++b)↔Defs s d a∧Defs s (d++a) b:=by
 unfold Defs
 rw[Fu]
 constructor
 ·rintro⟨h1,h2,h3,h4⟩
  refine⟨⟨λx hx=>h1 x (by simp[hx]),h2⟩,λx hx =>?_,h3⟩
  have:=h1 x (by simp[hx])
  have h5:=h4 x hx
  exact⟨this.1,this.2.1,by simp[this.2.2,h5]⟩
 ·rintro⟨⟨h1,h2⟩,h3,h4⟩
  refine⟨λx hx =>?_,h2,h4,λx hx =>?_⟩
  ·rcases ak.1 hx with h|h
   ·exact h1 x h
   ·have:=h3 x h
    exact⟨this.1,this.2.1,λhd=>this.2.2 (by simp[hd])⟩
  ·have:=h3 x hx
   exact λha=>this.2.2 (by simp[ha])
theorem Kf (s:Place):∀(xs d r:List Str),Ao s xs d=(0,r)↔r=d++xs∧Defs s d xs
 | [],d,r=>by simp only[Ao,aV,Defs.nil,and_true,ac,true_and]; exact eq_comm
 | x :: xs, d, r => by
   have ih:=Kf s xs (d++[x]) r
   have qe:x::xs=[x]++xs:=rfl
   rw[qe,Defs.app]
   have h1:Defs s d [x]↔x∈s.vis∧x∉s.inputs∧x∉d:=by unfold Defs; simp
   simp only[Ao,aJ,aY]
   by_cases hv:x∈s.vis
   ·by_cases hd:x∈s.inputs∨x∈d
    ·have:¬Defs s d [x]:=by rw[h1]; rintro⟨_,a,b⟩; rcases hd with h|h; (exact a h); exact b h
     simp[hv,hd,this]
    ·simp only[not_or] at hd
     have:Defs s d [x]:=h1.2 ⟨hv,hd.1,hd.2⟩
     simp[hv,hd,this,ih]
   ·have:¬Defs s d [x]:=by rw[h1]; exact λh=>hv h.1
    simp[hv,this]
theorem Gq {s:Place} {q:Eqn} {d r:List Str}:yn s q d=(0,r)↔r=d++q.left∧Defs s d q.left∧xg s q.right q.left.length=0:=by
 unfold yn
 rw[zX]
 constructor
 ·rintro⟨h1,h2⟩
  have h3:=(Kf s q.left d _).1 (zS h1)
  simp only[ac] at h2
  exact⟨by rw[← h2.2,h3.1],h3.2,h2.1⟩
 ·rintro⟨rfl,h1,h2⟩
  rw[(Kf s q.left d _).2 ⟨rfl,h1⟩]
  exact⟨rfl,by simp[h2]⟩
def wV (l:List Eqn):List Str:=l.flatMap (·.left)
theorem A0 (s:Place):∀(l:List Eqn) (d r:List Str),yo s l d=(0,r)↔r=d++wV l∧Defs s d (wV l)∧∀q∈l,xg s q.right q.left.length=0
 | [],d,r=>by simp only[yo,wV,List.flatMap_nil,aV,Defs.nil,true_and,List.not_mem_nil,false_imp_iff,implies_true,and_true,ac]; exact eq_comm
 | q :: l, d, r => by
   simp only[yo]
   rw[zX]
   have hl:wV (q::l)=q.left++wV l:=by simp[wV]
   rw[hl,Defs.app]
   constructor
   ·rintro⟨h1,h2⟩
    obtain⟨h3,h4,h5⟩:=Gq.1 (zS h1)
    rw[h3] at h2
    obtain⟨h6,h7,h8⟩:=(A0 s l _ r).1 h2
    refine⟨by rw[h6,az],⟨h4,h7⟩,?_⟩
    intro x hx
    rcases ay.1 hx with rfl|hx
    ·exact h5
    ·exact h8 x hx
   ·rintro⟨h1,⟨h2,h3⟩,h4⟩
    rw[Gq.2 ⟨rfl,h2,h4 q (by simp)⟩]
    refine⟨rfl,(A0 s l _ r).2 ⟨by rw[h1,az],h3,λx hx=>h4 x (by simp[hx])⟩⟩
theorem Gt (s:Place):∀(l:List Eqn) (k:Nat) (d r:List Str),zI s l k d = .inr r↔yo s l d=(0,r)
 | [],k,d,r=>by simp[zI,yo]
 | q :: l, k, d, r => by
   simp only[zI,yo]
   rw[zX]
   by_cases h:(yn s q d).1=0
   ·simp only[h,if_true,true_and]; exact Gt s l (k+1) _ r
   ·simp[h]
theorem Og (s:Place) (q:Eqn):∀(l:List Eqn) (k:Nat) (d r:List Str),yo s l d=(0,r)→(yn s q r).1≠0→zI s (l++[q]) k d = .inl (k+l.length,(yn s q r).1)
 | [], k, d, r, h, hb => by
   simp only[yo,ac,true_and] at h; subst h
   simp[zI,hb]
 | x :: l, k, d, r, h, hb => by
   simp only[yo] at h
   rw[zX] at h
   simp only[aJ,zI,h.1,if_true]
   rw[Og s q l (k+1) _ r h.2 hb,aP]
   congr 2; omega
theorem Kg (tags:List Str):∀(l:List Decl) (v r:List Str),xI tags l v=(0,r)↔r=v++wm l∧(∀x∈wm l,x∉v∧x∉tags)∧(wm l).Nodup
 | [],v,r=>by simp only[xI,wm,bw,aV,List.not_mem_nil,false_imp_iff,implies_true,List.nodup_nil,and_true,ac,true_and]; exact eq_comm
 | d :: l, v, r => by
   have ih:=Kg tags l (v++[d.name]) r
   simp only[xI]
   have hn:wm (d::l)=d.name::wm l:=rfl
   rw[hn,cw]
   by_cases h:d.name∈v∨d.name∈tags
   ·simp only[h,if_true,ac]
    constructor
    ·rintro⟨h,_⟩; exact absurd h (by decide)
    ·rintro⟨_,h2,_⟩
     have:=h2 d.name (by simp)
     rcases h with h|h
     ·exact absurd h this.1
     ·exact absurd h this.2
   ·simp only[h,if_false,ih]
    simp only[not_or] at h
    constructor
    ·rintro⟨h1,h2,h3⟩
     refine⟨by rw[h1]; simp,?_,?_,h3⟩
     ·intro x hx
      rcases ay.1 hx with rfl|hx
      ·exact h
      ·have:=h2 x hx
       exact⟨λhv=>this.1 (by simp[hv]),this.2⟩
     ·intro hm
      exact(h2 _ hm).1 (by simp)
    ·rintro⟨h1,h2,h3,h4⟩
     refine⟨by rw[h1]; simp,?_,h4⟩
     intro x hx
     have:=h2 x (by simp[hx])
     refine⟨?_,this.2⟩
     intro hm
     rcases ak.1 hm with h5|h5
     ·exact this.1 h5
     ·simp only[aO] at h5; subst h5; exact h3 hx
theorem zT {b:Bool} {e:Int} (he:e≠0):need b e=0↔b=true:=by cases b<;>simp[he]
theorem Oh {v:List Str} {l:List Decl}:AZ v l=0↔∀d∈l,∀o∈d.clock,o.name∈v:=by
 unfold AZ
 rw[zd]
 constructor
 ·intro h d hd o ho
  have:=zd.1 (h d hd) o ho
  simpa using(zT (by decide)).1 this
 ·intro h d hd
  rw[zd]
  intro o ho
  rw[zT (by decide)]; simpa using h d hd o ho
theorem Di {v tags:List Str} {l:List Decl} {r:List Str}:yE v tags l=(0,r)↔r=v++wm l∧((∀x∈wm l,x∉v∧x∉tags)∧(wm l).Nodup)∧∀d∈l,∀o∈d.clock,o.name∈r:=by
 unfold yE
 rw[zX]
 constructor
 ·rintro⟨h1,h2⟩
  obtain⟨h3,h4⟩:=(Kg tags l v _).1 (zS h1)
  simp only[ac] at h2
  rw[← h2.2]
  exact⟨h3,h4,Oh.1 h2.1⟩
 ·rintro⟨h1,h2,h3⟩
  rw[(Kg tags l v _).2 ⟨rfl,h2⟩]
  refine⟨rfl,?_⟩
  rw[← h1,Oh.2 h3]
mutual
def xb:List (List State)→List Str
 | []=>[]
 | []::xs=>xb xs
 | (s::r)::xs=>xy (zY s) (wm s.locals)++xb xs
def zY:State→List Str
 | .mk n l e a u w=>wV e++xb a
end
def xR (x:State):List Str:=xy (zY x) (wm x.locals)
theorem Cf (x:List State) (xs:List (List State)):xb (x::xs)=(x.map xR).headD []++xb xs:=by cases x<;>simp[xb,xR]
theorem c2p {l:List Eqn} (h:(wV l).Nodup):Kh l=wV l:=by
 have:=Ke (wV l) [] h (by simp)
 simpa[Kh,wV] using this
mutual
theorem Hc:∀(x:State) (s:Place) (d l:List Str),yM s d x=(0,l)→l=xR x∧Defs s d (xR x)∧Fv x=zY x
 | .mk n l e a u w, s, d, r, h => by
   simp only[yM] at h
   rw[zX] at h; obtain⟨h1,h⟩:=h
   rw[zX] at h; obtain⟨h2,h⟩:=h
   rw[zX] at h; obtain⟨h3,h⟩:=h
   rw[zX] at h; obtain⟨h4,h⟩:=h
   rw[zX] at h; obtain⟨h5,h⟩:=h
   obtain⟨v1,v2,v3⟩:=Di.1 (zS h1)
   generalize (yE s.vis s.tags l).2=vis at *
   obtain⟨e1,e2,e3⟩:=(A0 (s.at vis) e d _).1 (zS h2)
   generalize (yo (s.at vis) e d).2=d1 at *
   obtain⟨a1,a2,a3⟩:=Dj a (s.at vis) d1 _ (zS h3)
   generalize (xj (s.at vis) d1 a).2=d2 at *
   have hD:Defs (s.at vis) d (wV e++xb a):=Defs.app.2 ⟨e2,by rw[← e1]; exact a2⟩
   have gu:d2=d++(wV e++xb a):=by rw[a1,e1,az]
   have hw:xy d2 d=wV e++xb a:=by rw[gu]; exact Hb λx hx=>(hD.1 x hx).2.2
   rw[hw] at h
   have iI:Fv (.mk n l e a u w)=zY (.mk n l e a u w):=by
    simp only[Fv,zY]
    rw[c2p e2.2]
    exact a3 _ λy hy hm=>(a2.1 y hy).2.2 (by rw[e1]; simp[hm])
   have dt:xR (.mk n l e a u w)=xy (wV e++xb a) (wm l):=by simp[xR,zY]
   have dm:Defs s d (xR (.mk n l e a u w)):=by
    rw[dt]
    refine⟨?_,b4p hD.2⟩
    intro x hx
    rw[Of] at hx
    have:=hD.1 x hx.1
    refine⟨?_,this.2⟩
    have hv:x∈vis:=this.1
    rw[v1] at hv
    rcases ak.1 hv with h6|h6
    ·exact h6
    ·exact absurd h6 hx.2
   by_cases lU:xy (wm l) (wV e++xb a)=[]
   ·rw[ah lU] at h
    simp only[ac,true_and] at h
    exact⟨by rw[dt,h],dm,iI⟩
   ·rw[af lU] at h
    simp only[ac] at h
    exact absurd h.1 (by decide)
theorem Hd:∀(xs:List State) (s:Place) (d:List Str) (ls:List (List Str)),xA s d xs=(0,ls)→ls=xs.map xR∧∀x∈xs,Defs s d (xR x)∧Fv x=zY x
 | [],s,d,ls,h=>by simp only[xA,ac,true_and] at h; subst h; simp
 | x :: xs, s, d, ls, h => by
   simp only[xA] at h
   by_cases h1:(yM s d x).1=0
   ·by_cases h2:(xA s d xs).1=0
    ·simp only[h1,h2,if_true,ac,true_and] at h
     obtain⟨a1,a2⟩:=Hc x s d _ (zS h1)
     obtain⟨b1,b2⟩:=Hd xs s d (xA s d xs).2 (by rw[← h2])
     refine⟨by rw[← h,a1,b1]; rfl,?_⟩
     intro y hy
     rcases ay.1 hy with rfl|hy
     ·exact a2
     ·exact b2 y hy
    ·simp[h1,h2] at h
   ·simp[h1] at h
theorem Dj:∀(a:List (List State)) (s:Place) (d r:List Str),xj s d a=(0,r)→r=d++xb a∧Defs s d (xb a)∧∀out:List Str,(∀y∈xb a,y∉out)→Dk out a=out++xb a
 | [], s, d, r, h => by
   simp only[xj,ac,true_and] at h
   subst h
   simp only[xb,aV,Defs.nil,Dk,true_and,implies_true]
 | x :: xs, s, d, r, h => by
   simp only[xj] at h
   by_cases hn:(x.map (·.name)).Nodup
   ·simp only[hn,bi,if_false] at h
    by_cases h1:(xA s d x).1=0
    ·simp only[h1,ne_eq,bi,if_false] at h
     obtain⟨b1,b2⟩:=Hd x s d (xA s d x).2 (by rw[← h1])
     rw[b1] at h
     split at h
     ·obtain⟨c1,c2,c3⟩:=Dj xs s _ r h
      rw[Cf]
      have hd:Defs s d ((x.map xR).headD []):=by
       cases x with
       | nil=>exact Defs.nil s d
       | cons y x=>exact(b2 y (by simp)).1
      have gL:=Defs.app.2 ⟨hd,c2⟩
      refine⟨by rw[c1,az],gL,?_⟩
      intro out ho
      cases x with
      | nil =>
        simp only[bw,List.headD_nil,aY] at ho ⊢
        simp only[Dk]
        exact c3 out ho
      | cons y x =>
        simp only[aC,List.headD_cons] at *
        simp only[Dk]
        have hy:=(b2 y (by simp)).2
        rw[hy]
        have hr:xy (zY y) (wm y.locals)=xR y:=rfl
        rw[hr,Ke _ _ hd.2 (λz hz=>ho z (by simp[hz]))]
        rw[c3 (out++xR y) ?_,az]
        intro z hz hm
        rcases ak.1 hm with h5|h5
        ·exact ho z (by simp[hz]) h5
        ·exact(c2.1 z hz).2.2 (by simp[h5])
     ·simp only[ac] at h; exact absurd h.1 (by decide)
    ·simp[h1] at h
   ·simp only[hn,cm,if_true,ac] at h; exact absurd h.1 (by decide)
end
def Seen (b:List Node) (l:List Expr):Prop:=∀e∈l,∃(s:Place) (n:Nat),s.before=b∧xg s e n=0
theorem Seen.app {b:List Node} {l m:List Expr}:Seen b (l++m)↔Seen b l∧Seen b m:=by
 unfold Seen
 constructor
 ·intro h; exact⟨λe he=>h e (by simp[he]),λe he=>h e (by simp[he])⟩
 ·rintro⟨h1,h2⟩ e he
  rcases ak.1 he with h|h
  ·exact h1 e h
  ·exact h2 e h
theorem He {s:Place} {l:List Trn}:zZ s l=0↔∀t∈l,xg s t.cond 1=0:=zd
structure NodeOK (before:List Node) (tags:List Str) (n:Node) (c:List Str):Prop where
 new:n.name∉before.map (·.name)
 decl:yE [] tags (vars n)=(0,wm (vars n))
 eqs:yo ⟨before,wm (vars n),wm n.ins,tags⟩ n.eqs []=(0,wV n.eqs)
 autos:xj ⟨before,wm (vars n),wm n.ins,tags⟩ (wV n.eqs) n.autos=(0,c)
 assume:∀e∈n.assume,xg ⟨before,wm n.ins,wm n.ins,tags⟩ e 1=0
 ensure:∀e∈n.ensure,xg ⟨before,wm n.ins++wm n.outs,wm n.ins,tags⟩ e 1=0
 all:∀x∈wm n.outs++wm n.locals,x∈c
theorem Oi {before:List Node} {tags:List Str} {n:Node}:zc before tags n=none↔∃c,NodeOK before tags n c:=by
 constructor
 ·intro h
  simp only[zc] at h
  split at h
  ·simp at h
  ·rename_i h1
   split at h
   ·simp at h
   ·rename_i h2
    simp only[ne_eq,Decidable.not_not] at h2
    have hd:=zS h2
    obtain⟨d1,d2,d3⟩:=Di.1 hd
    simp only[aY] at d1
    rw[d1] at h
    split at h
    ·simp at h
    ·rename_i d hq
     have nq:=(Gt _ n.eqs 0 [] d).1 hq
     have lV:=(A0 _ n.eqs [] d).1 nq
     simp only[aY] at lV
     have qg:=lV.1
     subst qg
     split at h
     ·simp at h
     ·rename_i h3
      simp only[ne_eq,Decidable.not_not] at h3
      split at h
      ·simp at h
      ·rename_i h4
       simp only[ne_eq,Decidable.not_not] at h4
       split at h
       ·simp at h
       ·rename_i h5
        simp only[ne_eq,Decidable.not_not] at h5
        split at h
        ·rename_i h6
         refine⟨_,h1,by rw[hd,d1],nq,zS h3,zd.1 h4,zd.1 h5,CM.1 h6⟩
        ·simp at h
 ·rintro⟨c,h⟩
  simp only[zc]
  rw[af h.new,h.decl]
  simp only[ne_eq,bi,if_false]
  rw[(Gt _ n.eqs 0 [] _).2 h.eqs]
  simp only[h.autos,bi,if_false]
  have ha:ww (λe=>xg (Place.at ⟨before,wm (vars n),wm n.ins,tags⟩ (wm n.ins)) e 1) n.assume=0:=zd.2 h.assume
  have hg:ww (λe=>xg (Place.at ⟨before,wm (vars n),wm n.ins,tags⟩ (wm n.ins++wm n.outs)) e 1) n.ensure=0:=zd.2 h.ensure
  rw[ha,hg,CM.2 h.all]
  simp
theorem NodeOK.c_eq {before:List Node} {tags:List Str} {n:Node} {c:List Str} (h:NodeOK before tags n c):c=wV n.eqs++xb n.autos:=(Dj _ _ _ _ h.autos).1
theorem NodeOK.defs {before:List Node} {tags:List Str} {n:Node} {c:List Str} (h:NodeOK before tags n c):Defs ⟨before,wm (vars n),wm n.ins,tags⟩ [] c:=by
 rw[h.c_eq]
 refine Defs.app.2 ⟨((A0 _ _ _ _).1 h.eqs).2.1,?_⟩
 exact(Dj _ _ _ _ h.autos).2.1
theorem Ki (n:Node):wm (vars n)=wm n.ins++(wm n.outs++wm n.locals):=by simp[wm,vars]
theorem NodeOK.length {before:List Node} {tags:List Str} {n:Node} {c:List Str} (h:NodeOK before tags n c):c.length=n.outs.length+n.locals.length:=by
 obtain⟨_,⟨_,hv⟩,_⟩:=Di.1 h.decl
 rw[Ki,Fu] at hv
 have hp:c.Perm (wm n.outs++wm n.locals):=by
  rw[List.perm_ext_iff_of_nodup h.defs.2 hv.2.1]
  intro x
  constructor
  ·intro hx
   have:=h.defs.1 x hx
   have h1:x∈wm (vars n):=this.1
   rw[Ki] at h1
   rcases ak.1 h1 with h2|h2
   ·exact absurd h2 this.2.1
   ·exact h2
  ·exact h.all x
 rw[hp.length_eq]; simp[wm]
theorem Hf (tags:List Str):∀(a c b:List Node),zp tags b (a++c)=match zp tags b a with | some x=>some x | none=>zp tags (b++a) c
 | [],c,b=>by simp[zp]
 | n :: a, c, b => by
   simp only[aJ,zp]
   cases zc b tags n with
   | some x=>rfl
   | none=>simp only; rw[Hf tags a c (b++[n])]; simp
structure OK (p:Prog):Prop where
 shape:zV p=none
 enums:BU p.enums=true
 nodes:zp (xL p.enums) [] p.nodes=none
theorem Oj {p:Prog}:A1 p=none↔OK p:=by
 unfold A1
 cases h:zV p with
 | some b=>simp only[reduceCtorEq,false_iff]; intro x; have:=x.shape; rw[h] at this; simp at this
 | none =>
   simp only
   cases he:BU p.enums with
   | false=>simp only[aH,if_false,reduceCtorEq,false_iff]; intro x; have:=x.enums; rw[he] at this; simp at this
   | true=>simp only[if_true]; exact⟨λhn=>⟨h,he,hn⟩,λx=>x.nodes⟩
theorem I9 (en:List Enum):∀(ns:List Node) (i:Nat),z8 en ns i=none↔∀n∈ns,∀k:Nat,yT en n k=none
 | [],i=>by simp[z8]
 | n :: ns, i => by
   have hk:∀k:Nat,yT en n i=none↔yT en n k=none:=by
    intro k
    unfold yT
    split
    ·simp
    ·cases Ap (Aa en) n.eqs 0 with
     | some x=>simp
     | none=>simp only; split<;>simp
   simp only[z8,ay,forall_eq_or_imp]
   cases hn:yT en n i with
   | some x =>
     simp only[reduceCtorEq,false_iff,not_and]
     intro h
     rw[h i] at hn; simp at hn
   | none =>
     simp only
     rw[I9 en ns (i+1)]
     exact⟨λh=>⟨λk=>(hk k).1 hn,h⟩,λh=>h.2⟩
end PI.Sc
set_option linter.unusedSimpArgs false
set_option linter.unusedVariables false
namespace PI.Sc
open Go (IntKind BinOp UnOp)
open Go.Lib (decDigits)
theorem Ok (u:Nat):decDigits u≠[]:=by
 rw[decDigits]
 split<;>simp
theorem c0F:∀(u:Nat),∀b∈decDigits u,48≤b.toNat∧b.toNat≤57:=by
 intro u
 induction u using Nat.strongRecOn with
 | _ u ih =>
   intro b hb
   have one:∀k:Nat,k<10→48≤(UInt8.ofNat (48+k)).toNat∧(UInt8.ofNat (48+k)).toNat≤57:=by
    intro k hk
    have:(UInt8.ofNat (48+k)).toNat=48+k:=by simp; omega
    omega
   rw[decDigits] at hb
   split at hb
   ·rename_i h
    simp only[aO] at hb; subst hb
    exact one u h
   ·rename_i h
    rcases ak.1 hb with hb|hb
    ·exact ih (u / 10) (by omega) b hb
    ·simp only[aO] at hb; subst hb
     exact one (u % 10) (by omega)
theorem Kd:∀(k u:Nat),u<10 ^ (k+1)→(decDigits u).length≤k+1
 | 0, u, h => by
   rw[decDigits,dif_pos (by simpa using h)]; simp
 | k + 1, u, h => by
   rw[decDigits]
   split
   ·simp
   ·have:=Kd k (u / 10) (by rw[Nat.pow_succ] at h; omega)
    simp; omega
theorem Ol {a b:Nat} (ha:a<10) (hb:b<10) (h:UInt8.ofNat (48+a)=UInt8.ofNat (48+b)):a=b:=by
 have:=aE UInt8.toNat h
 simp at this
 omega
theorem c5c:∀(a b:Nat),decDigits a=decDigits b→a=b:=by
 intro a
 induction a using Nat.strongRecOn with
 | _ a ih =>
   intro b h
   rw[decDigits,decDigits.eq_def b] at h
   split at h<;>split at h
   ·rename_i h1 h2
    exact Ol h1 h2 (by simpa using h)
   ·rename_i h1 h2
    have:=aE List.length h
    have da:=Ok (b / 10)
    simp only[aP,bF,ap] at this
    exact absurd (bj.1 (by omega)) da
   ·rename_i h1 h2
    have:=aE List.length h
    have da:=Ok (a / 10)
    simp only[aP,bF,ap] at this
    exact absurd (bj.1 (by omega)) da
   ·rename_i h1 h2
    obtain⟨h3,h4⟩:=List.append_inj' h rfl
    have h5:=ih (a / 10) (by omega) (b / 10) h3
    have h6:=Ol (a:=a % 10) (b:=b % 10) (by omega) (by omega) (by simpa using h4)
    omega
theorem b9g {base:Str} {a b:Nat} (h:x8 base a=x8 base b):a=b:=by
 unfold x8 at h
 have:=List.append_cancel_left h
 exact c5c _ _ (by simpa using this)
theorem Hg:∀(l m:List Str),l.Nodup→(∀x∈l,x∈m)→l.length≤m.length
 | [],m,_,_=>by simp
 | x :: l, m, hn, h => by
   rw[cw] at hn
   have:=Hg l (m.erase x) hn.2 (by
    intro y hy
    have da:y≠x:=λe=>hn.1 (e▸hy)
    exact(List.mem_erase_of_ne da).2 (h y (by simp[hy])))
   have hx:=List.length_erase_of_mem (h x (by simp))
   have hp:0<m.length:=List.length_pos_of_mem (h x (by simp))
   simp only[aP]
   omega
theorem c0G (base:Str) (n:Nat):∀k,((List.range k).map λi=>x8 base (n+i)).Nodup:=by
 intro k
 rw[List.nodup_iff_pairwise_ne,List.pairwise_map]
 exact(List.nodup_range (n:=k)).imp λ{a b} np e=>np (by have:=b9g e; omega)
theorem c2q (all:List Str) (base:Str) (n:Nat):∃i,i≤all.length∧x8 base (n+i)∉all:=by
 refine cC λfp =>?_
 have:=Hg ((List.range (all.length+1)).map λi=>x8 base (n+i)) all (c0G base n _) (by
  intro x hx
  obtain⟨i,hi,rfl⟩:=bl.1 hx
  rw[cA] at hi
  refine cC λhx=>fp ⟨i,by omega,hx⟩)
 simp at this
 omega
theorem Om (all:List Str) (base:Str):∀(k n m:Nat),n≤m→m<n+k→(∀j,n≤j→j<m→x8 base j∈all)→x8 base m∉all→Hh all base k n=m
 | 0,n,m,h1,h2,_,_=>by omega
 | k + 1, n, m, h1, h2, h3, h4 => by
   simp only[Hh]
   by_cases he:n=m
   ·subst he; rw[af h4]
   ·rw[ah (h3 n (ao _) (by omega))]
    exact Om all base k (n+1) m (by omega) (by omega) (λj hj=>h3 j (by omega)) h4
theorem c0H (all:List Str) (base:Str) (n:Nat):∃m,n≤m∧m≤n+all.length∧(∀j,n≤j→j<m→x8 base j∈all)∧x8 base m∉all:=by
 obtain⟨i,h1,h2⟩:=c2q all base n
 have key:∀(d m:Nat),n≤m→m+d=n+i→(∀j,n≤j→j<m→x8 base j∈all)→∃m,n≤m∧m≤n+i∧(∀j,n≤j→j<m→x8 base j∈all)∧x8 base m∉all:=by
  intro d
  induction d with
  | zero =>
    intro m h3 h4 h5
    have:m=n+i:=by omega
    subst this
    exact⟨n+i,h3,ao _,h5,h2⟩
  | succ d ih =>
    intro m h3 h4 h5
    by_cases hm:x8 base m∈all
    ·refine ih (m+1) (by omega) (by omega) ?_
     intro j qf u5
     by_cases e:j=m
     ·subst e; exact hm
     ·exact h5 j qf (by omega)
    ·exact⟨m,h3,by omega,h5,hm⟩
 obtain⟨m,a,b,c,d⟩:=key i n (ao _) rfl (λj qf u5=>by omega)
 exact⟨m,a,by omega,c,d⟩
theorem J8 (p:Prog) (base:Str):∃m,1≤m∧m≤1+(Az p).length∧(∀j,1≤j→j<m→x8 base j∈Az p)∧x8 base m∉Az p∧BH p base=x8 base m:=by
 obtain⟨m,a,b,c,d⟩:=c0H (Az p) base 1
 refine⟨m,a,b,c,d,?_⟩
 unfold BH
 rw[Om _ _ _ _ m a (by omega) c d]
theorem c0I (p:Prog) (base:Str):BH p base∉Az p:=by
 obtain⟨m,_,_,_,h,e⟩:=J8 p base
 rw[e]; exact h
def low (b:UInt8):Bool:=decide (97≤b.toNat∧b.toNat≤122)
theorem c2r {base:Str} {m:Nat} (h1:base≠[]) (h2:base.length≤30) (h3:base.all low=true) (hm:m<1000000000):zf (x8 base m)=true:=by
 have hd:=Kd 8 m (by simpa using hm)
 have jz:∀b∈base,97≤b.toNat∧b.toNat≤122:=by
  intro b hb
  have:=aD.1 h3 b hb
  simpa[low] using this
 unfold zf
 simp only[al,aq,bz]
 refine⟨⟨⟨⟨?_,?_⟩,?_⟩,?_⟩,?_⟩
 ·unfold x8; simp
 ·unfold x8; simp only[ap,aP]; omega
 ·cases base with
  | nil=>exact absurd rfl h1
  | cons c r =>
    have:=jz c (by simp)
    unfold x8 Cn
    simp only[aJ,List.headD_cons]
    exact decide_eq_true (.inl (by omega))
 ·rw[aD]
  intro b hb
  unfold x8 at hb
  unfold Co Cn Ef
  simp only[bA,aq]
  rcases ak.1 hb with hb|hb
  ·have:=jz b hb; omega
  ·rcases ay.1 hb with rfl|hb
   ·right; rfl
   ·have:=c0F m b hb; omega
 ·unfold Fw
  rw[bN]
  intro hk
  have dm:∀w∈Kj,(95:UInt8)∉w:=by decide
  exact dm _ hk (by unfold x8; simp)
structure Near (x:Str) (s s':Place):Prop where
 before:s'.before=s.before
 inputs:s'.inputs=s.inputs
 tags:s'.tags=s.tags
 more:∀y∈s.vis,y∈s'.vis
 less:∀y∈s'.vis,y∈s.vis∨y=x
theorem Oo {x:Str} {s s':Place} (h:Near x s s') {n:Nat} {e:Expr} (h0:yU s n e=0):yU s' n e=0:=by
 unfold yU at *
 split
 ·rename_i hk
  rw[ah hk] at h0
  rw[zT (by decide)] at h0 ⊢
  simp only[aq] at *
  exact h.more _ h0
 ·rename_i hk
  rw[af hk] at h0
  unfold Fx at *
  rw[h.before]
  exact h0
theorem Hi {x:Str} {s s':Place} (h:Near x s s') {n:Nat} {e:Expr} (h0:xg s e n=0):xg s' e n=0:=by
 unfold xg at *
 rw[yK] at *
 exact⟨Oo h h0.1,zd.2 λy hy=>Oo h (zd.1 h0.2 y hy)⟩
theorem Kk {x:Str} {s s':Place} (h:Near x s s') {d d' xs:List Str} (hd:∀y∈d',y∈d∨y=x) (hx:x∉xs) (h0:Defs s d xs):Defs s' d' xs:=by
 refine⟨λy hy =>?_,h0.2⟩
 have:=h0.1 y hy
 refine⟨h.more _ this.1,by rw[h.inputs]; exact this.2.1,λhm =>?_⟩
 rcases hd y hm with h1|h1
 ·exact this.2.2 h1
 ·subst h1; exact hx hy
theorem Near.at {x:Str} {s s':Place} (h:Near x s s') (l:List Str):Near x (s.at (s.vis++l)) (s'.at (s'.vis++l)):=by
 refine⟨h.before,h.inputs,h.tags,?_,?_⟩
 ·intro y hy
  rcases ak.1 hy with h1|h1
  ·exact bq _ (h.more y h1)
  ·exact bG _ h1
 ·intro y hy
  rcases ak.1 hy with h1|h1
  ·rcases h.less y h1 with h2|h2
   ·exact .inl (bq _ h2)
   ·exact .inr h2
  ·exact .inl (bG _ h1)
mutual
theorem c2s:∀(s:State),∀x∈zY s,x∈Cl s
 | .mk n l e a u w, x, h => by
   simp only[zY,wV] at h
   simp only[Cl,ak]
   rcases ak.1 h with h|h
   ·exact .inr (.inl h)
   ·exact .inr (.inr (Kl a x h))
theorem c2t:∀(l:List State),∀x∈(l.map xR).headD [],x∈A8 l
 | [],x,h=>by simp at h
 | s :: r, x, h => by
   simp only[aC,List.headD_cons,xR,Of] at h
   simp only[A8,ak]
   exact .inl (c2s s x h.1)
theorem Kl:∀(a:List (List State)),∀x∈xb a,x∈yL a
 | [],x,h=>by simp[xb] at h
 | l :: xs, x, h => by
   rw[Cf] at h
   simp only[yL,ak]
   rcases ak.1 h with h|h
   ·exact .inl (c2t l x h)
   ·exact .inr (Kl xs x h)
end
mutual
theorem b7m {x:Str}:∀(t:State) (s s':Place) (d d' l:List Str),Near x s s'→(∀y∈d',y∈d∨y=x)→x∉Cl t→yM s d t=(0,l)→yM s' d' t=(0,l)
 | .mk n l e a u w, s, s', d, d', r, hs, hd, hx, h => by
   have cY:=Hc _ s d r h
   simp only[Cl,aJ,ay,ak,not_or] at hx
   simp only[yM] at h
   rw[zX] at h; obtain⟨h1,h⟩:=h
   rw[zX] at h; obtain⟨h2,h⟩:=h
   rw[zX] at h; obtain⟨h3,h⟩:=h
   rw[zX] at h; obtain⟨h4,h⟩:=h
   rw[zX] at h; obtain⟨h5,h⟩:=h
   obtain⟨v1,⟨v2,v4⟩,v3⟩:=Di.1 (zS h1)
   rw[v1] at h2 h3 h5 h v3
   obtain⟨e1,e2,e3⟩:=(A0 _ e d _).1 (zS h2)
   rw[e1] at h3 h
   obtain⟨a1,a2,a3⟩:=Dj a _ _ _ (zS h3)
   rw[a1] at h
   have hn:=hs.at (wm l)
   have xdn:x∉wm l:=λhm=>hx.2.1 (by unfold Bu; simp[hm])
   have xle:x∉wV e:=λhm=>hx.2.2.1 hm
   have xda:x∉xb a:=λhm=>hx.2.2.2 (Kl a x hm)
   have dI:yE s'.vis s'.tags l=(0,s'.vis++wm l):=by
    refine Di.2 ⟨rfl,⟨?_,v4⟩,?_⟩
    ·intro y hy
     rw[hs.tags]
     refine⟨λhm =>?_,(v2 y hy).2⟩
     rcases hs.less y hm with h6|h6
     ·exact(v2 y hy).1 h6
     ·subst h6; exact xdn hy
    ·intro c hc o ho
     rcases ak.1 (v3 c hc o ho) with h6|h6
     ·exact bq _ (hs.more _ h6)
     ·exact bG _ h6
   have dx:yo (s'.at (s'.vis++wm l)) e d'=(0,d'++wV e):=
    (A0 _ e d' _).2 ⟨rfl,Kk hn hd xle e2,λq hq=>Hi hn (e3 q hq)⟩
   have gu:∀y∈d'++wV e,y∈d++wV e∨y=x:=by
    intro y hy
    rcases ak.1 hy with h6|h6
    ·rcases hd y h6 with h7|h7
     ·exact .inl (bq _ h7)
     ·exact .inr h7
    ·exact .inl (bG _ h6)
   have u6:=Km a _ _ _ _ _ hn gu hx.2.2.2 (zS h3)
   have eH:zZ s' u=0:=He.2 λt ht=>Hi hs (He.1 h4 t ht)
   have fO:zZ (s'.at (s'.vis++wm l)) w=0:=He.2 λt ht=>Hi hn (He.1 h5 t ht)
   have hY:Defs (s.at (s.vis++wm l)) d (wV e++xb a):=Defs.app.2 ⟨e2,a2⟩
   have u7:Defs (s'.at (s'.vis++wm l)) d' (wV e++xb a):=Kk hn hd (by simp[xle,xda]) hY
   simp only[yM,dI,Eg,dx,u6,eH,fO]
   rw[az,Hb (λy hy=>(hY.1 y hy).2.2)] at h
   rw[az,Hb (λy hy=>(u7.1 y hy).2.2)]
   exact h
theorem Oq {x:Str}:∀(t:List State) (s s':Place) (d d':List Str) (ls:List (List Str)),Near x s s'→(∀y∈d',y∈d∨y=x)→x∉A8 t→xA s d t=(0,ls)→xA s' d' t=(0,ls)
 | [],s,s',d,d',ls,hs,hd,hx,h=>h
 | t :: ts, s, s', d, d', ls, hs, hd, hx, h => by
   simp only[A8,ak,not_or] at hx
   simp only[xA] at h ⊢
   by_cases h1:(yM s d t).1=0
   ·by_cases h2:(xA s d ts).1=0
    ·rw[b7m t s s' d d' _ hs hd hx.1 (zS h1),Oq ts s s' d d' (xA s d ts).2 hs hd hx.2 (by rw[← h2])]
     simp only[h1,h2,if_true] at h ⊢
     exact h
    ·simp[h1,h2] at h
   ·simp[h1] at h
theorem Km {x:Str}:∀(a:List (List State)) (s s':Place) (d d' r:List Str),Near x s s'→(∀y∈d',y∈d∨y=x)→x∉yL a→xj s d a=(0,r)→xj s' d' a=(0,d'++xb a)
 | [],s,s',d,d',r,hs,hd,hx,h=>by simp[xj,xb]
 | t :: ts, s, s', d, d', r, hs, hd, hx, h => by
   simp only[yL,ak,not_or] at hx
   simp only[xj] at h ⊢
   by_cases hn:(t.map (·.name)).Nodup
   ·simp only[hn,bi,if_false] at h ⊢
    by_cases h1:(xA s d t).1=0
    ·rw[Oq t s s' d d' (xA s d t).2 hs hd hx.1 (by rw[← h1])]
     obtain⟨b1,b2⟩:=Hd t s d (xA s d t).2 (by rw[← h1])
     simp only[h1,ne_eq,bi,if_false] at h ⊢
     split at h
     ·rename_i dp
      rw[ah dp]
      rw[b1] at h ⊢
      rw[Km ts s s' (d++(t.map xR).headD []) (d'++(t.map xR).headD []) r hs ?_ hx.2 h,Cf,az]
      intro y hy
      rcases ak.1 hy with h6|h6
      ·rcases hd y h6 with h7|h7
       ·exact .inl (bq _ h7)
       ·exact .inr h7
      ·exact .inl (bG _ h6)
     ·simp only[ac] at h; exact absurd h.1 (by decide)
    ·simp[h1] at h
   ·simp only[hn,cm,if_true,ac] at h; exact absurd h.1 (by decide)
end
def zK:Expr := .mk 1 0 1 0 [] []
def Am (s:Str):Eqn:=⟨[s],zK⟩
def A5 (s:Str):Decl:=⟨s,1,[]⟩
def wL (n:Node) (s:Str) (k:Nat):Node:={ n with locals:=n.locals++[A5 s],eqs:=n.eqs++List.replicate k (Am s) }
theorem c2u (en:List Enum):Aq en zK=0:=by
 have h1:zK.list=[zK]:=by simp[zK,Expr.list,Dg]
 have h2:zK.size=1:=by unfold Expr.size; rw[h1]; rfl
 have h3:zK.depth=1:=by simp[zK,Expr.depth,Eh]; rfl
 have h4:Dl zK=0:=by
  unfold Dl
  rw[h1,h2,h3]
  simp[ww,Bv,zK,Fy,Hj,Hk,Ei,Hm,yj,Bw,Expr.kind,Expr.args,Expr.op,Expr.t,Expr.v,Expr.name]
 unfold Aq
 rw[h4,h1]
 simp[ww,AO,zK,xZ,BZ,Expr.kind,Expr.t,Expr.v]
theorem c5d (en:List Enum) {s:Str} (hs:zf s=true):Aa en (Am s)=0:=by
 unfold Aa
 simp[Am,c2u,ww,zu,hs]
theorem c0J (en:List Enum) {s:Str} (hs:zf s=true):yQ en false (A5 s)=0:=by
 unfold yQ
 simp[A5,ww,zu,hs,xZ]
theorem Ho {α:Type} {f:α→Int}:∀{l:List α} {i:Nat},Ap f l i=none↔∀x∈l,f x=0
 | [],i=>by simp[Ap]
 | x :: l, i => by
   unfold Ap
   by_cases h:f x=0
   ·simp[h,Ho (l:=l)]
   ·simp[h]
theorem I8 {en:List Enum} {n:Node} {i:Nat}:yT en n i=none↔zB en n=0∧(∀q∈n.eqs,Aa en q=0)∧AA en n=0:=by
 unfold yT
 by_cases h1:zB en n=0
 ·simp only[h1,ne_eq,bi,if_false,true_and]
  cases h2:Ap (Aa en) n.eqs 0 with
  | none =>
    have:=Ho.1 h2
    by_cases h3:AA en n=0
    ·simp[h3]; exact this
    ·simp[h3]
  | some x =>
    simp only[reduceCtorEq,false_iff,not_and]
    intro h
    rw[Ho.2 h] at h2; simp at h2
 ·simp[h1]
theorem b7o {en:List Enum} {ns:List Node} {n:Node} {s:Str} {k:Nat} (h:zV ⟨en,ns++[n]⟩=none) (hs:zf s=true) (hl:n.locals.length≤200) (he:n.eqs.length≤200) (hk:k≤2):zV ⟨en,ns++[wL n s k]⟩=none:=by
 unfold zV at h ⊢
 simp only[ap,aP,bF] at h ⊢
 split at h
 ·simp at h
 ·rename_i h4
  rw[af h4]
  split at h
  ·simp at h
  ·rename_i h5
   rw[af h5]
   rw[I9] at h ⊢
   intro m hm i
   rcases ak.1 hm with h6|h6
   ·exact h m (by simp[h6]) i
   ·simp only[aO] at h6
    subst h6
    obtain⟨a1,a2,a3⟩:=I8.1 (h n (by simp) i)
    rw[I8]
    refine⟨?_,?_,a3⟩
    ·unfold zB at a1 ⊢
     rw[yK,yK,yK,yK,yK] at a1 ⊢
     obtain⟨b1,b2,b3,b4,b5,b6⟩:=a1
     refine⟨b1,?_,b3,b4,b5,?_⟩
     ·rw[zT (by decide)] at b2 ⊢
      simp only[aq] at b2 ⊢
      simp only[wL,ap,aP,bF,cF]
      omega
     ·simp only[wL]
      rw[I3,b6,ah rfl]
      simp[ww,c0J en hs]
    ·intro q hq
     simp only[wL,ak,List.mem_replicate] at hq
     rcases hq with hq|⟨_,rfl⟩
     ·exact a2 q hq
     ·exact c5d en hs
theorem b7p (s:Place) (n:Nat):xg s zK n=0:=by
 unfold xg
 simp[zK,yU,ww,Expr.kind,Expr.args]
theorem Ej (n:Node) (s:Str) (k:Nat):wm (vars (wL n s k))=wm (vars n)++[s]:=by simp[wm,vars,wL,A5]
theorem c0K {p:Prog} {n:Node} {s:Str} (h:s∉Az p) (hn:n∈p.nodes):s∉wm (vars n)∧s∉wV n.eqs∧s∉yL n.autos∧s∉xL p.enums:=by
 unfold Az at h
 simp only[ak,not_or] at h
 have hs:s∉Cm n:=λhm=>h.2 (bJ.2 ⟨n,hn,hm⟩)
 unfold Cm Bu at hs
 simp only[aJ,ay,ak,not_or] at hs
 refine⟨hs.2.1.1.1,hs.2.1.2.1,hs.2.1.2.2,?_⟩
 intro ht
 obtain⟨u,hu,hs⟩:=bJ.1 ht
 exact h.1 (bJ.2 ⟨u,hu,by simp[hs]⟩)
theorem c2v {en:List Enum} {ns:List Node} {n:Node} {s:Str} (h:A1 ⟨en,ns++[n]⟩=none) (hf:s∉Az ⟨en,ns++[n]⟩) (hs:zf s=true) (hl:n.locals.length≤200) (he:n.eqs.length≤200):
  A1 ⟨en,ns++[wL n s 1]⟩=none∧A1 ⟨en,ns++[wL n s 2]⟩=some ⟨ns.length,n.eqs.length+1,7⟩:=by
 obtain⟨h1,h2,h3⟩:=Oj.1 h
 simp only at h2 h3
 have d8:∀k,k≤2→zV ⟨en,ns++[wL n s k]⟩=none:=λk hk=>b7o h1 hs hl he hk
 rw[Hf] at h3
 cases hn:zp (xL en) [] ns with
 | some x=>rw[hn] at h3; simp at h3
 | none =>
   rw[hn] at h3
   simp only[aY,zp] at h3
   have h3:zc ns (xL en) n=none:=by
    cases hx:zc ns (xL en) n with
    | none=>rfl
    | some b=>rw[hx] at h3; simp at h3
   obtain⟨c,hc⟩:=Oi.1 h3
   obtain⟨n1,n2,n3,n4⟩:=c0K (n:=n) hf (by simp)
   simp only at n4
   have jd:∀k,yE [] (xL en) (vars (wL n s k))=(0,wm (vars (wL n s k))):=by
    intro k
    obtain⟨_,⟨d1,d2⟩,d3⟩:=Di.1 hc.decl
    refine Di.2 ⟨by simp,⟨?_,?_⟩,?_⟩
    ·intro x hx
     rw[Ej] at hx
     rcases ak.1 hx with h6|h6
     ·exact d1 x h6
     ·simp only[aO] at h6; subst h6; exact⟨by simp,n4⟩
    ·rw[Ej,Fu]
     refine⟨d2,by simp,?_⟩
     intro x hx; simp only[aO] at hx; subst hx; exact n1
    ·intro d hd o ho
     rw[Ej]
     have hv:vars (wL n s k)=vars n++[A5 s]:=by simp[vars,wL]
     rw[hv] at hd
     rcases ak.1 hd with h6|h6
     ·exact bq _ (d3 d h6 o ho)
     ·simp only[aO] at h6; subst h6; simp[A5] at ho
   have km:Near s ⟨ns,wm (vars n),wm n.ins,xL en⟩ ⟨ns,wm (vars n)++[s],wm n.ins,xL en⟩:=by
    refine⟨rfl,rfl,rfl,λy hy=>bq _ hy,λy hy =>?_⟩
    rcases ak.1 hy with h6|h6
    ·exact .inl h6
    ·exact .inr (by simpa using h6)
   obtain⟨_,q2,q3⟩:=(A0 _ _ _ _).1 hc.eqs
   have dC:s∉wm n.ins:=by rw[Ki] at n1; exact λhm=>n1 (bq _ hm)
   have mn:yo ⟨ns,wm (vars n)++[s],wm n.ins,xL en⟩ (wL n s 1).eqs []=(0,wV n.eqs++[s]):=by
    refine(A0 _ _ _ _).2 ⟨by simp[wV,wL,Am],?_,?_⟩
    ·have:wV (wL n s 1).eqs=wV n.eqs++[s]:=by simp[wV,wL,Am]
     rw[this]
     refine Defs.app.2 ⟨Kk km (by simp) n2 q2,?_,by simp⟩
     intro x hx
     simp only[aO] at hx
     subst hx
     exact⟨by simp,dC,by simpa using n2⟩
    ·intro q hq
     simp only[wL,ak,List.mem_replicate] at hq
     rcases hq with hq|⟨_,rfl⟩
     ·exact Hi km (q3 q hq)
     ·exact b7p _ _
   constructor
   ·refine Oj.2 ⟨d8 1 (by omega),h2,?_⟩
    simp only
    rw[Hf,hn]
    simp only[aY,zp]
    have:zc ns (xL en) (wL n s 1)=none:=by
     refine Oi.2 ⟨wV n.eqs++[s]++xb n.autos,?_⟩
     refine⟨hc.new,jd 1,?_,?_,hc.assume,hc.ensure,?_⟩
     ·rw[Ej]
      have:wV (wL n s 1).eqs=wV n.eqs++[s]:=by simp[wV,wL,Am]
      rw[this]
      exact mn
     ·rw[Ej]
      have:wV (wL n s 1).eqs=wV n.eqs++[s]:=by simp[wV,wL,Am]
      rw[this]
      refine Km _ _ _ _ _ _ km ?_ n3 hc.autos
      intro y hy
      rcases ak.1 hy with h6|h6
      ·exact .inl h6
      ·exact .inr (by simpa using h6)
     ·intro x hx
      have jM:=hc.all x
      rw[hc.c_eq] at jM
      have hg:wm (wL n s 1).locals=wm n.locals++[s]:=by simp[wm,wL,A5]
      rw[hg] at hx
      have ho:(wL n s 1).outs=n.outs:=rfl
      rw[ho] at hx
      simp only[ak,aO] at hx jM ⊢
      rcases hx with h6|h6|h6
      ·rcases jM (.inl h6) with h7|h7
       ·exact .inl (.inl h7)
       ·exact .inr h7
      ·rcases jM (.inr h6) with h7|h7
       ·exact .inl (.inl h7)
       ·exact .inr h7
      ·exact .inl (.inr h6)
    rw[this]
   ·unfold A1
    rw[d8 2 (by omega)]
    simp only
    rw[h2,ah rfl,Hf,hn]
    simp only[aY,zp]
    have u9:(wL n s 2).eqs=(wL n s 1).eqs++[Am s]:=by simp[wL,List.replicate]
    have dS:(wL n s 1).eqs.length=n.eqs.length+1:=by simp[wL]
    have kj:yn ⟨ns,wm (vars n)++[s],wm n.ins,xL en⟩ (Am s) (wV n.eqs++[s])=(7,[]):=by
     unfold yn
     have:Ao ⟨ns,wm (vars n)++[s],wm n.ins,xL en⟩ (Am s).left (wV n.eqs++[s])=(7,[]):=by
      simp[Am,Ao]
     rw[this]
     exact zO (by decide) _
    have iu:=Og ⟨ns,wm (vars n)++[s],wm n.ins,xL en⟩ (Am s) (wL n s 1).eqs 0 [] _ mn (by rw[kj]; decide)
    rw[kj,aR,dS] at iu
    have:zc ns (xL en) (wL n s 2)=some ⟨ns.length,n.eqs.length+1,7⟩:=by
     simp only[zc]
     have oK:(wL n s 2).name=n.name:=rfl
     have rZ:(wL n s 2).ins=n.ins:=rfl
     rw[oK,af hc.new,jd 2]
     simp only[ne_eq,bi,if_false]
     rw[Ej,u9,rZ,iu]
     simp
    rw[this]
end PI.Sc
set_option linter.unusedSimpArgs false
set_option linter.unusedVariables false
namespace PI.Sc
open Go (IntKind BinOp UnOp)
section
variable {L:Nat→Option PFunc} {Q:PExit→St→Prop}
theorem b53 {α:Type} {f:α→Int} {l:List α} {i:Nat} (hi:i<l.length) (h:f l[i]≠0) (hk:∀k (hk:k<l.length),k<i→f l[k]=0):ww f l=f l[i]:=
 OA hi h λk h1=>hk k (by omega) h1
theorem zM {α γ:Type} {c:PC} {V:List PV} {g:Nat} {h:List PObj} (l:List α) (f:α→Int) (M:Nat→γ→List (Nat×PV)) (G:Nat→γ→Nat) (H:Nat→γ→List PObj) (x0:γ)
  (step:∀i (hi:i<l.length),f l[i]=0→∀x,(∀y,wpL L (.loop c) ⟨upd V (M (i+1) y),[],G (i+1) y,H (i+1) y⟩ Q)→wpL L c ⟨upd V (M i x),[],G i x,H i x⟩ (xS L c Q))
  (fail:∀i (hi:i<l.length),f l[i]≠0→ww f l=f l[i]→∀x,wpL L c ⟨upd V (M i x),[],G i x,H i x⟩ (xS L c Q))
  (last:ww f l=0→∀x,wpL L c ⟨upd V (M l.length x),[],G l.length x,H l.length x⟩ (xS L c Q)) (hV:upd V (M 0 x0)=V) (hG:G 0 x0=g) (hH:H 0 x0=h):wpL L (.loop c) ⟨V,[],g,h⟩ Q:=by
 refine Kr l.length (λi=>if h:i<l.length then decide (f l[i]=0) else true) M G H x0 ?_ ?_ ?_ hV hG hH
 ·intro i hi cY x ih
  simp only[hi,dif_pos,aq] at cY
  exact step i hi cY x ih
 ·intro i hi cY hk x
  simp only[hi,dif_pos,bN] at cY
  refine fail i hi cY (b53 hi cY λk h1 h2 =>?_) x
  have:=hk k h2
  simp only[h1,dif_pos,aq] at this
  exact this
 ·intro cY x
  refine last (zd.2 ?_) x
  intro y hy
  obtain⟨k,hk,rfl⟩:=bK.1 hy
  have:=cY k hk
  simp only[hk,dif_pos,aq] at this
  exact this
theorem Kq {α γ:Type} {c:PC} {V:List PV} {g:Nat} {h:List PObj} (l:List α) (f:α→Int) (M:Nat→γ→List (Nat×PV)) (x0:γ)
  (step:∀i (hi:i<l.length),f l[i]=0→∀x,(∀y,wpL L (.loop c) ⟨upd V (M (i+1) y),[],g,h⟩ Q)→wpL L c ⟨upd V (M i x),[],g,h⟩ (xS L c Q))
  (fail:∀i (hi:i<l.length),f l[i]≠0→ww f l=f l[i]→∀x,wpL L c ⟨upd V (M i x),[],g,h⟩ (xS L c Q))
  (last:ww f l=0→∀x,wpL L c ⟨upd V (M l.length x),[],g,h⟩ (xS L c Q)) (hV:upd V (M 0 x0)=V):wpL L (.loop c) ⟨V,[],g,h⟩ Q:=
 zM l f M (λ_ _=>g) (λ_ _=>h) x0 step fail last hV rfl rfl
theorem c2w {γ:Type} {c:PC} {V:List PV} {g:Nat} {h:List PObj} (n:Nat) (M:Nat→γ→List (Nat×PV)) (G:Nat→γ→Nat) (H:Nat→γ→List PObj) (x0:γ)
  (step:∀i,i<n→∀x,(∀y,wpL L (.loop c) ⟨upd V (M (i+1) y),[],G (i+1) y,H (i+1) y⟩ Q)→wpL L c ⟨upd V (M i x),[],G i x,H i x⟩ (xS L c Q))
  (last:∀x,wpL L c ⟨upd V (M n x),[],G n x,H n x⟩ (xS L c Q)) (hV:upd V (M 0 x0)=V) (hG:G 0 x0=g) (hH:H 0 x0=h):wpL L (.loop c) ⟨V,[],g,h⟩ Q:=
 Kr n (λ_=>true) M G H x0 (λi hi _=>step i hi) (λ_ _ h=>by simp at h) (λ_=>last) hV hG hH
end
theorem xk {L:Nat→Option PFunc} {c:PC} {Q:PExit→St→Prop} (n:Nat) (Inv:Nat→St→Prop) {st:St}
  (step:∀i,i<n→∀st,Inv i st→(∀st',Inv (i+1) st'→wpL L (.loop c) st' Q)→wpL L c st (xS L c Q))
  (last:∀st,Inv n st→wpL L c st (xS L c Q)) (h0:Inv 0 st):wpL L (.loop c) st Q:=by
 have key:∀k i st,i+k=n→Inv i st→wpL L (.loop c) st Q:=by
  intro k
  induction k with
  | zero =>
    intro i st hi hh
    have:i=n:=by omega
    subst this
    rw[Aw]
    exact last st hh
  | succ k ih =>
    intro i st hi hh
    rw[Aw]
    exact step i (by omega) st hh λst' h'=>ih (i+1) st' (by omega) h'
 exact key n 0 st (by omega) h0
def wl {α:Type} (f:α→Nat):List α→Nat
 | []=>0
 | x::xs=>f x+wl f xs
theorem D9 {α:Type} (f:α→Nat):∀a b:List α,wl f (a++b)=wl f a+wl f b
 | [],b=>by simp[wl]
 | x::a,b=>by simp[wl,D9 f a b]; omega
theorem Cg {α:Type} (f:α→Nat) {x:α}:∀{l:List α},x∈l→f x≤wl f l
 | [],h=>by simp at h
 | y :: l, h => by
   simp only[wl]
   rcases ay.1 h with rfl|h
   ·omega
   ·have:=Cg f h; omega
theorem G9 {α:Type} (f:α→Nat) (h:∀x,1≤f x):∀l:List α,l.length≤wl f l
 | []=>by simp
 | x::l=>by have:=h x; have:=G9 f h l; simp only[wl,aP]; omega
theorem Hp {α β:Type} (g:α→List β) (f:α→Nat):∀l:List α,(∀x∈l,(g x).length≤f x)→(l.flatMap g).length≤wl f l
 | [],_=>by simp
 | x :: l, h => by
   have h1:=h x (by simp)
   have h2:=Hp g f l (λy hy=>h y (by simp[hy]))
   simp only[bc,ap,wl]; omega
def Expr.parts (e:Expr):Nat:=e.list.length
def Eqn.parts (q:Eqn):Nat:=1+q.left.length+q.right.parts
def Decl.parts (d:Decl):Nat:=1+d.clock.length+d.name.length / 100
def Trn.parts (t:Trn):Nat:=1+t.cond.parts
mutual
def State.parts:State→Nat
 | .mk n l e a u w=>1+wl Decl.parts l+wl Eqn.parts e+wl Trn.parts u+wl Trn.parts w+yi a
def AI:List State→Nat
 | []=>0
 | x::xs=>x.parts+AI xs
def yi:List (List State)→Nat
 | []=>0
 | x::xs=>1+AI x+yi xs
end
theorem DY:∀l:List State,AI l=wl State.parts l
 | []=>rfl
 | x::l=>by simp[AI,wl,DY l]
theorem E5:∀l:List (List State),yi l=wl (λa=>1+wl State.parts a) l
 | []=>rfl
 | x::l=>by simp[yi,wl,E5 l,DY]
def Node.parts (n:Node):Nat:=1+wl Decl.parts n.ins+wl Decl.parts n.outs+wl Decl.parts n.locals+wl Eqn.parts n.eqs+wl (λe=>1+Expr.parts e) n.assume+wl (λe=>1+Expr.parts e) n.ensure+yi n.autos
def Enum.parts (u:Enum):Nat:=1+u.tags.length
def parts (p:Prog):Nat:=wl Enum.parts p.enums+wl Node.parts p.nodes
def Ft (p:Prog):Bool:=decide (1500≤parts p)
theorem Kn (e:Expr):(AM e).length≤e.parts:=by
 unfold AM Expr.parts
 rw[aN]
 exact List.length_filter_le ..
theorem Ot (l:List Decl):(Bu l).length≤wl Decl.parts l:=by
 induction l with
 | nil=>simp[Bu,wm,wl]
 | cons d l ih =>
   unfold Bu wm at *
   simp only[aC,aJ,bc,aP,ap,aN,wl,Decl.parts] at *
   omega
theorem Ou (l:List Eqn):(l.flatMap (·.left)).length+((l.map (·.right)).flatMap AM).length≤wl Eqn.parts l:=by
 induction l with
 | nil=>simp[wl]
 | cons q l ih =>
   have:=Kn q.right
   simp only[aC,bc,ap,wl,Eqn.parts] at *
   omega
theorem Ov (l:List Trn):((l.map (·.cond)).flatMap AM).length≤wl Trn.parts l:=by
 induction l with
 | nil=>simp[wl]
 | cons q l ih =>
   have:=Kn q.cond
   simp only[aC,bc,ap,wl,Trn.parts] at *
   omega
theorem Ow (l:List Expr):(l.flatMap AM).length≤wl (λe=>1+Expr.parts e) l:=
 Hp _ _ l λx _=>by have:=Kn x; omega
mutual
theorem b9h:∀s:State,(Cl s).length+((Fz s).flatMap AM).length≤s.parts
 | .mk n l e a u w => by
   have h1:=Ot l
   have h2:=Ou e
   have h3:=Ov u
   have h4:=Ov w
   have h5:=Ko a
   simp only[Cl,Fz,bu,ap,aP,State.parts,aJ] at *
   omega
theorem Ox:∀l:List State,(A8 l).length+((CQ l).flatMap AM).length≤AI l
 | []=>by simp[A8,CQ,AI]
 | s :: l => by
   have h1:=b9h s
   have h2:=Ox l
   simp only[A8,CQ,bu,ap,AI]
   omega
theorem Ko:∀l:List (List State),(yL l).length+((zL l).flatMap AM).length≤yi l
 | []=>by simp[yL,zL,yi]
 | s :: l => by
   have h1:=Ox s
   have h2:=Ko l
   simp only[yL,zL,bu,ap,yi]
   omega
end
theorem b50 (n:Node):(Cm n).length≤n.parts:=by
 have h1:=Ot (vars n)
 have h2:=Ou n.eqs
 have h3:=Ko n.autos
 have h4:=Ow n.assume
 have h5:=Ow n.ensure
 unfold Cm Dh Node.parts
 unfold vars at h1 ⊢
 simp only[D9] at h1
 simp only[bu,ap,aP,aJ] at *
 omega
theorem NM (p:Prog):(Az p).length≤parts p:=by
 unfold Az parts
 rw[ap]
 have h1:=Hp (λu:Enum=>u.name::u.tags) Enum.parts p.enums (λu _=>by simp[Enum.parts]; omega)
 have h2:=Hp Cm Node.parts p.nodes (λn _=>b50 n)
 omega
def Cap (m n T:Int):Prop:=(n<m↔T<m)∧(n<m→n=T)
theorem Cap.refl (m n:Int):Cap m n n:=⟨Iff.rfl,λ_=>rfl⟩
theorem Cap.min {m T:Int}:Cap m (if T<m then T else m) T:=by unfold Cap; split<;>omega
theorem Cap.add {m a b A B:Int} (h1:Cap m a A) (h2:Cap m b B) (p1:0≤a) (p2:0≤b) (p3:0≤A) (p4:0≤B):Cap m (a+b) (A+B):=by unfold Cap at *; omega
end PI.Sc
set_option maxRecDepth 100000
set_option linter.unusedSimpArgs false
set_option linter.unusedVariables false
namespace PI.Sc
open Go (IntKind BinOp UnOp)
theorem yD {α:Type} {l:List α} {i:Nat} (h:i<l.length):l.take (i+1)=l.take i++[l[i]]:=by rw[bV,av h]; rfl
theorem zN {α:Type} (f:α→Nat) {l:List α} {i:Nat} (h:i<l.length):wl f (l.take (i+1))=wl f (l.take i)+f l[i]:=by rw[yD h,D9]; simp[wl]
theorem parts_eq (e:Expr):e.parts=1+wl Expr.parts e.args:=by
 unfold Expr.parts
 rw[Expr.list_eq]
 have:∀l:List Expr,(l.flatMap Expr.list).length=wl (λx=>x.list.length) l:=by
  intro l
  induction l with
  | nil=>rfl
  | cons x l ih=>simp only[bc,ap,wl,ih]
 simp only[aP,this]
 show _=1+wl (λe=>e.list.length) e.args
 omega
theorem c03 (e:Expr):1≤e.parts:=by rw[parts_eq]; omega
theorem c2H (e:Expr):e.args.length<e.parts:=by
 have:=G9 Expr.parts c03 e.args
 rw[parts_eq]; omega
theorem c04 {e x:Expr} (h:x∈e.args):x.parts<e.parts:=by
 have:=Cg Expr.parts h
 rw[parts_eq e]; omega
theorem MM (n:Nat) (h:n≤9223372036854775807):IntKind.i64.wrap (n:Int)=n:=xD _ (by omega) (by omega)
theorem b9t {e:Expr} (h:e.parts≤1600):e.size=e.parts:=by unfold Expr.size; exact MM _ (by unfold Expr.parts at h; omega)
def EW (e:Expr):Prop:=∀x∈e.list,Al x.t∧Al x.v∧x.args.length≤140737488355328
theorem EW.self {e:Expr} (h:EW e):Al e.t∧Al e.v∧e.args.length≤140737488355328:=h e (by rw[Expr.list_eq]; simp)
theorem EW.arg {e x:Expr} (h:EW e) (hx:x∈e.args):EW x:=λy hy=>h y (by rw[Expr.list_eq]; exact bC _ (bJ.2 ⟨x,hx,hy⟩))
theorem EW.mem {e x:Expr} (h:EW e) (hx:x∈e.list):EW x:=by
 induction e using Expr.ind with
 | h e ih =>
   rw[Expr.list_eq] at hx
   rcases ay.1 hx with rfl|hx
   ·exact h
   ·obtain⟨y,hy,hx⟩:=bJ.1 hx
    exact ih y hy (h.arg hy) hx
@[simp] theorem d4x (a b:Int):(a==b)=decide (a=b):=by rw[aI]; simp
@[simp] theorem d4y (a b:Int):(a != b) = !decide (a=b):=by rw[aI]; simp
@[simp] theorem d4z (a b:Str):(a==b)=decide (a=b):=by rw[aI]; simp
@[simp] theorem d4A (a b:Str):(a != b) = !decide (a=b):=by rw[aI]; simp
@[simp] theorem d4B (a b:Bool):(a==b)=decide (a=b):=by cases a<;>cases b<;>rfl
theorem O1 (k:Int):k<1∨k=1∨k=2∨k=3∨k=4∨k=5∨k=6∨k=7∨k=8∨k=9∨k=10∨k=11∨11<k:=by omega
@[simp] theorem c9e (cs:List PV):(PV.agg cs).cells=cs:=rfl
def yH (s:Str):List PV:=s.map λb => .bool (b==49)
theorem OZ (b:UInt8):yA b=true↔b.toNat=48∨b.toNat=49:=by
 unfold yA
 simp only[bA,bo,← UInt8.toNat_inj]
 rfl
theorem d3p (b:UInt8):(b==49)=decide ((b.toNat:Int)=49):=by
 rw[aI,bo,aq,← UInt8.toNat_inj]
 show b.toNat=49↔_
 omega
theorem Kv (s:Str):wK (yH s)=true:=by unfold yH; exact A6 (λ_=>rfl) s
theorem O0 (s:Str):(yH s).length=s.length:=by simp[yH]
class TF (p:Prop) (r:outParam Prop):Prop where
 fact:p→r
instance (priority:=low) tfPos (p:Prop):TF p (p=True):=⟨eq_true⟩
instance tfNeg (p:Prop):TF (¬p) (p=False):=⟨eq_false⟩
theorem tf {p r:Prop} [TF p r] (h:p):r:=TF.fact h
theorem kfs {k c:Int} (h:k=c):(k=1)=(c=1)∧(k=2)=(c=2)∧(k=3)=(c=3)∧(k=4)=(c=4)∧(k=5)=(c=5)∧(k=6)=(c=6)∧(k=7)=(c=7)∧(k=8)=(c=8)∧(k=9)=(c=9)∧(k=10)=(c=10)∧(k=11)=(c=11)∧(k<1)=(c<1)∧(11<k)=(11<c)∧(1≤k)=(1≤c)∧(k≤11)=(c≤11):=by subst h; simp
end PI.Sc
set_option maxRecDepth 100000
set_option linter.unusedSimpArgs false
set_option linter.unusedVariables false
namespace PI.Sc
open Go (IntKind BinOp UnOp)
open Short
structure XW (e:Expr):Prop where
 parts:e.parts≤1600
 ew:EW e
structure DW (d:Decl):Prop where
 type:Al d.type
 clock:d.clock.length≤1600
 on:∀o∈d.clock,Al o.t
structure QW (q:Eqn):Prop where
 left:q.left.length≤1600
 right:XW q.right
inductive SW:State→Prop
 | mk (s:State) (locals:s.locals.length≤1600) (ls:∀d∈s.locals,DW d) (eqs:s.eqs.length≤1600) (es:∀q∈s.eqs,QW q) (unl:s.unl.length≤1600) (us:∀t∈s.unl,XW t.cond) (til:s.til.length≤1600) (ts:∀t∈s.til,XW t.cond) (autos:s.autos.length≤1600) (as:∀a∈s.autos,a.length≤1600) (ss:∀a∈s.autos,∀x∈a,SW x):SW s
theorem SW.locals {s:State}:SW s→s.locals.length≤1600 | .mk _ h .. => h
theorem SW.ls {s:State}:SW s→∀d∈s.locals,DW d | .mk _ _ h .. => h
theorem SW.eqs {s:State}:SW s→s.eqs.length≤1600 | .mk _ _ _ h .. => h
theorem SW.es {s:State}:SW s→∀q∈s.eqs,QW q | .mk _ _ _ _ h .. => h
theorem SW.unl {s:State}:SW s→s.unl.length≤1600 | .mk _ _ _ _ _ h .. => h
theorem SW.us {s:State}:SW s→∀t∈s.unl,XW t.cond | .mk _ _ _ _ _ _ h .. => h
theorem SW.til {s:State}:SW s→s.til.length≤1600 | .mk _ _ _ _ _ _ _ h .. => h
theorem SW.ts {s:State}:SW s→∀t∈s.til,XW t.cond | .mk _ _ _ _ _ _ _ _ h .. => h
theorem SW.autos {s:State}:SW s→s.autos.length≤1600 | .mk _ _ _ _ _ _ _ _ _ h .. => h
theorem SW.as {s:State}:SW s→∀a∈s.autos,a.length≤1600 | .mk _ _ _ _ _ _ _ _ _ _ h _=>h
theorem SW.ss {s:State}:SW s→∀a∈s.autos,∀x∈a,SW x | .mk _ _ _ _ _ _ _ _ _ _ _ h=>h
structure AsW (l:List (List State)):Prop where
 len:l.length≤1600
 as:∀a∈l,a.length≤1600
 ss:∀a∈l,∀x∈a,SW x
theorem SW.asW {s:State} (h:SW s):AsW s.autos:=⟨h.autos,h.as,h.ss⟩
structure NW (n:Node):Prop where
 ins:n.ins.length≤1600
 is:∀d∈n.ins,DW d
 outs:n.outs.length≤1600
 os:∀d∈n.outs,DW d
 locals:n.locals.length≤1600
 ls:∀d∈n.locals,DW d
 eqs:n.eqs.length≤1600
 es:∀q∈n.eqs,QW q
 autos:AsW n.autos
 assume:n.assume.length≤1600
 as:∀e∈n.assume,XW e
 ensure:n.ensure.length≤1600
 gs:∀e∈n.ensure,XW e
structure PW (p:Prog):Prop where
 enums:p.enums.length≤1600
 tags:∀u∈p.enums,u.tags.length≤1600
 nodes:p.nodes.length≤1600
 ns:∀n∈p.nodes,NW n
section
variable {L:Nat→Option PFunc} {Q:PExit→St→Prop}
theorem Kx {α γ:Type} {c:PC} {V:List PV} {g:Nat} {h:List PObj} (l:List α) (ok:Nat→α→Bool) (M:Nat→γ→List (Nat×PV)) (G:Nat→γ→Nat) (H:Nat→γ→List PObj) (x0:γ)
  (step:∀i (hi:i<l.length),ok i l[i]=true→∀x,(∀y,wpL L (.loop c) ⟨upd V (M (i+1) y),[],G (i+1) y,H (i+1) y⟩ Q)→wpL L c ⟨upd V (M i x),[],G i x,H i x⟩ (xS L c Q))
  (fail:∀i (hi:i<l.length),ok i l[i]=false→(∀k (hk:k<l.length),k<i→ok k l[k]=true)→∀x,wpL L c ⟨upd V (M i x),[],G i x,H i x⟩ (xS L c Q))
  (last:(∀k (hk:k<l.length),ok k l[k]=true)→∀x,wpL L c ⟨upd V (M l.length x),[],G l.length x,H l.length x⟩ (xS L c Q)) (hV:upd V (M 0 x0)=V) (hG:G 0 x0=g) (hH:H 0 x0=h):wpL L (.loop c) ⟨V,[],g,h⟩ Q:=by
 refine Kr l.length (λi=>if h:i<l.length then ok i l[i] else true) M G H x0 ?_ ?_ ?_ hV hG hH
 ·intro i hi cY x ih
  simp only[hi,dif_pos] at cY
  exact step i hi cY x ih
 ·intro i hi cY hk x
  simp only[hi,dif_pos] at cY
  refine fail i hi cY (λk h1 h2 =>?_) x
  have:=hk k h2
  simpa only[h1,dif_pos] using this
 ·intro cY x
  refine last (λk hk =>?_) x
  have:=cY k hk
  simpa only[hk,dif_pos] using this
theorem c2L {α γ:Type} {c:PC} {V:List PV} {g:Nat} {h:List PObj} (l:List α) (ok:Nat→α→Bool) (M:Nat→γ→List (Nat×PV)) (x0:γ)
  (step:∀i (hi:i<l.length),ok i l[i]=true→∀x,(∀y,wpL L (.loop c) ⟨upd V (M (i+1) y),[],g,h⟩ Q)→wpL L c ⟨upd V (M i x),[],g,h⟩ (xS L c Q))
  (fail:∀i (hi:i<l.length),ok i l[i]=false→(∀k (hk:k<l.length),k<i→ok k l[k]=true)→∀x,wpL L c ⟨upd V (M i x),[],g,h⟩ (xS L c Q))
  (last:(∀k (hk:k<l.length),ok k l[k]=true)→∀x,wpL L c ⟨upd V (M l.length x),[],g,h⟩ (xS L c Q)) (hV:upd V (M 0 x0)=V):wpL L (.loop c) ⟨V,[],g,h⟩ Q:=
 Kx l ok M (λ_ _=>g) (λ_ _=>h) x0 step fail last hV rfl rfl
end
theorem O8 {α:Type} {f:α→Int}:∀{l:List α} {i j:Nat} (hi:i<l.length),f l[i]≠0→(∀k (hk:k<l.length),k<i→f l[k]=0)→Ap f l j=some (j+i,f l[i])
 | [],i,j,hi,_,_=>by simp at hi
 | x::l,0,j,hi,h,_=>by simp only[bO] at h; simp[Ap,h]
 | x :: l, i + 1, j, hi, h, hk => by
   have h0:=hk 0 (by simp) (by omega)
   simp only[bO] at h0
   simp only[co] at h
   simp only[Ap,h0,if_true,co]
   rw[O8 (l:=l) (i:=i) (by simpa using hi) h (λk dh h1=>by have:=hk (k+1) (by simpa using dh) (by omega); simpa using this)]
   congr 2; omega
theorem O9 {en:List Enum}:∀{l:List Node} {i j:Nat} (hi:i<l.length) {b:Bad},yT en l[i] (j+i)=some b→(∀k (hk:k<l.length),k<i→yT en l[k] (j+k)=none)→z8 en l j=some b
 | [],i,j,hi,b,_,_=>by simp at hi
 | x::l,0,j,hi,b,h,_=>by simp only[bO,bp] at h; simp[z8,h]
 | x :: l, i + 1, j, hi, b, h, hk => by
   have h0:=hk 0 (by simp) (by omega)
   simp only[bO,bp] at h0
   simp only[co] at h
   simp only[z8,h0]
   exact O9 (l:=l) (i:=i) (by simpa using hi) (by rw[show j+1+i=j+(i+1) by omega]; exact h) (λk dh h1=>by have:=hk (k+1) (by simpa using dh) (by omega); rw[show j+1+k=j+(k+1) by omega]; simpa using this)
theorem Pa {en:List Enum}:∀{l:List Node} {j:Nat},(∀k (hk:k<l.length),yT en l[k] (j+k)=none)→z8 en l j=none
 | [],j,_=>rfl
 | x :: l, j, h => by
   have h0:=h 0 (by simp)
   simp only[bO,bp] at h0
   simp only[z8,h0]
   exact Pa (λk hk=>by have:=h (k+1) (by simpa using hk); rw[show j+1+k=j+(k+1) by omega]; simpa using this)
def zP (b:Bad):PV := .tuple [.agg [.int .i64 b.node,.int .i64 b.eq],.int .i64 b.err]
def ePl (en:List Enum) (ns:List Node) (i:Int) (v x t:List Str):PV := .agg [.list false (en.map wE),.list false (ns.map wA),.int .i64 i,.list false (v.map .str),.list false (x.map .str),.list false (t.map .str)]
section
variable (en:List Enum) (ns:List Node) (i:Int) (v x t:List Str)
theorem c5C:ePl en ns i v x t = .agg [.list false (en.map wE),.list false (ns.map wA),.int .i64 i,.list false (v.map .str),.list false (x.map .str),.list false (t.map .str)]:=rfl
@[simp] theorem c9f:(ePl en ns i v x t).cells=[.list false (en.map wE),.list false (ns.map wA),.int .i64 i,.list false (v.map .str),.list false (x.map .str),.list false (t.map .str)]:=rfl
@[simp] theorem d29:cp (ePl en ns i v x t)=some (ePl en ns i v x t):=rfl
@[simp] theorem d2i:tkv (ePl en ns i v x t)=some (ePl en ns i v x t,false):=rfl
@[simp] theorem c3R:An (ePl en ns i v x t)=some (ePl en ns i v x t).cells:=rfl
@[simp] theorem d2j:dem (ePl en ns i v x t)=ePl en ns i v x t:=rfl
@[simp] theorem d0W:zy (ePl en ns i v x t)=ePl en ns i v x t:=rfl
@[simp] theorem d0X:xt (ePl en ns i v x t)=none:=rfl
@[simp] theorem c2M:PV.agg [.list false (en.map wE),.list false (ns.map wA),.int .i64 i,.list false (v.map .str),.list false (x.map .str),.list false (t.map .str)]=ePl en ns i v x t:=rfl
@[simp] theorem d0Y:wN (ePl en ns i v x t)=true:=by rw[c5C]; simp[-c2M]
end
@[simp] theorem d0Z:PV.agg [.str [],.list false [],.list false [],.list false [],.list false [],.list false [],.list false [],.list false []]=wA ⟨[],[],[],[],[],[],[],[]⟩:=rfl
theorem State.ind {P:State→Prop} (h:∀s:State,(∀a∈s.autos,∀x∈a,P x)→P s):∀s,P s:=by
 intro s
 refine State.rec (motive_1:=P) (motive_2:=λl:List (List State)=>∀a∈l,∀x∈a,P x) (motive_3:=λl:List State=>∀x∈l,P x) ?_ ?_ ?_ ?_ ?_ s
 ·intro n l e a u w ih; exact h _ ih
 ·simp
 ·intro a l h1 h2 b hb x hx
  rcases ay.1 hb with rfl|hb
  ·exact h1 x hx
  ·exact h2 b hb x hx
 ·simp
 ·intro x l h1 h2 y hy
  rcases ay.1 hy with rfl|hy
  ·exact h1
  ·exact h2 y hy
def yI (s:Place) (d:List Str) (x:List State):EN:=
 if ¬(x.map (·.name)).Nodup then(7,[])
 else if (xA s d x).1≠0 then((xA s d x).1,[])
 else if (xA s d x).2.all (λl=>B1 l ((xA s d x).2.headD [])) then(0,(xA s d x).2.headD [])
 else(8,[])
theorem IZ (s:Place) (d:List Str) (x:List State) (xs:List (List State)):xj s d (x::xs)=yt (yI s d x) λl=>xj s (d++l) xs:=by
 simp only[xj,yI]
 by_cases h1:(x.map (·.name)).Nodup
 ·simp only[h1,bi,if_false]
  by_cases h2:(xA s d x).1=0
  ·simp only[h2,ne_eq,bi,if_false]
   split
   ·rfl
   ·exact(zO (a:=(8,[])) (by decide) _).symm
  ·simp only[h2,ne_eq,cm,if_true]
   exact(zO (a:=((xA s d x).1,[])) h2 _).symm
 ·simp only[h1,cm,if_true]
  exact(zO (a:=(7,[])) (by decide) _).symm
theorem OM {s:Place} {d:List Str}:∀{l:List State},(∀x∈l,(yM s d x).1=0)→xA s d l=(0,l.map λx=>(yM s d x).2)
 | [],_=>rfl
 | x :: l, h => by
   have h1:=h x (by simp)
   have h2:=OM (l:=l) (λy hy=>h y (by simp[hy]))
   simp only[xA,h1,if_true,h2,aC]
theorem ON {s:Place} {d:List Str}:∀{l:List State} {i:Nat} (hi:i<l.length),(yM s d l[i]).1≠0→(∀k (hk:k<l.length),k<i→(yM s d l[k]).1=0)→xA s d l=((yM s d l[i]).1,[])
 | [],i,hi,_,_=>by simp at hi
 | x :: l, 0, hi, h, _ => by
   simp only[bO] at h
   simp only[xA,bO]
   rw[af h]
 | x :: l, i + 1, hi, h, hk => by
   have h0:=hk 0 (by simp) (by omega)
   simp only[bO] at h0
   simp only[co] at h
   have ih:=ON (l:=l) (i:=i) (by simpa using hi) h (λk dh h1=>by have:=hk (k+1) (by simpa using dh) (by omega); simpa using this)
   simp only[xA,h0,if_true,ih,co]
   rw[af h]
theorem Ks {α:Type}:∀{l:List α},l.Nodup↔∀i (hi:i<l.length),l[i]∉l.take i:=by
 intro l
 rw[List.nodup_iff_pairwise_ne,List.pairwise_iff_getElem]
 constructor
 ·intro h i hi hm
  obtain⟨j,hj,e⟩:=bK.1 hm
  have qk:j<i:=by simp at hj; omega
  simp only[List.getElem_take] at e
  exact h j i (by omega) hi qk e
 ·intro h i j hi hj nB e
  refine h j hj ?_
  rw[← e,List.mem_take_iff_getElem]
  exact⟨i,by omega,rfl⟩
theorem Defs.len {s:Place} {d xs:List Str} (h:Defs s d xs):xs.length≤s.vis.length:=Hg _ _ h.2 λx hx=>(h.1 x hx).1
theorem State.parts_eq (x:State):x.parts=1+wl Decl.parts x.locals+wl Eqn.parts x.eqs+wl Trn.parts x.unl+wl Trn.parts x.til+yi x.autos:=by
 cases x; simp only[State.parts,State.locals_mk,State.eqs_mk,State.autos_mk,State.unl_mk,State.til_mk]
def Sub (d vis:List Str):Prop:=d.Nodup∧∀y∈d,y∈vis
theorem Sub.len {d vis:List Str} (h:Sub d vis):d.length≤vis.length:=Hg _ _ h.1 h.2
theorem Sub.app {s:Place} {d xs:List Str} (h:Sub d s.vis) (hx:Defs s d xs):Sub (d++xs) s.vis:=by
 refine⟨Fu.2 ⟨h.1,hx.2,λx hm=>(hx.1 x hm).2.2⟩,λy hy =>?_⟩
 rcases ak.1 hy with h1|h1
 ·exact h.2 y h1
 ·exact(hx.1 y h1).1
theorem OO (s:Place):∀(l:List Eqn) (k:Nat) (d:List Str) (i:Nat) (e:Int),zI s l k d = .inl (i,e)→e≠0
 | [],k,d,i,e,h=>by simp[zI] at h
 | q :: l, k, d, i, e, h => by
   simp only[zI] at h
   split at h
   ·exact OO s l _ _ _ _ h
   ·rename_i da
    simp only[Sum.inl.injEq,ac] at h
    rw[← h.2]; exact da
theorem b9k {before:List Node} {tags:List Str} {n:Node} {b:Bad} (h:zc before tags n=some b):b.node=before.length∧b.err≠0:=by
 simp only[zc] at h
 split at h
 ·simp only[aa] at h; subst h; exact⟨rfl,by simp⟩
 ·split at h
  ·rename_i h1
   simp only[aa] at h; subst h; exact⟨rfl,h1⟩
  ·split at h
   ·rename_i k e hq
    simp only[aa] at h; subst h; exact⟨rfl,OO _ _ _ _ _ _ hq⟩
   ·split at h
    ·rename_i h1
     simp only[aa] at h; subst h; exact⟨rfl,h1⟩
    ·split at h
     ·rename_i h1
      simp only[aa] at h; subst h; exact⟨rfl,h1⟩
     ·split at h
      ·rename_i h1
       simp only[aa] at h; subst h; exact⟨rfl,h1⟩
      ·split at h
       ·simp at h
       ·simp only[aa] at h; subst h; exact⟨rfl,by simp⟩
theorem MB {α:Type} {T l:List α}:(T++l).Nodup↔T.Nodup∧∀k (hk:k<l.length),l[k]∉T++l.take k:=by
 rw[Fu,Ks (l:=l)]
 constructor
 ·rintro⟨h1,h2,h3⟩
  refine⟨h1,λk hk hm =>?_⟩
  rcases ak.1 hm with h|h
  ·exact h3 _ (ai hk) h
  ·exact h2 k hk h
 ·rintro⟨h1,h2⟩
  refine⟨h1,λk hk hm=>h2 k hk (bG _ hm),λx hx hm =>?_⟩
  obtain⟨k,hk,rfl⟩:=bK.1 hx
  exact h2 k hk (bq _ hm)
def Ch (en:List Enum) (i:Nat) (u:Enum):Bool:=decide (u.name∉(en.take i).map (·.name)∧(xL (en.take i)++u.tags).Nodup)
theorem Gu {en:List Enum} {i:Nat} (h:i<en.length):xL (en.take (i+1))=xL (en.take i)++en[i].tags:=by unfold xL; rw[yD h,bu]; simp
theorem MC {en:List Enum}:BU en=true↔∀i (hi:i<en.length),Ch en i en[i]=true:=by
 unfold BU Ch
 simp only[aq]
 constructor
 ·rintro⟨h1,h2⟩ i hi
  constructor
  ·have:=(Ks.1 h1) i (by simpa using hi)
   rw[← List.map_take] at this
   simpa using this
  ·rw[← Gu hi]
   refine h2.sublist ?_
   unfold xL
   have:en.flatMap (·.tags)=(en.take (i+1)).flatMap (·.tags)++(en.drop (i+1)).flatMap (·.tags):=by rw[← bu,b8]
   rw[this]
   exact List.sublist_append_left _ _
 ·intro h
  constructor
  ·rw[Ks]
   intro i hi
   have:=(h i (by simpa using hi)).1
   rw[← List.map_take]; simpa using this
  ·cases hn:en.length with
   | zero=>have:en=[]:=bj.1 hn; subst this; simp[xL]
   | succ m =>
     have:=(h m (by omega)).2
     rw[← Gu (by omega),← hn,aB] at this
     exact this
theorem b9l {en:List Enum} {i:Nat} (hi:i≤en.length) (h:∀k (hk:k<en.length),k<i→Ch en k en[k]=true):(xL (en.take i)).Nodup:=by
 cases i with
 | zero=>simp[xL]
 | succ i =>
   have:=h i (by omega) (by omega)
   unfold Ch at this
   simp only[aq] at this
   rw[Gu (by omega)]; exact this.2
theorem ME {p:Prog} {b:Bad} (hs:zV p=some b):b.err≠0:=by
 intro he
 unfold zV at hs
 split at hs
 ·simp only[aa] at hs; rw[← hs] at he; exact absurd he (by decide)
 ·split at hs
  ·rename_i h1; simp only[aa] at hs; rw[← hs] at he; exact h1 he
  ·have key:∀(l:List Node) (j:Nat),z8 p.enums l j=some b→b.err≠0:=by
    intro l
    induction l with
    | nil=>intro j hj; simp[z8] at hj
    | cons n l ih =>
      intro j hj
      simp only[z8] at hj
      cases hn:yT p.enums n j with
      | none=>rw[hn] at hj; exact ih _ hj
      | some y =>
        rw[hn] at hj
        simp only[aa] at hj
        subst hj
        unfold yT at hn
        split at hn
        ·rename_i h1; simp only[aa] at hn; rw[← hn]; exact h1
        ·split at hn
         ·rename_i k e hf
          have:∀(l:List Eqn) (m:Nat),Ap (Aa p.enums) l m=some (k,e)→e≠0:=by
           intro l
           induction l with
           | nil=>intro m hm; simp[Ap] at hm
           | cons q l ih2 =>
             intro m hm
             simp only[Ap] at hm
             split at hm
             ·exact ih2 _ hm
             ·rename_i h2; simp only[aa,ac] at hm; rw[← hm.2]; exact h2
          simp only[aa] at hn; rw[← hn]; exact this _ _ hf
         ·split at hn
          ·rename_i h1; simp only[aa] at hn; rw[← hn]; exact h1
          ·simp at hn
   exact key _ _ hs he
structure DF (d:Decl):Prop where
 type:Al d.type
 clock:d.clock.length≤140737488355328
 name:d.name.length≤9223372036854775807
 on:∀o∈d.clock,Al o.t
structure QF (q:Eqn):Prop where
 left:q.left.length≤140737488355328
 right:EW q.right
inductive SF:State→Prop
 | mk (s:State) (locals:s.locals.length≤140737488355328) (ls:∀d∈s.locals,DF d) (eqs:s.eqs.length≤140737488355328) (es:∀q∈s.eqs,QF q) (unl:s.unl.length≤140737488355328) (us:∀t∈s.unl,EW t.cond) (til:s.til.length≤140737488355328) (ts:∀t∈s.til,EW t.cond) (autos:s.autos.length≤140737488355328) (as:∀a∈s.autos,a.length≤140737488355328) (ss:∀a∈s.autos,∀x∈a,SF x):SF s
theorem SF.locals {s:State}:SF s→s.locals.length≤140737488355328 | .mk _ h .. => h
theorem SF.ls {s:State}:SF s→∀d∈s.locals,DF d | .mk _ _ h .. => h
theorem SF.eqs {s:State}:SF s→s.eqs.length≤140737488355328 | .mk _ _ _ h .. => h
theorem SF.es {s:State}:SF s→∀q∈s.eqs,QF q | .mk _ _ _ _ h .. => h
theorem SF.unl {s:State}:SF s→s.unl.length≤140737488355328 | .mk _ _ _ _ _ h .. => h
theorem SF.us {s:State}:SF s→∀t∈s.unl,EW t.cond | .mk _ _ _ _ _ _ h .. => h
theorem SF.til {s:State}:SF s→s.til.length≤140737488355328 | .mk _ _ _ _ _ _ _ h .. => h
theorem SF.ts {s:State}:SF s→∀t∈s.til,EW t.cond | .mk _ _ _ _ _ _ _ _ h .. => h
theorem SF.autos {s:State}:SF s→s.autos.length≤140737488355328 | .mk _ _ _ _ _ _ _ _ _ h .. => h
theorem SF.as {s:State}:SF s→∀a∈s.autos,a.length≤140737488355328 | .mk _ _ _ _ _ _ _ _ _ _ h _=>h
theorem SF.ss {s:State}:SF s→∀a∈s.autos,∀x∈a,SF x | .mk _ _ _ _ _ _ _ _ _ _ _ h=>h
structure AsF (l:List (List State)):Prop where
 len:l.length≤140737488355328
 as:∀a∈l,a.length≤140737488355328
 ss:∀a∈l,∀x∈a,SF x
theorem SF.asF {s:State} (h:SF s):AsF s.autos:=⟨h.autos,h.as,h.ss⟩
structure NF (n:Node):Prop where
 ins:n.ins.length≤140737488355328
 is:∀d∈n.ins,DF d
 outs:n.outs.length≤140737488355328
 os:∀d∈n.outs,DF d
 locals:n.locals.length≤140737488355328
 ls:∀d∈n.locals,DF d
 eqs:n.eqs.length≤140737488355328
 es:∀q∈n.eqs,QF q
 autos:AsF n.autos
 assume:n.assume.length≤140737488355328
 as:∀e∈n.assume,EW e
 ensure:n.ensure.length≤140737488355328
 gs:∀e∈n.ensure,EW e
structure PF (p:Prog):Prop where
 enums:p.enums.length≤140737488355328
 tags:∀u∈p.enums,u.tags.length≤140737488355328
 nodes:p.nodes.length≤140737488355328
 ns:∀n∈p.nodes,NF n
theorem c83 (n:Nat):Int.tdiv (n:Int) 100=((n / 100:Nat):Int):=by
 rw[Int.tdiv_eq_ediv_of_nonneg (by omega)]; omega
theorem CT {α:Type} (f:α→Nat):∀l:List α,wl (λx=>1+f x) l=l.length+wl f l
 | []=>rfl
 | x::l=>by simp only[wl,CT f l,aP]; omega
section
variable {L:Nat→Option PFunc} {Q:PExit→St→Prop}
theorem Cp {γ:Type} {c:PC} {V:List PV} {g:Nat} {h:List PObj} (len:Nat) (m:Int) (T:Nat→Int) (B:Int) (M:Nat→Int→γ→List (Nat×PV)) (G:Nat→γ→Nat) (n0:Int) (x0:γ)
  (mono:∀i,i<len→T i≤T (i+1)) (h0:Cap m n0 (T 0)∧0≤n0∧n0≤B)
  (step:∀i,i<len→∀n,n<m→n=T i→0≤n→∀x,(∀n' y,Cap m n' (T (i+1))→0≤n'→n'≤B→wpL L (.loop c) ⟨upd V (M (i+1) n' y),[],G (i+1) y,h⟩ Q)→wpL L c ⟨upd V (M i n x),[],G i x,h⟩ (xS L c Q))
  (stop:∀i,i≤len→∀n,(m≤n∨i=len)→Cap m n (T len)→0≤n→n≤B→∀x,wpL L c ⟨upd V (M i n x),[],G i x,h⟩ (xS L c Q))
  (hV:upd V (M 0 n0 x0)=V) (hG:G 0 x0=g):wpL L (.loop c) ⟨V,[],g,h⟩ Q:=by
 have mono':∀d i,i+d=len→T i≤T len:=by
  intro d
  induction d with
  | zero => intro i hi; have : i = len := by omega
            subst this; exact Int.le_refl _
  | succ d ih=>intro i hi; have h1:=mono i (by omega); have h2:=ih (i+1) (by omega); omega
 have key:∀(d i:Nat),i+d=len→∀n,Cap m n (T i)→0≤n→n≤B→∀x,wpL L (.loop c) ⟨upd V (M i n x),[],G i x,h⟩ Q:=by
  intro d
  induction d with
  | zero =>
    intro i hi n hc hn hb x
    have:i=len:=by omega
    subst this
    rw[Aw]
    exact stop i (ao _) n (.inr rfl) hc hn hb x
  | succ d ih =>
    intro i hi n hc hn hb x
    rw[Aw]
    by_cases hm:n<m
    ·exact step i (by omega) n hm (hc.2 hm) hn x (λn' y h1 h2 h3=>ih (i+1) (by omega) n' h1 h2 h3 y)
    ·refine stop i (by omega) n (.inl (by omega)) ?_ hn hb x
     have:=mono' (d+1) i hi
     unfold Cap at *; omega
 have:=key len 0 (by omega) n0 h0.1 h0.2.1 h0.2.2 x0
 rwa [hV,hG] at this
end
section
variable {L:Nat→Option PFunc} (hL:∀k f,LS k=some f→L k=some f)
include hL
theorem Kt (e:Expr):EW e→∀(m:Int),1≤m→m≤1500→∀h,wn L 95 [wq e,.int .i64 m] h=some (.int .i64 (if (e.parts:Int)<m then e.parts else m),h):=by
 induction e using Expr.ind with
 | h e ih=>
 intro he m jg jh h
 refine wJ (hL 95 _ rfl) rfl ?_
 obtain⟨_,_,dp⟩:=he.self
 have mS:=parts_eq e
 simp[JI]
 refine Cp e.args.length m (λi=>1+(wl Expr.parts (e.args.take i):Nat)) 1501 (λi n (_:Unit)=>[(4,.int .i64 n),(5,.int .i64 i)]) (λ_ _=>1) 1 () ?_ ?_ ?_ ?_ rfl rfl
 ·intro i hi
  have:=zN Expr.parts hi
  simp only[this]; omega
 ·refine⟨?_,by omega,by omega⟩
  simp[wl,Cap.refl]
 ·intro i hi n hn hT h0 x ih2
  have hw:=wC i (by omega)
  have ht:=zN Expr.parts hi
  have hT:n=1+(wl Expr.parts (e.args.take i):Nat):=hT
  have hc:=ih e.args[i] (ai hi) (he.arg (ai hi)) (m - n) (by omega) (by omega) []
  have i8:IntKind.i64.wrap (m - n)=m - n:=xD _ (by omega) (by omega)
  have ih2:=ih2 (n+(if (e.args[i].parts:Int)<m - n then(e.args[i].parts:Int) else m - n)) ()
  rw[ht] at ih2
  generalize e.args[i].parts=q at *
  generalize wl Expr.parts (e.args.take i)=t at *
  have ih2:=ih2 (by unfold Cap; split<;>omega) (by split<;>omega) (by split<;>omega)
  have hr:0≤(if (q:Int)<m - n then(q:Int) else m - n)∧(if (q:Int)<m - n then(q:Int) else m - n)≤1500:=by split<;>omega
  generalize (if (q:Int)<m - n then(q:Int) else m - n)=r at *
  have lu:IntKind.i64.wrap (n+r)=n+r:=xD _ (by omega) (by omega)
  simp[hi,hn,hw,i8,lu,hc]
  simpa using ih2
 ·intro i hi n hx hc h0 hb x
  simp only[aB] at hc
  have hT:(1:Int)+(wl Expr.parts e.args:Nat)=e.parts:=by omega
  rw[hT] at hc
  have dt:(if m<n then m else n)=(if (e.parts:Int)<m then(e.parts:Int) else m):=by
   unfold Cap at hc
   split<;>split<;>omega
  have nC:¬(i<e.args.length∧n<m):=by omega
  by_cases h1:i<e.args.length
  ·have h2:¬n<m:=by omega
   simp[h1,h2,BE,dt]
  ·have fy:¬(i:Int)<e.args.length:=by omega
   simp[h1,fy,BE,dt]
theorem Hs (l:List Decl) (hl:l.length≤140737488355328) (hd:∀d∈l,DF d) (m:Int) (jg:1≤m) (jh:m≤1500) (o:Bool) (h:List PObj):∃n:Int,wn L 52 [.list o (l.map wv),.int .i64 m] h=some (.int .i64 n,h)∧Cap m n (wl Decl.parts l)∧0≤n∧n≤100000000000000000:=by
 suffices H:∃r,wn L 52 [.list o (l.map wv),.int .i64 m] h=some r∧∃n:Int,r=(.int .i64 n,h)∧Cap m n (wl Decl.parts l)∧0≤n∧n≤100000000000000000 by
  obtain⟨r,h1,n,rfl,h2⟩:=H
  exact⟨n,h1,h2⟩
 refine zq (hL 52 _ rfl) rfl ?_
 have qm:wl Decl.parts l=l.length+wl (λd:Decl=>d.clock.length+d.name.length / 100) l:=by
  rw[← CT]
  congr 1
  funext d; unfold Decl.parts; omega
 simp[Jr]
 refine Cp l.length m (λi=>(l.length:Int)+(wl (λd:Decl=>d.clock.length+d.name.length / 100) (l.take i):Nat)) 100000000000000000 (λi n (_:Unit)=>[(3,.int .i64 n),(4,.int .i64 i)]) (λ_ _=>0) l.length () ?_ ?_ ?_ ?_ rfl rfl
 ·intro i hi
  have:=zN (λd:Decl=>d.clock.length+d.name.length / 100) hi
  simp only[this]; omega
 ·refine⟨?_,by omega,by omega⟩
  simp[wl,Cap.refl]
 ·intro i hi n hn hT h0 x ih2
  have hw:=wC i (by omega)
  have ht:=zN (λd:Decl=>d.clock.length+d.name.length / 100) hi
  have ed:=hd _ (ai hi)
  have dG:=ed.clock
  have mg:=ed.name
  have hT:n=(l.length:Int)+(wl (λd:Decl=>d.clock.length+d.name.length / 100) (l.take i):Nat):=hT
  have ih2:=ih2 (n+l[i].clock.length+(l[i].name.length / 100:Nat)) ()
  rw[ht] at ih2
  have ih2 := ih2 (by rw [hT]; have : (l.length : Int) + (wl (fun d : Decl => d.clock.length + d.name.length / 100) (l.take i) : Nat) + l[i].clock.length + (l[i].name.length / 100 : Nat) = (l.length : Int) + ((wl (fun d : Decl => d.clock.length + d.name.length / 100) (l.take i) + (l[i].clock.length + l[i].name.length / 100) : Nat) : Int) := by omega
                      rw[this]; exact Cap.refl _ _) (by omega) (by omega)
  have i8:IntKind.i64.wrap (n+(l[i].clock.length:Int))=n+l[i].clock.length:=xD _ (by omega) (by omega)
  have hq:=c83 l[i].name.length
  have lu:IntKind.i64.wrap ((l[i].name.length / 100:Nat):Int)=((l[i].name.length / 100:Nat):Int):=xD _ (by omega) (by omega)
  have vh:IntKind.i64.wrap (n+(l[i].clock.length:Int)+((l[i].name.length / 100:Nat):Int))=n+l[i].clock.length+(l[i].name.length / 100:Nat):=xD _ (by omega) (by omega)
  generalize l[i].name.length / 100=q at *
  simp[hi,hn,hw,i8,hq,lu,vh]
  simpa using ih2
 ·intro i hi n hx hc h0 hb x
  simp only[aB] at hc
  rw[show (l.length:Int)+(wl (λd:Decl=>d.clock.length+d.name.length / 100) l:Nat)=(wl Decl.parts l:Nat) by omega] at hc
  have dO:xm [.var 2] (λr=>∃n:Int,r=(.int .i64 n,h)∧Cap m n (wl Decl.parts l)∧0≤n∧n≤100000000000000000) .ret ⟨[.list false (l.map wv),.int .i64 m,.int .i64 n,.int .i64 n,.int .i64 i],[],0,h⟩:=⟨.inr rfl,.int .i64 n,rfl,n,rfl,hc,h0,hb⟩
  by_cases h1:i<l.length
  ·have h2:¬n<m:=by omega
   simp[h1,h2]
   exact dO
  ·have fy:¬(i:Int)<l.length:=by omega
   simp[h1,fy]
   exact dO
theorem OP (l:List Trn) (hl:l.length≤140737488355328) (hd:∀x∈l,EW x.cond) (m:Int) (jg:1≤m) (jh:m≤1500) (o:Bool) (h:List PObj):∃n:Int,wn L 96 [.list o (l.map xe),.int .i64 m] h=some (.int .i64 n,h)∧Cap m n (wl Trn.parts l)∧0≤n∧n≤100000000000000000:=by
 suffices H:∃r,wn L 96 [.list o (l.map xe),.int .i64 m] h=some r∧∃n:Int,r=(.int .i64 n,h)∧Cap m n (wl Trn.parts l)∧0≤n∧n≤100000000000000000 by
  obtain⟨r,h1,n,rfl,h2⟩:=H
  exact⟨n,h1,h2⟩
 refine zq (hL 96 _ rfl) rfl ?_
 have qm:wl Trn.parts l=l.length+wl (λt:Trn=>t.cond.parts) l:=by
  rw[← CT]; rfl
 simp[JJ]
 refine Cp l.length m (λi=>(l.length:Int)+(wl (λt:Trn=>t.cond.parts) (l.take i):Nat)) 100000000000000000 (λi n (_:Unit)=>[(3,.int .i64 n),(4,.int .i64 i)]) (λ_ _=>0) l.length () ?_ ?_ ?_ ?_ rfl rfl
 ·intro i hi
  have:=zN (λt:Trn=>t.cond.parts) hi
  simp only[this]; omega
 ·refine⟨?_,by omega,by omega⟩
  simp[wl,Cap.refl]
 ·intro i hi n hn hT h0 x ih2
  have hw:=wC i (by omega)
  have ht:=zN (λt:Trn=>t.cond.parts) hi
  have ed:=hd _ (ai hi)
  have hT:n=(l.length:Int)+(wl (λt:Trn=>t.cond.parts) (l.take i):Nat):=hT
  have hc:=Kt hL l[i].cond ed m jg jh []
  have ih2:=ih2 (n+(if (l[i].cond.parts:Int)<m then(l[i].cond.parts:Int) else m)) ()
  rw[ht] at ih2
  generalize wl (λt:Trn=>t.cond.parts) (l.take i)=T at *
  generalize l[i].cond.parts=q at *
  have hr:0≤(if (q:Int)<m then(q:Int) else m)∧(if (q:Int)<m then(q:Int) else m)≤1500:=by split<;>omega
  have ih2:=ih2 (by unfold Cap; split<;>omega) (by omega) (by omega)
  generalize (if (q:Int)<m then(q:Int) else m)=r at *
  have lu:IntKind.i64.wrap (n+r)=n+r:=xD _ (by omega) (by omega)
  simp[hi,hn,hw,hc,lu]
  simpa using ih2
 ·intro i hi n hx hc h0 hb x
  simp only[aB] at hc
  rw[show (l.length:Int)+(wl (λt:Trn=>t.cond.parts) l:Nat)=(wl Trn.parts l:Nat) by omega] at hc
  have dO:xm [.var 2] (λr=>∃n:Int,r=(.int .i64 n,h)∧Cap m n (wl Trn.parts l)∧0≤n∧n≤100000000000000000) .ret ⟨[.list false (l.map xe),.int .i64 m,.int .i64 n,.int .i64 n,.int .i64 i],[],0,h⟩:=⟨.inr rfl,.int .i64 n,rfl,n,rfl,hc,h0,hb⟩
  by_cases h1:i<l.length
  ·have h2:¬n<m:=by omega
   simp[h1,h2]
   exact dO
  ·have fy:¬(i:Int)<l.length:=by omega
   simp[h1,fy]
   exact dO
theorem OQ (l:List Expr) (hl:l.length≤140737488355328) (hd:∀x∈l,EW x) (m:Int) (jg:1≤m) (jh:m≤1500) (o:Bool) (h:List PObj):∃n:Int,wn L 54 [.list o (l.map wq),.int .i64 m] h=some (.int .i64 n,h)∧Cap m n (wl (λe:Expr=>1+Expr.parts e) l)∧0≤n∧n≤100000000000000000:=by
 suffices H:∃r,wn L 54 [.list o (l.map wq),.int .i64 m] h=some r∧∃n:Int,r=(.int .i64 n,h)∧Cap m n (wl (λe:Expr=>1+Expr.parts e) l)∧0≤n∧n≤100000000000000000 by
  obtain⟨r,h1,n,rfl,h2⟩:=H
  exact⟨n,h1,h2⟩
 refine zq (hL 54 _ rfl) rfl ?_
 have qm:wl (λe:Expr=>1+Expr.parts e) l=l.length+wl Expr.parts l:=by
  rw[← CT]
 simp[Jt]
 refine Cp l.length m (λi=>(l.length:Int)+(wl Expr.parts (l.take i):Nat)) 100000000000000000 (λi n (_:Unit)=>[(3,.int .i64 n),(4,.int .i64 i)]) (λ_ _=>0) l.length () ?_ ?_ ?_ ?_ rfl rfl
 ·intro i hi
  have:=zN Expr.parts hi
  simp only[this]; omega
 ·refine⟨?_,by omega,by omega⟩
  simp[wl,Cap.refl]
 ·intro i hi n hn hT h0 x ih2
  have hw:=wC i (by omega)
  have ht:=zN Expr.parts hi
  have ed:=hd _ (ai hi)
  have hT:n=(l.length:Int)+(wl Expr.parts (l.take i):Nat):=hT
  have hc:=Kt hL l[i] ed m jg jh []
  have ih2:=ih2 (n+(if (l[i].parts:Int)<m then(l[i].parts:Int) else m)) ()
  rw[ht] at ih2
  generalize wl Expr.parts (l.take i)=T at *
  generalize l[i].parts=q at *
  have hr:0≤(if (q:Int)<m then(q:Int) else m)∧(if (q:Int)<m then(q:Int) else m)≤1500:=by split<;>omega
  have ih2:=ih2 (by unfold Cap; split<;>omega) (by omega) (by omega)
  generalize (if (q:Int)<m then(q:Int) else m)=r at *
  have lu:IntKind.i64.wrap (n+r)=n+r:=xD _ (by omega) (by omega)
  simp[hi,hn,hw,hc,lu]
  simpa using ih2
 ·intro i hi n hx hc h0 hb x
  simp only[aB] at hc
  rw[show (l.length:Int)+(wl Expr.parts l:Nat)=(wl (λe:Expr=>1+Expr.parts e) l:Nat) by omega] at hc
  have dO:xm [.var 2] (λr=>∃n:Int,r=(.int .i64 n,h)∧Cap m n (wl (λe:Expr=>1+Expr.parts e) l)∧0≤n∧n≤100000000000000000) .ret ⟨[.list false (l.map wq),.int .i64 m,.int .i64 n,.int .i64 n,.int .i64 i],[],0,h⟩:=⟨.inr rfl,.int .i64 n,rfl,n,rfl,hc,h0,hb⟩
  by_cases h1:i<l.length
  ·have h2:¬n<m:=by omega
   simp[h1,h2]
   exact dO
  ·have fy:¬(i:Int)<l.length:=by omega
   simp[h1,fy]
   exact dO
theorem OR (l:List Eqn) (hl:l.length≤140737488355328) (hd:∀x∈l,QF x) (m:Int) (jg:1≤m) (jh:m≤1500) (o:Bool) (h:List PObj):∃n:Int,wn L 53 [.list o (l.map wH),.int .i64 m] h=some (.int .i64 n,h)∧Cap m n (wl Eqn.parts l)∧0≤n∧n≤100000000000000000:=by
 suffices H:∃r,wn L 53 [.list o (l.map wH),.int .i64 m] h=some r∧∃n:Int,r=(.int .i64 n,h)∧Cap m n (wl Eqn.parts l)∧0≤n∧n≤100000000000000000 by
  obtain⟨r,h1,n,rfl,h2⟩:=H
  exact⟨n,h1,h2⟩
 refine zq (hL 53 _ rfl) rfl ?_
 have qm:wl Eqn.parts l=l.length+wl (λq:Eqn=>q.left.length+q.right.parts) l:=by
  rw[← CT]
  congr 1
  funext d; try (unfold Eqn.parts; omega)
 simp[Js]
 refine Cp l.length m (λi=>(l.length:Int)+(wl (λq:Eqn=>q.left.length+q.right.parts) (l.take i):Nat)) 100000000000000000 (λi n (_:Unit)=>[(3,.int .i64 n),(4,.int .i64 i)]) (λ_ _=>0) l.length () ?_ ?_ ?_ ?_ rfl rfl
 ·intro i hi
  have:=zN (λq:Eqn=>q.left.length+q.right.parts) hi
  simp only[this]; omega
 ·refine⟨?_,by omega,by omega⟩
  simp[wl,Cap.refl]
 ·intro i hi n hn hT h0 x ih2
  have hw:=wC i (by omega)
  have ht:=zN (λq:Eqn=>q.left.length+q.right.parts) hi
  have ed:=hd _ (ai hi)
  have rH:=ed.left
  have hT:n=(l.length:Int)+(wl (λq:Eqn=>q.left.length+q.right.parts) (l.take i):Nat):=hT
  have hc:=Kt hL l[i].right ed.right m jg jh []
  have ih2:=ih2 (n+l[i].left.length+(if (l[i].right.parts:Int)<m then(l[i].right.parts:Int) else m)) ()
  rw[ht] at ih2
  generalize wl (λq:Eqn=>q.left.length+q.right.parts) (l.take i)=T at *
  generalize l[i].right.parts=q at *
  have hr:0≤(if (q:Int)<m then(q:Int) else m)∧(if (q:Int)<m then(q:Int) else m)≤1500:=by split<;>omega
  have ih2:=ih2 (by unfold Cap; split<;>omega) (by omega) (by omega)
  generalize (if (q:Int)<m then(q:Int) else m)=r at *
  have i8:IntKind.i64.wrap (n+(l[i].left.length:Int))=n+l[i].left.length:=xD _ (by omega) (by omega)
  have lu:IntKind.i64.wrap (n+(l[i].left.length:Int)+r)=n+l[i].left.length+r:=xD _ (by omega) (by omega)
  simp[hi,hn,hw,hc,i8,lu]
  simpa using ih2
 ·intro i hi n hx hc h0 hb x
  simp only[aB] at hc
  rw[show (l.length:Int)+(wl (λq:Eqn=>q.left.length+q.right.parts) l:Nat)=(wl Eqn.parts l:Nat) by omega] at hc
  have dO:xm [.var 2] (λr=>∃n:Int,r=(.int .i64 n,h)∧Cap m n (wl Eqn.parts l)∧0≤n∧n≤100000000000000000) .ret ⟨[.list false (l.map wH),.int .i64 m,.int .i64 n,.int .i64 n,.int .i64 i],[],0,h⟩:=⟨.inr rfl,.int .i64 n,rfl,n,rfl,hc,h0,hb⟩
  by_cases h1:i<l.length
  ·have h2:¬n<m:=by omega
   simp[h1,h2]
   exact dO
  ·have fy:¬(i:Int)<l.length:=by omega
   simp[h1,fy]
   exact dO
end
theorem b9m (l:List (List State)):yi l=l.length+wl (λa=>wl State.parts a) l:=by
 rw[E5,← CT]
section
variable {L:Nat→Option PFunc} (hL:∀k f,LS k=some f→L k=some f)
include hL
def WA (L:Nat→Option PFunc) (l:List (List State)):Prop:=∀(m:Int),1≤m→m≤1500→∀(o:Bool) (h:List PObj),∃n:Int,wn L 55 [.list o (l.map wI),.int .i64 m] h=some (.int .i64 n,h)∧Cap m n (yi l)∧0≤n∧n≤m+500000000000000000
theorem OS (l:List (List State)) (hl:AsF l) (ih:∀a∈l,∀x∈a,WA L x.autos):WA L l:=by
 intro m jg jh o h
 suffices H:∃r,wn L 55 [.list o (l.map wI),.int .i64 m] h=some r∧∃n:Int,r=(.int .i64 n,h)∧Cap m n (yi l)∧0≤n∧n≤m+500000000000000000 by
  obtain⟨r,h1,n,rfl,h2⟩:=H
  exact⟨n,h1,h2⟩
 refine zq (hL 55 _ rfl) rfl ?_
 have qm:=b9m l
 have oM:=hl.len
 simp[Ju]
 refine Cp l.length m (λi=>(l.length:Int)+(wl (λa=>wl State.parts a) (l.take i):Nat)) (m+500000000000000000) (λi n (x:(PV×PV)×Nat)=>[(3,.int .i64 n),(4,.int .i64 i),(5,x.1.1),(6,x.1.2)]) (λ_ x=>x.2) l.length ((.dead,.dead),0) ?_ ?_ ?_ ?_ rfl rfl
 ·intro i hi
  have:=zN (λa=>wl State.parts a) hi
  simp only[this]; omega
 ·refine⟨?_,by omega,by omega⟩
  simp[wl,Cap.refl]
 ·intro i hi n hn hT h0 x ih2
  have hw:=wC i (by omega)
  have ht:=zN (λa=>wl State.parts a) hi
  have hT:n=(l.length:Int)+(wl (λa=>wl State.parts a) (l.take i):Nat):=hT
  have dp:=hl.as _ (ai hi)
  simp[hi,hn]
  refine Cp l[i].length m (λj=>n+(wl State.parts (l[i].take j):Nat)) (m+500000000000000000) (λj n' (x:PV×Nat)=>[(3,.int .i64 n'),(5,.int .i64 j),(6,x.1)]) (λ_ x=>x.2) n (x.1.2,x.2) ?_ ?_ ?_ ?_ rfl rfl
  ·intro j hj
   have:=zN State.parts hj
   simp only[this]; omega
  ·refine⟨?_,by omega,by omega⟩
   simp[wl,Cap.refl]
  ·intro j hj n' jO tn kw y ih3
   have fO:=wC j (by omega)
   have js:=zN State.parts hj
   have tn:n'=n+(wl State.parts (l[i].take j):Nat):=tn
   have kQ:=hl.ss _ (ai hi) _ (ai hj)
   have mS:=State.parts_eq l[i][j]
   obtain⟨w1,c1,q1,a1,b1⟩:=Hs hL l[i][j].locals kQ.locals kQ.ls m jg jh false []
   obtain⟨w2,c2,q2,a2,b2⟩:=OR hL l[i][j].eqs kQ.eqs kQ.es m jg jh false []
   obtain⟨w3,c3,q3,a3,b3⟩:=OP hL l[i][j].unl kQ.unl kQ.us m jg jh false []
   obtain⟨w4,c4,q4,a4,b4⟩:=OP hL l[i][j].til kQ.til kQ.ts m jg jh false []
   have z0:IntKind.i64.wrap (n'+1)=n'+1:=xD _ (by omega) (by omega)
   have z1:IntKind.i64.wrap (n'+1+w1)=n'+1+w1:=xD _ (by omega) (by omega)
   have z2:IntKind.i64.wrap (n'+1+w1+w2)=n'+1+w1+w2:=xD _ (by omega) (by omega)
   have z3:IntKind.i64.wrap (n'+1+w1+w2+w3)=n'+1+w1+w2+w3:=xD _ (by omega) (by omega)
   have hS:∃S:Int,S=n'+1+w1+w2+w3+w4:=⟨_,rfl⟩
   obtain⟨S,hS⟩:=hS
   have z4:IntKind.i64.wrap (n'+1+w1+w2+w3+w4)=S:=by rw[hS]; exact xD _ (by omega) (by omega)
   rw[js] at ih3
   have hSc:Cap m S (n+(wl State.parts (l[i].take j):Nat)+(1+wl Decl.parts l[i][j].locals+wl Eqn.parts l[i][j].eqs+wl Trn.parts l[i][j].unl+wl Trn.parts l[i][j].til:Nat)):=by
    unfold Cap at *; omega
   by_cases oQ:S<m
   ·have gm:IntKind.i64.wrap (m - S)=m - S:=xD _ (by omega) (by omega)
    obtain⟨w5,c5,q5,a5,b5⟩:=ih _ (ai hi) _ (ai hj) (m - S) (by omega) (by omega) false []
    have z5:IntKind.i64.wrap (S+w5)=S+w5:=xD _ (by omega) (by omega)
    have ih3:=λy=>ih3 (S+w5) y (by unfold Cap at *; omega) (by omega) (by omega)
    simp[hi,hj,jO,fO,c1,c2,c3,c4,z0,z1,z2,z3,z4,oQ,gm,c5,z5]
    simpa using ih3 (_,_)
   ·have ih3:=λy=>ih3 S y (by unfold Cap at *; omega) (by omega) (by omega)
    simp[hi,hj,jO,fO,c1,c2,c3,c4,z0,z1,z2,z3,z4,oQ]
    simpa using ih3 (_,_)
  ·intro j hj n' hx hc kw hb y
   simp only[aB] at hc
   rw[ht] at ih2
   have ih2:=λy=>ih2 n' y (by rw[show (l.length:Int)+((wl (λa=>wl State.parts a) (l.take i)+wl State.parts l[i]:Nat):Int)=n+(wl State.parts l[i]:Nat) by omega]; exact hc) kw hb
   by_cases h1:j<l[i].length
   ·have h2:¬n'<m:=by omega
    simp[hi,h1,h2,hw]
    simpa using ih2 ((_,_),_)
   ·have fy:¬(j:Int)<l[i].length:=by omega
    simp[hi,h1,fy,hw]
    simpa using ih2 ((_,_),_)
 ·intro i hi n hx hc h0 hb x
  simp only[aB] at hc
  rw[show (l.length:Int)+(wl (λa=>wl State.parts a) l:Nat)=(yi l:Nat) by omega] at hc
  have dO:xm [.var 2] (λr=>∃n:Int,r=(.int .i64 n,h)∧Cap m n (yi l)∧0≤n∧n≤m+500000000000000000) .ret ⟨[.list false (l.map wI),.int .i64 m,.int .i64 n,.int .i64 n,.int .i64 i,x.1.1,x.1.2],[],x.2,h⟩:=⟨.inr rfl,.int .i64 n,rfl,n,rfl,hc,h0,hb⟩
  by_cases h1:i<l.length
  ·have h2:¬n<m:=by omega
   simp[h1,h2]
   exact dO
  ·have fy:¬(i:Int)<l.length:=by omega
   simp[h1,fy]
   exact dO
theorem b9n (l:List (List State)) (hl:AsF l):WA L l:=by
 refine OS hL l hl λa ha x hx =>?_
 have key:∀s:State,SF s→WA L s.autos:=by
  intro s
  induction s using State.ind with
  | h s ih=>intro hs; exact OS hL s.autos hs.asF λa ha x hx=>ih a ha x hx (hs.ss a ha x hx)
 exact key x (hl.ss a ha x hx)
theorem c0Q (p:Prog) (hp:PF p) (h:List PObj):∃n:Int,wn L 25 [xd p,.int .i64 1500] h=some (.int .i64 n,h)∧Cap 1500 n (parts p):=by
 suffices H:∃r,wn L 25 [xd p,.int .i64 1500] h=some r∧∃n:Int,r=(.int .i64 n,h)∧Cap 1500 n (parts p) by
  obtain⟨r,h1,n,rfl,h2⟩:=H
  exact⟨n,h1,h2⟩
 refine zq (hL 25 _ rfl) rfl ?_
 have l1:=hp.enums
 have l2:=hp.nodes
 have t1:wl Enum.parts p.enums=p.enums.length+wl (λu:Enum=>u.tags.length) p.enums:=by rw[← CT]; rfl
 obtain⟨f,hf⟩:∃f:Node→Nat,∀n,f n=n.parts - 1:=⟨_,λ_=>rfl⟩
 have de:∀n:Node,n.parts=1+f n:=by
  intro n
  have:1≤n.parts:=by unfold Node.parts; omega
  rw[hf]; omega
 have t2:wl Node.parts p.nodes=p.nodes.length+wl f p.nodes:=by
  rw[← CT]
  congr 1
  funext n; exact de n
 have nD:(parts p:Int)=(p.enums.length:Int)+p.nodes.length+(wl (λu:Enum=>u.tags.length) p.enums:Nat)+(wl f p.nodes:Nat):=by unfold parts; omega
 have lU:IntKind.i64.wrap ((p.enums.length:Int)+p.nodes.length)=(p.enums.length:Int)+p.nodes.length:=xD _ (by omega) (by omega)
 simp[Jm,lU]
 refine Cp p.enums.length 1500 (λi=>(p.enums.length:Int)+p.nodes.length+(wl (λu:Enum=>u.tags.length) (p.enums.take i):Nat)) 1000000000000000000 (λi n (_:Unit)=>[(4,.int .i64 n),(5,.int .i64 i)]) (λ_ _=>1) ((p.enums.length:Int)+p.nodes.length) () ?_ ?_ ?_ ?_ rfl rfl
 ·intro i hi
  have:=zN (λu:Enum=>u.tags.length) hi
  simp only[this]; omega
 ·refine⟨?_,by omega,by omega⟩
  simp[wl,Cap.refl]
 ·intro i hi n hn hT h0 x ih2
  have hw:=wC i (by omega)
  have ht:=zN (λu:Enum=>u.tags.length) hi
  have nk:=hp.tags _ (ai hi)
  have hT:n=(p.enums.length:Int)+p.nodes.length+(wl (λu:Enum=>u.tags.length) (p.enums.take i):Nat):=hT
  have ih2:=ih2 (n+p.enums[i].tags.length) ()
  rw[ht] at ih2
  have ih2:=ih2 (by unfold Cap; omega) (by omega) (by omega)
  have i8:IntKind.i64.wrap (n+(p.enums[i].tags.length:Int))=n+p.enums[i].tags.length:=xD _ (by omega) (by omega)
  simp[hi,hn,hw,i8]
  simpa using ih2
 ·intro i hi n hx hc h0 hb x
  simp only[aB] at hc
  have ni:wpL L M0 ⟨[xd p,.int .i64 1500,.loc 0 (xd p).cells,.int .i64 0,.int .i64 n,.int .i64 i,.int .i64 0,.dead],[],1,h⟩ (Bp 2 (B2 L (S (R [m v4,t 3 l0]) Y) (xm [.var 3] λr=>∃n:Int,r=(.int .i64 n,h)∧Cap 1500 n (parts p)))):=by
   have nE:∃T0:Int,T0=(p.enums.length:Int)+p.nodes.length+(wl (λu:Enum=>u.tags.length) p.enums:Nat):=⟨_,rfl⟩
   obtain⟨T0,nE⟩:=nE
   rw[← nE] at hc nD
   have vi:0≤T0:=by omega
   refine Cp p.nodes.length 1500 (λi=>T0+(wl f (p.nodes.take i):Nat)) 2000000000000000000 (λi n (x:PV×Nat)=>[(4,.int .i64 n),(6,.int .i64 i),(7,x.1)]) (λ_ x=>x.2) n (.dead,1) ?_ ?_ ?_ ?_ rfl rfl
   ·intro i hi
    have:=zN f hi
    simp only[this]; omega
   ·refine⟨?_,by omega,by omega⟩
    simpa[wl] using hc
   ·intro i hi n hn hT h0 x ih2
    have hw:=wC i (by omega)
    have ht:=zN f hi
    have gR:=hp.ns _ (ai hi)
    have oR:f p.nodes[i]=wl Decl.parts p.nodes[i].ins+wl Decl.parts p.nodes[i].outs+wl Decl.parts p.nodes[i].locals+wl Eqn.parts p.nodes[i].eqs+wl (λe=>1+Expr.parts e) p.nodes[i].assume+wl (λe=>1+Expr.parts e) p.nodes[i].ensure+yi p.nodes[i].autos:=by
     rw[hf]; unfold Node.parts; omega
    have hT:n=T0+(wl f (p.nodes.take i):Nat):=hT
    obtain⟨w1,c1,q1,a1,b1⟩:=Hs hL p.nodes[i].ins gR.ins gR.is 1500 (by omega) (by omega) false []
    obtain⟨w2,c2,q2,a2,b2⟩:=Hs hL p.nodes[i].outs gR.outs gR.os 1500 (by omega) (by omega) false []
    obtain⟨w3,c3,q3,a3,b3⟩:=Hs hL p.nodes[i].locals gR.locals gR.ls 1500 (by omega) (by omega) false []
    obtain⟨w4,c4,q4,a4,b4⟩:=OR hL p.nodes[i].eqs gR.eqs gR.es 1500 (by omega) (by omega) false []
    obtain⟨w5,c5,q5,a5,b5⟩:=OQ hL p.nodes[i].assume gR.assume gR.as 1500 (by omega) (by omega) false []
    obtain⟨w6,c6,q6,a6,b6⟩:=OQ hL p.nodes[i].ensure gR.ensure gR.gs 1500 (by omega) (by omega) false []
    have z1:IntKind.i64.wrap (n+w1)=n+w1:=xD _ (by omega) (by omega)
    have z2:IntKind.i64.wrap (n+w1+w2)=n+w1+w2:=xD _ (by omega) (by omega)
    have z3:IntKind.i64.wrap (n+w1+w2+w3)=n+w1+w2+w3:=xD _ (by omega) (by omega)
    have z4:IntKind.i64.wrap (n+w1+w2+w3+w4)=n+w1+w2+w3+w4:=xD _ (by omega) (by omega)
    have z5:IntKind.i64.wrap (n+w1+w2+w3+w4+w5)=n+w1+w2+w3+w4+w5:=xD _ (by omega) (by omega)
    obtain⟨S,hS⟩:∃S:Int,S=n+w1+w2+w3+w4+w5+w6:=⟨_,rfl⟩
    have z6:IntKind.i64.wrap (n+w1+w2+w3+w4+w5+w6)=S:=by rw[hS]; exact xD _ (by omega) (by omega)
    have k1:=Cap.add (Cap.refl 1500 n) q1 h0 a1 h0 (by omega)
    have k2:=Cap.add k1 q2 (by omega) a2 (by omega) (by omega)
    have k3:=Cap.add k2 q3 (by omega) a3 (by omega) (by omega)
    have k4:=Cap.add k3 q4 (by omega) a4 (by omega) (by omega)
    have k5:=Cap.add k4 q5 (by omega) a5 (by omega) (by omega)
    have k6:=Cap.add k5 q6 (by omega) a6 (by omega) (by omega)
    rw[← hS] at k6
    have hSn:0≤S:=by omega
    have hSb:S≤1000000000000000000:=by omega
    clear k1 k2 k3 k4 k5 q1 q2 q3 q4 q5 q6
    rw[ht,oR] at ih2
    obtain⟨U,hU⟩:∃U:Int,U=n+(wl Decl.parts p.nodes[i].ins:Nat)+(wl Decl.parts p.nodes[i].outs:Nat)+(wl Decl.parts p.nodes[i].locals:Nat)+(wl Eqn.parts p.nodes[i].eqs:Nat)+(wl (λe=>1+Expr.parts e) p.nodes[i].assume:Nat)+(wl (λe=>1+Expr.parts e) p.nodes[i].ensure:Nat):=⟨_,rfl⟩
    rw[← hU] at k6
    have tp:T0+((wl f (p.nodes.take i)+(wl Decl.parts p.nodes[i].ins+wl Decl.parts p.nodes[i].outs+wl Decl.parts p.nodes[i].locals+wl Eqn.parts p.nodes[i].eqs+wl (λe=>1+Expr.parts e) p.nodes[i].assume+wl (λe=>1+Expr.parts e) p.nodes[i].ensure+yi p.nodes[i].autos):Nat):Int)=U+(yi p.nodes[i].autos:Nat):=by omega
    have hUn:0≤U:=by omega
    rw[tp] at ih2
    clear tp hU hT oR
    by_cases oQ:S<1500
    ·have gm:IntKind.i64.wrap (1500 - S)=1500 - S:=xD _ (by omega) (by omega)
     obtain⟨w7,c7,q7,a7,b7⟩:=b9n hL p.nodes[i].autos gR.autos (1500 - S) (by omega) (by omega) false []
     have z7:IntKind.i64.wrap (S+w7)=S+w7:=xD _ (by omega) (by omega)
     have cV:Cap 1500 (S+w7) (U+(yi p.nodes[i].autos:Nat)):=by
      clear ih2 c1 c2 c3 c4 c5 c6 c7 z1 z2 z3 z4 z5 z6 z7 hS
      unfold Cap at *; omega
     have ih2:=λy=>ih2 (S+w7) y cV (by omega) (by omega)
     simp[hi,hn,hw,c1,c2,c3,c4,c5,c6,z1,z2,z3,z4,z5,z6,oQ,gm,c7,z7]
     simpa using ih2 (_,_)
    ·have cV:Cap 1500 S (U+(yi p.nodes[i].autos:Nat)):=by
      clear ih2 c1 c2 c3 c4 c5 c6 z1 z2 z3 z4 z5 z6 hS
      unfold Cap at *; omega
     have ih2:=λy=>ih2 S y cV (by omega) (by omega)
     simp[hi,hn,hw,c1,c2,c3,c4,c5,c6,z1,z2,z3,z4,z5,z6,oQ]
     simpa using ih2 (_,_)
   ·intro i hi n hx hc h0 hb x
    simp only[aB] at hc
    rw[← nD] at hc
    by_cases h1:i<p.nodes.length
    ·have h2:¬n<1500:=by omega
     simp[h1,h2]
     exact⟨.inr rfl,.int .i64 n,rfl,n,rfl,hc⟩
    ·have fy:¬(i:Int)<p.nodes.length:=by omega
     simp[h1,fy]
     exact⟨.inr rfl,.int .i64 n,rfl,n,rfl,hc⟩
  by_cases h1:i<p.enums.length
  ·have h2:¬n<1500:=by omega
   simp[h1,h2]
   simpa using ni
  ·have fy:¬(i:Int)<p.enums.length:=by omega
   simp[h1,fy]
   simpa using ni
end
theorem b9j (s:State):Fz s=s.eqs.map (·.right)++zL s.autos++s.unl.map (·.cond)++s.til.map (·.cond):=by cases s; simp[Fz,State.eqs,State.autos,State.unl,State.til]
theorem DF.dw {d:Decl} (h:DF d) (hp:d.parts≤1600):DW d:=⟨h.type,by unfold Decl.parts at hp; omega,h.on⟩
theorem QF.qw {q:Eqn} (h:QF q) (hp:q.parts≤1600):QW q:=⟨by unfold Eqn.parts at hp; omega,⟨by unfold Eqn.parts at hp; omega,h.right⟩⟩
theorem AN {α:Type} (f:α→Nat) (h1:∀x,1≤f x) {l:List α} (h:wl f l≤1600):l.length≤1600∧∀x∈l,f x≤1600:=
 ⟨aT (G9 f h1 l) h,λx hx=>aT (Cg f hx) h⟩
theorem Ha (d:Decl):1≤d.parts:=by unfold Decl.parts; omega
theorem Oc (q:Eqn):1≤q.parts:=by unfold Eqn.parts; omega
theorem Od (t:Trn):1≤t.parts:=by unfold Trn.parts; omega
theorem c8Z (s:State):1≤s.parts:=by cases s; simp only[State.parts]; omega
theorem Oe {l:List (List State)} (h:yi l≤1600):l.length≤1600∧(∀a∈l,a.length≤1600)∧∀a∈l,∀x∈a,x.parts≤1600:=by
 rw[E5] at h
 obtain⟨h1,h2⟩:=AN (λa:List State=>1+wl State.parts a) (λa=>by omega) h
 refine⟨h1,λa ha =>?_,λa ha x hx =>?_⟩
 ·have:1+wl State.parts a≤1600:=h2 a ha
  have h3:=G9 State.parts c8Z a
  omega
 ·have:1+wl State.parts a≤1600:=h2 a ha
  have h3:=Cg State.parts hx
  omega
theorem SF.sw {s:State} (h:SF s) (hp:s.parts≤1600):SW s:=by
 induction s using State.ind with
 | h s ih =>
   have e:=State.parts_eq s
   obtain⟨a1,a2⟩:=AN Decl.parts Ha (l:=s.locals) (by omega)
   obtain⟨b1,b2⟩:=AN Eqn.parts Oc (l:=s.eqs) (by omega)
   obtain⟨c1,c2⟩:=AN Trn.parts Od (l:=s.unl) (by omega)
   obtain⟨d1,d2⟩:=AN Trn.parts Od (l:=s.til) (by omega)
   obtain⟨e1,e2,e3⟩:=Oe (l:=s.autos) (by omega)
   exact .mk s a1 (λd hd=>(h.ls d hd).dw (a2 d hd)) b1 (λq hq=>(h.es q hq).qw (b2 q hq)) c1 (λt ht=>⟨by have:=c2 t ht; unfold Trn.parts at this; omega,h.us t ht⟩) d1 (λt ht=>⟨by have:=d2 t ht; unfold Trn.parts at this; omega,h.ts t ht⟩) e1 e2 (λa ha x hx=>ih a ha x hx (h.ss a ha x hx) (e3 a ha x hx))
theorem NF.nw {n:Node} (h:NF n) (hp:n.parts≤1600):NW n:=by
 have e:n.parts=1+wl Decl.parts n.ins+wl Decl.parts n.outs+wl Decl.parts n.locals+wl Eqn.parts n.eqs+wl (λe=>1+Expr.parts e) n.assume+wl (λe=>1+Expr.parts e) n.ensure+yi n.autos:=rfl
 obtain⟨a1,a2⟩:=AN Decl.parts Ha (l:=n.ins) (by omega)
 obtain⟨b1,b2⟩:=AN Decl.parts Ha (l:=n.outs) (by omega)
 obtain⟨c1,c2⟩:=AN Decl.parts Ha (l:=n.locals) (by omega)
 obtain⟨d1,d2⟩:=AN Eqn.parts Oc (l:=n.eqs) (by omega)
 obtain⟨f1,f2⟩:=AN (λe=>1+Expr.parts e) (λx=>by omega) (l:=n.assume) (by omega)
 obtain⟨g1,g2⟩:=AN (λe=>1+Expr.parts e) (λx=>by omega) (l:=n.ensure) (by omega)
 obtain⟨e1,e2,e3⟩:=Oe (l:=n.autos) (by omega)
 exact⟨a1,λd hd=>(h.is d hd).dw (a2 d hd),b1,λd hd=>(h.os d hd).dw (b2 d hd),c1,λd hd=>(h.ls d hd).dw (c2 d hd),d1,λq hq=>(h.es q hq).qw (d2 q hq),⟨e1,e2,λa ha x hx=>(h.autos.ss a ha x hx).sw (e3 a ha x hx)⟩,
  f1,λx hx=>⟨by have:1+x.parts≤1600:=f2 x hx; omega,h.as x hx⟩,g1,λx hx=>⟨by have:1+x.parts≤1600:=g2 x hx; omega,h.gs x hx⟩⟩
theorem PF.pw {p:Prog} (h:PF p) (hs:parts p≤1600):PW p:=by
 have jf:=hs
 unfold parts at hs
 obtain⟨a1,a2⟩:=AN Enum.parts (λu=>by unfold Enum.parts; omega) (l:=p.enums) (by omega)
 obtain⟨b1,b2⟩:=AN Node.parts (λu=>by unfold Node.parts; omega) (l:=p.nodes) (by omega)
 exact⟨a1,λu hu=>by have:=a2 u hu; unfold Enum.parts at this; omega,b1,λn hn=>(h.ns n hn).nw (b2 n hn)⟩
def isT:Option (PV×List PObj)→Bool
 | some (.bool true,[])=>true
 | _=>false
theorem c5b {r:Option (PV×List PObj)} (h:isT r=true):r=some (.bool true,[]):=by
 unfold isT at h
 split at h
 ·rfl
 ·simp at h
theorem b9f:isT (call LS 200 7 [] [])=true:=by decide +kernel
theorem c0D:wn LS 7 [] []=some (.bool true,[]):=AY.2 ⟨200,c5b b9f⟩
section
variable {L:Nat→Option PFunc} (hL:∀k f,LS k=some f→L k=some f)
include hL
theorem c0E (p:Prog) (hp:PF p) (h:List PObj):wn L 6 [xd p] h=some (.bool (Ft p),h):=by
 obtain⟨n,h1,h2⟩:=c0Q hL p hp []
 have e:decide (1500≤n)=Ft p:=by unfold Ft; rw[aI,aq,aq]; unfold Cap at h2; omega
 refine wJ (hL 6 _ rfl) rfl ?_
 simp[Jh,h1,e]
end
end PI.Sc
