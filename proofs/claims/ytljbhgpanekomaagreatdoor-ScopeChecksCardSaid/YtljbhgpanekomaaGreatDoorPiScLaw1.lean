import Derived.Test.YtljbhgpanekomaaGreatDoorPiScSpec2
import Derived.Test.YtljbhgpanekomaaGreatDoorPiScRun1
set_option linter.unusedSimpArgs false
set_option linter.unusedVariables false
set_option linter.unusedSectionVars false
namespace PI.Sc
open Go (IntKind BinOp UnOp)
theorem HG {α:Type} {a b:List α}:(a++b).Nodup↔a.Nodup∧b.Nodup∧∀x∈b,x∉a:=by
 rw[cy]
 constructor
 ·rintro⟨h1,h2,h3⟩; exact⟨h1,h2,λx hx hy=>h3 x hy x hx rfl⟩
 ·rintro⟨h1,h2,h3⟩; exact⟨h1,h2,λx hx y hy e=>h3 y hy (e▸hx)⟩
theorem b8W {l o:List Str} {x:Str}:x∈wX l o↔x∈l∧x∉o:=by simp[wX]
theorem OZ (a b o:List Str):wX (a++b) o=wX a o++wX b o:=by simp[wX]
theorem b7w {l o:List Str} (h:∀x∈l,x∉o):wX l o=l:=by
 unfold wX
 rw[List.filter_eq_self]
 intro x hx; simp[h x hx]
theorem Dt {l o:List Str}:wX l o=[]↔∀x∈l,x∈o:=by
 unfold wX
 rw[List.filter_eq_nil_iff]
 constructor
 ·intro h x hx; have:=h x hx; simpa using this
 ·intro h x hx; simp[h x hx]
theorem O0 {d y:List Str} (h:∀x∈y,x∉d):wX (d++y) d=y:=by
 rw[OZ,Dt.2 (λx hx=>hx),b7w h]; rfl
theorem b57 {l o:List Str} (h:l.Nodup):(wX l o).Nodup:=h.filter _
theorem KT:∀(m l:List Str),m.Nodup→(∀x∈m,x∉l)→EB l m=l++m
 | [],l,_,_=>by simp[EB]
 | x :: m, l, hn, h => by
   have hx:=h x (by simp)
   rw[cu] at hn
   unfold EB
   rw[List.foldl_cons,af hx]
   have:=KT m (l++[x]) hn.2 (by
    intro y hy hm
    rcases ax.1 hm with h1|h1
    ·exact h y (by simp[hy]) h1
    ·simp only[bH] at h1; subst h1; exact hn.1 hy)
   unfold EB at this
   rw[this]; simp
theorem Cn {a:EN} {f:List Str→EN} {r:List Str}:xS a f=(0,r)↔a.1=0∧f a.2=(0,r):=by
 unfold xS
 by_cases h:a.1=0
 ·simp[h]
 ·simp only[h,if_false,false_and,iff_false]
  intro e; exact h (by simpa using aH Prod.fst e)
theorem yS {a:EN} (h:a.1=0):a=(0,a.2):=by rw[← h]
def Defs (s:Place) (d xs:List Str):Prop:=(∀x∈xs,x∈s.vis∧x∉s.inputs∧x∉d)∧xs.Nodup
theorem Defs.nil (s:Place) (d:List Str):Defs s d []:=⟨by simp,by simp⟩
theorem Defs.app {s:Place} {d a b:List Str}:Defs s d (a++b)↔Defs s d a∧Defs s (d++a) b:=by
 unfold Defs
 rw[HG]
 constructor
 ·rintro⟨h1,h2,h3,h4⟩
  refine⟨⟨λx hx=>h1 x (by simp[hx]),h2⟩,λx hx =>?_,h3⟩
  have:=h1 x (by simp[hx])
  have h5:=h4 x hx
  exact⟨this.1,this.2.1,by simp[this.2.2,h5]⟩
 ·rintro⟨⟨h1,h2⟩,h3,h4⟩
  refine⟨λx hx =>?_,h2,h4,λx hx =>?_⟩
  ·rcases ax.1 hx with h|h
   ·exact h1 x h
   ·have:=h3 x h
    exact⟨this.1,this.2.1,λhd=>this.2.2 (by simp[hd])⟩
  ·have:=h3 x hx
   exact λha=>this.2.2 (by simp[ha])
theorem KU (s:Place):∀(xs d r:List Str),Ad s xs d=(0,r)↔r=d++xs∧Defs s d xs
 | [],d,r=>by simp only[Ad,aL,Defs.nil,and_true,ac,true_and]; exact eq_comm
 | x :: xs, d, r => by
   have ih:=KU s xs (d++[x]) r
   have nC:x::xs=[x]++xs:=rfl
   rw[nC,Defs.app]
   have h1:Defs s d [x]↔x∈s.vis∧x∉s.inputs∧x∉d:=by unfold Defs; simp
   simp only[Ad,aW,bu]
   by_cases hv:x∈s.vis
   ·by_cases hd:x∈s.inputs∨x∈d
    ·have:¬Defs s d [x]:=by rw[h1]; rintro⟨_,a,b⟩; rcases hd with h|h; (exact a h); exact b h
     simp[hv,hd,this]
    ·simp only[not_or] at hd
     have:Defs s d [x]:=h1.2 ⟨hv,hd.1,hd.2⟩
     simp[hv,hd,this,ih]
   ·have:¬Defs s d [x]:=by rw[h1]; exact λh=>hv h.1
    simp[hv,this]
theorem Eh {s:Place} {q:Eqn} {d r:List Str}:xz s q d=(0,r)↔r=d++q.left∧Defs s d q.left∧xe s q.right q.left.length=0:=by
 unfold xz
 rw[Cn]
 constructor
 ·rintro⟨h1,h2⟩
  have h3:=(KU s q.left d _).1 (yS h1)
  simp only[ac] at h2
  exact⟨by rw[← h2.2,h3.1],h3.2,h2.1⟩
 ·rintro⟨rfl,h1,h2⟩
  rw[(KU s q.left d _).2 ⟨rfl,h1⟩]
  exact⟨rfl,by simp[h2]⟩
def xR (l:List Eqn):List Str:=l.flatMap (·.left)
theorem Ds (s:Place):∀(l:List Eqn) (d r:List Str),yT s l d=(0,r)↔r=d++xR l∧Defs s d (xR l)∧∀q∈l,xe s q.right q.left.length=0
 | [],d,r=>by simp only[yT,xR,List.flatMap_nil,aL,Defs.nil,true_and,List.not_mem_nil,false_imp_iff,implies_true,and_true,ac]; exact eq_comm
 | q :: l, d, r => by
   simp only[yT]
   rw[Cn]
   have hl:xR (q::l)=q.left++xR l:=by simp[xR]
   rw[hl,Defs.app]
   constructor
   ·rintro⟨h1,h2⟩
    obtain⟨h3,h4,h5⟩:=Eh.1 (yS h1)
    rw[h3] at h2
    obtain⟨h6,h7,h8⟩:=(Ds s l _ r).1 h2
    refine⟨by rw[h6,aC],⟨h4,h7⟩,?_⟩
    intro x hx
    rcases aA.1 hx with rfl|hx
    ·exact h5
    ·exact h8 x hx
   ·rintro⟨h1,⟨h2,h3⟩,h4⟩
    rw[Eh.2 ⟨rfl,h2,h4 q (by simp)⟩]
    refine⟨rfl,(Ds s l _ r).2 ⟨by rw[h1,aC],h3,λx hx=>h4 x (by simp[hx])⟩⟩
theorem Nw (s:Place):∀(l:List Eqn) (k:Nat) (d r:List Str),zT s l k d = .inr r↔yT s l d=(0,r)
 | [],k,d,r=>by simp[zT,yT]
 | q :: l, k, d, r => by
   simp only[zT,yT]
   rw[Cn]
   by_cases h:(xz s q d).1=0
   ·simp only[h,if_true,true_and]; exact Nw s l (k+1) _ r
   ·simp[h]
theorem KV (tags:List Str):∀(l:List Decl) (v r:List Str),w9 tags l v=(0,r)↔r=v++wv l∧(∀x∈wv l,x∉v∧x∉tags)∧(wv l).Nodup
 | [],v,r=>by simp only[w9,wv,bA,aL,List.not_mem_nil,false_imp_iff,implies_true,List.nodup_nil,and_true,ac,true_and]; exact eq_comm
 | d :: l, v, r => by
   have ih:=KV tags l (v++[d.name]) r
   simp only[w9]
   have hn:wv (d::l)=d.name::wv l:=rfl
   rw[hn,cu]
   by_cases h:d.name∈v∨d.name∈tags
   ·simp only[h,if_true,ac]
    constructor
    ·rintro⟨h,_⟩; exact absurd h (by decide)
    ·rintro⟨_,h2,_⟩
     have:=h2 d.name (by simp)
     rcases h with h|h
     ·exact absurd h this.1
     ·exact absurd h this.2
   ·simp only[h,if_false,ih]
    simp only[not_or] at h
    constructor
    ·rintro⟨h1,h2,h3⟩
     refine⟨by rw[h1]; simp,?_,?_,h3⟩
     ·intro x hx
      rcases aA.1 hx with rfl|hx
      ·exact h
      ·have:=h2 x hx
       exact⟨λhv=>this.1 (by simp[hv]),this.2⟩
     ·intro hm
      exact(h2 _ hm).1 (by simp)
    ·rintro⟨h1,h2,h3,h4⟩
     refine⟨by rw[h1]; simp,?_,h4⟩
     intro x hx
     have:=h2 x (by simp[hx])
     refine⟨?_,this.2⟩
     intro hm
     rcases ax.1 hm with h5|h5
     ·exact this.1 h5
     ·simp only[bH] at h5; subst h5; exact h3 hx
theorem yZ {b:Bool} {e:Int} (he:e≠0):need b e=0↔b=true:=by cases b<;>simp[he]
theorem O1 {v:List Str} {l:List Decl}:zg v l=0↔∀d∈l,∀o∈d.clock,o.name∈v:=by
 unfold zg
 rw[A2]
 constructor
 ·intro h d hd o ho
  have:=A2.1 (h d hd) o ho
  simpa using(yZ (by decide)).1 this
 ·intro h d hd
  rw[A2]
  intro o ho
  rw[yZ (by decide)]; simpa using h d hd o ho
theorem HH {v tags:List Str} {l:List Decl} {r:List Str}:xI v tags l=(0,r)↔r=v++wv l∧((∀x∈wv l,x∉v∧x∉tags)∧(wv l).Nodup)∧∀d∈l,∀o∈d.clock,o.name∈r:=by
 unfold xI
 rw[Cn]
 constructor
 ·rintro⟨h1,h2⟩
  obtain⟨h3,h4⟩:=(KV tags l v _).1 (yS h1)
  simp only[ac] at h2
  rw[← h2.2]
  exact⟨h3,h4,O1.1 h2.1⟩
 ·rintro⟨h1,h2,h3⟩
  rw[(KV tags l v _).2 ⟨rfl,h2⟩]
  refine⟨rfl,?_⟩
  rw[← h1,O1.2 h3]
mutual
def xH:List (List State)→List Str
 | []=>[]
 | []::xs=>xH xs
 | (s::r)::xs=>wX (AU s) (wv s.locals)++xH xs
def AU:State→List Str
 | .mk n l e a u w=>xR e++xH a
end
def yL (x:State):List Str:=wX (AU x) (wv x.locals)
theorem Dr (x:List State) (xs:List (List State)):xH (x::xs)=(x.map yL).headD []++xH xs:=by cases x<;>simp[xH,yL]
theorem c38 {l:List Eqn} (h:(xR l).Nodup):KW l=xR l:=by
 have:=KT (xR l) [] h (by simp)
 simpa[KW,xR] using this
mutual
theorem FS:∀(x:State) (s:Place) (d l:List Str),x8 s d x=(0,l)→l=yL x∧Defs s d (yL x)∧FT x=AU x
 | .mk n l e a u w, s, d, r, h => by
   simp only[x8] at h
   rw[Cn] at h; obtain⟨h1,h⟩:=h
   rw[Cn] at h; obtain⟨h2,h⟩:=h
   rw[Cn] at h; obtain⟨h3,h⟩:=h
   rw[Cn] at h; obtain⟨h4,h⟩:=h
   rw[Cn] at h; obtain⟨h5,h⟩:=h
   obtain⟨v1,v2,v3⟩:=HH.1 (yS h1)
   generalize (xI s.vis s.tags l).2=vis at *
   obtain⟨e1,e2,e3⟩:=(Ds (s.at vis) e d _).1 (yS h2)
   generalize (yT (s.at vis) e d).2=d1 at *
   obtain⟨a1,a2,a3⟩:=DH a (s.at vis) d1 _ (yS h3)
   generalize (xw (s.at vis) d1 a).2=d2 at *
   have hD:Defs (s.at vis) d (xR e++xH a):=Defs.app.2 ⟨e2,by rw[← e1]; exact a2⟩
   have iC:d2=d++(xR e++xH a):=by rw[a1,e1,aC]
   have hw:wX d2 d=xR e++xH a:=by rw[iC]; exact O0 λx hx=>(hD.1 x hx).2.2
   rw[hw] at h
   have ja:FT (.mk n l e a u w)=AU (.mk n l e a u w):=by
    simp only[FT,AU]
    rw[c38 e2.2]
    exact a3 _ λy hy hm=>(a2.1 y hy).2.2 (by rw[e1]; simp[hm])
   have dl:yL (.mk n l e a u w)=wX (xR e++xH a) (wv l):=by simp[yL,AU]
   have cY:Defs s d (yL (.mk n l e a u w)):=by
    rw[dl]
    refine⟨?_,b57 hD.2⟩
    intro x hx
    rw[b8W] at hx
    have:=hD.1 x hx.1
    refine⟨?_,this.2⟩
    have hv:x∈vis:=this.1
    rw[v1] at hv
    rcases ax.1 hv with h6|h6
    ·exact h6
    ·exact absurd h6 hx.2
   by_cases mc:wX (wv l) (xR e++xH a)=[]
   ·rw[ah mc] at h
    simp only[ac,true_and] at h
    exact⟨by rw[dl,h],cY,ja⟩
   ·rw[af mc] at h
    simp only[ac] at h
    exact absurd h.1 (by decide)
theorem KX:∀(xs:List State) (s:Place) (d:List Str) (ls:List (List Str)),yM s d xs=(0,ls)→ls=xs.map yL∧∀x∈xs,Defs s d (yL x)∧FT x=AU x
 | [],s,d,ls,h=>by simp only[yM,ac,true_and] at h; subst h; simp
 | x :: xs, s, d, ls, h => by
   simp only[yM] at h
   by_cases h1:(x8 s d x).1=0
   ·by_cases h2:(yM s d xs).1=0
    ·simp only[h1,h2,if_true,ac,true_and] at h
     obtain⟨a1,a2⟩:=FS x s d _ (yS h1)
     obtain⟨b1,b2⟩:=KX xs s d (yM s d xs).2 (by rw[← h2])
     refine⟨by rw[← h,a1,b1]; rfl,?_⟩
     intro y hy
     rcases aA.1 hy with rfl|hy
     ·exact a2
     ·exact b2 y hy
    ·simp[h1,h2] at h
   ·simp[h1] at h
theorem DH:∀(a:List (List State)) (s:Place) (d r:List Str),xw s d a=(0,r)→r=d++xH a∧Defs s d (xH a)∧∀out:List Str,(∀y∈xH a,y∉out)→DI out a=out++xH a
 | [], s, d, r, h => by
   simp only[xw,ac,true_and] at h
   subst h
   simp only[xH,aL,Defs.nil,DI,true_and,implies_true]
 | x :: xs, s, d, r, h => by
   simp only[xw] at h
   by_cases hn:(x.map (·.name)).Nodup
   ·simp only[hn,bc,if_false] at h
    by_cases h1:(yM s d x).1=0
    ·simp only[h1,ne_eq,bc,if_false] at h
     obtain⟨b1,b2⟩:=KX x s d (yM s d x).2 (by rw[← h1])
     rw[b1] at h
     split at h
     ·obtain⟨c1,c2,c3⟩:=DH xs s _ r h
      rw[Dr]
      have hd:Defs s d ((x.map yL).headD []):=by
       cases x with
       | nil=>exact Defs.nil s d
       | cons y x=>exact(b2 y (by simp)).1
      have hX:=Defs.app.2 ⟨hd,c2⟩
      refine⟨by rw[c1,aC],hX,?_⟩
      intro out ho
      cases x with
      | nil =>
        simp only[bA,List.headD_nil,bu] at ho ⊢
        simp only[DI]
        exact c3 out ho
      | cons y x =>
        simp only[aG,List.headD_cons] at *
        simp only[DI]
        have hy:=(b2 y (by simp)).2
        rw[hy]
        have hr:wX (AU y) (wv y.locals)=yL y:=rfl
        rw[hr,KT _ _ hd.2 (λz hz=>ho z (by simp[hz]))]
        rw[c3 (out++yL y) ?_,aC]
        intro z hz hm
        rcases ax.1 hm with h5|h5
        ·exact ho z (by simp[hz]) h5
        ·exact(c2.1 z hz).2.2 (by simp[h5])
     ·simp only[ac] at h; exact absurd h.1 (by decide)
    ·simp[h1] at h
   ·simp only[hn,cB,if_true,ac] at h; exact absurd h.1 (by decide)
end
def Seen (b:List Node) (l:List Expr):Prop:=∀e∈l,∃(s:Place) (n:Nat),s.before=b∧xe s e n=0
theorem Seen.app {b:List Node} {l m:List Expr}:Seen b (l++m)↔Seen b l∧Seen b m:=by
 unfold Seen
 constructor
 ·intro h; exact⟨λe he=>h e (by simp[he]),λe he=>h e (by simp[he])⟩
 ·rintro⟨h1,h2⟩ e he
  rcases ax.1 he with h|h
  ·exact h1 e h
  ·exact h2 e h
structure NodeOK (before:List Node) (tags:List Str) (n:Node) (c:List Str):Prop where
 new:n.name∉before.map (·.name)
 decl:xI [] tags (vars n)=(0,wv (vars n))
 eqs:yT ⟨before,wv (vars n),wv n.ins,tags⟩ n.eqs []=(0,xR n.eqs)
 autos:xw ⟨before,wv (vars n),wv n.ins,tags⟩ (xR n.eqs) n.autos=(0,c)
 assume:∀e∈n.assume,xe ⟨before,wv n.ins,wv n.ins,tags⟩ e 1=0
 ensure:∀e∈n.ensure,xe ⟨before,wv n.ins++wv n.outs,wv n.ins,tags⟩ e 1=0
 all:∀x∈wv n.outs++wv n.locals,x∈c
theorem NodeOK.c_eq {before:List Node} {tags:List Str} {n:Node} {c:List Str} (h:NodeOK before tags n c):c=xR n.eqs++xH n.autos:=(DH _ _ _ _ h.autos).1
theorem NodeOK.defs {before:List Node} {tags:List Str} {n:Node} {c:List Str} (h:NodeOK before tags n c):Defs ⟨before,wv (vars n),wv n.ins,tags⟩ [] c:=by
 rw[h.c_eq]
 refine Defs.app.2 ⟨((Ds _ _ _ _).1 h.eqs).2.1,?_⟩
 exact(DH _ _ _ _ h.autos).2.1
theorem O2 (n:Node):wv (vars n)=wv n.ins++(wv n.outs++wv n.locals):=by simp[wv,vars]
theorem NodeOK.length {before:List Node} {tags:List Str} {n:Node} {c:List Str} (h:NodeOK before tags n c):c.length=n.outs.length+n.locals.length:=by
 obtain⟨_,⟨_,hv⟩,_⟩:=HH.1 h.decl
 rw[O2,HG] at hv
 have hp:c.Perm (wv n.outs++wv n.locals):=by
  rw[List.perm_ext_iff_of_nodup h.defs.2 hv.2.1]
  intro x
  constructor
  ·intro hx
   have:=h.defs.1 x hx
   have h1:x∈wv (vars n):=this.1
   rw[O2] at h1
   rcases ax.1 h1 with h2|h2
   ·exact absurd h2 this.2.1
   ·exact h2
  ·exact h.all x
 rw[hp.length_eq]; simp[wv]
structure OK (p:Prog):Prop where
 shape:A4 p=none
 enums:BO p.enums=true
 nodes:AG (yw p.enums) [] p.nodes=none
theorem Nz (en:List Enum):∀(ns:List Node) (i:Nat),Am en ns i=none↔∀n∈ns,∀k:Nat,zc en n k=none
 | [],i=>by simp[Am]
 | n :: ns, i => by
   have hk:∀k:Nat,zc en n i=none↔zc en n k=none:=by
    intro k
    unfold zc
    split
    ·simp
    ·cases Av (zr en) n.eqs 0 with
     | some x=>simp
     | none=>simp only; split<;>simp
   simp only[Am,aA,forall_eq_or_imp]
   cases hn:zc en n i with
   | some x =>
     simp only[reduceCtorEq,false_iff,not_and]
     intro h
     rw[h i] at hn; simp at hn
   | none =>
     simp only
     rw[Nz en ns (i+1)]
     exact⟨λh=>⟨λk=>(hk k).1 hn,h⟩,λh=>h.2⟩
end PI.Sc
set_option linter.unusedSimpArgs false
set_option linter.unusedVariables false
namespace PI.Sc
open Go (IntKind BinOp UnOp)
open Go.Lib (decDigits)
theorem KY:∀(l m:List Str),l.Nodup→(∀x∈l,x∈m)→l.length≤m.length
 | [],m,_,_=>by simp
 | x :: l, m, hn, h => by
   rw[cu] at hn
   have:=KY l (m.erase x) hn.2 (by
    intro y hy
    have c9:y≠x:=λe=>hn.1 (e▸hy)
    exact(List.mem_erase_of_ne c9).2 (h y (by simp[hy])))
   have hx:=List.length_erase_of_mem (h x (by simp))
   have hp:0<m.length:=List.length_pos_of_mem (h x (by simp))
   simp only[bi]
   omega
def low (b:UInt8):Bool:=decide (97≤b.toNat∧b.toNat≤122)
structure Near (x:Str) (s s':Place):Prop where
 before:s'.before=s.before
 inputs:s'.inputs=s.inputs
 tags:s'.tags=s.tags
 more:∀y∈s.vis,y∈s'.vis
 less:∀y∈s'.vis,y∈s.vis∨y=x
theorem Near.at {x:Str} {s s':Place} (h:Near x s s') (l:List Str):Near x (s.at (s.vis++l)) (s'.at (s'.vis++l)):=by
 refine⟨h.before,h.inputs,h.tags,?_,?_⟩
 ·intro y hy
  rcases ax.1 hy with h1|h1
  ·exact bW _ (h.more y h1)
  ·exact cg _ h1
 ·intro y hy
  rcases ax.1 hy with h1|h1
  ·rcases h.less y h1 with h2|h2
   ·exact .inl (bW _ h2)
   ·exact .inr h2
  ·exact .inl (cg _ h1)
theorem FU {α:Type} {f:α→Int}:∀{l:List α} {i:Nat},Av f l i=none↔∀x∈l,f x=0
 | [],i=>by simp[Av]
 | x :: l, i => by
   unfold Av
   by_cases h:f x=0
   ·simp[h,FU (l:=l)]
   ·simp[h]
theorem Ny {en:List Enum} {n:Node} {i:Nat}:zc en n i=none↔zD en n=0∧(∀q∈n.eqs,zr en q=0)∧Aq en n=0:=by
 unfold zc
 by_cases h1:zD en n=0
 ·simp only[h1,ne_eq,bc,if_false,true_and]
  cases h2:Av (zr en) n.eqs 0 with
  | none =>
    have:=FU.1 h2
    by_cases h3:Aq en n=0
    ·simp[h3]; exact this
    ·simp[h3]
  | some x =>
    simp only[reduceCtorEq,false_iff,not_and]
    intro h
    rw[FU.2 h] at h2; simp at h2
 ·simp[h1]
end PI.Sc
set_option linter.unusedSimpArgs false
set_option linter.unusedVariables false
namespace PI.Sc
open Go (IntKind BinOp UnOp)
section
variable {L:Nat→Option PFunc} {Q:PExit→St→Prop}
theorem b7y {α:Type} {f:α→Int} {l:List α} {i:Nat} (hi:i<l.length) (h:f l[i]≠0) (hk:∀k (hk:k<l.length),k<i→f l[k]=0):wA f l=f l[i]:=
 O4 hi h λk h1=>hk k (by omega) h1
theorem Ae {α γ:Type} {c:PC} {V:List PV} {g:Nat} {h:List PObj} (l:List α) (f:α→Int) (M:Nat→γ→List (Nat×PV)) (G:Nat→γ→Nat) (H:Nat→γ→List PObj) (x0:γ)
  (step:∀i (hi:i<l.length),f l[i]=0→∀x,(∀y,wpL L (.loop c) ⟨upd V (M (i+1) y),[],G (i+1) y,H (i+1) y⟩ Q)→wpL L c ⟨upd V (M i x),[],G i x,H i x⟩ (xB L c Q))
  (fail:∀i (hi:i<l.length),f l[i]≠0→wA f l=f l[i]→∀x,wpL L c ⟨upd V (M i x),[],G i x,H i x⟩ (xB L c Q))
  (last:wA f l=0→∀x,wpL L c ⟨upd V (M l.length x),[],G l.length x,H l.length x⟩ (xB L c Q)) (hV:upd V (M 0 x0)=V) (hG:G 0 x0=g) (hH:H 0 x0=h):wpL L (.loop c) ⟨V,[],g,h⟩ Q:=by
 refine K0 l.length (λi=>if h:i<l.length then decide (f l[i]=0) else true) M G H x0 ?_ ?_ ?_ hV hG hH
 ·intro i hi cJ x ih
  simp only[hi,dif_pos,ak] at cJ
  exact step i hi cJ x ih
 ·intro i hi cJ hk x
  simp only[hi,dif_pos,aT] at cJ
  refine fail i hi cJ (b7y hi cJ λk h1 h2 =>?_) x
  have:=hk k h2
  simp only[h1,dif_pos,ak] at this
  exact this
 ·intro cJ x
  refine last (A2.2 ?_) x
  intro y hy
  obtain⟨k,hk,rfl⟩:=bg.1 hy
  have:=cJ k hk
  simp only[hk,dif_pos,ak] at this
  exact this
theorem zy {α γ:Type} {c:PC} {V:List PV} {g:Nat} {h:List PObj} (l:List α) (f:α→Int) (M:Nat→γ→List (Nat×PV)) (x0:γ)
  (step:∀i (hi:i<l.length),f l[i]=0→∀x,(∀y,wpL L (.loop c) ⟨upd V (M (i+1) y),[],g,h⟩ Q)→wpL L c ⟨upd V (M i x),[],g,h⟩ (xB L c Q))
  (fail:∀i (hi:i<l.length),f l[i]≠0→wA f l=f l[i]→∀x,wpL L c ⟨upd V (M i x),[],g,h⟩ (xB L c Q))
  (last:wA f l=0→∀x,wpL L c ⟨upd V (M l.length x),[],g,h⟩ (xB L c Q)) (hV:upd V (M 0 x0)=V):wpL L (.loop c) ⟨V,[],g,h⟩ Q:=
 Ae l f M (λ_ _=>g) (λ_ _=>h) x0 step fail last hV rfl rfl
theorem c39 {γ:Type} {c:PC} {V:List PV} {g:Nat} {h:List PObj} (n:Nat) (M:Nat→γ→List (Nat×PV)) (G:Nat→γ→Nat) (H:Nat→γ→List PObj) (x0:γ)
  (step:∀i,i<n→∀x,(∀y,wpL L (.loop c) ⟨upd V (M (i+1) y),[],G (i+1) y,H (i+1) y⟩ Q)→wpL L c ⟨upd V (M i x),[],G i x,H i x⟩ (xB L c Q))
  (last:∀x,wpL L c ⟨upd V (M n x),[],G n x,H n x⟩ (xB L c Q)) (hV:upd V (M 0 x0)=V) (hG:G 0 x0=g) (hH:H 0 x0=h):wpL L (.loop c) ⟨V,[],g,h⟩ Q:=
 K0 n (λ_=>true) M G H x0 (λi hi _=>step i hi) (λ_ _ h=>by simp at h) (λ_=>last) hV hG hH
end
theorem yQ {L:Nat→Option PFunc} {c:PC} {Q:PExit→St→Prop} (n:Nat) (Inv:Nat→St→Prop) {st:St}
  (step:∀i,i<n→∀st,Inv i st→(∀st',Inv (i+1) st'→wpL L (.loop c) st' Q)→wpL L c st (xB L c Q))
  (last:∀st,Inv n st→wpL L c st (xB L c Q)) (h0:Inv 0 st):wpL L (.loop c) st Q:=by
 have key:∀k i st,i+k=n→Inv i st→wpL L (.loop c) st Q:=by
  intro k
  induction k with
  | zero =>
    intro i st hi hh
    have:i=n:=by omega
    subst this
    rw[zo]
    exact last st hh
  | succ k ih =>
    intro i st hi hh
    rw[zo]
    exact step i (by omega) st hh λst' h'=>ih (i+1) st' (by omega) h'
 exact key n 0 st (by omega) h0
def wu {α:Type} (f:α→Nat):List α→Nat
 | []=>0
 | x::xs=>f x+wu f xs
theorem KZ {α:Type} (f:α→Nat):∀a b:List α,wu f (a++b)=wu f a+wu f b
 | [],b=>by simp[wu]
 | x::a,b=>by simp[wu,KZ f a b]; omega
theorem A3 {α:Type} (f:α→Nat) {x:α}:∀{l:List α},x∈l→f x≤wu f l
 | [],h=>by simp at h
 | y :: l, h => by
   simp only[wu]
   rcases aA.1 h with rfl|h
   ·omega
   ·have:=A3 f h; omega
theorem EA {α:Type} (f:α→Nat) (h:∀x,1≤f x):∀l:List α,l.length≤wu f l
 | []=>by simp
 | x::l=>by have:=h x; have:=EA f h l; simp only[wu,bi]; omega
theorem O3 {α β:Type} (g:α→List β) (f:α→Nat):∀l:List α,(∀x∈l,(g x).length≤f x)→(l.flatMap g).length≤wu f l
 | [],_=>by simp
 | x :: l, h => by
   have h1:=h x (by simp)
   have h2:=O3 g f l (λy hy=>h y (by simp[hy]))
   simp only[bh,av,wu]; omega
def Expr.parts (e:Expr):Nat:=e.list.length
def Eqn.parts (q:Eqn):Nat:=1+q.left.length+q.right.parts
def Decl.parts (d:Decl):Nat:=1+d.clock.length+d.name.length / 100
def Trn.parts (t:Trn):Nat:=1+t.cond.parts
mutual
def State.parts:State→Nat
 | .mk n l e a u w=>1+wu Decl.parts l+wu Eqn.parts e+wu Trn.parts u+wu Trn.parts w+yI a
def Ce:List State→Nat
 | []=>0
 | x::xs=>x.parts+Ce xs
def yI:List (List State)→Nat
 | []=>0
 | x::xs=>1+Ce x+yI xs
end
theorem Ek:∀l:List State,Ce l=wu State.parts l
 | []=>rfl
 | x::l=>by simp[Ce,wu,Ek l]
theorem Ej:∀l:List (List State),yI l=wu (λa=>1+wu State.parts a) l
 | []=>rfl
 | x::l=>by simp[yI,wu,Ej l,Ek]
def Node.parts (n:Node):Nat:=1+wu Decl.parts n.ins+wu Decl.parts n.outs+wu Decl.parts n.locals+wu Eqn.parts n.eqs+wu (λe=>1+Expr.parts e) n.assume+wu (λe=>1+Expr.parts e) n.ensure+yI n.autos
def Enum.parts (u:Enum):Nat:=1+u.tags.length
def parts (p:Prog):Nat:=wu Enum.parts p.enums+wu Node.parts p.nodes
def FR (p:Prog):Bool:=decide (1500≤parts p)
def Cap (m n T:Int):Prop:=(n<m↔T<m)∧(n<m→n=T)
theorem Cap.refl (m n:Int):Cap m n n:=⟨Iff.rfl,λ_=>rfl⟩
theorem Cap.min {m T:Int}:Cap m (if T<m then T else m) T:=by unfold Cap; split<;>omega
theorem Cap.add {m a b A B:Int} (h1:Cap m a A) (h2:Cap m b B) (p1:0≤a) (p2:0≤b) (p3:0≤A) (p4:0≤B):Cap m (a+b) (A+B):=by unfold Cap at *; omega
end PI.Sc
set_option maxRecDepth 100000
set_option linter.unusedSimpArgs false
set_option linter.unusedVariables false
namespace PI.Sc
open Go (IntKind BinOp UnOp)
theorem zn {α:Type} {l:List α} {i:Nat} (h:i<l.length):l.take (i+1)=l.take i++[l[i]]:=by rw[bS,an h]; rfl
theorem zZ {α:Type} (f:α→Nat) {l:List α} {i:Nat} (h:i<l.length):wu f (l.take (i+1))=wu f (l.take i)+f l[i]:=by rw[zn h,KZ]; simp[wu]
theorem Le {α:Type} (f:α→Nat) (l:List α) (i:Nat):wu f (l.take i)≤wu f l:=by
 have:=KZ f (l.take i) (l.drop i)
 rw[bO] at this
 omega
theorem parts_eq (e:Expr):e.parts=1+wu Expr.parts e.args:=by
 unfold Expr.parts
 rw[Expr.list_eq]
 have:∀l:List Expr,(l.flatMap Expr.list).length=wu (λx=>x.list.length) l:=by
  intro l
  induction l with
  | nil=>rfl
  | cons x l ih=>simp only[bh,av,wu,ih]
 simp only[bi,this]
 show _=1+wu (λe=>e.list.length) e.args
 omega
theorem c2L (e:Expr):1≤e.parts:=by rw[parts_eq]; omega
theorem HT (e:Expr):e.args.length<e.parts:=by
 have:=EA Expr.parts c2L e.args
 rw[parts_eq]; omega
theorem Li {e x:Expr} (h:x∈e.args):x.parts<e.parts:=by
 have:=A3 Expr.parts h
 rw[parts_eq e]; omega
theorem NI (n:Nat) (h:n≤9223372036854775807):IntKind.i64.wrap (n:Int)=n:=xx _ (by omega) (by omega)
theorem PA {e:Expr} (h:e.parts≤1500):e.size=e.parts:=by unfold Expr.size; exact NI _ (by unfold Expr.parts at h; omega)
section
variable {L:Nat→Option PFunc} (hL:∀k f,LS k=some f→L k=some f)
include hL
theorem c2M (e:Expr):e.parts≤1500→∀h,wr L 156 [wy e] h=some (.int .i64 e.parts,h):=by
 induction e using Expr.ind with
 | h e ih=>
 intro hp h
 have dt:=HT e
 refine wz (hL 156 _ rfl) rfl ?_
 simp[KE]
 refine C5 e.args.length (λi (_:Unit)=>[(3,.int .i64 (1+(wu Expr.parts (e.args.take i):Nat))),(4,.int .i64 i)]) (λ_ _=>h) () ?_ ?_ (by simp[wu]) rfl
 ·intro i hi _ ih2
  have hw:=wC i (by omega)
  have h1:=zZ Expr.parts hi
  have h2:=Le Expr.parts e.args (i+1)
  have h3:=parts_eq e
  have hc:=ih e.args[i] (ae hi) (by omega) []
  rw[h1] at h2
  have ih2:=ih2 ()
  rw[h1] at ih2
  generalize wu Expr.parts (e.args.take i)=a at *
  generalize e.args[i].parts=b at *
  have ip:IntKind.i64.wrap (1+(a:Int)+(b:Int))=1+(a:Int)+b:=xx _ (by omega) (by omega)
  simp[hi,hw,hc,ip]
  simpa[Int.add_assoc] using ih2
 ·intro _
  have h3:=parts_eq e
  simp[h3]
theorem c0U (e:Expr):e.parts≤1500→∀h,wr L 157 [wy e] h=some (.int .i64 e.depth,h):=by
 induction e using Expr.ind with
 | h e ih=>
 intro hp h
 have dt:=HT e
 refine wz (hL 157 _ rfl) rfl ?_
 simp[KF]
 refine C5 e.args.length (λi (_:Unit)=>[(3,.int .i64 ((e.args.take i).foldl (λm x=>if x.depth>m then x.depth else m) 0)),(4,.int .i64 i)]) (λ_ _=>h) () ?_ ?_ (by simp) rfl
 ·intro i hi _ ih2
  have hw:=wC i (by omega)
  have nC:=Li (ae hi)
  have hc:=ih e.args[i] (ae hi) (by omega) []
  have ih2:=ih2 ()
  rw[zn hi,List.foldl_append] at ih2
  generalize (e.args.take i).foldl (λm x=>if x.depth>m then x.depth else m) 0=a at *
  simp[hi,hw,hc,BC]
  simpa using ih2
 ·intro _
  have:=Expr.depth_eq e
  unfold wrap at this
  simp[this]
theorem c4j (e:Expr):e.parts≤1500→∀(l:List Expr),l.length+e.parts≤3000→wr L 85 (Ar (some 1) [wy e,.list true (l.map wy)]) []=some (.list true ((l++e.list).map wy),[]):=by
 induction e using Expr.ind with
 | h e ih=>
 intro hp l hl
 have dt:=HT e
 have qi:=parts_eq e
 refine PT (hL 85 _ rfl) rfl ?_
 have ei:l.length+1≤2147483648:=by omega
 simp[J8,BD,ei]
 refine C5 e.args.length (λi (_:Unit)=>[(1,.list true ((l++e::(e.args.take i).flatMap Expr.list).map wy)),(4,.int .i64 i)]) (λ_ _=>[]) () ?_ ?_ (by simp) rfl
 ·intro i hi _ ih2
  have hw:=wC i (by omega)
  have nC:=Li (ae hi)
  have h1:=zZ Expr.parts hi
  have h2:=Le Expr.parts e.args (i+1)
  have fW:((e.args.take i).flatMap Expr.list).length=wu Expr.parts (e.args.take i):=by
   generalize e.args.take i=l
   induction l with
   | nil=>rfl
   | cons x l ih=>simp only[bh,av,wu,ih]; rfl
  have hc:=ih e.args[i] (ae hi) (by omega) (l++e::(e.args.take i).flatMap Expr.list) (by simp only[av,bi,fW]; omega)
  have ih2:=ih2 ()
  rw[zn hi,List.flatMap_append,List.flatMap_singleton,← aW,← aC] at ih2
  generalize l++e::(e.args.take i).flatMap Expr.list=z at *
  simp[hi,hw,hc]
  simpa using ih2
 ·intro _
  have:=Expr.list_eq e
  simp[this]
theorem PU (e:Expr) (hp:e.parts≤1500) (h:List PObj):wr L 41 [wy e] h=some (.list true (e.list.map wy),h):=by
 have hc:=c4j hL e hp [] (by simp; omega)
 refine wz (hL 41 _ rfl) rfl ?_
 simp at hc
 simp[JQ,hc]
theorem Ga (e:Expr) (k:Int) (hp:e.parts≤1500) (h:List PObj):wr L 178 [wy e,.int .i64 k] h=some (.int .i64 (e.list.countP λx=>x.kind=k:Nat),h):=by
 refine wz (hL 178 _ rfl) rfl ?_
 have hc:=PU hL e hp []
 have cI:e.list.length≤1500:=hp
 simp[KM,hc]
 generalize e.list=l at *
 refine C5 l.length (λi (_:Unit)=>[(4,.int .i64 ((l.take i).countP λx=>x.kind=k:Nat)),(6,.int .i64 i)]) (λ_ _=>h) () ?_ ?_ (by simp) rfl
 ·intro i hi _ ih2
  have hw:=wC i (by omega)
  have ih2:=ih2 ()
  rw[zn hi,List.countP_append] at ih2
  have el:(l.take i).countP (λx=>x.kind=k)≤i:=by
   have:=List.countP_le_length (p:=λx:Expr=>decide (x.kind=k)) (l:=l.take i)
   simp at this ⊢; omega
  generalize (l.take i).countP (λx=>x.kind=k)=a at *
  have ip:=wC a (by omega)
  by_cases hk:l[i].kind=k
  ·simp[hk] at ih2
   simp[hi,hw,hk,ip]
   simpa using ih2
  ·simp[hk] at ih2
   simp[hi,hw,hk]
   simpa using ih2
 ·intro _
  simp
theorem PY (e:Expr) (hp:e.parts≤1500) (h:List PObj):wr L 168 [wy e] h=some (.bool (Bt e),h):=by
 refine wz (hL 168 _ rfl) rfl ?_
 have hb:∀k:Int,e.list.countP (λx=>x.kind=k)≤1500:=λk=>by
  have:=List.countP_le_length (p:=λx:Expr=>decide (x.kind=k)) (l:=e.list)
  have:e.list.length≤1500:=hp
  omega
 have c5:=Ga hL e 5 hp []
 have c6:=Ga hL e 6 hp []
 have c7:=Ga hL e 7 hp []
 have c10:=Ga hL e 10 hp []
 have c11:=Ga hL e 11 hp []
 have b5:=hb 5
 have b6:=hb 6
 have b7:=hb 7
 have b10:=hb 10
 have b11:=hb 11
 have hz:∀k:Int,e.list.countP (λx=>x.kind=k)=0↔∀x∈e.list,¬x.kind=k:=λk=>by simp[List.countP_eq_zero]
 have hs:Bt e=decide (e.list.countP (λx=>x.kind=5)+e.list.countP (λx=>x.kind=6)+e.list.countP (λx=>x.kind=7)+e.list.countP (λx=>x.kind=10)+e.list.countP (λx=>x.kind=11)=0):=by
  unfold Bt
  rw[aF,aD]
  simp only[ak,Nat.add_eq_zero_iff,hz]
  constructor
  ·intro h
   refine⟨⟨⟨⟨?_,?_⟩,?_⟩,?_⟩,?_⟩<;>intro x hx hk<;>have:=h x hx<;>simp[hk] at this
  ·rintro⟨⟨⟨⟨h1,h2⟩,h3⟩,h4⟩,h5⟩ x hx
   simp[h1 x hx,h2 x hx,h3 x hx,h4 x hx,h5 x hx]
 rw[hs]
 generalize e.list.countP (λx=>x.kind=5)=n5 at *
 generalize e.list.countP (λx=>x.kind=6)=n6 at *
 generalize e.list.countP (λx=>x.kind=7)=n7 at *
 generalize e.list.countP (λx=>x.kind=10)=n10 at *
 generalize e.list.countP (λx=>x.kind=11)=n11 at *
 have w1:IntKind.i64.wrap ((n5:Int)+n6)=n5+n6:=xx _ (by omega) (by omega)
 have w2:IntKind.i64.wrap ((n5:Int)+n6+n7)=n5+n6+n7:=xx _ (by omega) (by omega)
 have w3:IntKind.i64.wrap ((n5:Int)+n6+n7+n10)=n5+n6+n7+n10:=xx _ (by omega) (by omega)
 have w4:IntKind.i64.wrap ((n5:Int)+n6+n7+n10+n11)=n5+n6+n7+n10+n11:=xx _ (by omega) (by omega)
 simp[KI,c5,c6,c7,c10,c11,w1,w2,w3,w4]
 rw[aF,bl]
 simp
 omega
end
def EW (e:Expr):Prop:=∀x∈e.list,Ax x.t∧Ax x.v∧x.args.length≤140737488355328
theorem EW.self {e:Expr} (h:EW e):Ax e.t∧Ax e.v∧e.args.length≤140737488355328:=h e (by rw[Expr.list_eq]; simp)
theorem EW.arg {e x:Expr} (h:EW e) (hx:x∈e.args):EW x:=λy hy=>h y (by rw[Expr.list_eq]; exact bD _ (List.mem_flatMap.2 ⟨x,hx,hy⟩))
theorem EW.mem {e x:Expr} (h:EW e) (hx:x∈e.list):EW x:=by
 induction e using Expr.ind with
 | h e ih =>
   rw[Expr.list_eq] at hx
   rcases aA.1 hx with rfl|hx
   ·exact h
   ·obtain⟨y,hy,hx⟩:=List.mem_flatMap.1 hx
    exact ih y hy (h.arg hy) hx
@[simp] theorem d6s (a b:Int):(a==b)=decide (a=b):=by rw[aF]; simp
@[simp] theorem d6t (a b:Int):(a != b) = !decide (a=b):=by rw[aF]; simp
@[simp] theorem d6u (a b:Str):(a==b)=decide (a=b):=by rw[aF]; simp
@[simp] theorem d6v (a b:Str):(a != b) = !decide (a=b):=by rw[aF]; simp
@[simp] theorem d6w (a b:Bool):(a==b)=decide (a=b):=by cases a<;>cases b<;>rfl
def xi (e:Expr):Bool:=
 let n:Int:=e.args.length
 if e.kind=1∨e.kind=2∨e.kind=11 then decide (n=0)
 else if e.kind=3 then decide (n=if e.op=1∨e.op=2 then 1 else 2)
 else if e.kind=4 then decide (n=3)
 else if e.kind=5∨e.kind=8 then decide (n=1)
 else if e.kind=6∨e.kind=7 then decide (n=2)
 else if e.kind=9 then(if e.t=1 then decide (n=2) else decide (1≤n∧n≤16))
 else decide (1≤n∨e.v=0)
theorem HS (k:Int):k<1∨k=1∨k=2∨k=3∨k=4∨k=5∨k=6∨k=7∨k=8∨k=9∨k=10∨k=11∨11<k:=by omega
section
variable {L:Nat→Option PFunc} (hL:∀k f,LS k=some f→L k=some f)
include hL
theorem Bb (k:Int) (h:List PObj):wr L 159 [.int .i64 k] h=some (.bool (xr k),h):=by
 refine wz (hL 159 _ rfl) rfl ?_
 by_cases h1:k=2
 ·subst h1; simp[DD,xr]
 ·by_cases h2:k=8
  ·subst h2; simp[DD,xr]
  ·by_cases h3:k=9
   ·subst h3; simp[DD,xr]
   ·by_cases h4:k=10
    ·subst h4; simp[DD,xr]
    ·simp[DD,xr,h1,h2,h3,h4]
theorem BX (t v:Int) (h:List PObj):wr L 166 [.int .i64 t,.int .i64 v] h=some (.bool (AM t v),h):=by
 refine wz (hL 166 _ rfl) rfl ?_
 by_cases h1:t=1
 ·subst h1
  by_cases h2:v=0
  ·simp[Ev,AM,h2]
  ·by_cases h3:v=1<;>simp[Ev,AM,h2,h3]
 ·by_cases h2:2<t
  ·by_cases h3:0≤v<;>by_cases h4:v<16<;>simp[Ev,AM,h1,h2,h3,h4]<;>omega
  ·simp[Ev,AM,h1,h2]
   omega
theorem BY (e:Expr) (h:List PObj):wr L 165 [wy e] h=some (.bool (xi e),h):=by
 refine wz (hL 165 _ rfl) rfl ?_
 rcases HS e.kind with hk|hk|hk|hk|hk|hk|hk|hk|hk|hk|hk|hk|hk
 ·have n1:¬e.kind=1:=by omega
  have n2:¬e.kind=2:=by omega
  have n3:¬e.kind=3:=by omega
  have n4:¬e.kind=4:=by omega
  have n5:¬e.kind=5:=by omega
  have n6:¬e.kind=6:=by omega
  have n7:¬e.kind=7:=by omega
  have n8:¬e.kind=8:=by omega
  have n9:¬e.kind=9:=by omega
  have n11:¬e.kind=11:=by omega
  by_cases h1:1≤(e.args.length:Int)<;>simp[Ap,xi,n1,n2,n3,n4,n5,n6,n7,n8,n9,n11,h1]
 ·simp[Ap,xi,hk]
 ·simp[Ap,xi,hk]
 ·by_cases h1:e.op=1
  ·simp[Ap,xi,hk,h1]
  ·by_cases h2:e.op=2<;>simp[Ap,xi,hk,h1,h2]
 ·simp[Ap,xi,hk]
 ·simp[Ap,xi,hk]
 ·simp[Ap,xi,hk]
 ·simp[Ap,xi,hk]
 ·simp[Ap,xi,hk]
 ·by_cases h1:e.t=1
  ·simp[Ap,xi,hk,h1]
  ·by_cases h2:1≤(e.args.length:Int)<;>simp[Ap,xi,hk,h1,h2]
 ·by_cases h1:1≤(e.args.length:Int)<;>simp[Ap,xi,hk,h1]
 ·simp[Ap,xi,hk]
 ·have n1:¬e.kind=1:=by omega
  have n2:¬e.kind=2:=by omega
  have n3:¬e.kind=3:=by omega
  have n4:¬e.kind=4:=by omega
  have n5:¬e.kind=5:=by omega
  have n6:¬e.kind=6:=by omega
  have n7:¬e.kind=7:=by omega
  have n8:¬e.kind=8:=by omega
  have n9:¬e.kind=9:=by omega
  have n11:¬e.kind=11:=by omega
  by_cases h1:1≤(e.args.length:Int)<;>simp[Ap,xi,n1,n2,n3,n4,n5,n6,n7,n8,n9,n11,h1]
end
@[simp] theorem d0y (cs:List PV):(PV.agg cs).cells=cs:=rfl
def xM (s:Str):List PV:=s.map λb => .bool (b==49)
theorem b7M {s:Str} {i:Nat} (hi:i<s.length) (hb:yz s[i]=true):xm s i=s[i]::xm s (i+1):=by
 unfold xm
 rw[aN hi,List.takeWhile_cons,ah hb]
theorem b7N {s:Str} {i:Nat} (hi:i<s.length) (hb:yz s[i]=false):xm s i=[]:=by
 unfold xm
 rw[aN hi,List.takeWhile_cons,hb]; simp
theorem P1 {s:Str} {i:Nat} (hi:s.length≤i):xm s i=[]:=by
 unfold xm
 rw[ba hi]; rfl
theorem P2 (s:Str) (i:Nat):(xm s i).length≤s.length - i:=by
 unfold xm
 have:=(List.takeWhile_sublist (p:=yz) (l:=s.drop i)).length_le
 simpa using this
theorem Lh (b:UInt8):yz b=true↔b.toNat=48∨b.toNat=49:=by
 unfold yz
 simp only[bF,bl,← UInt8.toNat_inj]
 rfl
theorem Px (b:UInt8):(b==49)=decide ((b.toNat:Int)=49):=by
 rw[aF,bl,ak,← UInt8.toNat_inj]
 show b.toNat=49↔_
 omega
theorem FZ (s:Str):wP (xM s)=true:=by unfold xM; exact Bp (λ_=>rfl) s
theorem HQ (s:Str):(xM s).length=s.length:=by simp[xM]
theorem P3 (b:UInt8):((b.toNat:Int)=40)↔b=40:=by
 rw[← UInt8.toNat_inj]
 show _↔b.toNat=40
 omega
theorem P4 (b:UInt8):((b.toNat:Int)=41)↔b=41:=by
 rw[← UInt8.toNat_inj]
 show _↔b.toNat=41
 omega
section
variable {L:Nat→Option PFunc} (hL:∀k f,LS k=some f→L k=some f)
include hL
theorem P5 (s:Str) (hs:s.length≤66) (i:Nat) (hi:i≤1000) (h:List PObj):∃o,wr L 176 [.str s,.int .i64 i] h=some (.list o (xM (xm s i)),h):=by
 refine⟨false,?_⟩
 refine wz (hL 176 _ rfl) rfl ?_
 simp[KL]
 suffices H:∀(d j:Nat) (acc:Str),j+d=66+1000+1→j≤1067→acc.length≤j→xm s i=acc++xm s j →
   wpL L FO ⟨[.str s,.int .i64 j,.list true [],.list true (xM acc)],[],0,h⟩ (AQ 0 (A8 L (.seq (.region [⟨.l,.mov (.v 3),none⟩,⟨.v 2,.take (.l 0),none⟩]) .ret) (Bs [.var 2] (.list false (xM (xm s i)),h)))) by
  simpa[xM] using H (1067 - i) i [] (by omega) (by omega) (by simp) (by simp)
 intro d
 induction d with
 | zero =>
   intro j acc h1 h2 h3 h4
   rw[FO,zo]
   have:¬(j:Int)<s.length:=by omega
   have hj:xm s j=[]:=P1 (by omega)
   rw[hj,aL] at h4
   simp[this,h4]
 | succ d ih =>
   intro j acc h1 h2 h3 h4
   rw[FO,zo]
   by_cases hj:j<s.length
   ·have hw:=wC j (by omega)
    have hb:=Lh s[j]
    have sa:=Px s[j]
    cases lK:yz s[j] with
    | true =>
      rw[b7M hj lK,← List.singleton_append,← aC] at h4
      have ih:=ih (j+1) (acc++[s[j]]) (by omega) (by omega) (by simp; omega) h4
      rw[FO] at ih
      have cI:(xM acc).length+1≤2147483648:=by simp[xM]; omega
      have gb:xq 1 (xM acc)=true:=by cases acc<;>simp[xM]
      have happ:xM (acc++[s[j]])=xM acc++[.bool (s[j]==49)]:=by simp[xM]
      rw[happ,sa] at ih
      rw[lK] at hb
      simp only[true_iff] at hb
      generalize xM acc=z at *
      rcases hb with hb|hb
      ·simp[hj,hb,hw,cI,gb]
       simpa[hb] using ih
      ·simp[hj,hb,hw,cI,gb]
       simpa[hb] using ih
    | false =>
      rw[b7N hj lK,aL] at h4
      rw[lK] at hb
      simp only[ay,false_iff,not_or] at hb
      have b1:¬(s[j].toNat:Int)=48:=by omega
      have b2:¬(s[j].toNat:Int)=49:=by omega
      simp[hj,b1,b2,h4]
   ·have:¬(j:Int)<s.length:=by omega
    have hj:xm s j=[]:=P1 (by omega)
    rw[hj,aL] at h4
    simp[this,h4]
theorem c0Z (a b:List PV) (ha:a.length≤100) (hb:b.length≤100) (o1 o2:Bool) (f1:wP a=true) (f2:wP b=true) (h:List PObj):wr L 177 [.agg [.list o1 a,.list o2 b]] h=some (.int .i64 (if b.length=0 then 5 else if 64<a.length+b.length then 3 else 0),h):=by
 refine wz (hL 177 _ rfl) rfl ?_
 have hw:IntKind.i64.wrap ((a.length:Int)+(b.length:Int))=((a.length+b.length:Nat):Int):=by rw[xx]<;>omega
 by_cases h1:b.length=0
 ·have:b=[]:=bb.1 h1
  subst this
  simp[FP]
 ·have oX:¬b=[]:=λe=>h1 (by rw[e]; rfl)
  generalize hm:a.length+b.length=m at *
  by_cases h2:64<m
  ·have:(64:Int)<m:=by omega
   simp[FP,h1,oX,hw,h2,this]
  ·have:¬(64:Int)<m:=by omega
   simp[FP,h1,oX,hw,h2,this]
theorem c00 (s:Str) (h:List PObj):∃(o1 o2:Bool) (a b:List PV) (e:Int),wP a=true∧wP b=true∧(e=0↔A9 s=true)∧wr L 167 [.str s] h=some (.tuple [.agg [.list o1 a,.list o2 b],.int .i64 e],h):=by
 by_cases h0:66<s.length
 ·refine⟨false,false,[],[],3,rfl,rfl,?_,wz (hL 167 _ rfl) rfl ?_⟩
  ·unfold A9; simp; omega
  ·have:(66:Int)<s.length:=by omega
   simp[CF,this]
 ·have iq:¬(66:Int)<s.length:=by omega
  obtain⟨o1,li⟩:=P5 hL s (by omega) 0 (by omega) []
  rw[show ((0:Nat):Int)=0 from rfl] at li
  have l1:=P2 s 0
  have jk:A9 s=true↔s[(xm s 0).length]? = some 40∧(xm s 0).length+(xm s ((xm s 0).length+1)).length+2=s.length∧s[(xm s 0).length+(xm s ((xm s 0).length+1)).length+1]? = some 41∧(xm s ((xm s 0).length+1)).length≠0∧(xm s 0).length+(xm s ((xm s 0).length+1)).length≤64:=by
   unfold A9
   simp only[ak]
   constructor
   ·rintro⟨_,h⟩; exact h
   ·intro h; exact⟨by omega,h⟩
  have hn:(xM (xm s 0)).length=(xm s 0).length:=HQ _
  have f1:=FZ (xm s 0)
  generalize hA:xm s 0=A at *
  generalize xM A=zA at *
  generalize A.length=n at *
  by_cases io:n<s.length
  ·have lL:¬s.length≤n:=by omega
   by_cases hc:s[n]=40
   ·have iR:(s[n].toNat:Int)=40:=(P3 _).2 hc
    obtain⟨p,hp⟩:∃p,p=n+1:=⟨_,rfl⟩
    rw[← hp] at jk
    obtain⟨o2,eG⟩:=P5 hL s (by omega) p (by omega) []
    have l2:=P2 s p
    have hm:(xM (xm s p)).length=(xm s p).length:=HQ _
    have f2:=FZ (xm s p)
    have iO:IntKind.i64.wrap ((n:Int)+1)=(p:Int):=by rw[xx]<;>omega
    generalize xm s p=B at *
    generalize xM B=zB at *
    generalize B.length=m at *
    obtain⟨q,hq⟩:∃q,q=n+m+1:=⟨_,rfl⟩
    rw[← hq] at jk
    have ip:IntKind.i64.wrap ((p:Int)+(m:Int))=(q:Int):=by rw[xx]<;>omega
    have qm:IntKind.i64.wrap ((s.length:Int) - 1)=s.length - 1:=by rw[xx]<;>omega
    by_cases he:n+m+2=s.length
    ·have dB:(q:Int)=(s.length:Int) - 1:=by omega
     have cO:q<s.length:=by omega
     have nW:IntKind.i64.wrap ((s.length:Int) - 1)=q:=by rw[qm,dB]
     by_cases hd:s[q]=41
     ·have gj:(s[q].toNat:Int)=41:=(P4 _).2 hd
      have kY:=c0Z hL zA zB (by omega) (by omega) false false f1 f2 []
      have j4:(if zB.length=0 then(5:Int) else if 64<zA.length+zB.length then 3 else 0)=0↔m≠0∧n+m≤64:=by
       rw[hn,hm]
       split
       ·simp; omega
       ·split
        ·simp; omega
        ·simp; omega
      have fF:A9 s=true↔(if zB.length=0 then(5:Int) else if 64<zA.length+zB.length then 3 else 0)=0:=by
       rw[jk,j4]
       constructor
       ·rintro⟨_,_,_,q1,q2⟩; exact⟨q1,q2⟩
       ·rintro⟨q1,q2⟩
        exact⟨by simp[io,hc],he,by simp[cO,hd],q1,q2⟩
      generalize (if zB.length=0 then(5:Int) else if 64<zA.length+zB.length then 3 else 0)=ce at *
      by_cases hz:ce=0
      ·refine⟨false,false,zA,zB,0,f1,f2,?_,wz (hL 167 _ rfl) rfl ?_⟩
       ·rw[fF]; simp[hz]
       ·subst hz
        simp[CF,iq,li,hn,io,lL,iR,iO,eG,hm,ip,nW,cO,gj,kY,f1,f2]
      ·refine⟨false,false,[],[],5,rfl,rfl,?_,wz (hL 167 _ rfl) rfl ?_⟩
       ·rw[fF]; simp[hz]
       ·simp[CF,iq,li,hn,io,lL,iR,iO,eG,hm,ip,nW,cO,gj,kY,hz,f1,f2]
     ·have gj:¬(s[q].toNat:Int)=41:=λe=>hd ((P4 _).1 e)
      refine⟨false,false,[],[],5,rfl,rfl,?_,wz (hL 167 _ rfl) rfl ?_⟩
      ·rw[jk]; simp[cO,hd]
      ·simp[CF,iq,li,hn,io,lL,iR,iO,eG,hm,ip,nW,cO,gj,f1,f2]
    ·have dB:¬(q:Int)=(s.length:Int) - 1:=by omega
     refine⟨false,false,[],[],5,rfl,rfl,?_,wz (hL 167 _ rfl) rfl ?_⟩
     ·rw[jk]; simp[he]
     ·simp[CF,iq,li,hn,io,lL,iR,iO,eG,hm,ip,qm,dB,f1,f2]
   ·have iR:¬(s[n].toNat:Int)=40:=λe=>hc ((P3 _).1 e)
    refine⟨false,false,[],[],5,rfl,rfl,?_,wz (hL 167 _ rfl) rfl ?_⟩
    ·rw[jk]; simp[io,hc]
    ·simp[CF,iq,li,hn,io,lL,iR,f1]
  ·have lM:(s.length:Int)≤n:=by omega
   refine⟨false,false,[],[],5,rfl,rfl,?_,wz (hL 167 _ rfl) rfl ?_⟩
   ·rw[jk]; simp[io]
   ·have lL:s.length≤n:=by omega
    simp[CF,iq,li,hn,lM,lL,f1]
end
class TF (p:Prop) (r:outParam Prop):Prop where
 fact:p→r
instance (priority:=low) tfPos (p:Prop):TF p (p=True):=⟨eq_true⟩
instance tfNeg (p:Prop):TF (¬p) (p=False):=⟨eq_false⟩
theorem tf {p r:Prop} [TF p r] (h:p):r:=TF.fact h
theorem kfs {k c:Int} (h:k=c):(k=1)=(c=1)∧(k=2)=(c=2)∧(k=3)=(c=3)∧(k=4)=(c=4)∧(k=5)=(c=5)∧(k=6)=(c=6)∧(k=7)=(c=7)∧(k=8)=(c=8)∧(k=9)=(c=9)∧(k=10)=(c=10)∧(k=11)=(c=11)∧(k<1)=(c<1)∧(11<k)=(11<c)∧(1≤k)=(1≤c)∧(k≤11)=(c≤11):=by subst h; simp
section
variable {L:Nat→Option PFunc} (hL:∀k f,LS k=some f→L k=some f)
include hL
theorem c01 (e:Expr) (hk:e.kind=1) (h:List PObj):wr L 158 [wy e] h=some (.bool (wO e),h):=by
 refine wz (hL 158 _ rfl) rfl ?_
 have cN:=BY hL e []
 have db:=BX hL e.t e.v []
 have dq:=Bb hL e.kind []
 have dG:xr e.kind=false:=by rw[hk]; rfl
 have kf:=kfs hk
 have dT:yN e=xi e:=by simp[yN,xi,hk]
 cases ha:xi e with
 | false=>simp[xf,wO,kf,cN,ha,dT]
 | true =>
   by_cases ho:e.op=0
   ·skip
    by_cases hm:e.name=[]
    ·skip
     by_cases ht:e.t=2
     ·by_cases a1 : -32768≤e.v<;>by_cases a2:e.v≤32767<;>simp[xf,wO,dT,ha,cN,dq,dG,kf,xD,xy,xC,db,tf ho,tf hm,tf ht,tf a1,tf a2]
     ·simp[xf,wO,dT,ha,cN,dq,dG,kf,xD,xy,xC,db,tf ho,tf hm,tf ht]
    ·simp[xf,wO,dT,ha,cN,dq,dG,kf,xD,xy,xC,db,tf ho,tf hm]
   ·simp[xf,wO,dT,ha,cN,dq,dG,kf,xD,xy,xC,db,tf ho]
theorem c02 (e:Expr) (hk:e.kind=2) (h:List PObj):wr L 158 [wy e] h=some (.bool (wO e),h):=by
 refine wz (hL 158 _ rfl) rfl ?_
 have cN:=BY hL e []
 have db:=BX hL e.t e.v []
 have dq:=Bb hL e.kind []
 have dG:xr e.kind=true:=by rw[hk]; rfl
 have kf:=kfs hk
 have dT:yN e=xi e:=by simp[yN,xi,hk]
 cases ha:xi e with
 | false=>simp[xf,wO,kf,cN,ha,dT]
 | true =>
   by_cases ho:e.op=0
   ·skip
    by_cases t0:e.t=0<;>by_cases v0:e.v=0<;>simp[xf,wO,dT,ha,cN,dq,dG,kf,xD,xy,xC,db,tf ho,tf t0,tf v0]
   ·simp[xf,wO,dT,ha,cN,dq,dG,kf,xD,xy,xC,db,tf ho]
theorem c03 (e:Expr) (hk:e.kind=3) (h:List PObj):wr L 158 [wy e] h=some (.bool (wO e),h):=by
 refine wz (hL 158 _ rfl) rfl ?_
 have cN:=BY hL e []
 have db:=BX hL e.t e.v []
 have dq:=Bb hL e.kind []
 have dG:xr e.kind=false:=by rw[hk]; rfl
 have kf:=kfs hk
 have dT:yN e=xi e:=by simp[yN,xi,hk]
 cases ha:xi e with
 | false=>simp[xf,wO,kf,cN,ha,dT]
 | true =>
   by_cases ho:e.op=0
   ·have o2:¬1≤e.op:=by omega
    simp[tf o2,xf,wO,dT,ha,cN,dq,dG,kf,xD,xy,xC,db,tf ho]
   ·by_cases o1:e.op<1
    ·have o2:¬1≤e.op:=by omega
     simp[xf,wO,dT,ha,cN,dq,dG,kf,xD,xy,xC,db,tf ho,tf o1,tf o2]
    ·by_cases o3:16<e.op
     ·have o4:¬e.op≤16:=by omega
      simp[xf,wO,dT,ha,cN,dq,dG,kf,xD,xy,xC,db,tf ho,tf o1,tf o3,tf o4]
     ·have o2:1≤e.op:=by omega
      have o4:e.op≤16:=by omega
      by_cases hm:e.name=[]
      ·skip
       by_cases t0:e.t=0<;>by_cases v0:e.v=0<;>simp[xf,wO,dT,ha,cN,dq,dG,kf,xD,xy,xC,db,tf ho,tf o1,tf o2,tf o3,tf o4,tf hm,tf t0,tf v0]
      ·simp[xf,wO,dT,ha,cN,dq,dG,kf,xD,xy,xC,db,tf ho,tf o1,tf o2,tf o3,tf o4,tf hm]
theorem c04 (e:Expr) (hk:e.kind=4) (h:List PObj):wr L 158 [wy e] h=some (.bool (wO e),h):=by
 refine wz (hL 158 _ rfl) rfl ?_
 have cN:=BY hL e []
 have db:=BX hL e.t e.v []
 have dq:=Bb hL e.kind []
 have dG:xr e.kind=false:=by rw[hk]; rfl
 have kf:=kfs hk
 have dT:yN e=xi e:=by simp[yN,xi,hk]
 cases ha:xi e with
 | false=>simp[xf,wO,kf,cN,ha,dT]
 | true =>
   by_cases ho:e.op=0
   ·skip
    by_cases hm:e.name=[]
    ·skip
     by_cases t0:e.t=0<;>by_cases v0:e.v=0<;>simp[xf,wO,dT,ha,cN,dq,dG,kf,xD,xy,xC,db,tf ho,tf hm,tf t0,tf v0]
    ·simp[xf,wO,dT,ha,cN,dq,dG,kf,xD,xy,xC,db,tf ho,tf hm]
   ·simp[xf,wO,dT,ha,cN,dq,dG,kf,xD,xy,xC,db,tf ho]
theorem c05 (e:Expr) (hk:e.kind=5) (h:List PObj):wr L 158 [wy e] h=some (.bool (wO e),h):=by
 refine wz (hL 158 _ rfl) rfl ?_
 have cN:=BY hL e []
 have db:=BX hL e.t e.v []
 have dq:=Bb hL e.kind []
 have dG:xr e.kind=false:=by rw[hk]; rfl
 have kf:=kfs hk
 have dT:yN e=xi e:=by simp[yN,xi,hk]
 cases ha:xi e with
 | false=>simp[xf,wO,kf,cN,ha,dT]
 | true =>
   by_cases ho:e.op=0
   ·skip
    by_cases hm:e.name=[]
    ·skip
     by_cases t0:e.t=0<;>by_cases v0:e.v=0<;>simp[xf,wO,dT,ha,cN,dq,dG,kf,xD,xy,xC,db,tf ho,tf hm,tf t0,tf v0]
    ·simp[xf,wO,dT,ha,cN,dq,dG,kf,xD,xy,xC,db,tf ho,tf hm]
   ·simp[xf,wO,dT,ha,cN,dq,dG,kf,xD,xy,xC,db,tf ho]
theorem c06 (e:Expr) (hk:e.kind=6) (h:List PObj):wr L 158 [wy e] h=some (.bool (wO e),h):=by
 refine wz (hL 158 _ rfl) rfl ?_
 have cN:=BY hL e []
 have db:=BX hL e.t e.v []
 have dq:=Bb hL e.kind []
 have dG:xr e.kind=false:=by rw[hk]; rfl
 have kf:=kfs hk
 have dT:yN e=xi e:=by simp[yN,xi,hk]
 cases ha:xi e with
 | false=>simp[xf,wO,kf,cN,ha,dT]
 | true =>
   by_cases ho:e.op=0
   ·skip
    by_cases hm:e.name=[]
    ·skip
     by_cases t0:e.t=0<;>by_cases v0:e.v=0<;>simp[xf,wO,dT,ha,cN,dq,dG,kf,xD,xy,xC,db,tf ho,tf hm,tf t0,tf v0]
    ·simp[xf,wO,dT,ha,cN,dq,dG,kf,xD,xy,xC,db,tf ho,tf hm]
   ·simp[xf,wO,dT,ha,cN,dq,dG,kf,xD,xy,xC,db,tf ho]
theorem c07 (e:Expr) (hk:e.kind=7) (h:List PObj):wr L 158 [wy e] h=some (.bool (wO e),h):=by
 refine wz (hL 158 _ rfl) rfl ?_
 have cN:=BY hL e []
 have db:=BX hL e.t e.v []
 have dq:=Bb hL e.kind []
 have dG:xr e.kind=false:=by rw[hk]; rfl
 have kf:=kfs hk
 have dT:yN e=xi e:=by simp[yN,xi,hk]
 cases ha:xi e with
 | false=>simp[xf,wO,kf,cN,ha,dT]
 | true =>
   by_cases ho:e.op=0
   ·skip
    by_cases hm:e.name=[]
    ·skip
     by_cases t0:e.t=0<;>by_cases v0:e.v=0<;>simp[xf,wO,dT,ha,cN,dq,dG,kf,xD,xy,xC,db,tf ho,tf hm,tf t0,tf v0]
    ·simp[xf,wO,dT,ha,cN,dq,dG,kf,xD,xy,xC,db,tf ho,tf hm]
   ·simp[xf,wO,dT,ha,cN,dq,dG,kf,xD,xy,xC,db,tf ho]
theorem c08 (e:Expr) (hk:e.kind=8) (h:List PObj):wr L 158 [wy e] h=some (.bool (wO e),h):=by
 refine wz (hL 158 _ rfl) rfl ?_
 have cN:=BY hL e []
 have db:=BX hL e.t e.v []
 have dq:=Bb hL e.kind []
 have dG:xr e.kind=true:=by rw[hk]; rfl
 have kf:=kfs hk
 have dT:yN e=xi e:=by simp[yN,xi,hk]
 cases ha:xi e with
 | false=>simp[xf,wO,kf,cN,ha,dT]
 | true =>
   by_cases ho:e.op=0
   ·skip
    simp[xf,wO,dT,ha,cN,dq,dG,kf,xD,xy,xC,db,tf ho]
   ·simp[xf,wO,dT,ha,cN,dq,dG,kf,xD,xy,xC,db,tf ho]
theorem c09 (e:Expr) (hk:e.kind=9) (h:List PObj):wr L 158 [wy e] h=some (.bool (wO e),h):=by
 refine wz (hL 158 _ rfl) rfl ?_
 have cN:=BY hL e []
 have db:=BX hL e.t e.v []
 have dq:=Bb hL e.kind []
 have dG:xr e.kind=true:=by rw[hk]; rfl
 have kf:=kfs hk
 have dT:yN e=(xi e&&decide (e.t=1∨3≤e.t)):=by
  by_cases h1:e.t=1
  ·simp[yN,xi,hk,h1]
  ·by_cases h3:3≤e.t<;>simp[yN,xi,hk,h1,h3]
 cases ha:xi e with
 | false=>simp[xf,wO,kf,cN,ha,dT]
 | true =>
   by_cases ho:e.op=0
   ·skip
    by_cases t1:e.t=1
    ·simp[xf,wO,dT,ha,cN,dq,dG,kf,xD,xy,xC,db,tf ho,tf t1]
    ·by_cases t3:3≤e.t
     ·have t2:2<e.t:=by omega
      simp[xf,wO,dT,ha,cN,dq,dG,kf,xD,xy,xC,db,tf ho,tf t1,tf t2,tf t3]
     ·have t2:¬2<e.t:=by omega
      simp[xf,wO,dT,ha,cN,dq,dG,kf,xD,xy,xC,db,tf ho,tf t1,tf t2,tf t3]
   ·simp[xf,wO,dT,ha,cN,dq,dG,kf,xD,xy,xC,db,tf ho]
theorem b88 (e:Expr) (hk:e.kind=10) (h:List PObj):wr L 158 [wy e] h=some (.bool (wO e),h):=by
 refine wz (hL 158 _ rfl) rfl ?_
 have cN:=BY hL e []
 have db:=BX hL e.t e.v []
 have dq:=Bb hL e.kind []
 have dG:xr e.kind=true:=by rw[hk]; rfl
 have kf:=kfs hk
 have dT:(e.v=0∨e.v=1)→yN e=xi e:=by
  rintro(hv|hv)<;>simp[yN,xi,hk,hv]
 have vP:xi e=false→yN e=false:=by
  intro hh
  simp[xi,hk] at hh
  simp[yN,hk]
  omega
 cases ha:xi e with
 | false=>simp[xf,wO,kf,cN,ha,vP ha]
 | true =>
   by_cases ho:e.op=0
   ·skip
    by_cases t0:e.t=0
    ·by_cases v0:e.v=0
     ·have:=dT (.inl v0)
      simp[xf,wO,ha,cN,dq,dG,kf,xD,xy,xC,db,tf ho,tf t0,tf v0,this]
     ·by_cases v1:e.v=1
      ·have:=dT (.inr v1)
       simp[xf,wO,ha,cN,dq,dG,kf,xD,xy,xC,db,tf ho,tf t0,tf v0,tf v1,this]
      ·simp[xf,wO,ha,cN,dq,dG,kf,xD,xy,xC,db,tf ho,tf t0,tf v0,tf v1]
    ·simp[xf,wO,ha,cN,dq,dG,kf,xD,xy,xC,db,tf ho,tf t0]
   ·simp[xf,wO,ha,cN,dq,dG,kf,xD,xy,xC,db,tf ho]
theorem b89 (e:Expr) (hk:e.kind=11) (h:List PObj):wr L 158 [wy e] h=some (.bool (wO e),h):=by
 refine wz (hL 158 _ rfl) rfl ?_
 have cN:=BY hL e []
 have db:=BX hL e.t e.v []
 have dq:=Bb hL e.kind []
 have dG:xr e.kind=false:=by rw[hk]; rfl
 have kf:=kfs hk
 have dT:yN e=xi e:=by simp[yN,xi,hk]
 cases ha:xi e with
 | false=>simp[xf,wO,kf,cN,ha,dT]
 | true =>
   by_cases ho:e.op=0
   ·skip
    obtain⟨b1,b2,wa,wb,er,f1,f2,cJ,mZ⟩:=c00 hL e.name []
    by_cases t0:e.t=0
    ·by_cases v0:e.v=0
     ·by_cases he:er=0
      ·have:=cJ.1 he
       simp[xf,wO,dT,ha,cN,dq,dG,kf,xD,xy,xC,db,tf ho,tf t0,tf v0,mZ,f1,f2,he,this]
      ·have:A9 e.name=false:=by
        rw[← cn]
        exact λhh=>he (cJ.2 hh)
       simp[xf,wO,dT,ha,cN,dq,dG,kf,xD,xy,xC,db,tf ho,tf t0,tf v0,mZ,f1,f2,he,this]
     ·simp[xf,wO,dT,ha,cN,dq,dG,kf,xD,xy,xC,db,tf ho,tf t0,tf v0,mZ,f1,f2]
    ·simp[xf,wO,dT,ha,cN,dq,dG,kf,xD,xy,xC,db,tf ho,tf t0,mZ,f1,f2]
   ·simp[xf,wO,dT,ha,cN,dq,dG,kf,xD,xy,xC,db,tf ho]
theorem P6 (e:Expr) (h:List PObj):wr L 158 [wy e] h=some (.bool (wO e),h):=by
 rcases HS e.kind with hk|hk|hk|hk|hk|hk|hk|hk|hk|hk|hk|hk|hk
 ·refine wz (hL 158 _ rfl) rfl ?_
  have:¬1≤e.kind:=by omega
  simp[xf,wO,hk,this]
 ·exact c01 hL e hk h
 ·exact c02 hL e hk h
 ·exact c03 hL e hk h
 ·exact c04 hL e hk h
 ·exact c05 hL e hk h
 ·exact c06 hL e hk h
 ·exact c07 hL e hk h
 ·exact c08 hL e hk h
 ·exact c09 hL e hk h
 ·exact b88 hL e hk h
 ·exact b89 hL e hk h
 ·refine wz (hL 158 _ rfl) rfl ?_
  have:¬e.kind≤11:=by omega
  have h1:¬e.kind<1:=by omega
  simp[xf,wO,hk,this,h1]
theorem P7 (en:List Enum) (t:Int) (ht:Ax t) (o:Bool) (h:List PObj):wr L 154 [.list o (en.map wJ),.int .i64 t] h=some (.bool (decide (0<xE en t)),h):=by
 refine wz (hL 154 _ rfl) rfl ?_
 have:=Lk hL en t ht false []
 simp[KD,this]
theorem c1a (e:Expr) (hp:e.parts≤1500) (h:List PObj):wr L 135 [wy e] h=some (.int .i64 (C7 e),h):=by
 refine wz (hL 135 _ rfl) rfl ?_
 have h1:=c2M hL e hp []
 have h2:=c0U hL e hp []
 have h3:=PU hL e hp []
 have cQ:=PA hp
 unfold C7
 rw[cQ]
 by_cases b1:(400:Int)<e.parts
 ·have b2:¬(e.parts:Int)≤400:=by omega
  have b3:400<e.parts:=by omega
  have b4:¬e.parts≤400:=by omega
  simp[FH,h1,b1,b2,b3,b4,need,ww]
 ·have b2:(e.parts:Int)≤400:=by omega
  have b3:¬400<e.parts:=by omega
  have b4:e.parts≤400:=by omega
  by_cases d1:32<e.depth
  ·have d2:¬e.depth≤32:=by omega
   simp[FH,h1,h2,b1,b2,b3,b4,d1,d2,need,ww]
  ·have d2:e.depth≤32:=by omega
   simp[FH,h1,h2,h3,b1,b2,b3,b4,d1,d2]
   have cI:e.list.length≤1500:=hp
   generalize e.list=l at *
   refine zy l Az (λi (_:Unit)=>[(4,.int .i64 i)]) () ?_ ?_ ?_ rfl
   ·intro i hi cJ x ih
    have hw:=wC i (by omega)
    have hf:=P6 hL l[i] []
    have dq:=Bb hL l[i].kind []
    have dr:=Bu hL l[i].name []
    unfold Az at cJ
    rw[zx,zx,yZ (by decide),yZ (by decide),yZ (by decide),ak] at cJ
    obtain⟨k1,k2,k3⟩:=cJ
    have k1':¬64<l[i].args.length:=by omega
    have k1i:¬(64:Int)<l[i].args.length:=by omega
    rw[k2] at hf
    cases dG:xr l[i].kind with
    | false =>
      rw[dG] at dq
      simp[hi,hw,k1',k1i,hf,dq]
      simpa using ih ()
    | true =>
      rw[dG] at dq k3
      have k3:yo l[i].name=true:=by simpa using k3
      rw[k3] at dr
      simp[hi,hw,k1',k1i,hf,dq,dr]
      simpa using ih ()
   ·intro i hi cJ kF x
    have hw:=wC i (by omega)
    have hf:=P6 hL l[i] []
    have dq:=Bb hL l[i].kind []
    have dr:=Bu hL l[i].name []
    rw[kF]
    by_cases k1:64<l[i].args.length
    ·have k2:¬l[i].args.length≤64:=by omega
     have k1i:(64:Int)<l[i].args.length:=by omega
     simp[hi,k1,k1i,Az,k2,need,ww]
    ·have k2:l[i].args.length≤64:=by omega
     have k1i:¬(64:Int)<l[i].args.length:=by omega
     cases m6:wO l[i] with
     | false=>rw[m6] at hf; simp[hi,k1,k1i,hf,Az,k2,need,ww,m6]
     | true =>
       rw[m6] at hf
       have hx:need (!xr l[i].kind||yo l[i].name) 6≠0:=by
        intro e; apply cJ
        simp[Az,k2,m6,e]
       cases dG:xr l[i].kind with
       | false=>rw[dG] at hx; simp at hx
       | true =>
         cases fG:yo l[i].name with
         | true=>rw[fG] at hx; simp at hx
         | false =>
           rw[dG] at dq; rw[fG] at dr
           simp[hi,k1,k1i,hf,dq,dr,Az,k2,m6,dG,fG,need,ww]
   ·intro h0 x
    simp[h0]
end
end PI.Sc
set_option maxRecDepth 100000
set_option linter.unusedSimpArgs false
set_option linter.unusedVariables false
namespace PI.Sc
open Go (IntKind BinOp UnOp)
open Short
structure XW (e:Expr):Prop where
 parts:e.parts≤1500
 ew:EW e
structure DW (d:Decl):Prop where
 type:Ax d.type
 clock:d.clock.length≤1500
 on:∀o∈d.clock,Ax o.t
structure QW (q:Eqn):Prop where
 left:q.left.length≤1500
 right:XW q.right
inductive SW:State→Prop
 | mk (s:State) (locals:s.locals.length≤1500) (ls:∀d∈s.locals,DW d) (eqs:s.eqs.length≤1500) (es:∀q∈s.eqs,QW q) (unl:s.unl.length≤1500) (us:∀t∈s.unl,XW t.cond) (til:s.til.length≤1500) (ts:∀t∈s.til,XW t.cond) (autos:s.autos.length≤1500) (as:∀a∈s.autos,a.length≤1500) (ss:∀a∈s.autos,∀x∈a,SW x):SW s
theorem SW.locals {s:State}:SW s→s.locals.length≤1500 | .mk _ h .. => h
theorem SW.ls {s:State}:SW s→∀d∈s.locals,DW d | .mk _ _ h .. => h
theorem SW.eqs {s:State}:SW s→s.eqs.length≤1500 | .mk _ _ _ h .. => h
theorem SW.es {s:State}:SW s→∀q∈s.eqs,QW q | .mk _ _ _ _ h .. => h
theorem SW.unl {s:State}:SW s→s.unl.length≤1500 | .mk _ _ _ _ _ h .. => h
theorem SW.us {s:State}:SW s→∀t∈s.unl,XW t.cond | .mk _ _ _ _ _ _ h .. => h
theorem SW.til {s:State}:SW s→s.til.length≤1500 | .mk _ _ _ _ _ _ _ h .. => h
theorem SW.ts {s:State}:SW s→∀t∈s.til,XW t.cond | .mk _ _ _ _ _ _ _ _ h .. => h
theorem SW.autos {s:State}:SW s→s.autos.length≤1500 | .mk _ _ _ _ _ _ _ _ _ h .. => h
theorem SW.as {s:State}:SW s→∀a∈s.autos,a.length≤1500 | .mk _ _ _ _ _ _ _ _ _ _ h _=>h
theorem SW.ss {s:State}:SW s→∀a∈s.autos,∀x∈a,SW x | .mk _ _ _ _ _ _ _ _ _ _ _ h=>h
structure AsW (l:List (List State)):Prop where
 len:l.length≤1500
 as:∀a∈l,a.length≤1500
 ss:∀a∈l,∀x∈a,SW x
structure NW (n:Node):Prop where
 ins:n.ins.length≤1500
 is:∀d∈n.ins,DW d
 outs:n.outs.length≤1500
 os:∀d∈n.outs,DW d
 locals:n.locals.length≤1500
 ls:∀d∈n.locals,DW d
 eqs:n.eqs.length≤1500
 es:∀q∈n.eqs,QW q
 autos:AsW n.autos
 assume:n.assume.length≤1500
 as:∀e∈n.assume,XW e
 ensure:n.ensure.length≤1500
 gs:∀e∈n.ensure,XW e
structure PW (p:Prog):Prop where
 enums:p.enums.length≤1500
 tags:∀u∈p.enums,u.tags.length≤1500
 nodes:p.nodes.length≤1500
 ns:∀n∈p.nodes,NW n
theorem Lv {α β:Type} {f:β→Int} {g:α→List β}:∀l:List α,wA f (l.flatMap g)=wA (λx=>wA f (g x)) l
 | []=>rfl
 | x :: l => by
   rw[bh,Ju,Lv l]
   simp only[wA]
theorem b7P {f:Expr→Int} (e:Expr):wA f e.list=ww (f e) (wA (λx=>wA f x.list) e.args):=by
 rw[Expr.list_eq,wA,Lv]; rfl
section
variable {L:Nat→Option PFunc} (hL:∀k f,LS k=some f→L k=some f)
include hL
theorem c1b (en:List Enum) (e:Expr):EW e→∀(o:Bool) (h:List PObj),wr L 136 [.list o (en.map wJ),wy e] h=some (.int .i64 (wA (yr en) e.list),h):=by
 induction e using Expr.ind with
 | h e ih=>
 intro he o h
 refine wz (hL 136 _ rfl) rfl ?_
 obtain⟨ht,hv,dt⟩:=he.self
 have fe:=P7 hL en e.t ht false []
 have mh:=Ll hL en e.t e.v ht false []
 have cQ:=Lk hL en e.t ht false []
 rw[b7P]
 have fg:wpL L Ov ⟨[.list false (en.map wJ),wy e,.loc 0 (wy e).cells,.int .i64 0,.int .i64 0,.dead],[],1,h⟩ (AQ 0 (A8 L (S (R [t 3 (k 0)]) Y) (Bs [.var 3] (.int .i64 (wA (λx=>wA (yr en) x.list) e.args),h)))):=by
  refine zy e.args (λx=>wA (yr en) x.list) (λi (x:PV)=>[(4,.int .i64 i),(5,x)]) .dead ?_ ?_ ?_ rfl
  ·intro i hi cJ x ih2
   have hw:=wC i (by omega)
   have hc:=ih e.args[i] (ae hi) (he.arg (ae hi)) false []
   rw[cJ] at hc
   simp[hi,hw,hc]
   simpa using ih2 _
  ·intro i hi cJ hf x
   have hc:=ih e.args[i] (ae hi) (he.arg (ae hi)) false []
   rw[hf]
   generalize wA (yr en) e.args[i].list=er at *
   simp[hi,hc,cJ]
  ·intro h0 x
   simp[h0]
 rcases(by omega:e.kind=1∨e.kind=8∨e.kind=9∨(¬e.kind=1∧¬e.kind=8∧¬e.kind=9)) with hk|hk|hk|⟨h1,h8,h9⟩
 ·have h8:¬e.kind=8:=by omega
  have h9:¬e.kind=9:=by omega
  cases hz:decide (0<xE en e.t) with
  | false=>rw[hz] at fe; simp[Bo,yr,tf hk,tf h8,tf h9,fe,hz,need,ww]
  | true =>
    rw[hz] at fe
    cases hh:AA en e.t e.v with
    | false=>rw[hh] at mh; simp[Bo,yr,tf hk,tf h8,tf h9,fe,hz,mh,hh,need,ww]
    | true =>
      rw[hh] at mh
      have na:yr en e=0:=by simp[yr,hk,hz,hh]
      rw[na,yP]
      simp[Bo,tf hk,tf h8,tf h9,fe,mh]
      simpa using fg
 ·have h1:¬e.kind=1:=by omega
  have h9:¬e.kind=9:=by omega
  cases hz:decide (0<xE en e.t) with
  | false=>rw[hz] at fe; simp[Bo,yr,tf hk,tf h1,tf h9,fe,hz,need,ww]
  | true =>
    rw[hz] at fe
    cases hh:AA en e.t e.v with
    | false=>rw[hh] at mh; simp[Bo,yr,tf hk,tf h1,tf h9,fe,hz,mh,hh,need,ww]
    | true =>
      rw[hh] at mh
      have na:yr en e=0:=by simp[yr,hk,hz,hh]
      rw[na,yP]
      simp[Bo,tf hk,tf h1,tf h9,fe,mh]
      simpa using fg
 ·have h1:¬e.kind=1:=by omega
  have h8:¬e.kind=8:=by omega
  cases hz:decide (0<xE en e.t) with
  | false=>rw[hz] at fe; simp[Bo,yr,tf hk,tf h1,tf h8,fe,hz,need,ww]
  | true =>
    rw[hz] at fe
    by_cases hh:e.args.length=xE en e.t
    ·have pG:((e.args.length:Int)=(xE en e.t:Int))=True:=eq_true (by omega)
     have na:yr en e=0:=by simp[yr,hk,hz,hh]
     rw[na,yP]
     simp[Bo,tf hk,tf h1,tf h8,fe,cQ,pG,tf hh]
     simpa using fg
    ·have pG:((e.args.length:Int)=(xE en e.t:Int))=False:=eq_false (by omega)
     simp[Bo,yr,tf hk,tf h1,tf h8,fe,hz,cQ,pG,tf hh,need,ww]
 ·have na:yr en e=0:=by simp[yr,h1,h8,h9]
  rw[na,yP]
  simp[Bo,tf h1,tf h8,tf h9]
  simpa using fg
theorem DN (en:List Enum) (e:Expr) (he:XW e) (o:Bool) (h:List PObj):wr L 106 [.list o (en.map wJ),wy e] h=some (.int .i64 (zG en e),h):=by
 refine wz (hL 106 _ rfl) rfl ?_
 have h1:=c1a hL e he.parts []
 have h2:=c1b hL en e he.ew false []
 unfold zG
 by_cases hc:C7 e=0
 ·rw[hc] at h1
  simp[Hl,h1,h2,hc]
 ·simp[Hl,h1,hc,ww]
theorem P8 (en:List Enum) (d:Decl) (hd:DW d) (port:Bool) (o:Bool) (h:List PObj):wr L 134 [.list o (en.map wJ),wF d,.bool port] h=some (.int .i64 (yx en port d),h):=by
 refine wz (hL 134 _ rfl) rfl ?_
 have dr:=Bu hL d.name []
 have fe:=P7 hL en d.type hd.type false []
 have dm:=hd.clock
 unfold yx xU
 cases h1:yo d.name with
 | false=>rw[h1] at dr; simp[C3,dr,need,ww]
 | true =>
   rw[h1] at dr
   cases h2:decide (0<xE en d.type) with
   | false=>rw[h2] at fe; simp[C3,dr,fe,need,ww]
   | true =>
     rw[h2] at fe
     by_cases h3:d.clock=[]
     ·cases port<;>simp[C3,dr,fe,need,ww,tf h3]<;>(rw[Ou,zo]; simp[h3,wA])
     ·have eF:(0:Int)<d.clock.length:=by have:=bC.2 h3; omega
      have vQ:0<d.clock.length:=bC.2 h3
      cases port with
      | true=>simp[C3,dr,fe,need,ww,h3,eF,vQ]
      | false =>
        by_cases h4:4<d.clock.length
        ·have fR:(4:Int)<d.clock.length:=by omega
         have mi:¬d.clock.length≤4:=by omega
         simp[C3,dr,fe,need,ww,h4,fR,mi]
        ·have fR:¬(4:Int)<d.clock.length:=by omega
         have mi:d.clock.length≤4:=by omega
         simp[C3,dr,fe,h4,fR,mi]
         refine Ae d.clock (Af en) (λi (x:PV×Nat)=>[(5,.int .i64 i),(6,x.1)]) (λ_ x=>x.2) (λ_ _=>h) (.dead,1) ?_ ?_ ?_ rfl rfl rfl
         ·intro i hi cJ x ih
          have hw:=wC i (by omega)
          have dS:=Bu hL d.clock[i].name []
          have fQ:=Ll hL en d.clock[i].t d.clock[i].tag (hd.on _ (ae hi)) false []
          unfold Af xU at cJ
          rw[zx,yZ (by decide),yZ (by decide),al,ak] at cJ
          obtain⟨k1,k2,k3⟩:=cJ
          rw[k1] at dS; rw[k3] at fQ
          simp[hi,hw,dS,fQ,tf k2]
          simpa using ih (_,_)
         ·intro i hi cJ hf x
          have dS:=Bu hL d.clock[i].name []
          have fQ:=Ll hL en d.clock[i].t d.clock[i].tag (hd.on _ (ae hi)) false []
          rw[hf]
          cases k1:yo d.clock[i].name with
          | false=>rw[k1] at dS; simp[hi,dS,Af,xU,k1,need,ww]
          | true =>
            rw[k1] at dS
            by_cases k2:d.clock[i].t=2
            ·simp[hi,dS,Af,xU,k1,tf k2,need,ww]
            ·cases k3:AA en d.clock[i].t d.clock[i].tag with
             | false=>rw[k3] at fQ; simp[hi,dS,fQ,Af,xU,k1,tf k2,k3,need,ww]
             | true=>exfalso; apply cJ; simp[Af,xU,k1,k2,k3]
         ·intro h0 x
          simp[h0]
theorem Ia (en:List Enum) (l:List Decl) (hl:l.length≤1500) (hd:∀d∈l,DW d) (port:Bool) (o o2:Bool) (h:List PObj):wr L 105 [.list o (en.map wJ),.list o2 (l.map wF),.bool port] h=some (.int .i64 (wA (yx en port) l),h):=by
 refine wz (hL 105 _ rfl) rfl ?_
 simp[Kk]
 refine zy l (yx en port) (λi (x:PV)=>[(4,.int .i64 i),(5,x)]) .dead ?_ ?_ ?_ rfl
 ·intro i hi cJ x ih
  have hw:=wC i (by omega)
  have hc:=P8 hL en l[i] (hd _ (ae hi)) port false []
  rw[cJ] at hc
  simp[hi,hw,hc]
  simpa using ih _
 ·intro i hi cJ hf x
  have hc:=P8 hL en l[i] (hd _ (ae hi)) port false []
  rw[hf]
  generalize yx en port l[i]=er at *
  simp[hi,hc,cJ]
 ·intro h0 x
  simp[h0]
theorem Gd (en:List Enum) (q:Eqn) (hq:QW q) (o:Bool) (h:List PObj):wr L 66 [.list o (en.map wJ),xn q] h=some (.int .i64 (zr en q),h):=by
 refine wz (hL 66 _ rfl) rfl ?_
 have hx:=DN hL en q.right hq.right false []
 have hl:=hq.left
 unfold zr
 by_cases h1:q.left=[]
 ·simp[Fy,h1,need,ww]
 ·have gC:¬q.left.length=0:=λe=>h1 (bb.1 e)
  have eK:¬(q.left.length:Int)=0:=by omega
  by_cases h2:64<q.left.length
  ·have fM:(64:Int)<q.left.length:=by omega
   have sy:¬q.left.length≤64:=by omega
   simp[Fy,h1,gC,eK,h2,fM,sy,need,ww]
  ·have fM:¬(64:Int)<q.left.length:=by omega
   have sy:q.left.length≤64:=by omega
   simp[Fy,h1,gC,eK,h2,fM,sy]
   refine zy q.left xU (λi (_:Unit)=>[(4,.int .i64 i)]) () ?_ ?_ ?_ rfl
   ·intro i hi cJ x ih
    have hw:=wC i (by omega)
    have dr:=Bu hL q.left[i] []
    unfold xU at cJ
    rw[yZ (by decide)] at cJ
    rw[cJ] at dr
    simp[hi,hw,dr]
    simpa using ih ()
   ·intro i hi cJ hf x
    have dr:=Bu hL q.left[i] []
    rw[hf]
    cases fG:yo q.left[i] with
    | true=>exfalso; apply cJ; simp[xU,fG]
    | false=>rw[fG] at dr; simp[hi,dr,xU,fG,need,ww]
   ·intro h0 x
    rw[h0]
    by_cases h3:zG en q.right=0
    ·rw[h3] at hx
     by_cases h4:q.left.length=1
     ·have fR:¬(1:Int)<q.left.length:=by omega
      have mi:¬1<q.left.length:=by omega
      simp[hx,h3,h4,fR,mi]
     ·have fR:(1:Int)<q.left.length:=by omega
      have mi:1<q.left.length:=by omega
      by_cases h5:q.right.kind=10
      ·simp[hx,h3,tf h4,fR,mi,tf h5]
      ·simp[hx,h3,tf h4,fR,mi,tf h5,need,ww]
    ·simp[hx,h3,ww]
theorem P9 (en:List Enum) (l:List Trn) (hl:l.length≤1500) (ht:∀t∈l,XW t.cond) (n:Nat) (strong:Bool) (o o2:Bool) (h:List PObj):wr L 161 [.list o (en.map wJ),.list o2 (l.map xL),.int .i64 n,.bool strong] h=some (.int .i64 (wA (Ba en n strong) l),h):=by
 refine wz (hL 161 _ rfl) rfl ?_
 simp[KG]
 refine zy l (Ba en n strong) (λi (x:PV)=>[(5,.int .i64 i),(6,x)]) .dead ?_ ?_ ?_ rfl
 ·intro i hi cJ x ih
  have hw:=wC i (by omega)
  have kH:=ht _ (ae hi)
  have hx:=DN hL en l[i].cond kH false []
  have hs:=PY hL l[i].cond kH.parts []
  unfold Ba at cJ
  rw[zx,zx,yZ (by decide),yZ (by decide),ak] at cJ
  obtain⟨⟨k1,k2⟩,k3,k4⟩:=cJ
  have k1':¬l[i].to<0:=by omega
  have k2':¬(n:Int)≤l[i].to:=by omega
  rw[k3] at hx
  cases strong with
  | false=>simp[hi,hw,k1',k2',hx]; simpa using ih _
  | true =>
    have k4:Bt l[i].cond=true:=by simpa using k4
    rw[k4] at hs
    simp[hi,hw,k1',k2',hx,hs]; simpa using ih _
 ·intro i hi cJ hf x
  have kH:=ht _ (ae hi)
  have hx:=DN hL en l[i].cond kH false []
  have hs:=PY hL l[i].cond kH.parts []
  rw[hf]
  unfold Ba at cJ ⊢
  by_cases k1:l[i].to<0
  ·have k1':¬0≤l[i].to:=by omega
   simp[hi,k1,k1',need,ww]
  ·have k1':0≤l[i].to:=by omega
   by_cases k2:(n:Int)≤l[i].to
   ·have k2':¬l[i].to<n:=by omega
    simp[hi,k1,k1',k2,k2',need,ww]
   ·have k2':l[i].to<n:=by omega
    by_cases k3:zG en l[i].cond=0
    ·rw[k3] at hx
     cases strong with
     | false=>exfalso; apply cJ; simp[k1',k2',k3]
     | true =>
       cases k4:Bt l[i].cond with
       | true=>exfalso; apply cJ; simp[k1',k2',k3,k4]
       | false=>rw[k4] at hs; simp[hi,k1,k1',k2,k2',hx,k3,hs,need,ww]
    ·simp[hi,k1,k1',k2,k2',hx,k3,need,ww]
 ·intro h0 x
  simp[h0]
end
section
variable {L:Nat→Option PFunc} (hL:∀k f,LS k=some f→L k=some f)
include hL
theorem Qa (en:List Enum) (d:Nat) (hd:d<3) (gS:∀a:zq,a.length≤1500→(∀x∈a,SW x)→∀(o:Bool) (h:List PObj),wr L 107 [.list o (en.map wJ),xg a,.int .i64 (3 - (d:Int))] h=some (.int .i64 (zI en d a),h))
  (s:State) (hs:SW s) (n:Nat) (o:Bool) (h:List PObj):wr L 137 [.list o (en.map wJ),w8 s,.int .i64 n,.int .i64 (2 - (d:Int))] h=some (.int .i64 (C8 en n (zI en d) s),h):=by
 refine wz (hL 137 _ rfl) rfl ?_
 have dr:=Bu hL s.name []
 have gg:=Ia hL en s.locals hs.locals hs.ls false false false []
 have fO:=P9 hL en s.unl hs.unl hs.us n true false false []
 have jB:=P9 hL en s.til hs.til hs.ts n false false false []
 have me:IntKind.i64.wrap (2 - (d:Int)+1)=3 - (d:Int):=by rw[xx]<;>omega
 unfold C8 xU
 cases h0:yo s.name with
 | false=>rw[h0] at dr; simp[Cj,dr,need,ww]
 | true =>
   rw[h0] at dr
   by_cases a1:256<s.locals.length
   ·have a1':(256:Int)<s.locals.length:=by omega
    have:¬(s.locals.length≤256):=by omega
    simp[Cj,dr,need,ww,a1,a1',this]
   ·have a1':¬(256:Int)<s.locals.length:=by omega
    have c1:s.locals.length≤256:=by omega
    by_cases a2:256<s.eqs.length
    ·have a2':(256:Int)<s.eqs.length:=by omega
     have:¬(s.eqs.length≤256):=by omega
     simp[Cj,dr,need,ww,a1,a1',a2,a2',this]
    ·have a2':¬(256:Int)<s.eqs.length:=by omega
     have c2:s.eqs.length≤256:=by omega
     by_cases a3:8<s.autos.length
     ·have a3':(8:Int)<s.autos.length:=by omega
      have:¬(s.autos.length≤8):=by omega
      simp[Cj,dr,need,ww,a1,a1',a2,a2',a3,a3',this]
     ·have a3':¬(8:Int)<s.autos.length:=by omega
      have c3:s.autos.length≤8:=by omega
      by_cases a4:4<s.unl.length
      ·have a4':(4:Int)<s.unl.length:=by omega
       have:¬(s.unl.length≤4):=by omega
       simp[Cj,dr,need,ww,a1,a1',a2,a2',a3,a3',a4,a4',this]
      ·have a4':¬(4:Int)<s.unl.length:=by omega
       have c4:s.unl.length≤4:=by omega
       by_cases a5:4<s.til.length
       ·have a5':(4:Int)<s.til.length:=by omega
        have:¬(s.til.length≤4):=by omega
        simp[Cj,dr,need,ww,a1,a1',a2,a2',a3,a3',a4,a4',a5,a5',this]
       ·have a5':¬(4:Int)<s.til.length:=by omega
        have c5:s.til.length≤4:=by omega
        generalize wA (yx en false) s.locals=ed at *
        by_cases e1:ed=0
        ·subst e1
         simp[Cj,dr,a1,a1',a2,a2',a3,a3',a4,a4',a5,a5',c1,c2,c3,c4,c5,gg]
         refine zy s.eqs (zr en) (λi (x:PV)=>[(7,.int .i64 i),(6,x)]) (.int .i64 0) ?_ ?_ ?_ rfl
         ·intro i hi cJ x ih
          have hw:=wC i (by omega)
          have hc:=Gd hL en s.eqs[i] (hs.es _ (ae hi)) false []
          rw[cJ] at hc
          simp[hi,hw,hc]
          simpa using ih _
         ·intro i hi cJ hf x
          have hc:=Gd hL en s.eqs[i] (hs.es _ (ae hi)) false []
          rw[hf]
          generalize zr en s.eqs[i]=er at *
          simp[hi,hc,cJ,ww]
         ·intro e2 x
          simp[e2]
          refine zy s.autos (zI en d) (λi (x:PV)=>[(8,.int .i64 i),(6,x)]) x ?_ ?_ ?_ rfl
          ·intro i hi cJ x ih
           have hw:=wC i (by omega)
           have hc:=gS s.autos[i] (hs.as _ (ae hi)) (hs.ss _ (ae hi)) false []
           rw[cJ] at hc
           simp[hi,hw,me,hc]
           simpa using ih _
          ·intro i hi cJ hf x
           have hc:=gS s.autos[i] (hs.as _ (ae hi)) (hs.ss _ (ae hi)) false []
           rw[hf]
           generalize zI en d s.autos[i]=er at *
           simp[hi,me,hc,cJ,ww]
          ·intro e3 x
           generalize wA (Ba en n true) s.unl=eu at *
           generalize wA (Ba en n false) s.til=et at *
           by_cases e4:eu=0
           ·subst e4; simp[e3,fO,jB]
           ·simp[e3,fO,e4,ww]
        ·simp[Cj,dr,a1,a1',a2,a2',a3,a3',a4,a4',a5,a5',c1,c2,c3,c4,c5,gg,e1,ww]
theorem Lw (en:List Enum):∀(d:Nat),d≤3→∀a:zq,a.length≤1500→(∀x∈a,SW x)→∀(o:Bool) (h:List PObj),wr L 107 [.list o (en.map wJ),xg a,.int .i64 (3 - (d:Int))] h=some (.int .i64 (zI en d a),h)
 | 0, _, a, dt, ha, o, h => by
   refine wz (hL 107 _ rfl) rfl ?_
   simp[Et,zI]
 | d + 1, hd, a, dt, ha, o, h => by
   have ih:=Lw en d (by omega)
   have m2:(3:Int) - ((d+1:Nat):Int)=2 - (d:Int):=by omega
   rw[m2]
   have cO:¬2<2 - (d:Int):=by omega
   refine wz (hL 107 _ rfl) rfl ?_
   simp only[zI]
   by_cases h1:a=[]
   ·subst h1; simp[Et,cO,need,ww]
   ·have gC:¬a.length=0:=λe=>h1 (bb.1 e)
    have eK:¬(a.length:Int)=0:=by omega
    by_cases h2:8<a.length
    ·have gR:(8:Int)<a.length:=by omega
     have:¬a.length≤8:=by omega
     simp[Et,cO,h1,gC,eK,h2,gR,this,need,ww]
    ·have gR:¬(8:Int)<a.length:=by omega
     have c2:a.length≤8:=by omega
     simp[Et,cO,h1,gC,eK,h2,gR,c2]
     refine zy a (C8 en a.length (zI en d)) (λi (x:PV)=>[(5,.int .i64 i),(6,x)]) .dead ?_ ?_ ?_ rfl
     ·intro i hi cJ x ih2
      have hw:=wC i (by omega)
      have hc:=Qa hL en d (by omega) ih a[i] (ha _ (ae hi)) a.length false []
      rw[cJ] at hc
      simp[hi,hw,hc]
      simpa using ih2 _
     ·intro i hi cJ hf x
      have hc:=Qa hL en d (by omega) ih a[i] (ha _ (ae hi)) a.length false []
      rw[hf]
      generalize C8 en a.length (zI en d) a[i]=er at *
      simp[hi,hc,cJ]
     ·intro h0 x
      simp[h0]
theorem Qb (u:Enum) (hu:u.tags.length≤1500) (h:List PObj):wr L 64 [wJ u] h=some (.int .i64 (BW u),h):=by
 refine wz (hL 64 _ rfl) rfl ?_
 have dr:=Bu hL u.name []
 unfold BW xU
 cases h0:yo u.name with
 | false=>rw[h0] at dr; simp[Ep,dr,need,ww]
 | true =>
   rw[h0] at dr
   by_cases h1:u.tags=[]
   ·simp[Ep,dr,h1,need,ww]
   ·have gC:¬u.tags.length=0:=λe=>h1 (bb.1 e)
    have eK:¬(u.tags.length:Int)=0:=by omega
    by_cases h2:16<u.tags.length
    ·have gR:(16:Int)<u.tags.length:=by omega
     have:¬u.tags.length≤16:=by omega
     simp[Ep,dr,h1,gC,eK,h2,gR,this,need,ww]
    ·have gR:¬(16:Int)<u.tags.length:=by omega
     have c2:u.tags.length≤16:=by omega
     simp[Ep,dr,h1,gC,eK,h2,gR,c2]
     refine zy u.tags xU (λi (_:Unit)=>[(3,.int .i64 i)]) () ?_ ?_ ?_ rfl
     ·intro i hi cJ x ih
      have hw:=wC i (by omega)
      have dr:=Bu hL u.tags[i] []
      unfold xU at cJ
      rw[yZ (by decide)] at cJ
      rw[cJ] at dr
      simp[hi,hw,dr]
      simpa using ih ()
     ·intro i hi cJ hf x
      have dr:=Bu hL u.tags[i] []
      have hf:wA (λs=>need (yo s) 6) u.tags=xU u.tags[i]:=hf
      try rw[hf]
      cases fG:yo u.tags[i] with
      | true=>exfalso; apply cJ; simp[xU,fG]
      | false=>rw[fG] at dr; simp[hi,dr,hf,xU,fG,need,ww]
     ·intro h0 x
      have h0:wA (λs=>need (yo s) 6) u.tags=0:=h0
      simp[h0]
theorem Qc (en:List Enum) (n:Node) (hn:NW n) (o:Bool) (h:List PObj):wr L 65 [.list o (en.map wJ),xc n] h=some (.int .i64 (zD en n),h):=by
 refine wz (hL 65 _ rfl) rfl ?_
 have dr:=Bu hL n.name []
 have lF:=Ia hL en n.ins hn.ins hn.is true false false []
 have mf:=Ia hL en n.outs hn.outs hn.os true false false []
 have gK:=Ia hL en n.locals hn.locals hn.ls false false false []
 unfold zD xU
 cases h0:yo n.name with
 | false=>rw[h0] at dr; simp[AT,dr,need,ww]
 | true =>
   rw[h0] at dr
   by_cases a1:64<n.ins.length
   ·have a1':(64:Int)<n.ins.length:=by omega
    have:¬(n.ins.length≤64):=by omega
    simp[AT,dr,need,ww,a1,a1',this]
   have a1':¬(64:Int)<n.ins.length:=by omega
   have c1:n.ins.length≤64:=by omega
   by_cases a2:64<n.outs.length
   ·have a2':(64:Int)<n.outs.length:=by omega
    have:¬(n.outs.length≤64):=by omega
    simp[AT,dr,need,ww,a1,a1',a2,a2',this]
   have a2':¬(64:Int)<n.outs.length:=by omega
   have c2:n.outs.length≤64:=by omega
   by_cases a3:256<n.locals.length
   ·have a3':(256:Int)<n.locals.length:=by omega
    have:¬(n.locals.length≤256):=by omega
    simp[AT,dr,need,ww,a1,a1',a2,a2',a3,a3',this]
   have a3':¬(256:Int)<n.locals.length:=by omega
   have c3:n.locals.length≤256:=by omega
   by_cases a4:256<n.eqs.length
   ·have a4':(256:Int)<n.eqs.length:=by omega
    have:¬(n.eqs.length≤256):=by omega
    simp[AT,dr,need,ww,a1,a1',a2,a2',a3,a3',a4,a4',this]
   have a4':¬(256:Int)<n.eqs.length:=by omega
   have c4:n.eqs.length≤256:=by omega
   by_cases a5:8<n.autos.length
   ·have a5':(8:Int)<n.autos.length:=by omega
    have:¬(n.autos.length≤8):=by omega
    simp[AT,dr,need,ww,a1,a1',a2,a2',a3,a3',a4,a4',a5,a5',this]
   have a5':¬(8:Int)<n.autos.length:=by omega
   have c5:n.autos.length≤8:=by omega
   by_cases a6:8<n.assume.length
   ·have a6':(8:Int)<n.assume.length:=by omega
    have:¬(n.assume.length≤8):=by omega
    simp[AT,dr,need,ww,a1,a1',a2,a2',a3,a3',a4,a4',a5,a5',a6,a6',this]
   have a6':¬(8:Int)<n.assume.length:=by omega
   have c6:n.assume.length≤8:=by omega
   by_cases a7:8<n.ensure.length
   ·have a7':(8:Int)<n.ensure.length:=by omega
    have:¬(n.ensure.length≤8):=by omega
    simp[AT,dr,need,ww,a1,a1',a2,a2',a3,a3',a4,a4',a5,a5',a6,a6',a7,a7',this]
   have a7':¬(8:Int)<n.ensure.length:=by omega
   have c7:n.ensure.length≤8:=by omega
   by_cases b1:n.outs=[]
   ·simp[AT,dr,need,ww,a1,a1',a2,a2',a3,a3',a4,a4',a5,a5',a6,a6',a7,a7',c1,c2,c3,c4,c5,c6,c7,b1]
   have b1i:¬(n.outs.length:Int)=0:=by
    intro e
    exact b1 (bb.1 (by omega))
   generalize wA (yx en true) n.ins=e1 at *
   generalize wA (yx en true) n.outs=e2 at *
   generalize wA (yx en false) n.locals=e3 at *
   by_cases z1:e1=0
   ·subst z1
    by_cases z2:e2=0
    ·subst z2
     simp[AT,dr,lF,mf,gK,a1,a1',a2,a2',a3,a3',a4,a4',a5,a5',a6,a6',a7,a7',c1,c2,c3,c4,c5,c6,c7,b1,b1i]
    ·simp[AT,dr,lF,mf,gK,a1,a1',a2,a2',a3,a3',a4,a4',a5,a5',a6,a6',a7,a7',c1,c2,c3,c4,c5,c6,c7,b1,b1i,z2,ww]
   ·simp[AT,dr,lF,mf,gK,a1,a1',a2,a2',a3,a3',a4,a4',a5,a5',a6,a6',a7,a7',c1,c2,c3,c4,c5,c6,c7,b1,b1i,z1,ww]
theorem Qd (en:List Enum) (n:Node) (hn:NW n) (o:Bool) (h:List PObj):wr L 67 [.list o (en.map wJ),xc n] h=some (.int .i64 (Aq en n),h):=by
 refine wz (hL 67 _ rfl) rfl ?_
 have l1:=hn.autos.len
 have l2:=hn.assume
 have l3:=hn.ensure
 unfold Aq
 simp[J2]
 refine zy n.autos (zI en 3) (λi (x:PV)=>[(4,.int .i64 i),(5,x)]) .dead ?_ ?_ ?_ rfl
 ·intro i hi cJ x ih
  have hw:=wC i (by omega)
  have hc:=Lw hL en 3 (by omega) n.autos[i] (hn.autos.as _ (ae hi)) (hn.autos.ss _ (ae hi)) false []
  rw[cJ] at hc
  simp at hc
  simp[hi,hw,hc]
  simpa using ih _
 ·intro i hi cJ hf x
  have hc:=Lw hL en 3 (by omega) n.autos[i] (hn.autos.as _ (ae hi)) (hn.autos.ss _ (ae hi)) false []
  rw[hf]
  generalize zI en 3 n.autos[i]=er at *
  simp at hc
  simp[hi,hc,cJ,ww]
 ·intro e1 x
  simp[e1]
  refine zy n.assume (zG en) (λi (x:PV)=>[(6,.int .i64 i),(7,x)]) .dead ?_ ?_ ?_ rfl
  ·intro i hi cJ x ih
   have hw:=wC i (by omega)
   have hc:=DN hL en n.assume[i] (hn.as _ (ae hi)) false []
   rw[cJ] at hc
   simp[hi,hw,hc]
   simpa using ih _
  ·intro i hi cJ hf x
   have hc:=DN hL en n.assume[i] (hn.as _ (ae hi)) false []
   rw[hf]
   generalize zG en n.assume[i]=er at *
   simp[hi,hc,cJ,ww]
  ·intro e2 x
   simp[e2]
   refine zy n.ensure (zG en) (λi (x:PV)=>[(8,.int .i64 i),(9,x)]) .dead ?_ ?_ ?_ rfl
   ·intro i hi cJ x ih
    have hw:=wC i (by omega)
    have hc:=DN hL en n.ensure[i] (hn.gs _ (ae hi)) false []
    rw[cJ] at hc
    simp[hi,hw,hc]
    simpa using ih _
   ·intro i hi cJ hf x
    have hc:=DN hL en n.ensure[i] (hn.gs _ (ae hi)) false []
    rw[hf]
    generalize zG en n.ensure[i]=er at *
    simp[hi,hc,cJ]
   ·intro e3 x
    simp[e3]
end
section
variable {L:Nat→Option PFunc} {Q:PExit→St→Prop}
theorem HW {α γ:Type} {c:PC} {V:List PV} {g:Nat} {h:List PObj} (l:List α) (ok:Nat→α→Bool) (M:Nat→γ→List (Nat×PV)) (G:Nat→γ→Nat) (H:Nat→γ→List PObj) (x0:γ)
  (step:∀i (hi:i<l.length),ok i l[i]=true→∀x,(∀y,wpL L (.loop c) ⟨upd V (M (i+1) y),[],G (i+1) y,H (i+1) y⟩ Q)→wpL L c ⟨upd V (M i x),[],G i x,H i x⟩ (xB L c Q))
  (fail:∀i (hi:i<l.length),ok i l[i]=false→(∀k (hk:k<l.length),k<i→ok k l[k]=true)→∀x,wpL L c ⟨upd V (M i x),[],G i x,H i x⟩ (xB L c Q))
  (last:(∀k (hk:k<l.length),ok k l[k]=true)→∀x,wpL L c ⟨upd V (M l.length x),[],G l.length x,H l.length x⟩ (xB L c Q)) (hV:upd V (M 0 x0)=V) (hG:G 0 x0=g) (hH:H 0 x0=h):wpL L (.loop c) ⟨V,[],g,h⟩ Q:=by
 refine K0 l.length (λi=>if h:i<l.length then ok i l[i] else true) M G H x0 ?_ ?_ ?_ hV hG hH
 ·intro i hi cJ x ih
  simp only[hi,dif_pos] at cJ
  exact step i hi cJ x ih
 ·intro i hi cJ hk x
  simp only[hi,dif_pos] at cJ
  refine fail i hi cJ (λk h1 h2 =>?_) x
  have:=hk k h2
  simpa only[h1,dif_pos] using this
 ·intro cJ x
  refine last (λk hk =>?_) x
  have:=cJ k hk
  simpa only[hk,dif_pos] using this
theorem AL {α γ:Type} {c:PC} {V:List PV} {g:Nat} {h:List PObj} (l:List α) (ok:Nat→α→Bool) (M:Nat→γ→List (Nat×PV)) (x0:γ)
  (step:∀i (hi:i<l.length),ok i l[i]=true→∀x,(∀y,wpL L (.loop c) ⟨upd V (M (i+1) y),[],g,h⟩ Q)→wpL L c ⟨upd V (M i x),[],g,h⟩ (xB L c Q))
  (fail:∀i (hi:i<l.length),ok i l[i]=false→(∀k (hk:k<l.length),k<i→ok k l[k]=true)→∀x,wpL L c ⟨upd V (M i x),[],g,h⟩ (xB L c Q))
  (last:(∀k (hk:k<l.length),ok k l[k]=true)→∀x,wpL L c ⟨upd V (M l.length x),[],g,h⟩ (xB L c Q)) (hV:upd V (M 0 x0)=V):wpL L (.loop c) ⟨V,[],g,h⟩ Q:=
 HW l ok M (λ_ _=>g) (λ_ _=>h) x0 step fail last hV rfl rfl
end
theorem Lm {α:Type} {f:α→Int}:∀{l:List α} {i j:Nat} (hi:i<l.length),f l[i]≠0→(∀k (hk:k<l.length),k<i→f l[k]=0)→Av f l j=some (j+i,f l[i])
 | [],i,j,hi,_,_=>by simp at hi
 | x::l,0,j,hi,h,_=>by simp only[bq] at h; simp[Av,h]
 | x :: l, i + 1, j, hi, h, hk => by
   have h0:=hk 0 (by simp) (by omega)
   simp only[bq] at h0
   simp only[cm] at h
   simp only[Av,h0,if_true,cm]
   rw[Lm (l:=l) (i:=i) (by simpa using hi) h (λk dh h1=>by have:=hk (k+1) (by simpa using dh) (by omega); simpa using this)]
   congr 2; omega
theorem Ln {en:List Enum}:∀{l:List Node} {i j:Nat} (hi:i<l.length) {b:Bad},zc en l[i] (j+i)=some b→(∀k (hk:k<l.length),k<i→zc en l[k] (j+k)=none)→Am en l j=some b
 | [],i,j,hi,b,_,_=>by simp at hi
 | x::l,0,j,hi,b,h,_=>by simp only[bq,br] at h; simp[Am,h]
 | x :: l, i + 1, j, hi, b, h, hk => by
   have h0:=hk 0 (by simp) (by omega)
   simp only[bq,br] at h0
   simp only[cm] at h
   simp only[Am,h0]
   exact Ln (l:=l) (i:=i) (by simpa using hi) (by rw[show j+1+i=j+(i+1) by omega]; exact h) (λk dh h1=>by have:=hk (k+1) (by simpa using dh) (by omega); rw[show j+1+k=j+(k+1) by omega]; simpa using this)
theorem Lo {en:List Enum}:∀{l:List Node} {j:Nat},(∀k (hk:k<l.length),zc en l[k] (j+k)=none)→Am en l j=none
 | [],j,_=>rfl
 | x :: l, j, h => by
   have h0:=h 0 (by simp)
   simp only[bq,br] at h0
   simp only[Am,h0]
   exact Lo (λk hk=>by have:=h (k+1) (by simpa using hk); rw[show j+1+k=j+(k+1) by omega]; simpa using this)
def zh (b:Bad):PV := .tuple [.agg [.int .i64 b.node,.int .i64 b.eq],.int .i64 b.err]
section
variable {L:Nat→Option PFunc} (hL:∀k f,LS k=some f→L k=some f)
include hL
theorem c2S (p:Prog) (hp:PW p) (h:List PObj):wr L 30 [yh p] h=some (zh (yy (A4 p)),h):=by
 refine wz (hL 30 _ rfl) rfl ?_
 have l1:=hp.enums
 have l2:=hp.nodes
 unfold A4
 by_cases a1:24<p.enums.length
 ·have a1i:(24:Int)<p.enums.length:=by omega
  have:¬p.enums.length≤24:=by omega
  simp[Fw,a1,a1i,this,yy,zh,wM,wD]
 have a1i:¬(24:Int)<p.enums.length:=by omega
 have c1:p.enums.length≤24:=by omega
 by_cases a2:96<p.nodes.length
 ·have a2i:(96:Int)<p.nodes.length:=by omega
  have:¬p.nodes.length≤96:=by omega
  simp[Fw,a1,a1i,a2,a2i,this,yy,zh,wM,wD]
 have a2i:¬(96:Int)<p.nodes.length:=by omega
 have c2:p.nodes.length≤96:=by omega
 simp[Fw,a1,a1i,a2,a2i,c1,c2]
 refine zy p.enums BW (λi (x:PV)=>[(5,.int .i64 i),(6,x)]) .dead ?_ ?_ ?_ rfl
 ·intro i hi cJ x ih
  have hw:=wC i (by omega)
  have hc:=Qb hL p.enums[i] (hp.tags _ (ae hi)) []
  rw[cJ] at hc
  simp[hi,hw,hc]
  simpa using ih _
 ·intro i hi cJ hf x
  have hc:=Qb hL p.enums[i] (hp.tags _ (ae hi)) []
  rw[hf]
  generalize BW p.enums[i]=er at *
  simp[hi,hc,cJ,yy,zh,wM,wD]
 ·intro e1 x
  simp[e1]
  refine HW p.nodes (λi n=>(zc p.enums n i).isNone) (λi (x:(PV×PV×PV)×Nat)=>[(7,.int .i64 i),(8,x.1.1),(9,x.1.2.1),(10,x.1.2.2)]) (λ_ x=>x.2) (λ_ _=>h) ((.dead,.dead,.dead),3) ?_ ?_ ?_ rfl rfl rfl
  ·intro i hi cJ x ih
   have hw:=wC i (by omega)
   have hn:=hp.ns _ (ae hi)
   have nL:=Qc hL p.enums p.nodes[i] hn false []
   have jy:=Qd hL p.enums p.nodes[i] hn false []
   have lY:=hn.eqs
   rw[bR,Ny] at cJ
   obtain⟨k1,k2,k3⟩:=cJ
   rw[k1] at nL; rw[k3] at jy
   simp[hi,nL]
   refine AL p.nodes[i].eqs (λ_ q=>decide (zr p.enums q=0)) (λj (x:PV)=>[(10,.int .i64 j),(9,x)]) (.int .i64 0) ?_ ?_ ?_ rfl
   ·intro j hj cJ y ih2
    have hw:=wC j (by omega)
    have hc:=Gd hL p.enums p.nodes[i].eqs[j] (hn.es _ (ae hj)) false []
    rw[ak] at cJ
    rw[cJ] at hc
    simp[hj,hw,hc]
    simpa using ih2 _
   ·intro j hj cJ _ y
    rw[aT] at cJ
    exact absurd (k2 _ (ae hj)) cJ
   ·intro _ y
    simp[jy,hw]
    simpa using ih ((_,_,_),_)
  ·intro i hi cJ dK x
   have hn:=hp.ns _ (ae hi)
   have nL:=Qc hL p.enums p.nodes[i] hn false []
   have jy:=Qd hL p.enums p.nodes[i] hn false []
   have lY:=hn.eqs
   obtain⟨b,hb⟩:∃b,zc p.enums p.nodes[i] i=some b:=by
    cases hx:zc p.enums p.nodes[i] i with
    | none=>rw[hx] at cJ; simp at cJ
    | some b=>exact⟨b,rfl⟩
   have dl:Am p.enums p.nodes 0=some b:=Ln hi (by rw[aK]; exact hb) (λk hk h1=>by have:=dK k hk h1; rw[bR] at this; rw[aK]; exact this)
   rw[dl]
   unfold zc at hb
   by_cases z1:zD p.enums p.nodes[i]=0
   ·rw[z1] at nL
    simp only[z1,ne_eq,bc,if_false] at hb
    simp[hi,nL]
    refine AL p.nodes[i].eqs (λ_ q=>decide (zr p.enums q=0)) (λj (x:PV)=>[(10,.int .i64 j),(9,x)]) (.int .i64 0) ?_ ?_ ?_ rfl
    ·intro j hj cJ y ih2
     have hw:=wC j (by omega)
     have hc:=Gd hL p.enums p.nodes[i].eqs[j] (hn.es _ (ae hj)) false []
     rw[ak] at cJ
     rw[cJ] at hc
     simp[hj,hw,hc]
     simpa using ih2 _
    ·intro j hj cJ nM y
     have hc:=Gd hL p.enums p.nodes[i].eqs[j] (hn.es _ (ae hj)) false []
     rw[aT] at cJ
     have lf:=Lm (f:=zr p.enums) (j:=0) hj cJ (λk hk h1=>by have:=nM k hk h1; simpa using this)
     rw[lf] at hb
     simp only[aK,aa] at hb
     subst hb
     generalize zr p.enums p.nodes[i].eqs[j]=er at *
     simp[hj,hc,cJ,yy,zh,wM,wD]
    ·intro cY y
     have lf:Av (zr p.enums) p.nodes[i].eqs 0=none:=FU.2 (λq hq=>by obtain⟨k,hk,rfl⟩:=bg.1 hq; simpa using cY k hk)
     rw[lf] at hb
     simp only at hb
     by_cases z2:Aq p.enums p.nodes[i]=0
     ·rw[z2] at hb; simp at hb
     ·rw[ah z2] at hb
      simp only[aa] at hb
      subst hb
      simp[jy,z2,yy,zh,wM,wD]
   ·rw[ah z1] at hb
    simp only[aa] at hb
    subst hb
    simp[hi,nL,z1]
    simp[yy,zh,wM,wD]
  ·intro cY x
   have dl:Am p.enums p.nodes 0=none:=Lo (λk hk=>by have:=cY k hk; rw[bR] at this; rw[aK]; exact this)
   rw[dl]
   simp[yy,Dw,zh,wM,wD]
theorem An (l:List Str) (hl:l.length≤9223372036854775807) (s:Str) (o:Bool) (h:List PObj):wr L 21 [.list o (l.map .str),.str s] h=some (.bool (decide (s∈l)),h):=by
 refine wz (hL 21 _ rfl) rfl ?_
 simp[JM]
 refine AL l (λ_ n => !decide (n=s)) (λi (_:Unit)=>[(3,.int .i64 i)]) () ?_ ?_ ?_ rfl
 ·intro i hi cJ x ih
  have hw:=wC i (by omega)
  simp only[bj,aT] at cJ
  simp[hi,hw,cJ]
  simpa using ih ()
 ·intro i hi cJ dK x
  simp only[bQ,ak] at cJ
  have hm:s∈l:=cJ▸ae hi
  simp[hi,cJ,hm]
 ·intro cY x
  have hm:s∉l:=by
   intro hm
   obtain⟨k,hk,rfl⟩:=bg.1 hm
   have:=cY k hk
   simp at this
  simp[hm]
end
def ePl (en:List Enum) (ns:List Node) (i:Int) (v x t:List Str):PV := .agg [.list false (en.map wJ),.list false (ns.map xc),.int .i64 i,.list false (v.map .str),.list false (x.map .str),.list false (t.map .str)]
section
variable (en:List Enum) (ns:List Node) (i:Int) (v x t:List Str)
theorem c63:ePl en ns i v x t = .agg [.list false (en.map wJ),.list false (ns.map xc),.int .i64 i,.list false (v.map .str),.list false (x.map .str),.list false (t.map .str)]:=rfl
@[simp] theorem d0z:(ePl en ns i v x t).cells=[.list false (en.map wJ),.list false (ns.map xc),.int .i64 i,.list false (v.map .str),.list false (x.map .str),.list false (t.map .str)]:=rfl
@[simp] theorem d4A:cp (ePl en ns i v x t)=some (ePl en ns i v x t):=rfl
@[simp] theorem d3F:tkv (ePl en ns i v x t)=some (ePl en ns i v x t,false):=rfl
@[simp] theorem c5p:AJ (ePl en ns i v x t)=some (ePl en ns i v x t).cells:=rfl
@[simp] theorem d3G:dem (ePl en ns i v x t)=ePl en ns i v x t:=rfl
@[simp] theorem d2h:Aa (ePl en ns i v x t)=ePl en ns i v x t:=rfl
@[simp] theorem d2i:xN (ePl en ns i v x t)=none:=rfl
@[simp] theorem c4p:PV.agg [.list false (en.map wJ),.list false (ns.map xc),.int .i64 i,.list false (v.map .str),.list false (x.map .str),.list false (t.map .str)]=ePl en ns i v x t:=rfl
@[simp] theorem d2j:wR (ePl en ns i v x t)=true:=by rw[c63]; simp[-c4p]
end
@[simp] theorem d2k:PV.agg [.str [],.list false [],.list false [],.list false [],.list false [],.list false [],.list false [],.list false []]=xc ⟨[],[],[],[],[],[],[],[]⟩:=rfl
def eEN (r:EN):PV := .tuple [.list false (r.2.map .str),.int .i64 r.1]
theorem c2T (s:Place) (e:Expr):xe s e 1=wA (yf s 1) e.list:=by
 rw[Expr.list_eq]; rfl
theorem c4q (s:Place) (e:Expr) (n:Nat):xe s e n=ww (yf s n e) (wA (λx=>xe s x 1) e.args):=by
 unfold xe
 rw[Lv]
 congr 2
 funext x
 rw[← c2T]; rfl
theorem Lx {l:List Decl} {i:Nat} (h:i<l.length):wv (l.take (i+1))=wv (l.take i)++[l[i].name]:=by unfold wv; rw[zn h,bk]; rfl
theorem Ly (s:Place):∀(i:Nat) (xs d:List Str),i≤xs.length→(∀k (hk:k<xs.length),k<i→xs[k]∈s.vis∧xs[k]∉s.inputs∧xs[k]∉d++xs.take k)→Ad s xs d=Ad s (xs.drop i) (d++xs.take i)
 | 0,xs,d,_,_=>by simp
 | i+1,[],d,hi,_=>by simp at hi
 | i + 1, x :: xs, d, hi, h => by
   have h0:=h 0 (by simp) (by omega)
   simp only[bq,List.take_zero,aL] at h0
   simp only[Ad]
   rw[af (by simpa using h0.1),af (by simp[h0.2.1,h0.2.2])]
   rw[Ly s i xs (d++[x]) (by simpa using hi) (λk hk h1=>by have:=h (k+1) (by simpa using hk) (by omega); simpa using this)]
   simp
theorem Lz (tags:List Str):∀(i:Nat) (l:List Decl) (v:List Str),i≤l.length→(∀k (hk:k<l.length),k<i→l[k].name∉v++wv (l.take k)∧l[k].name∉tags)→w9 tags l v=w9 tags (l.drop i) (v++wv (l.take i))
 | 0,l,v,_,_=>by simp[wv]
 | i+1,[],v,hi,_=>by simp at hi
 | i + 1, x :: l, v, hi, h => by
   have h0:=h 0 (by simp) (by omega)
   simp only[bq,List.take_zero,wv,bA,aL] at h0
   simp only[w9]
   rw[af (by simp[h0.1,h0.2])]
   rw[Lz tags i l (v++[x.name]) (by simpa using hi) (λk hk h1=>by have:=h (k+1) (by simpa using hk) (by omega); simpa[wv] using this)]
   simp[wv]
section
variable {L:Nat→Option PFunc} (hL:∀k f,LS k=some f→L k=some f)
include hL
theorem c1c (en:List Enum) (ns:List Node) (hl:ns.length≤1500) (i:Nat) (name:Str) (o1 o2:Bool) (h:List PObj):wr L 109 [.agg [.list o1 (en.map wJ),.list o2 (ns.map xc)],.int .i64 i,.str name] h=some (.tuple [xc ((callee (ns.take i) name).getD ⟨[],[],[],[],[],[],[],[]⟩),.bool (callee (ns.take i) name).isSome],h):=by
 refine wz (hL 109 _ rfl) rfl ?_
 simp[Kl,dem]
 have cI:(ns.take i).length=min i ns.length:=bG
 refine AL (ns.take i) (λ_ n => !decide (n.name=name)) (λj (_:Unit)=>[(6,.int .i64 j)]) () ?_ ?_ ?_ rfl
 ·intro j hj cJ x ih
  have hw:=wC j (by omega)
  have j1:j<i:=by omega
  have j2:j<ns.length:=by omega
  have j1i:(j:Int)<i:=by omega
  have j2i:(j:Int)<ns.length:=by omega
  simp only[bB,bj,aT] at cJ
  simp[j1,j2,j1i,j2i,hw,cJ]
  simpa using ih ()
 ·intro j hj cJ dK x
  have j1:j<i:=by omega
  have j2:j<ns.length:=by omega
  simp only[bQ,ak] at cJ
  have hf:callee (ns.take i) name=some ns[j]:=by
   unfold callee
   rw[List.find?_eq_some_iff_getElem]
   refine⟨by simpa using cJ,j,hj,by simp,λk hk =>?_⟩
   have:=dK k (by omega) hk
   simpa using this
  rw[hf]
  simp only[bB] at cJ
  have j1i:(j:Int)<i:=by omega
  have j2i:(j:Int)<ns.length:=by omega
  simp[j1,j2,j1i,j2i,tf cJ]
 ·intro cY x
  have hf:callee (ns.take i) name=none:=by
   unfold callee
   rw[List.find?_eq_none]
   intro n hn
   obtain⟨k,hk,rfl⟩:=bg.1 hn
   have:=cY k hk
   simpa using this
  rw[hf,cI]
  by_cases c1:i≤ns.length
  ·have hm:min i ns.length=i:=by omega
   simp[hm]
  ·have hm:min i ns.length=ns.length:=by omega
   have c2:ns.length<i:=by omega
   simp[hm,c2]
theorem DK (en:List Enum) (ns:List Node) (hl:ns.length≤1500) (i:Nat) (vis inp tags:List Str) (hv:vis.length≤9223372036854775807) (e:Expr):EW e→∀(outs:Nat) (h:List PObj),
  wr L 72 [ePl en ns i vis inp tags,wy e,.int .i64 outs] h=some (.int .i64 (xe ⟨ns.take i,vis,inp,tags⟩ e outs),h):=by
 induction e using Expr.ind with
 | h e ih=>
 intro he outs h
 refine wz (hL 72 _ rfl) rfl ?_
 obtain⟨ht,dN,dt⟩:=he.self
 rw[c4q]
 have fS:=An hL vis hv e.name false []
 have fI:=c1c hL en ns hl i e.name false false []
 have fg:∀(x6 x7:PV) (g:Nat),wpL L N5 ⟨[ePl en ns i vis inp tags,wy e,.int .i64 outs,.loc 0 (ePl en ns i vis inp tags).cells,.loc 1 (wy e).cells,.int .i64 0,x6,x7,.int .i64 0,.dead],[],g,h⟩ (AQ 0 (A8 L (S (R [t 5 (k 0)]) Y) (Bs [.var 5] (.int .i64 (wA (λx=>xe ⟨ns.take i,vis,inp,tags⟩ x 1) e.args),h)))):=by
  intro x6 x7 g
  refine zy e.args (λx=>xe ⟨ns.take i,vis,inp,tags⟩ x 1) (λj (x:PV)=>[(8,.int .i64 j),(9,x)]) .dead ?_ ?_ ?_ rfl
  ·intro j hj cJ x ih2
   have hw:=wC j (by omega)
   have hc:=ih e.args[j] (ae hj) (he.arg (ae hj)) 1 []
   rw[cJ] at hc
   simp at hc
   simp[hj,hw,hc]
   simpa using ih2 _
  ·intro j hj cJ hf x
   have hc:=ih e.args[j] (ae hj) (he.arg (ae hj)) 1 []
   rw[hf]
   generalize xe ⟨ns.take i,vis,inp,tags⟩ e.args[j] 1=er at *
   simp at hc
   simp[hj,hc,cJ]
  ·intro h0 x
   simp[h0]
 generalize wA (λx=>xe ⟨ns.take i,vis,inp,tags⟩ x 1) e.args=R at *
 rcases(by omega:e.kind=2∨e.kind=8∨e.kind=9∨e.kind=10∨(¬e.kind=2∧¬e.kind=8∧¬e.kind=9∧¬e.kind=10)) with hk|hk|hk|hk|⟨h2,h8,h9,ij⟩
 ·have ij:¬e.kind=10:=by omega
  by_cases hm:e.name∈vis
  ·have h0:yf ⟨ns.take i,vis,inp,tags⟩ outs e=0:=by simp[yf,hk,hm]
   rw[h0,yP]
   simp[hm] at fS
   simp[A5,tf hk,tf ij,fS]
   simpa using fg .dead .dead 2
  ·simp[hm] at fS
   simp[A5,tf hk,fS,yf,hm,need,ww]
 ·have ij:¬e.kind=10:=by omega
  have h2:¬e.kind=2:=by omega
  by_cases hm:e.name∈vis
  ·have h0:yf ⟨ns.take i,vis,inp,tags⟩ outs e=0:=by simp[yf,hk,hm]
   rw[h0,yP]
   simp[hm] at fS
   simp[A5,tf hk,tf h2,tf ij,fS]
   simpa using fg .dead .dead 2
  ·simp[hm] at fS
   simp[A5,tf hk,tf h2,fS,yf,hm,need,ww]
 ·have ij:¬e.kind=10:=by omega
  have h2:¬e.kind=2:=by omega
  have h8:¬e.kind=8:=by omega
  by_cases hm:e.name∈vis
  ·have h0:yf ⟨ns.take i,vis,inp,tags⟩ outs e=0:=by simp[yf,hk,hm]
   rw[h0,yP]
   simp[hm] at fS
   simp[A5,tf hk,tf h2,tf h8,tf ij,fS]
   simpa using fg .dead .dead 2
  ·simp[hm] at fS
   simp[A5,tf hk,tf h2,tf h8,fS,yf,hm,need,ww]
 ·have h2:¬e.kind=2:=by omega
  have h8:¬e.kind=8:=by omega
  have h9:¬e.kind=9:=by omega
  have kM:yf ⟨ns.take i,vis,inp,tags⟩ outs e=EF ⟨ns.take i,vis,inp,tags⟩ e outs:=by simp[yf,hk]
  rw[kM]
  unfold EF
  cases hc:callee (ns.take i) e.name with
  | none =>
    rw[hc] at fI
    simp at fI
    simp[A5,tf hk,tf h2,tf h8,tf h9,fI,ww]
  | some n =>
    rw[hc] at fI
    simp at fI
    unfold wrap
    by_cases q1:(e.args.length:Int)=IntKind.i64.wrap (n.ins.length+e.v)
    ·by_cases q2:n.outs.length=outs
     ·have q2i:((n.outs.length:Int)=(outs:Int))=True:=eq_true (by omega)
      simp[A5,tf hk,tf h2,tf h8,tf h9,fI,tf q1,tf q2,q2i]
      simpa using fg (.loc 2 (xc n).cells) (.bool true) 3
     ·have q2i:((n.outs.length:Int)=(outs:Int))=False:=eq_false (by omega)
      simp[A5,tf hk,tf h2,tf h8,tf h9,fI,tf q1,tf q2,q2i,need,ww]
    ·simp[A5,tf hk,tf h2,tf h8,tf h9,fI,tf q1,need,ww]
 ·have h0:yf ⟨ns.take i,vis,inp,tags⟩ outs e=0:=by simp[yf,h2,h8,h9,ij]
  rw[h0,yP]
  simp[A5,tf h2,tf h8,tf h9,tf ij]
  simpa using fg .dead .dead 2
theorem EC (l m:List Str) (hl:l.length≤2000000000) (hm:m.length≤9223372036854775807) (o1 o2:Bool) (h:List PObj):wr L 73 [.list o1 (l.map .str),.list o2 (m.map .str)] h=some (.list false ((wX l m).map .str),h):=by
 refine wz (hL 73 _ rfl) rfl ?_
 simp[J6]
 refine C5 l.length (λi (_:Unit)=>[(3,.list true ((wX (l.take i) m).map .str)),(4,.int .i64 i)]) (λ_ _=>h) () ?_ ?_ (by simp[wX]) rfl
 ·intro i hi _ ih
  have hw:=wC i (by omega)
  have hh:=An hL m hm l[i] false []
  have ih:=ih ()
  rw[zn hi,OZ] at ih
  have cI:(wX (l.take i) m).length≤i:=by
   have:=List.length_filter_le (λx => !decide (x∈m)) (l.take i)
   unfold wX
   simp only[bG] at this
   omega
  generalize wX (l.take i) m=z at *
  by_cases hx:l[i]∈m
  ·have hz:wX [l[i]] m=[]:=by simp[wX,hx]
   rw[hz,aL] at ih
   simp[hx] at hh
   simp[hi,hw,hh]
   simpa using ih
  ·have hz:wX [l[i]] m=[l[i]]:=by simp[wX,hx]
   rw[hz] at ih
   simp[hx] at hh
   have dp:z.length+1≤2147483648:=by omega
   simp[hi,hw,hh,dp]
   simpa using ih
 ·intro _
  simp
theorem c2U (l:List Decl) (hl:l.length≤2000000000) (o:Bool) (h:List PObj):wr L 69 [.list o (l.map wF)] h=some (.list true ((wv l).map .str),h):=by
 refine wz (hL 69 _ rfl) rfl ?_
 simp[Hh]
 refine C5 l.length (λi (_:Unit)=>[(2,.list true ((wv (l.take i)).map .str)),(3,.int .i64 i)]) (λ_ _=>h) () ?_ ?_ (by simp[wv]) rfl
 ·intro i hi _ ih
  have hw:=wC i (by omega)
  have ih:=ih ()
  have hd:=Lx hi
  rw[hd] at ih
  have cI:(wv (l.take i)).length+1≤2147483648:=by simp[wv]; omega
  generalize wv (l.take i)=z at *
  simp[hi,hw,cI]
  simpa using ih
 ·intro _
  simp
theorem Ld (l:List Decl) (hl:l.length≤2000000000) (o:Bool):wr L 69 (Ar none [.list o (l.map wF)]) []=some (.list true ((wv l).map .str),[]):=by
 refine PT (hL 69 _ rfl) rfl ?_
 simp[Hh,BD]
 refine C5 l.length (λi (_:Unit)=>[(2,.list true ((wv (l.take i)).map .str)),(3,.int .i64 i)]) (λ_ _=>[]) () ?_ ?_ (by simp[wv]) rfl
 ·intro i hi _ ih
  have hw:=wC i (by omega)
  have ih:=ih ()
  have hd:=Lx hi
  rw[hd] at ih
  have cI:(wv (l.take i)).length+1≤2147483648:=by simp[wv]; omega
  generalize wv (l.take i)=z at *
  simp[hi,hw,cI]
  simpa using ih
 ·intro _
  simp
theorem HN (en:List Enum) (ns:List Node) (hl:ns.length≤1500) (i:Nat) (vis inp tags:List Str) (hv:vis.length≤1000000) (jZ:inp.length≤1000000) (q:Eqn) (hq:QW q) (d:List Str) (hd:d.length≤1000000) (o:Bool) (h:List PObj):
  wr L 70 [ePl en ns i vis inp tags,xn q,.list o (d.map .str)] h=some (eEN (xz ⟨ns.take i,vis,inp,tags⟩ q d),h):=by
 refine wz (hL 70 _ rfl) rfl ?_
 have qq:=hq.left
 have hx:=DK hL en ns hl i vis inp tags (by omega) q.right hq.right.ew q.left.length []
 generalize hP:(⟨ns.take i,vis,inp,tags⟩:Place)=P at *
 have mX:P.vis=vis:=by rw[← hP]
 have sA:P.inputs=inp:=by rw[← hP]
 simp[J4]
 refine AL q.left (λj x=>decide (x∈vis∧x∉inp∧x∉d++q.left.take j)) (λj (x:Bool×PV)=>[(2,.list x.1 ((d++q.left.take j).map .str)),(7,.int .i64 j),(8,x.2)]) (false,.dead) ?_ ?_ ?_ ?_
 ·intro j hj cJ x ih
  have hw:=wC j (by omega)
  simp only[ak] at cJ
  obtain⟨k1,k2,k3⟩:=cJ
  have h1:=An hL vis (by omega) q.left[j] false []
  have h2:=An hL inp (by omega) q.left[j] false []
  have h3:=An hL (d++q.left.take j) (by simp; omega) q.left[j] false []
  have ih:=ih (true,.str q.left[j])
  rw[zn hj,← aC] at ih
  have cI:(d++q.left.take j).length+1≤2147483648:=by simp; omega
  have kN:(d++q.left.take j).length≤2147483648:=by omega
  generalize d++q.left.take j=z at *
  simp[k1] at h1; simp[k2] at h2; simp[k3] at h3
  simp[hj,hw,h1,h2,h3,cI,kN]
  simpa using ih
 ·intro j hj cJ dK x
  have fw:=Ly P j q.left d (by omega) (λk hk h1=>by
   have:=dK k hk h1
   simp only[ak] at this
   rw[mX,sA]; exact this)
  rw[aN hj] at fw
  simp only[aT,not_and,Decidable.not_not] at cJ
  have h1:=An hL vis (by omega) q.left[j] false []
  have h2:=An hL inp (by omega) q.left[j] false []
  have h3:=An hL (d++q.left.take j) (by simp; omega) q.left[j] false []
  generalize d++q.left.take j=z at *
  by_cases k1:q.left[j]∈vis
  ·have hb:xz P q d=(7,[]):=by
    unfold xz
    rw[fw]
    simp only[Ad]
    rw[mX,sA,af (by simp[k1])]
    by_cases k2:q.left[j]∈inp
    ·rw[ah (.inl k2)]; exact xZ (by decide) _
    ·rw[ah (.inr (cJ k1 k2))]; exact xZ (by decide) _
   simp[k1] at h1
   by_cases k2:q.left[j]∈inp
   ·simp[k2] at h2
    simp[hj,h1,h2,hb,eEN]
   ·have k3:=cJ k1 k2
    simp[k2] at h2; simp[k3] at h3
    simp[hj,h1,h2,h3,hb,eEN]
  ·have hb:xz P q d=(6,[]):=by
    unfold xz
    rw[fw]
    simp only[Ad]
    rw[mX,ah k1]; exact xZ (by decide) _
   simp[k1] at h1
   simp[hj,h1,hb,eEN]
 ·intro cY x
  have fw:=Ly P q.left.length q.left d (by omega) (λk hk h1=>by
   have:=cY k hk
   simp only[ak] at this
   rw[mX,sA]; exact this)
  have hb:xz P q d=(xe P q.right q.left.length,d++q.left):=by
   unfold xz
   rw[fw]
   simp[Ad]
  rw[hb]
  simp[hx,eEN]
 ·simp
theorem Pf (vis tags:List Str) (hv:vis.length≤1000000) (ht:tags.length≤1000000) (l:List Decl) (hl:l.length≤10000) (hd:∀d∈l,d.clock.length≤1500) (o1 o2 o3:Bool) (h:List PObj):
  wr L 68 [.list o1 (vis.map .str),.list o2 (tags.map .str),.list o3 (l.map wF)] h=some (eEN (if (w9 tags l vis).1=0∧zg (w9 tags l vis).2 l≠0 then(zg (w9 tags l vis).2 l,[]) else xI vis tags l),h):=by
 refine wz (hL 68 _ rfl) rfl ?_
 simp[J3]
 refine AL l (λj x=>decide (x.name∉vis++wv (l.take j)∧x.name∉tags)) (λj (x:Bool)=>[(0,.list x ((vis++wv (l.take j)).map .str)),(5,.int .i64 j)]) false ?_ ?_ ?_ ?_
 ·intro j hj cJ x ih
  have hw:=wC j (by omega)
  simp only[ak] at cJ
  obtain⟨k1,k2⟩:=cJ
  have h1:=An hL (vis++wv (l.take j)) (by simp[wv]; omega) l[j].name false []
  have h2:=An hL tags (by omega) l[j].name false []
  have ih:=ih true
  have da:=Lx hj
  rw[da,← aC] at ih
  have cI:(vis++wv (l.take j)).length+1≤2147483648:=by simp[wv]; omega
  have kN:(vis++wv (l.take j)).length≤2147483648:=by omega
  generalize vis++wv (l.take j)=z at *
  simp[k1] at h1; simp[k2] at h2
  simp[hj,hw,h1,h2,cI,kN]
  simpa using ih
 ·intro j hj cJ dK x
  have fw:=Lz tags j l vis (by omega) (λk hk h1=>by have:=dK k hk h1; simpa only[ak] using this)
  rw[aN hj] at fw
  simp only[aT,not_and,Decidable.not_not] at cJ
  have h1:=An hL (vis++wv (l.take j)) (by simp[wv]; omega) l[j].name false []
  have h2:=An hL tags (by omega) l[j].name false []
  generalize vis++wv (l.take j)=z at *
  have hb:w9 tags l vis=(7,[]):=by
   rw[fw]
   simp only[w9]
   by_cases k1:l[j].name∈z
   ·rw[ah (.inl k1)]
   ·rw[ah (.inr (cJ k1))]
  have dI:xI vis tags l=(7,[]):=by unfold xI; rw[hb]; exact xZ (by decide) _
  rw[hb,dI]
  by_cases k1:l[j].name∈z
  ·simp[k1] at h1
   simp[hj,h1,eEN]
  ·have k2:=cJ k1
   simp[k1] at h1; simp[k2] at h2
   simp[hj,h1,h2,eEN]
 ·intro cY x
  have fw:=Lz tags l.length l vis (by omega) (λk hk h1=>by have:=cY k hk; simpa only[ak] using this)
  have hb:w9 tags l vis=(0,vis++wv l):=by rw[fw]; simp[w9]
  have dI:xI vis tags l=(zg (vis++wv l) l,vis++wv l):=by unfold xI; rw[hb]; rfl
  have fe:(vis++wv l).length≤1010000:=by simp[wv]; omega
  rw[hb,dI]
  simp only[aI]
  generalize vis++wv l=z at *
  simp
  unfold zg
  refine zy l (λd=>wA (λo=>need (decide (o.name∈z)) 6) d.clock) (λj (x:PV)=>[(6,.int .i64 j),(7,x)]) .dead ?_ ?_ ?_ rfl
  ·intro j hj cJ x ih
   have hw:=wC j (by omega)
   have dm:=hd _ (ae hj)
   simp[hj]
   refine zy l[j].clock (λo=>need (decide (o.name∈z)) 6) (λm (_:Unit)=>[(7,.int .i64 m)]) () ?_ ?_ ?_ rfl
   ·intro m hm cU y ih2
    have hw:=wC m (by omega)
    have h1:=An hL z (by omega) l[j].clock[m].name false []
    rw[yZ (by decide)] at cU
    rw[cU] at h1
    simp[hj,hm,hw,h1]
    simpa using ih2 ()
   ·intro m hm cU hf y
    rw[cJ] at hf
    exact absurd hf.symm cU
   ·intro _ y
    simp[hj,hw]
    simpa using ih _
  ·intro j hj cJ hf x
   have dm:=hd _ (ae hj)
   rw[hf]
   simp[hj]
   refine zy l[j].clock (λo=>need (decide (o.name∈z)) 6) (λm (_:Unit)=>[(7,.int .i64 m)]) () ?_ ?_ ?_ rfl
   ·intro m hm cU y ih2
    have hw:=wC m (by omega)
    have h1:=An hL z (by omega) l[j].clock[m].name false []
    rw[yZ (by decide)] at cU
    rw[cU] at h1
    simp[hj,hm,hw,h1]
    simpa using ih2 ()
   ·intro m hm cU gO y
    have h1:=An hL z (by omega) l[j].clock[m].name false []
    rw[gO]
    have hn:l[j].clock[m].name∉z:=by intro e; apply cU; simp[e]
    simp[hn] at h1
    simp[hj,hm,h1,hn,eEN,need]
   ·intro hz y
    exact absurd hz cJ
  ·intro h0 x
   rw[h0]
   simp[eEN]
 ·simp[wv]
theorem Pg (en:List Enum) (ns:List Node) (hl:ns.length≤1500) (i:Nat) (vis inp tags:List Str) (hv:vis.length≤9223372036854775807) (l:List Trn) (oR:l.length≤1500) (ht:∀t∈l,XW t.cond) (o:Bool) (h:List PObj):
  wr L 138 [ePl en ns i vis inp tags,.list o (l.map xL)] h=some (.int .i64 (zE ⟨ns.take i,vis,inp,tags⟩ l),h):=by
 refine wz (hL 138 _ rfl) rfl ?_
 unfold zE
 simp[Kt]
 refine zy l (λt=>xe ⟨ns.take i,vis,inp,tags⟩ t.cond 1) (λj (x:PV)=>[(4,.int .i64 j),(5,x)]) .dead ?_ ?_ ?_ rfl
 ·intro j hj cJ x ih
  have hw:=wC j (by omega)
  have hc:=DK hL en ns hl i vis inp tags hv l[j].cond (ht _ (ae hj)).ew 1 []
  rw[cJ] at hc
  simp at hc
  simp[hj,hw,hc]
  simpa using ih _
 ·intro j hj cJ hf x
  have hc:=DK hL en ns hl i vis inp tags hv l[j].cond (ht _ (ae hj)).ew 1 []
  rw[hf]
  generalize xe ⟨ns.take i,vis,inp,tags⟩ l[j].cond 1=er at *
  simp at hc
  simp[hj,hc,cJ]
 ·intro h0 x
  simp[h0]
end
end PI.Sc
