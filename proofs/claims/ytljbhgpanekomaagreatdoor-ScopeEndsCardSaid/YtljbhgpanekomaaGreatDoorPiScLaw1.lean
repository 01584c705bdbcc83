import Derived.Test.YtljbhgpanekomaaGreatDoorPiScSpec2
import Derived.Test.YtljbhgpanekomaaGreatDoorPiScRun1
set_option linter.unusedSimpArgs false
set_option linter.unusedVariables false
set_option linter.unusedSectionVars false
namespace PI.Sc
open Go (IntKind BinOp UnOp)
theorem a82 {α:Type} {a b:List α}:(a++b).Nodup↔a.Nodup∧b.Nodup∧∀x∈b,x∉a:=by
 rw[List.nodup_append]
 constructor
 ·rintro⟨h1,h2,h3⟩; exact⟨h1,h2,λx hx hy=>h3 x hy x hx rfl⟩
 ·rintro⟨h1,h2,h3⟩; exact⟨h1,h2,λx hx y hy e=>h3 y hy (e▸hx)⟩
theorem b6b {l o:List Str} {x:Str}:x∈a0M l o↔x∈l∧x∉o:=by simp[a0M]
theorem b6c (a b o:List Str):a0M (a++b) o=a0M a o++a0M b o:=by simp[a0M]
theorem b4S {l o:List Str} (h:∀x∈l,x∉o):a0M l o=l:=by
 unfold a0M
 rw[List.filter_eq_self]
 intro x hx; simp[h x hx]
theorem a2v {l o:List Str}:a0M l o=[]↔∀x∈l,x∈o:=by
 unfold a0M
 rw[List.filter_eq_nil_iff]
 constructor
 ·intro h x hx; have:=h x hx; simpa using this
 ·intro h x hx; simp[h x hx]
theorem b0n {d y:List Str} (h:∀x∈y,x∉d):a0M (d++y) d=y:=by
 rw[b6c,a2v.2 (λx hx=>hx),b4S h]; rfl
theorem b3r {l o:List Str} (h:l.Nodup):(a0M l o).Nodup:=h.filter _
theorem a9P:∀(m l:List Str),m.Nodup→(∀x∈m,x∉l)→b21 l m=l++m
 | [],l,_,_=>by simp[b21]
 | x :: m, l, hn, h => by
   have hx:=h x (by simp)
   rw[List.nodup_cons] at hn
   unfold b21
   rw[List.foldl_cons,if_neg hx]
   have:=a9P m (l++[x]) hn.2 (by
    intro y hy hm
    rcases List.mem_append.1 hm with h1|h1
    ·exact h y (by simp[hy]) h1
    ·simp only[List.mem_singleton] at h1; subst h1; exact hn.1 hy)
   unfold b21 at this
   rw[this]; simp
theorem a4u {a:EN} {f:List Str→EN} {r:List Str}:a4L a f=(0,r)↔a.1=0∧f a.2=(0,r):=by
 unfold a4L
 by_cases h:a.1=0
 ·simp[h]
 ·simp only[h,if_false,false_and,iff_false]
  intro e; exact h (by simpa using congrArg Prod.fst e)
theorem a6X {a:EN} (h:a.1=0):a=(0,a.2):=by rw[← h]
def Defs (s:Place) (d xs:List Str):Prop:=(∀x∈xs,x∈s.vis∧x∉s.inputs∧x∉d)∧xs.Nodup
theorem Defs.nil (s:Place) (d:List Str):Defs s d []:=⟨by simp,by simp⟩
theorem Defs.app {s:Place} {d a b:List Str}:Defs s d (a++b)↔Defs s d a∧Defs s (d++a) b:=by
 unfold Defs
 rw[a82]
 constructor
 ·rintro⟨h1,h2,h3,h4⟩
  refine⟨⟨λx hx=>h1 x (by simp[hx]),h2⟩,λx hx =>?_,h3⟩
  have:=h1 x (by simp[hx])
  have h5:=h4 x hx
  exact⟨this.1,this.2.1,by simp[this.2.2,h5]⟩
 ·rintro⟨⟨h1,h2⟩,h3,h4⟩
  refine⟨λx hx =>?_,h2,h4,λx hx =>?_⟩
  ·rcases List.mem_append.1 hx with h|h
   ·exact h1 x h
   ·have:=h3 x h
    exact⟨this.1,this.2.1,λhd=>this.2.2 (by simp[hd])⟩
  ·have:=h3 x hx
   exact λha=>this.2.2 (by simp[ha])
theorem b3s (s:Place):∀(xs d r:List Str),a9Z s xs d=(0,r)↔r=d++xs∧Defs s d xs
 | [],d,r=>by simp only[a9Z,List.append_nil,Defs.nil,and_true,Prod.mk.injEq,true_and]; exact eq_comm
 | x :: xs, d, r => by
   have ih:=b3s s xs (d++[x]) r
   have hap:x::xs=[x]++xs:=rfl
   rw[hap,Defs.app]
   have h1:Defs s d [x]↔x∈s.vis∧x∉s.inputs∧x∉d:=by unfold Defs; simp
   simp only[a9Z,List.cons_append,List.nil_append]
   by_cases hv:x∈s.vis
   ·by_cases hd:x∈s.inputs∨x∈d
    ·have:¬Defs s d [x]:=by rw[h1]; rintro⟨_,a,b⟩; rcases hd with h|h; (exact a h); exact b h
     simp[hv,hd,this]
    ·simp only[not_or] at hd
     have:Defs s d [x]:=h1.2 ⟨hv,hd.1,hd.2⟩
     simp[hv,hd,this,ih]
   ·have:¬Defs s d [x]:=by rw[h1]; exact λh=>hv h.1
    simp[hv,this]
theorem b3t {s:Place} {q:Eqn} {d r:List Str}:b11 s q d=(0,r)↔r=d++q.left∧Defs s d q.left∧a2r s q.right q.left.length=0:=by
 unfold b11
 rw[a4u]
 constructor
 ·rintro⟨h1,h2⟩
  have h3:=(b3s s q.left d _).1 (a6X h1)
  simp only[Prod.mk.injEq] at h2
  exact⟨by rw[← h2.2,h3.1],h3.2,h2.1⟩
 ·rintro⟨rfl,h1,h2⟩
  rw[(b3s s q.left d _).2 ⟨rfl,h1⟩]
  exact⟨rfl,by simp[h2]⟩
def a0K (l:List Eqn):List Str:=l.flatMap (·.left)
theorem a5M (s:Place):∀(l:List Eqn) (d r:List Str),a5F s l d=(0,r)↔r=d++a0K l∧Defs s d (a0K l)∧∀q∈l,a2r s q.right q.left.length=0
 | [],d,r=>by simp only[a5F,a0K,List.flatMap_nil,List.append_nil,Defs.nil,true_and,List.not_mem_nil,false_imp_iff,implies_true,and_true,Prod.mk.injEq]; exact eq_comm
 | q :: l, d, r => by
   simp only[a5F]
   rw[a4u]
   have hl:a0K (q::l)=q.left++a0K l:=by simp[a0K]
   rw[hl,Defs.app]
   constructor
   ·rintro⟨h1,h2⟩
    obtain⟨h3,h4,h5⟩:=b3t.1 (a6X h1)
    rw[h3] at h2
    obtain⟨h6,h7,h8⟩:=(a5M s l _ r).1 h2
    refine⟨by rw[h6,List.append_assoc],⟨h4,h7⟩,?_⟩
    intro x hx
    rcases List.mem_cons.1 hx with rfl|hx
    ·exact h5
    ·exact h8 x hx
   ·rintro⟨h1,⟨h2,h3⟩,h4⟩
    rw[b3t.2 ⟨rfl,h2,h4 q (by simp)⟩]
    refine⟨rfl,(a5M s l _ r).2 ⟨by rw[h1,List.append_assoc],h3,λx hx=>h4 x (by simp[hx])⟩⟩
theorem a83 (s:Place):∀(l:List Eqn) (k:Nat) (d r:List Str),a5C s l k d = .inr r↔a5F s l d=(0,r)
 | [],k,d,r=>by simp[a5C,a5F]
 | q :: l, k, d, r => by
   simp only[a5C,a5F]
   rw[a4u]
   by_cases h:(b11 s q d).1=0
   ·simp only[h,if_true,true_and]; exact a83 s l (k+1) _ r
   ·simp[h]
theorem b3u (tags:List Str):∀(l:List Decl) (v r:List Str),a27 tags l v=(0,r)↔r=v++a0b l∧(∀x∈a0b l,x∉v∧x∉tags)∧(a0b l).Nodup
 | [],v,r=>by simp only[a27,a0b,List.map_nil,List.append_nil,List.not_mem_nil,false_imp_iff,implies_true,List.nodup_nil,and_true,Prod.mk.injEq,true_and]; exact eq_comm
 | d :: l, v, r => by
   have ih:=b3u tags l (v++[d.name]) r
   simp only[a27]
   have hn:a0b (d::l)=d.name::a0b l:=rfl
   rw[hn,List.nodup_cons]
   by_cases h:d.name∈v∨d.name∈tags
   ·simp only[h,if_true,Prod.mk.injEq]
    constructor
    ·rintro⟨h,_⟩; exact absurd h (by decide)
    ·rintro⟨_,h2,_⟩
     have:=h2 d.name (by simp)
     rcases h with h|h
     ·exact absurd h this.1
     ·exact absurd h this.2
   ·simp only[h,if_false,ih]
    simp only[not_or] at h
    constructor
    ·rintro⟨h1,h2,h3⟩
     refine⟨by rw[h1]; simp,?_,?_,h3⟩
     ·intro x hx
      rcases List.mem_cons.1 hx with rfl|hx
      ·exact h
      ·have:=h2 x hx
       exact⟨λhv=>this.1 (by simp[hv]),this.2⟩
     ·intro hm
      exact(h2 _ hm).1 (by simp)
    ·rintro⟨h1,h2,h3,h4⟩
     refine⟨by rw[h1]; simp,?_,h4⟩
     intro x hx
     have:=h2 x (by simp[hx])
     refine⟨?_,this.2⟩
     intro hm
     rcases List.mem_append.1 hm with h5|h5
     ·exact this.1 h5
     ·simp only[List.mem_singleton] at h5; subst h5; exact h3 hx
theorem a1Q {b:Bool} {e:Int} (he:e≠0):need b e=0↔b=true:=by cases b<;>simp[he]
theorem b0o {v:List Str} {l:List Decl}:a4W v l=0↔∀d∈l,∀o∈d.clock,o.name∈v:=by
 unfold a4W
 rw[a0J]
 constructor
 ·intro h d hd o ho
  have:=a0J.1 (h d hd) o ho
  simpa using(a1Q (by decide)).1 this
 ·intro h d hd
  rw[a0J]
  intro o ho
  rw[a1Q (by decide)]; simpa using h d hd o ho
theorem a8x {v tags:List Str} {l:List Decl} {r:List Str}:a1n v tags l=(0,r)↔r=v++a0b l∧((∀x∈a0b l,x∉v∧x∉tags)∧(a0b l).Nodup)∧∀d∈l,∀o∈d.clock,o.name∈r:=by
 unfold a1n
 rw[a4u]
 constructor
 ·rintro⟨h1,h2⟩
  obtain⟨h3,h4⟩:=(b3u tags l v _).1 (a6X h1)
  simp only[Prod.mk.injEq] at h2
  rw[← h2.2]
  exact⟨h3,h4,b0o.1 h2.1⟩
 ·rintro⟨h1,h2,h3⟩
  rw[(b3u tags l v _).2 ⟨rfl,h2⟩]
  refine⟨rfl,?_⟩
  rw[← h1,b0o.2 h3]
mutual
def a6m:List (List State)→List Str
 | []=>[]
 | []::xs=>a6m xs
 | (s::r)::xs=>a0M (b64 s) (a0b s.locals)++a6m xs
def b64:State→List Str
 | .mk n l e a u w=>a0K e++a6m a
end
def a9r (x:State):List Str:=a0M (b64 x) (a0b x.locals)
theorem a5x (x:List State) (xs:List (List State)):a6m (x::xs)=(x.map a9r).headD []++a6m xs:=by cases x<;>simp[a6m,a9r]
theorem c0R {l:List Eqn} (h:(a0K l).Nodup):c3X l=a0K l:=by
 have:=a9P (a0K l) [] h (by simp)
 simpa[c3X,a0K] using this
mutual
theorem b1H:∀(x:State) (s:Place) (d l:List Str),a4f s d x=(0,l)→l=a9r x∧Defs s d (a9r x)∧a9g x=b64 x
 | .mk n l e a u w, s, d, r, h => by
   simp only[a4f] at h
   rw[a4u] at h; obtain⟨h1,h⟩:=h
   rw[a4u] at h; obtain⟨h2,h⟩:=h
   rw[a4u] at h; obtain⟨h3,h⟩:=h
   rw[a4u] at h; obtain⟨h4,h⟩:=h
   rw[a4u] at h; obtain⟨h5,h⟩:=h
   obtain⟨v1,v2,v3⟩:=a8x.1 (a6X h1)
   generalize (a1n s.vis s.tags l).2=vis at *
   obtain⟨e1,e2,e3⟩:=(a5M (s.at vis) e d _).1 (a6X h2)
   generalize (a5F (s.at vis) e d).2=d1 at *
   obtain⟨a1,a2,a3⟩:=a6o a (s.at vis) d1 _ (a6X h3)
   generalize (a1c (s.at vis) d1 a).2=d2 at *
   have hD:Defs (s.at vis) d (a0K e++a6m a):=Defs.app.2 ⟨e2,by rw[← e1]; exact a2⟩
   have hd2:d2=d++(a0K e++a6m a):=by rw[a1,e1,List.append_assoc]
   have hw:a0M d2 d=a0K e++a6m a:=by rw[hd2]; exact b0n λx hx=>(hD.1 x hx).2.2
   rw[hw] at h
   have hdef:a9g (.mk n l e a u w)=b64 (.mk n l e a u w):=by
    simp only[a9g,b64]
    rw[c0R e2.2]
    exact a3 _ λy hy hm=>(a2.1 y hy).2.2 (by rw[e1]; simp[hm])
   have hres:a9r (.mk n l e a u w)=a0M (a0K e++a6m a) (a0b l):=by simp[a9r,b64]
   have hall:Defs s d (a9r (.mk n l e a u w)):=by
    rw[hres]
    refine⟨?_,b3r hD.2⟩
    intro x hx
    rw[b6b] at hx
    have:=hD.1 x hx.1
    refine⟨?_,this.2⟩
    have hv:x∈vis:=this.1
    rw[v1] at hv
    rcases List.mem_append.1 hv with h6|h6
    ·exact h6
    ·exact absurd h6 hx.2
   by_cases hw0:a0M (a0b l) (a0K e++a6m a)=[]
   ·rw[if_pos hw0] at h
    simp only[Prod.mk.injEq,true_and] at h
    exact⟨by rw[hres,h],hall,hdef⟩
   ·rw[if_neg hw0] at h
    simp only[Prod.mk.injEq] at h
    exact absurd h.1 (by decide)
theorem a9Q:∀(xs:List State) (s:Place) (d:List Str) (ls:List (List Str)),a1l s d xs=(0,ls)→ls=xs.map a9r∧∀x∈xs,Defs s d (a9r x)∧a9g x=b64 x
 | [],s,d,ls,h=>by simp only[a1l,Prod.mk.injEq,true_and] at h; subst h; simp
 | x :: xs, s, d, ls, h => by
   simp only[a1l] at h
   by_cases h1:(a4f s d x).1=0
   ·by_cases h2:(a1l s d xs).1=0
    ·simp only[h1,h2,if_true,Prod.mk.injEq,true_and] at h
     obtain⟨a1,a2⟩:=b1H x s d _ (a6X h1)
     obtain⟨b1,b2⟩:=a9Q xs s d (a1l s d xs).2 (by rw[← h2])
     refine⟨by rw[← h,a1,b1]; rfl,?_⟩
     intro y hy
     rcases List.mem_cons.1 hy with rfl|hy
     ·exact a2
     ·exact b2 y hy
    ·simp[h1,h2] at h
   ·simp[h1] at h
theorem a6o:∀(a:List (List State)) (s:Place) (d r:List Str),a1c s d a=(0,r)→r=d++a6m a∧Defs s d (a6m a)∧∀out:List Str,(∀y∈a6m a,y∉out)→a6O out a=out++a6m a
 | [], s, d, r, h => by
   simp only[a1c,Prod.mk.injEq,true_and] at h
   subst h
   simp only[a6m,List.append_nil,Defs.nil,a6O,true_and,implies_true]
 | x :: xs, s, d, r, h => by
   simp only[a1c] at h
   by_cases hn:(x.map (·.name)).Nodup
   ·simp only[hn,not_true_eq_false,if_false] at h
    by_cases h1:(a1l s d x).1=0
    ·simp only[h1,ne_eq,not_true_eq_false,if_false] at h
     obtain⟨b1,b2⟩:=a9Q x s d (a1l s d x).2 (by rw[← h1])
     rw[b1] at h
     split at h
     ·obtain⟨c1,c2,c3⟩:=a6o xs s _ r h
      rw[a5x]
      have hd:Defs s d ((x.map a9r).headD []):=by
       cases x with
       | nil=>exact Defs.nil s d
       | cons y x=>exact(b2 y (by simp)).1
      have hdd:=Defs.app.2 ⟨hd,c2⟩
      refine⟨by rw[c1,List.append_assoc],hdd,?_⟩
      intro out ho
      cases x with
      | nil =>
        simp only[List.map_nil,List.headD_nil,List.nil_append] at ho ⊢
        simp only[a6O]
        exact c3 out ho
      | cons y x =>
        simp only[List.map_cons,List.headD_cons] at *
        simp only[a6O]
        have hy:=(b2 y (by simp)).2
        rw[hy]
        have hr:a0M (b64 y) (a0b y.locals)=a9r y:=rfl
        rw[hr,a9P _ _ hd.2 (λz hz=>ho z (by simp[hz]))]
        rw[c3 (out++a9r y) ?_,List.append_assoc]
        intro z hz hm
        rcases List.mem_append.1 hm with h5|h5
        ·exact ho z (by simp[hz]) h5
        ·exact(c2.1 z hz).2.2 (by simp[h5])
     ·simp only[Prod.mk.injEq] at h; exact absurd h.1 (by decide)
    ·simp[h1] at h
   ·simp only[hn,not_false_eq_true,if_true,Prod.mk.injEq] at h; exact absurd h.1 (by decide)
end
def Seen (b:List Node) (l:List Expr):Prop:=∀e∈l,∃(s:Place) (n:Nat),s.before=b∧a2r s e n=0
theorem Seen.app {b:List Node} {l m:List Expr}:Seen b (l++m)↔Seen b l∧Seen b m:=by
 unfold Seen
 constructor
 ·intro h; exact⟨λe he=>h e (by simp[he]),λe he=>h e (by simp[he])⟩
 ·rintro⟨h1,h2⟩ e he
  rcases List.mem_append.1 he with h|h
  ·exact h1 e h
  ·exact h2 e h
structure NodeOK (before:List Node) (tags:List Str) (n:Node) (c:List Str):Prop where
 new:n.name∉before.map (·.name)
 decl:a1n [] tags (vars n)=(0,a0b (vars n))
 eqs:a5F ⟨before,a0b (vars n),a0b n.ins,tags⟩ n.eqs []=(0,a0K n.eqs)
 autos:a1c ⟨before,a0b (vars n),a0b n.ins,tags⟩ (a0K n.eqs) n.autos=(0,c)
 assume:∀e∈n.assume,a2r ⟨before,a0b n.ins,a0b n.ins,tags⟩ e 1=0
 ensure:∀e∈n.ensure,a2r ⟨before,a0b n.ins++a0b n.outs,a0b n.ins,tags⟩ e 1=0
 all:∀x∈a0b n.outs++a0b n.locals,x∈c
theorem c5q {before:List Node} {tags:List Str} {n:Node}:a79 before tags n=none↔∃c,NodeOK before tags n c:=by
 constructor
 ·intro h
  simp only[a79] at h
  split at h
  ·simp at h
  ·rename_i h1
   split at h
   ·simp at h
   ·rename_i h2
    simp only[ne_eq,Decidable.not_not] at h2
    have hd:=a6X h2
    obtain⟨d1,d2,d3⟩:=a8x.1 hd
    simp only[List.nil_append] at d1
    rw[d1] at h
    split at h
    ·simp at h
    ·rename_i d hq
     have hq':=(a83 _ n.eqs 0 [] d).1 hq
     have hq2:=(a5M _ n.eqs [] d).1 hq'
     simp only[List.nil_append] at hq2
     have hde:=hq2.1
     subst hde
     split at h
     ·simp at h
     ·rename_i h3
      simp only[ne_eq,Decidable.not_not] at h3
      split at h
      ·simp at h
      ·rename_i h4
       simp only[ne_eq,Decidable.not_not] at h4
       split at h
       ·simp at h
       ·rename_i h5
        simp only[ne_eq,Decidable.not_not] at h5
        split at h
        ·rename_i h6
         refine⟨_,h1,by rw[hd,d1],hq',a6X h3,a0J.1 h4,a0J.1 h5,a2v.1 h6⟩
        ·simp at h
 ·rintro⟨c,h⟩
  simp only[a79]
  rw[if_neg h.new,h.decl]
  simp only[ne_eq,not_true_eq_false,if_false]
  rw[(a83 _ n.eqs 0 [] _).2 h.eqs]
  simp only[h.autos,not_true_eq_false,if_false]
  have ha:a0d (λe=>a2r (Place.at ⟨before,a0b (vars n),a0b n.ins,tags⟩ (a0b n.ins)) e 1) n.assume=0:=a0J.2 h.assume
  have hg:a0d (λe=>a2r (Place.at ⟨before,a0b (vars n),a0b n.ins,tags⟩ (a0b n.ins++a0b n.outs)) e 1) n.ensure=0:=a0J.2 h.ensure
  rw[ha,hg,a2v.2 h.all]
  simp
theorem NodeOK.c_eq {before:List Node} {tags:List Str} {n:Node} {c:List Str} (h:NodeOK before tags n c):c=a0K n.eqs++a6m n.autos:=(a6o _ _ _ _ h.autos).1
theorem NodeOK.defs {before:List Node} {tags:List Str} {n:Node} {c:List Str} (h:NodeOK before tags n c):Defs ⟨before,a0b (vars n),a0b n.ins,tags⟩ [] c:=by
 rw[h.c_eq]
 refine Defs.app.2 ⟨((a5M _ _ _ _).1 h.eqs).2.1,?_⟩
 exact(a6o _ _ _ _ h.autos).2.1
theorem b1I (n:Node):a0b (vars n)=a0b n.ins++(a0b n.outs++a0b n.locals):=by simp[a0b,vars]
theorem NodeOK.length {before:List Node} {tags:List Str} {n:Node} {c:List Str} (h:NodeOK before tags n c):c.length=n.outs.length+n.locals.length:=by
 obtain⟨_,⟨_,hv⟩,_⟩:=a8x.1 h.decl
 rw[b1I,a82] at hv
 have hp:c.Perm (a0b n.outs++a0b n.locals):=by
  rw[List.perm_ext_iff_of_nodup h.defs.2 hv.2.1]
  intro x
  constructor
  ·intro hx
   have:=h.defs.1 x hx
   have h1:x∈a0b (vars n):=this.1
   rw[b1I] at h1
   rcases List.mem_append.1 h1 with h2|h2
   ·exact absurd h2 this.2.1
   ·exact h2
  ·exact h.all x
 rw[hp.length_eq]; simp[a0b]
theorem b2Q (tags:List Str):∀(a c b:List Node),a4M tags b (a++c)=match a4M tags b a with | some x=>some x | none=>a4M tags (b++a) c
 | [],c,b=>by simp[a4M]
 | n :: a, c, b => by
   simp only[List.cons_append,a4M]
   cases a79 b tags n with
   | some x=>rfl
   | none=>simp only; rw[b2Q tags a c (b++[n])]; simp
structure OK (p:Prog):Prop where
 shape:a26 p=none
 enums:a5Z p.enums=true
 nodes:a4M (a3p p.enums) [] p.nodes=none
theorem c0S {p:Prog}:a36 p=none↔OK p:=by
 unfold a36
 cases h:a26 p with
 | some b=>simp only[reduceCtorEq,false_iff]; intro x; have:=x.shape; rw[h] at this; simp at this
 | none =>
   simp only
   cases he:a5Z p.enums with
   | false=>simp only[Bool.false_eq_true,if_false,reduceCtorEq,false_iff]; intro x; have:=x.enums; rw[he] at this; simp at this
   | true=>simp only[if_true]; exact⟨λhn=>⟨h,he,hn⟩,λx=>x.nodes⟩
theorem a6L (en:List Enum):∀(ns:List Node) (i:Nat),a2h en ns i=none↔∀n∈ns,∀k:Nat,a1Y en n k=none
 | [],i=>by simp[a2h]
 | n :: ns, i => by
   have hk:∀k:Nat,a1Y en n i=none↔a1Y en n k=none:=by
    intro k
    unfold a1Y
    split
    ·simp
    ·cases a3z (a5O en) n.eqs 0 with
     | some x=>simp
     | none=>simp only; split<;>simp
   simp only[a2h,List.mem_cons,forall_eq_or_imp]
   cases hn:a1Y en n i with
   | some x =>
     simp only[reduceCtorEq,false_iff,not_and]
     intro h
     rw[h i] at hn; simp at hn
   | none =>
     simp only
     rw[a6L en ns (i+1)]
     exact⟨λh=>⟨λk=>(hk k).1 hn,h⟩,λh=>h.2⟩
theorem c0T {en:List Enum} {ns:List Node} {n:Node} (h:a36 ⟨en,ns++[n]⟩=none):a36 ⟨en,ns⟩=none:=by
 rw[c0S] at h ⊢
 obtain⟨h1,h2,h3⟩:=h
 refine⟨?_,h2,?_⟩
 ·unfold a26 at h1 ⊢
  simp only at h1 ⊢
  split at h1
  ·simp at h1
  ·rename_i h4
   simp only[Decidable.not_not,List.length_append,List.length_cons,List.length_nil] at h4
   rw[if_neg (by simp only[Decidable.not_not]; omega)]
   split at h1
   ·simp at h1
   ·rename_i h5
    rw[if_neg h5]
    rw[a6L] at h1 ⊢
    exact λm hm=>h1 m (by simp[hm])
 ·simp only at h3 ⊢
  rw[b2Q] at h3
  cases hn:a4M (a3p en) [] ns with
  | some x=>rw[hn] at h3; simp at h3
  | none=>rfl
end PI.Sc
set_option linter.unusedSimpArgs false
set_option linter.unusedVariables false
namespace PI.Sc
open Go (IntKind BinOp UnOp)
open Go.Lib (decDigits)
theorem b6d:∀(l m:List Str),l.Nodup→(∀x∈l,x∈m)→l.length≤m.length
 | [],m,_,_=>by simp
 | x :: l, m, hn, h => by
   rw[List.nodup_cons] at hn
   have:=b6d l (m.erase x) hn.2 (by
    intro y hy
    have hne:y≠x:=λe=>hn.1 (e▸hy)
    exact(List.mem_erase_of_ne hne).2 (h y (by simp[hy])))
   have hx:=List.length_erase_of_mem (h x (by simp))
   have hp:0<m.length:=List.length_pos_of_mem (h x (by simp))
   simp only[List.length_cons]
   omega
def low (b:UInt8):Bool:=decide (97≤b.toNat∧b.toNat≤122)
structure Near (x:Str) (s s':Place):Prop where
 before:s'.before=s.before
 inputs:s'.inputs=s.inputs
 tags:s'.tags=s.tags
 more:∀y∈s.vis,y∈s'.vis
 less:∀y∈s'.vis,y∈s.vis∨y=x
theorem Near.at {x:Str} {s s':Place} (h:Near x s s') (l:List Str):Near x (s.at (s.vis++l)) (s'.at (s'.vis++l)):=by
 refine⟨h.before,h.inputs,h.tags,?_,?_⟩
 ·intro y hy
  rcases List.mem_append.1 hy with h1|h1
  ·exact List.mem_append_left _ (h.more y h1)
  ·exact List.mem_append_right _ h1
 ·intro y hy
  rcases List.mem_append.1 hy with h1|h1
  ·rcases h.less y h1 with h2|h2
   ·exact .inl (List.mem_append_left _ h2)
   ·exact .inr h2
  ·exact .inl (List.mem_append_right _ h1)
theorem a5N {α:Type} {f:α→Int}:∀{l:List α} {i:Nat},a3z f l i=none↔∀x∈l,f x=0
 | [],i=>by simp[a3z]
 | x :: l, i => by
   unfold a3z
   by_cases h:f x=0
   ·simp[h,a5N (l:=l)]
   ·simp[h]
theorem b4T {en:List Enum} {n:Node} {i:Nat}:a1Y en n i=none↔a2I en n=0∧(∀q∈n.eqs,a5O en q=0)∧a35 en n=0:=by
 unfold a1Y
 by_cases h1:a2I en n=0
 ·simp only[h1,ne_eq,not_true_eq_false,if_false,true_and]
  cases h2:a3z (a5O en) n.eqs 0 with
  | none =>
    have:=a5N.1 h2
    by_cases h3:a35 en n=0
    ·simp[h3]; exact this
    ·simp[h3]
  | some x =>
    simp only[reduceCtorEq,false_iff,not_and]
    intro h
    rw[a5N.2 h] at h2; simp at h2
 ·simp[h1]
end PI.Sc
set_option linter.unusedSimpArgs false
set_option linter.unusedVariables false
namespace PI.Sc
open Go (IntKind BinOp UnOp)
section
variable {L:Nat→Option PFunc} {Q:PExit→St→Prop}
theorem b4W {α:Type} {f:α→Int} {l:List α} {i:Nat} (hi:i<l.length) (h:f l[i]≠0) (hk:∀k (hk:k<l.length),k<i→f l[k]=0):a0d f l=f l[i]:=
 b20 hi h λk h1=>hk k (by omega) h1
theorem a02 {α γ:Type} {c:PC} {V:List PV} {g:Nat} {h:List PObj} (l:List α) (f:α→Int) (M:Nat→γ→List (Nat×PV)) (G:Nat→γ→Nat) (H:Nat→γ→List PObj) (x0:γ)
  (step:∀i (hi:i<l.length),f l[i]=0→∀x,(∀y,wpL L (.loop c) ⟨upd V (M (i+1) y),[],G (i+1) y,H (i+1) y⟩ Q)→wpL L c ⟨upd V (M i x),[],G i x,H i x⟩ (a3r L c Q))
  (fail:∀i (hi:i<l.length),f l[i]≠0→a0d f l=f l[i]→∀x,wpL L c ⟨upd V (M i x),[],G i x,H i x⟩ (a3r L c Q))
  (last:a0d f l=0→∀x,wpL L c ⟨upd V (M l.length x),[],G l.length x,H l.length x⟩ (a3r L c Q)) (hV:upd V (M 0 x0)=V) (hG:G 0 x0=g) (hH:H 0 x0=h):wpL L (.loop c) ⟨V,[],g,h⟩ Q:=by
 refine b2j l.length (λi=>if h:i<l.length then decide (f l[i]=0) else true) M G H x0 ?_ ?_ ?_ hV hG hH
 ·intro i hi hok x ih
  simp only[hi,dif_pos,decide_eq_true_eq] at hok
  exact step i hi hok x ih
 ·intro i hi hok hk x
  simp only[hi,dif_pos,decide_eq_false_iff_not] at hok
  refine fail i hi hok (b4W hi hok λk h1 h2 =>?_) x
  have:=hk k h2
  simp only[h1,dif_pos,decide_eq_true_eq] at this
  exact this
 ·intro hok x
  refine last (a0J.2 ?_) x
  intro y hy
  obtain⟨k,hk,rfl⟩:=List.mem_iff_getElem.1 hy
  have:=hok k hk
  simp only[hk,dif_pos,decide_eq_true_eq] at this
  exact this
theorem b1K {α γ:Type} {c:PC} {V:List PV} {g:Nat} {h:List PObj} (l:List α) (f:α→Int) (M:Nat→γ→List (Nat×PV)) (x0:γ)
  (step:∀i (hi:i<l.length),f l[i]=0→∀x,(∀y,wpL L (.loop c) ⟨upd V (M (i+1) y),[],g,h⟩ Q)→wpL L c ⟨upd V (M i x),[],g,h⟩ (a3r L c Q))
  (fail:∀i (hi:i<l.length),f l[i]≠0→a0d f l=f l[i]→∀x,wpL L c ⟨upd V (M i x),[],g,h⟩ (a3r L c Q))
  (last:a0d f l=0→∀x,wpL L c ⟨upd V (M l.length x),[],g,h⟩ (a3r L c Q)) (hV:upd V (M 0 x0)=V):wpL L (.loop c) ⟨V,[],g,h⟩ Q:=
 a02 l f M (λ_ _=>g) (λ_ _=>h) x0 step fail last hV rfl rfl
theorem c0U {γ:Type} {c:PC} {V:List PV} {g:Nat} {h:List PObj} (n:Nat) (M:Nat→γ→List (Nat×PV)) (G:Nat→γ→Nat) (H:Nat→γ→List PObj) (x0:γ)
  (step:∀i,i<n→∀x,(∀y,wpL L (.loop c) ⟨upd V (M (i+1) y),[],G (i+1) y,H (i+1) y⟩ Q)→wpL L c ⟨upd V (M i x),[],G i x,H i x⟩ (a3r L c Q))
  (last:∀x,wpL L c ⟨upd V (M n x),[],G n x,H n x⟩ (a3r L c Q)) (hV:upd V (M 0 x0)=V) (hG:G 0 x0=g) (hH:H 0 x0=h):wpL L (.loop c) ⟨V,[],g,h⟩ Q:=
 b2j n (λ_=>true) M G H x0 (λi hi _=>step i hi) (λ_ _ h=>by simp at h) (λ_=>last) hV hG hH
end
theorem a0V {L:Nat→Option PFunc} {c:PC} {Q:PExit→St→Prop} (n:Nat) (Inv:Nat→St→Prop) {st:St}
  (step:∀i,i<n→∀st,Inv i st→(∀st',Inv (i+1) st'→wpL L (.loop c) st' Q)→wpL L c st (a3r L c Q))
  (last:∀st,Inv n st→wpL L c st (a3r L c Q)) (h0:Inv 0 st):wpL L (.loop c) st Q:=by
 have key:∀k i st,i+k=n→Inv i st→wpL L (.loop c) st Q:=by
  intro k
  induction k with
  | zero =>
    intro i st hi hh
    have:i=n:=by omega
    subst this
    rw[a2M]
    exact last st hh
  | succ k ih =>
    intro i st hi hh
    rw[a2M]
    exact step i (by omega) st hh λst' h'=>ih (i+1) st' (by omega) h'
 exact key n 0 st (by omega) h0
def a0h {α:Type} (f:α→Nat):List α→Nat
 | []=>0
 | x::xs=>f x+a0h f xs
theorem b1J {α:Type} (f:α→Nat):∀a b:List α,a0h f (a++b)=a0h f a+a0h f b
 | [],b=>by simp[a0h]
 | x::a,b=>by simp[a0h,b1J f a b]; omega
theorem a31 {α:Type} (f:α→Nat) {x:α}:∀{l:List α},x∈l→f x≤a0h f l
 | [],h=>by simp at h
 | y :: l, h => by
   simp only[a0h]
   rcases List.mem_cons.1 h with rfl|h
   ·omega
   ·have:=a31 f h; omega
theorem a84 {α:Type} (f:α→Nat) (h:∀x,1≤f x):∀l:List α,l.length≤a0h f l
 | []=>by simp
 | x::l=>by have:=h x; have:=a84 f h l; simp only[a0h,List.length_cons]; omega
def Expr.parts (e:Expr):Nat:=e.list.length
def Eqn.parts (q:Eqn):Nat:=1+q.left.length+q.right.parts
def Decl.parts (d:Decl):Nat:=1+d.clock.length+d.name.length / 100
def Trn.parts (t:Trn):Nat:=1+t.cond.parts
mutual
def State.parts:State→Nat
 | .mk n l e a u w=>1+a0h Decl.parts l+a0h Eqn.parts e+a0h Trn.parts u+a0h Trn.parts w+a2E a
def a8f:List State→Nat
 | []=>0
 | x::xs=>x.parts+a8f xs
def a2E:List (List State)→Nat
 | []=>0
 | x::xs=>1+a8f x+a2E xs
end
theorem a6p:∀l:List State,a8f l=a0h State.parts l
 | []=>rfl
 | x::l=>by simp[a8f,a0h,a6p l]
theorem a7A:∀l:List (List State),a2E l=a0h (λa=>1+a0h State.parts a) l
 | []=>rfl
 | x::l=>by simp[a2E,a0h,a7A l,a6p]
def Node.parts (n:Node):Nat:=1+a0h Decl.parts n.ins+a0h Decl.parts n.outs+a0h Decl.parts n.locals+a0h Eqn.parts n.eqs+a0h (λe=>1+Expr.parts e) n.assume+a0h (λe=>1+Expr.parts e) n.ensure+a2E n.autos
def Enum.parts (u:Enum):Nat:=1+u.tags.length
def parts (p:Prog):Nat:=a0h Enum.parts p.enums+a0h Node.parts p.nodes
def b9f (p:Prog):Bool:=decide (1500≤parts p)
def Cap (m n T:Int):Prop:=(n<m↔T<m)∧(n<m→n=T)
theorem Cap.refl (m n:Int):Cap m n n:=⟨Iff.rfl,λ_=>rfl⟩
theorem Cap.min {m T:Int}:Cap m (if T<m then T else m) T:=by unfold Cap; split<;>omega
theorem Cap.add {m a b A B:Int} (h1:Cap m a A) (h2:Cap m b B) (p1:0≤a) (p2:0≤b) (p3:0≤A) (p4:0≤B):Cap m (a+b) (A+B):=by unfold Cap at *; omega
end PI.Sc
set_option maxRecDepth 100000
set_option linter.unusedSimpArgs false
set_option linter.unusedVariables false
namespace PI.Sc
open Go (IntKind BinOp UnOp)
theorem a14 {α:Type} {l:List α} {i:Nat} (h:i<l.length):l.take (i+1)=l.take i++[l[i]]:=by rw[List.take_add_one,List.getElem?_eq_getElem h]; rfl
theorem a03 {α:Type} (f:α→Nat) {l:List α} {i:Nat} (h:i<l.length):a0h f (l.take (i+1))=a0h f (l.take i)+f l[i]:=by rw[a14 h,b1J]; simp[a0h]
theorem parts_eq (e:Expr):e.parts=1+a0h Expr.parts e.args:=by
 unfold Expr.parts
 rw[Expr.list_eq]
 have:∀l:List Expr,(l.flatMap Expr.list).length=a0h (λx=>x.list.length) l:=by
  intro l
  induction l with
  | nil=>rfl
  | cons x l ih=>simp only[List.flatMap_cons,List.length_append,a0h,ih]
 simp only[List.length_cons,this]
 show _=1+a0h (λe=>e.list.length) e.args
 omega
theorem b9u (e:Expr):1≤e.parts:=by rw[parts_eq]; omega
theorem c02 (e:Expr):e.args.length<e.parts:=by
 have:=a84 Expr.parts b9u e.args
 rw[parts_eq]; omega
theorem b9v {e x:Expr} (h:x∈e.args):x.parts<e.parts:=by
 have:=a31 Expr.parts h
 rw[parts_eq e]; omega
theorem b69 (n:Nat) (h:n≤9223372036854775807):IntKind.i64.wrap (n:Int)=n:=a0E _ (by omega) (by omega)
theorem b74 {e:Expr} (h:e.parts≤1500):e.size=e.parts:=by unfold Expr.size; exact b69 _ (by unfold Expr.parts at h; omega)
def EW (e:Expr):Prop:=∀x∈e.list,I64 x.t∧I64 x.v∧x.args.length≤140737488355328
theorem EW.self {e:Expr} (h:EW e):I64 e.t∧I64 e.v∧e.args.length≤140737488355328:=h e (by rw[Expr.list_eq]; simp)
theorem EW.arg {e x:Expr} (h:EW e) (hx:x∈e.args):EW x:=λy hy=>h y (by rw[Expr.list_eq]; exact List.mem_cons_of_mem _ (List.mem_flatMap.2 ⟨x,hx,hy⟩))
theorem EW.mem {e x:Expr} (h:EW e) (hx:x∈e.list):EW x:=by
 induction e using Expr.ind with
 | h e ih =>
   rw[Expr.list_eq] at hx
   rcases List.mem_cons.1 hx with rfl|hx
   ·exact h
   ·obtain⟨y,hy,hx⟩:=List.mem_flatMap.1 hx
    exact ih y hy (h.arg hy) hx
@[simp] theorem d2R (a b:Int):(a==b)=decide (a=b):=by rw[Bool.eq_iff_iff]; simp
@[simp] theorem d2S (a b:Int):(a != b) = !decide (a=b):=by rw[Bool.eq_iff_iff]; simp
@[simp] theorem d2T (a b:Str):(a==b)=decide (a=b):=by rw[Bool.eq_iff_iff]; simp
@[simp] theorem d2U (a b:Str):(a != b) = !decide (a=b):=by rw[Bool.eq_iff_iff]; simp
@[simp] theorem d2V (a b:Bool):(a==b)=decide (a=b):=by cases a<;>cases b<;>rfl
theorem c7r (k:Int):k<1∨k=1∨k=2∨k=3∨k=4∨k=5∨k=6∨k=7∨k=8∨k=9∨k=10∨k=11∨11<k:=by omega
@[simp] theorem c7s (cs:List PV):(PV.agg cs).cells=cs:=rfl
def a2L (s:Str):List PV:=s.map λb => .bool (b==49)
theorem b7a (b:UInt8):a4V b=true↔b.toNat=48∨b.toNat=49:=by
 unfold a4V
 simp only[Bool.or_eq_true,beq_iff_eq,← UInt8.toNat_inj]
 rfl
theorem d1J (b:UInt8):(b==49)=decide ((b.toNat:Int)=49):=by
 rw[Bool.eq_iff_iff,beq_iff_eq,decide_eq_true_eq,← UInt8.toNat_inj]
 show b.toNat=49↔_
 omega
theorem b1W (s:Str):a0j (a2L s)=true:=by unfold a2L; exact a2D (λ_=>rfl) s
theorem b7b (s:Str):(a2L s).length=s.length:=by simp[a2L]
class TF (p:Prop) (r:outParam Prop):Prop where
 fact:p→r
instance (priority:=low) tfPos (p:Prop):TF p (p=True):=⟨eq_true⟩
instance tfNeg (p:Prop):TF (¬p) (p=False):=⟨eq_false⟩
theorem tf {p r:Prop} [TF p r] (h:p):r:=TF.fact h
theorem kfs {k c:Int} (h:k=c):(k=1)=(c=1)∧(k=2)=(c=2)∧(k=3)=(c=3)∧(k=4)=(c=4)∧(k=5)=(c=5)∧(k=6)=(c=6)∧(k=7)=(c=7)∧(k=8)=(c=8)∧(k=9)=(c=9)∧(k=10)=(c=10)∧(k=11)=(c=11)∧(k<1)=(c<1)∧(11<k)=(11<c)∧(1≤k)=(1≤c)∧(k≤11)=(c≤11):=by subst h; simp
end PI.Sc
set_option maxRecDepth 100000
set_option linter.unusedSimpArgs false
set_option linter.unusedVariables false
namespace PI.Sc
open Go (IntKind BinOp UnOp)
open Short
structure XW (e:Expr):Prop where
 parts:e.parts≤1500
 ew:EW e
structure DW (d:Decl):Prop where
 type:I64 d.type
 clock:d.clock.length≤1500
 on:∀o∈d.clock,I64 o.t
structure QW (q:Eqn):Prop where
 left:q.left.length≤1500
 right:XW q.right
inductive SW:State→Prop
 | mk (s:State) (locals:s.locals.length≤1500) (ls:∀d∈s.locals,DW d) (eqs:s.eqs.length≤1500) (es:∀q∈s.eqs,QW q) (unl:s.unl.length≤1500) (us:∀t∈s.unl,XW t.cond) (til:s.til.length≤1500) (ts:∀t∈s.til,XW t.cond) (autos:s.autos.length≤1500) (as:∀a∈s.autos,a.length≤1500) (ss:∀a∈s.autos,∀x∈a,SW x):SW s
theorem SW.locals {s:State}:SW s→s.locals.length≤1500 | .mk _ h .. => h
theorem SW.ls {s:State}:SW s→∀d∈s.locals,DW d | .mk _ _ h .. => h
theorem SW.eqs {s:State}:SW s→s.eqs.length≤1500 | .mk _ _ _ h .. => h
theorem SW.es {s:State}:SW s→∀q∈s.eqs,QW q | .mk _ _ _ _ h .. => h
theorem SW.unl {s:State}:SW s→s.unl.length≤1500 | .mk _ _ _ _ _ h .. => h
theorem SW.us {s:State}:SW s→∀t∈s.unl,XW t.cond | .mk _ _ _ _ _ _ h .. => h
theorem SW.til {s:State}:SW s→s.til.length≤1500 | .mk _ _ _ _ _ _ _ h .. => h
theorem SW.ts {s:State}:SW s→∀t∈s.til,XW t.cond | .mk _ _ _ _ _ _ _ _ h .. => h
theorem SW.autos {s:State}:SW s→s.autos.length≤1500 | .mk _ _ _ _ _ _ _ _ _ h .. => h
theorem SW.as {s:State}:SW s→∀a∈s.autos,a.length≤1500 | .mk _ _ _ _ _ _ _ _ _ _ h _=>h
theorem SW.ss {s:State}:SW s→∀a∈s.autos,∀x∈a,SW x | .mk _ _ _ _ _ _ _ _ _ _ _ h=>h
structure AsW (l:List (List State)):Prop where
 len:l.length≤1500
 as:∀a∈l,a.length≤1500
 ss:∀a∈l,∀x∈a,SW x
structure NW (n:Node):Prop where
 ins:n.ins.length≤1500
 is:∀d∈n.ins,DW d
 outs:n.outs.length≤1500
 os:∀d∈n.outs,DW d
 locals:n.locals.length≤1500
 ls:∀d∈n.locals,DW d
 eqs:n.eqs.length≤1500
 es:∀q∈n.eqs,QW q
 autos:AsW n.autos
 assume:n.assume.length≤1500
 as:∀e∈n.assume,XW e
 ensure:n.ensure.length≤1500
 gs:∀e∈n.ensure,XW e
structure PW (p:Prog):Prop where
 enums:p.enums.length≤1500
 tags:∀u∈p.enums,u.tags.length≤1500
 nodes:p.nodes.length≤1500
 ns:∀n∈p.nodes,NW n
section
variable {L:Nat→Option PFunc} {Q:PExit→St→Prop}
theorem b6m {α γ:Type} {c:PC} {V:List PV} {g:Nat} {h:List PObj} (l:List α) (ok:Nat→α→Bool) (M:Nat→γ→List (Nat×PV)) (G:Nat→γ→Nat) (H:Nat→γ→List PObj) (x0:γ)
  (step:∀i (hi:i<l.length),ok i l[i]=true→∀x,(∀y,wpL L (.loop c) ⟨upd V (M (i+1) y),[],G (i+1) y,H (i+1) y⟩ Q)→wpL L c ⟨upd V (M i x),[],G i x,H i x⟩ (a3r L c Q))
  (fail:∀i (hi:i<l.length),ok i l[i]=false→(∀k (hk:k<l.length),k<i→ok k l[k]=true)→∀x,wpL L c ⟨upd V (M i x),[],G i x,H i x⟩ (a3r L c Q))
  (last:(∀k (hk:k<l.length),ok k l[k]=true)→∀x,wpL L c ⟨upd V (M l.length x),[],G l.length x,H l.length x⟩ (a3r L c Q)) (hV:upd V (M 0 x0)=V) (hG:G 0 x0=g) (hH:H 0 x0=h):wpL L (.loop c) ⟨V,[],g,h⟩ Q:=by
 refine b2j l.length (λi=>if h:i<l.length then ok i l[i] else true) M G H x0 ?_ ?_ ?_ hV hG hH
 ·intro i hi hok x ih
  simp only[hi,dif_pos] at hok
  exact step i hi hok x ih
 ·intro i hi hok hk x
  simp only[hi,dif_pos] at hok
  refine fail i hi hok (λk h1 h2 =>?_) x
  have:=hk k h2
  simpa only[h1,dif_pos] using this
 ·intro hok x
  refine last (λk hk =>?_) x
  have:=hok k hk
  simpa only[hk,dif_pos] using this
theorem c06 {α γ:Type} {c:PC} {V:List PV} {g:Nat} {h:List PObj} (l:List α) (ok:Nat→α→Bool) (M:Nat→γ→List (Nat×PV)) (x0:γ)
  (step:∀i (hi:i<l.length),ok i l[i]=true→∀x,(∀y,wpL L (.loop c) ⟨upd V (M (i+1) y),[],g,h⟩ Q)→wpL L c ⟨upd V (M i x),[],g,h⟩ (a3r L c Q))
  (fail:∀i (hi:i<l.length),ok i l[i]=false→(∀k (hk:k<l.length),k<i→ok k l[k]=true)→∀x,wpL L c ⟨upd V (M i x),[],g,h⟩ (a3r L c Q))
  (last:(∀k (hk:k<l.length),ok k l[k]=true)→∀x,wpL L c ⟨upd V (M l.length x),[],g,h⟩ (a3r L c Q)) (hV:upd V (M 0 x0)=V):wpL L (.loop c) ⟨V,[],g,h⟩ Q:=
 b6m l ok M (λ_ _=>g) (λ_ _=>h) x0 step fail last hV rfl rfl
end
theorem b0t {α:Type} {f:α→Int}:∀{l:List α} {i j:Nat} (hi:i<l.length),f l[i]≠0→(∀k (hk:k<l.length),k<i→f l[k]=0)→a3z f l j=some (j+i,f l[i])
 | [],i,j,hi,_,_=>by simp at hi
 | x::l,0,j,hi,h,_=>by simp only[List.getElem_cons_zero] at h; simp[a3z,h]
 | x :: l, i + 1, j, hi, h, hk => by
   have h0:=hk 0 (by simp) (by omega)
   simp only[List.getElem_cons_zero] at h0
   simp only[List.getElem_cons_succ] at h
   simp only[a3z,h0,if_true,List.getElem_cons_succ]
   rw[b0t (l:=l) (i:=i) (by simpa using hi) h (λk hk' h1=>by have:=hk (k+1) (by simpa using hk') (by omega); simpa using this)]
   congr 2; omega
theorem a9d {en:List Enum}:∀{l:List Node} {i j:Nat} (hi:i<l.length) {b:Bad},a1Y en l[i] (j+i)=some b→(∀k (hk:k<l.length),k<i→a1Y en l[k] (j+k)=none)→a2h en l j=some b
 | [],i,j,hi,b,_,_=>by simp at hi
 | x::l,0,j,hi,b,h,_=>by simp only[List.getElem_cons_zero,Nat.add_zero] at h; simp[a2h,h]
 | x :: l, i + 1, j, hi, b, h, hk => by
   have h0:=hk 0 (by simp) (by omega)
   simp only[List.getElem_cons_zero,Nat.add_zero] at h0
   simp only[List.getElem_cons_succ] at h
   simp only[a2h,h0]
   exact a9d (l:=l) (i:=i) (by simpa using hi) (by rw[show j+1+i=j+(i+1) by omega]; exact h) (λk hk' h1=>by have:=hk (k+1) (by simpa using hk') (by omega); rw[show j+1+k=j+(k+1) by omega]; simpa using this)
theorem a9e {en:List Enum}:∀{l:List Node} {j:Nat},(∀k (hk:k<l.length),a1Y en l[k] (j+k)=none)→a2h en l j=none
 | [],j,_=>rfl
 | x :: l, j, h => by
   have h0:=h 0 (by simp)
   simp only[List.getElem_cons_zero,Nat.add_zero] at h0
   simp only[a2h,h0]
   exact a9e (λk hk=>by have:=h (k+1) (by simpa using hk); rw[show j+1+k=j+(k+1) by omega]; simpa using this)
def b5N (b:Bad):PV := .tuple [.agg [.int .i64 b.node,.int .i64 b.eq],.int .i64 b.err]
def ePl (en:List Enum) (ns:List Node) (i:Int) (v x t:List Str):PV := .agg [.list false (en.map a0U),.list false (ns.map a1B),.int .i64 i,.list false (v.map .str),.list false (x.map .str),.list false (t.map .str)]
section
variable (en:List Enum) (ns:List Node) (i:Int) (v x t:List Str)
theorem c3R:ePl en ns i v x t = .agg [.list false (en.map a0U),.list false (ns.map a1B),.int .i64 i,.list false (v.map .str),.list false (x.map .str),.list false (t.map .str)]:=rfl
@[simp] theorem c7t:(ePl en ns i v x t).cells=[.list false (en.map a0U),.list false (ns.map a1B),.int .i64 i,.list false (v.map .str),.list false (x.map .str),.list false (t.map .str)]:=rfl
@[simp] theorem d1t:cp (ePl en ns i v x t)=some (ePl en ns i v x t):=rfl
@[simp] theorem d0B:tkv (ePl en ns i v x t)=some (ePl en ns i v x t,false):=rfl
@[simp] theorem c2a:a2z (ePl en ns i v x t)=some (ePl en ns i v x t).cells:=rfl
@[simp] theorem d0C:dem (ePl en ns i v x t)=ePl en ns i v x t:=rfl
@[simp] theorem c9d:b3f (ePl en ns i v x t)=ePl en ns i v x t:=rfl
@[simp] theorem c9e:a1g (ePl en ns i v x t)=none:=rfl
@[simp] theorem c07:PV.agg [.list false (en.map a0U),.list false (ns.map a1B),.int .i64 i,.list false (v.map .str),.list false (x.map .str),.list false (t.map .str)]=ePl en ns i v x t:=rfl
@[simp] theorem c9f:a0p (ePl en ns i v x t)=true:=by rw[c3R]; simp[-c07]
end
@[simp] theorem c9g:PV.agg [.str [],.list false [],.list false [],.list false [],.list false [],.list false [],.list false [],.list false []]=a1B ⟨[],[],[],[],[],[],[],[]⟩:=rfl
theorem State.ind {P:State→Prop} (h:∀s:State,(∀a∈s.autos,∀x∈a,P x)→P s):∀s,P s:=by
 intro s
 refine State.rec (motive_1:=P) (motive_2:=λl:List (List State)=>∀a∈l,∀x∈a,P x) (motive_3:=λl:List State=>∀x∈l,P x) ?_ ?_ ?_ ?_ ?_ s
 ·intro n l e a u w ih; exact h _ ih
 ·simp
 ·intro a l h1 h2 b hb x hx
  rcases List.mem_cons.1 hb with rfl|hb
  ·exact h1 x hx
  ·exact h2 b hb x hx
 ·simp
 ·intro x l h1 h2 y hy
  rcases List.mem_cons.1 hy with rfl|hy
  ·exact h1
  ·exact h2 y hy
def a5y (s:Place) (d:List Str) (x:List State):EN:=
 if ¬(x.map (·.name)).Nodup then(7,[])
 else if (a1l s d x).1≠0 then((a1l s d x).1,[])
 else if (a1l s d x).2.all (λl=>b2q l ((a1l s d x).2.headD [])) then(0,(a1l s d x).2.headD [])
 else(8,[])
theorem a8y (s:Place) (d:List Str) (x:List State) (xs:List (List State)):a1c s d (x::xs)=a4L (a5y s d x) λl=>a1c s (d++l) xs:=by
 simp only[a1c,a5y]
 by_cases h1:(x.map (·.name)).Nodup
 ·simp only[h1,not_true_eq_false,if_false]
  by_cases h2:(a1l s d x).1=0
  ·simp only[h2,ne_eq,not_true_eq_false,if_false]
   split
   ·rfl
   ·exact(a2i (a:=(8,[])) (by decide) _).symm
  ·simp only[h2,ne_eq,not_false_eq_true,if_true]
   exact(a2i (a:=((a1l s d x).1,[])) h2 _).symm
 ·simp only[h1,not_false_eq_true,if_true]
  exact(a2i (a:=(7,[])) (by decide) _).symm
theorem b1M {s:Place} {d:List Str}:∀{l:List State},(∀x∈l,(a4f s d x).1=0)→a1l s d l=(0,l.map λx=>(a4f s d x).2)
 | [],_=>rfl
 | x :: l, h => by
   have h1:=h x (by simp)
   have h2:=b1M (l:=l) (λy hy=>h y (by simp[hy]))
   simp only[a1l,h1,if_true,h2,List.map_cons]
theorem b0p {s:Place} {d:List Str}:∀{l:List State} {i:Nat} (hi:i<l.length),(a4f s d l[i]).1≠0→(∀k (hk:k<l.length),k<i→(a4f s d l[k]).1=0)→a1l s d l=((a4f s d l[i]).1,[])
 | [],i,hi,_,_=>by simp at hi
 | x :: l, 0, hi, h, _ => by
   simp only[List.getElem_cons_zero] at h
   simp only[a1l,List.getElem_cons_zero]
   rw[if_neg h]
 | x :: l, i + 1, hi, h, hk => by
   have h0:=hk 0 (by simp) (by omega)
   simp only[List.getElem_cons_zero] at h0
   simp only[List.getElem_cons_succ] at h
   have ih:=b0p (l:=l) (i:=i) (by simpa using hi) h (λk hk' h1=>by have:=hk (k+1) (by simpa using hk') (by omega); simpa using this)
   simp only[a1l,h0,if_true,ih,List.getElem_cons_succ]
   rw[if_neg h]
theorem a9R {α:Type}:∀{l:List α},l.Nodup↔∀i (hi:i<l.length),l[i]∉l.take i:=by
 intro l
 rw[List.nodup_iff_pairwise_ne,List.pairwise_iff_getElem]
 constructor
 ·intro h i hi hm
  obtain⟨j,hj,e⟩:=List.mem_iff_getElem.1 hm
  have hji:j<i:=by simp at hj; omega
  simp only[List.getElem_take] at e
  exact h j i (by omega) hi hji e
 ·intro h i j hi hj hij e
  refine h j hj ?_
  rw[← e,List.mem_take_iff_getElem]
  exact⟨i,by omega,rfl⟩
theorem Defs.len {s:Place} {d xs:List Str} (h:Defs s d xs):xs.length≤s.vis.length:=b6d _ _ h.2 λx hx=>(h.1 x hx).1
theorem State.parts_eq (x:State):x.parts=1+a0h Decl.parts x.locals+a0h Eqn.parts x.eqs+a0h Trn.parts x.unl+a0h Trn.parts x.til+a2E x.autos:=by
 cases x; simp only[State.parts,State.locals_mk,State.eqs_mk,State.autos_mk,State.unl_mk,State.til_mk]
def Sub (d vis:List Str):Prop:=d.Nodup∧∀y∈d,y∈vis
theorem Sub.len {d vis:List Str} (h:Sub d vis):d.length≤vis.length:=b6d _ _ h.1 h.2
theorem Sub.app {s:Place} {d xs:List Str} (h:Sub d s.vis) (hx:Defs s d xs):Sub (d++xs) s.vis:=by
 refine⟨a82.2 ⟨h.1,hx.2,λx hm=>(hx.1 x hm).2.2⟩,λy hy =>?_⟩
 rcases List.mem_append.1 hy with h1|h1
 ·exact h.2 y h1
 ·exact(hx.1 y h1).1
theorem b41 (s:Place):∀(l:List Eqn) (k:Nat) (d:List Str) (i:Nat) (e:Int),a5C s l k d = .inl (i,e)→e≠0
 | [],k,d,i,e,h=>by simp[a5C] at h
 | q :: l, k, d, i, e, h => by
   simp only[a5C] at h
   split at h
   ·exact b41 s l _ _ _ _ h
   ·rename_i hne
    simp only[Sum.inl.injEq,Prod.mk.injEq] at h
    rw[← h.2]; exact hne
theorem b7U {before:List Node} {tags:List Str} {n:Node} {b:Bad} (h:a79 before tags n=some b):b.node=before.length∧b.err≠0:=by
 simp only[a79] at h
 split at h
 ·simp only[Option.some.injEq] at h; subst h; exact⟨rfl,by simp⟩
 ·split at h
  ·rename_i h1
   simp only[Option.some.injEq] at h; subst h; exact⟨rfl,h1⟩
  ·split at h
   ·rename_i k e hq
    simp only[Option.some.injEq] at h; subst h; exact⟨rfl,b41 _ _ _ _ _ _ hq⟩
   ·split at h
    ·rename_i h1
     simp only[Option.some.injEq] at h; subst h; exact⟨rfl,h1⟩
    ·split at h
     ·rename_i h1
      simp only[Option.some.injEq] at h; subst h; exact⟨rfl,h1⟩
     ·split at h
      ·rename_i h1
       simp only[Option.some.injEq] at h; subst h; exact⟨rfl,h1⟩
      ·split at h
       ·simp at h
       ·simp only[Option.some.injEq] at h; subst h; exact⟨rfl,by simp⟩
theorem a8g {α:Type} {T l:List α}:(T++l).Nodup↔T.Nodup∧∀k (hk:k<l.length),l[k]∉T++l.take k:=by
 rw[a82,a9R (l:=l)]
 constructor
 ·rintro⟨h1,h2,h3⟩
  refine⟨h1,λk hk hm =>?_⟩
  rcases List.mem_append.1 hm with h|h
  ·exact h3 _ (List.getElem_mem hk) h
  ·exact h2 k hk h
 ·rintro⟨h1,h2⟩
  refine⟨h1,λk hk hm=>h2 k hk (List.mem_append_right _ hm),λx hx hm =>?_⟩
  obtain⟨k,hk,rfl⟩:=List.mem_iff_getElem.1 hx
  exact h2 k hk (List.mem_append_left _ hm)
def a85 (en:List Enum) (i:Nat) (u:Enum):Bool:=decide (u.name∉(en.take i).map (·.name)∧(a3p (en.take i)++u.tags).Nodup)
theorem a6M {en:List Enum} {i:Nat} (h:i<en.length):a3p (en.take (i+1))=a3p (en.take i)++en[i].tags:=by unfold a3p; rw[a14 h,List.flatMap_append]; simp
theorem b1N {en:List Enum}:a5Z en=true↔∀i (hi:i<en.length),a85 en i en[i]=true:=by
 unfold a5Z a85
 simp only[decide_eq_true_eq]
 constructor
 ·rintro⟨h1,h2⟩ i hi
  constructor
  ·have:=(a9R.1 h1) i (by simpa using hi)
   rw[← List.map_take] at this
   simpa using this
  ·rw[← a6M hi]
   refine h2.sublist ?_
   unfold a3p
   have:en.flatMap (·.tags)=(en.take (i+1)).flatMap (·.tags)++(en.drop (i+1)).flatMap (·.tags):=by rw[← List.flatMap_append,List.take_append_drop]
   rw[this]
   exact List.sublist_append_left _ _
 ·intro h
  constructor
  ·rw[a9R]
   intro i hi
   have:=(h i (by simpa using hi)).1
   rw[← List.map_take]; simpa using this
  ·cases hn:en.length with
   | zero=>have:en=[]:=List.length_eq_zero_iff.1 hn; subst this; simp[a3p]
   | succ m =>
     have:=(h m (by omega)).2
     rw[← a6M (by omega),← hn,List.take_length] at this
     exact this
theorem b7V {en:List Enum} {i:Nat} (hi:i≤en.length) (h:∀k (hk:k<en.length),k<i→a85 en k en[k]=true):(a3p (en.take i)).Nodup:=by
 cases i with
 | zero=>simp[a3p]
 | succ i =>
   have:=h i (by omega) (by omega)
   unfold a85 at this
   simp only[decide_eq_true_eq] at this
   rw[a6M (by omega)]; exact this.2
theorem b1O {p:Prog} {b:Bad} (hs:a26 p=some b):b.err≠0:=by
 intro he
 unfold a26 at hs
 split at hs
 ·simp only[Option.some.injEq] at hs; rw[← hs] at he; exact absurd he (by decide)
 ·split at hs
  ·rename_i h1; simp only[Option.some.injEq] at hs; rw[← hs] at he; exact h1 he
  ·have key:∀(l:List Node) (j:Nat),a2h p.enums l j=some b→b.err≠0:=by
    intro l
    induction l with
    | nil=>intro j hj; simp[a2h] at hj
    | cons n l ih =>
      intro j hj
      simp only[a2h] at hj
      cases hn:a1Y p.enums n j with
      | none=>rw[hn] at hj; exact ih _ hj
      | some y =>
        rw[hn] at hj
        simp only[Option.some.injEq] at hj
        subst hj
        unfold a1Y at hn
        split at hn
        ·rename_i h1; simp only[Option.some.injEq] at hn; rw[← hn]; exact h1
        ·split at hn
         ·rename_i k e hf
          have:∀(l:List Eqn) (m:Nat),a3z (a5O p.enums) l m=some (k,e)→e≠0:=by
           intro l
           induction l with
           | nil=>intro m hm; simp[a3z] at hm
           | cons q l ih2 =>
             intro m hm
             simp only[a3z] at hm
             split at hm
             ·exact ih2 _ hm
             ·rename_i h2; simp only[Option.some.injEq,Prod.mk.injEq] at hm; rw[← hm.2]; exact h2
          simp only[Option.some.injEq] at hn; rw[← hn]; exact this _ _ hf
         ·split at hn
          ·rename_i h1; simp only[Option.some.injEq] at hn; rw[← hn]; exact h1
          ·simp at hn
   exact key _ _ hs he
structure DF (d:Decl):Prop where
 type:I64 d.type
 clock:d.clock.length≤140737488355328
 name:d.name.length≤9223372036854775807
 on:∀o∈d.clock,I64 o.t
structure QF (q:Eqn):Prop where
 left:q.left.length≤140737488355328
 right:EW q.right
inductive SF:State→Prop
 | mk (s:State) (locals:s.locals.length≤140737488355328) (ls:∀d∈s.locals,DF d) (eqs:s.eqs.length≤140737488355328) (es:∀q∈s.eqs,QF q) (unl:s.unl.length≤140737488355328) (us:∀t∈s.unl,EW t.cond) (til:s.til.length≤140737488355328) (ts:∀t∈s.til,EW t.cond) (autos:s.autos.length≤140737488355328) (as:∀a∈s.autos,a.length≤140737488355328) (ss:∀a∈s.autos,∀x∈a,SF x):SF s
theorem SF.locals {s:State}:SF s→s.locals.length≤140737488355328 | .mk _ h .. => h
theorem SF.ls {s:State}:SF s→∀d∈s.locals,DF d | .mk _ _ h .. => h
theorem SF.eqs {s:State}:SF s→s.eqs.length≤140737488355328 | .mk _ _ _ h .. => h
theorem SF.es {s:State}:SF s→∀q∈s.eqs,QF q | .mk _ _ _ _ h .. => h
theorem SF.unl {s:State}:SF s→s.unl.length≤140737488355328 | .mk _ _ _ _ _ h .. => h
theorem SF.us {s:State}:SF s→∀t∈s.unl,EW t.cond | .mk _ _ _ _ _ _ h .. => h
theorem SF.til {s:State}:SF s→s.til.length≤140737488355328 | .mk _ _ _ _ _ _ _ h .. => h
theorem SF.ts {s:State}:SF s→∀t∈s.til,EW t.cond | .mk _ _ _ _ _ _ _ _ h .. => h
theorem SF.autos {s:State}:SF s→s.autos.length≤140737488355328 | .mk _ _ _ _ _ _ _ _ _ h .. => h
theorem SF.as {s:State}:SF s→∀a∈s.autos,a.length≤140737488355328 | .mk _ _ _ _ _ _ _ _ _ _ h _=>h
theorem SF.ss {s:State}:SF s→∀a∈s.autos,∀x∈a,SF x | .mk _ _ _ _ _ _ _ _ _ _ _ h=>h
structure AsF (l:List (List State)):Prop where
 len:l.length≤140737488355328
 as:∀a∈l,a.length≤140737488355328
 ss:∀a∈l,∀x∈a,SF x
theorem SF.asF {s:State} (h:SF s):AsF s.autos:=⟨h.autos,h.as,h.ss⟩
structure NF (n:Node):Prop where
 ins:n.ins.length≤140737488355328
 is:∀d∈n.ins,DF d
 outs:n.outs.length≤140737488355328
 os:∀d∈n.outs,DF d
 locals:n.locals.length≤140737488355328
 ls:∀d∈n.locals,DF d
 eqs:n.eqs.length≤140737488355328
 es:∀q∈n.eqs,QF q
 autos:AsF n.autos
 assume:n.assume.length≤140737488355328
 as:∀e∈n.assume,EW e
 ensure:n.ensure.length≤140737488355328
 gs:∀e∈n.ensure,EW e
structure PF (p:Prog):Prop where
 enums:p.enums.length≤140737488355328
 tags:∀u∈p.enums,u.tags.length≤140737488355328
 nodes:p.nodes.length≤140737488355328
 ns:∀n∈p.nodes,NF n
theorem c7h (n:Nat):Int.tdiv (n:Int) 100=((n / 100:Nat):Int):=by
 rw[Int.tdiv_eq_ediv_of_nonneg (by omega)]; omega
theorem a4J {α:Type} (f:α→Nat):∀l:List α,a0h (λx=>1+f x) l=l.length+a0h f l
 | []=>rfl
 | x::l=>by simp only[a0h,a4J f l,List.length_cons]; omega
section
variable {L:Nat→Option PFunc} {Q:PExit→St→Prop}
theorem a25 {γ:Type} {c:PC} {V:List PV} {g:Nat} {h:List PObj} (len:Nat) (m:Int) (T:Nat→Int) (B:Int) (M:Nat→Int→γ→List (Nat×PV)) (G:Nat→γ→Nat) (n0:Int) (x0:γ)
  (mono:∀i,i<len→T i≤T (i+1)) (h0:Cap m n0 (T 0)∧0≤n0∧n0≤B)
  (step:∀i,i<len→∀n,n<m→n=T i→0≤n→∀x,(∀n' y,Cap m n' (T (i+1))→0≤n'→n'≤B→wpL L (.loop c) ⟨upd V (M (i+1) n' y),[],G (i+1) y,h⟩ Q)→wpL L c ⟨upd V (M i n x),[],G i x,h⟩ (a3r L c Q))
  (stop:∀i,i≤len→∀n,(m≤n∨i=len)→Cap m n (T len)→0≤n→n≤B→∀x,wpL L c ⟨upd V (M i n x),[],G i x,h⟩ (a3r L c Q))
  (hV:upd V (M 0 n0 x0)=V) (hG:G 0 x0=g):wpL L (.loop c) ⟨V,[],g,h⟩ Q:=by
 have mono':∀d i,i+d=len→T i≤T len:=by
  intro d
  induction d with
  | zero => intro i hi; have : i = len := by omega
            subst this; exact Int.le_refl _
  | succ d ih=>intro i hi; have h1:=mono i (by omega); have h2:=ih (i+1) (by omega); omega
 have key:∀(d i:Nat),i+d=len→∀n,Cap m n (T i)→0≤n→n≤B→∀x,wpL L (.loop c) ⟨upd V (M i n x),[],G i x,h⟩ Q:=by
  intro d
  induction d with
  | zero =>
    intro i hi n hc hn hb x
    have:i=len:=by omega
    subst this
    rw[a2M]
    exact stop i (Nat.le_refl _) n (.inr rfl) hc hn hb x
  | succ d ih =>
    intro i hi n hc hn hb x
    rw[a2M]
    by_cases hm:n<m
    ·exact step i (by omega) n hm (hc.2 hm) hn x (λn' y h1 h2 h3=>ih (i+1) (by omega) n' h1 h2 h3 y)
    ·refine stop i (by omega) n (.inl (by omega)) ?_ hn hb x
     have:=mono' (d+1) i hi
     unfold Cap at *; omega
 have:=key len 0 (by omega) n0 h0.1 h0.2.1 h0.2.2 x0
 rwa [hV,hG] at this
end
section
variable {L:Nat→Option PFunc} (hL:∀k f,LS k=some f→L k=some f)
include hL
theorem a9S (e:Expr):EW e→∀(m:Int),1≤m→m≤1500→∀h,a0o L 95 [a0u e,.int .i64 m] h=some (.int .i64 (if (e.parts:Int)<m then e.parts else m),h):=by
 induction e using Expr.ind with
 | h e ih=>
 intro he m hm1 hm2 h
 refine a0i (hL 95 _ rfl) rfl ?_
 obtain⟨_,_,hal⟩:=he.self
 have hpe:=parts_eq e
 simp[a6H]
 refine a25 e.args.length m (λi=>1+(a0h Expr.parts (e.args.take i):Nat)) 1501 (λi n (_:Unit)=>[(4,.int .i64 n),(5,.int .i64 i)]) (λ_ _=>1) 1 () ?_ ?_ ?_ ?_ rfl rfl
 ·intro i hi
  have:=a03 Expr.parts hi
  simp only[this]; omega
 ·refine⟨?_,by omega,by omega⟩
  simp[a0h,Cap.refl]
 ·intro i hi n hn hT h0 x ih2
  have hw:=a0c i (by omega)
  have ht:=a03 Expr.parts hi
  have hT:n=1+(a0h Expr.parts (e.args.take i):Nat):=hT
  have hc:=ih e.args[i] (List.getElem_mem hi) (he.arg (List.getElem_mem hi)) (m - n) (by omega) (by omega) []
  have hw1:IntKind.i64.wrap (m - n)=m - n:=a0E _ (by omega) (by omega)
  have ih2:=ih2 (n+(if (e.args[i].parts:Int)<m - n then(e.args[i].parts:Int) else m - n)) ()
  rw[ht] at ih2
  generalize e.args[i].parts=q at *
  generalize a0h Expr.parts (e.args.take i)=t at *
  have ih2:=ih2 (by unfold Cap; split<;>omega) (by split<;>omega) (by split<;>omega)
  have hr:0≤(if (q:Int)<m - n then(q:Int) else m - n)∧(if (q:Int)<m - n then(q:Int) else m - n)≤1500:=by split<;>omega
  generalize (if (q:Int)<m - n then(q:Int) else m - n)=r at *
  have hw2:IntKind.i64.wrap (n+r)=n+r:=a0E _ (by omega) (by omega)
  simp[hi,hn,hw,hw1,hw2,hc]
  simpa using ih2
 ·intro i hi n hx hc h0 hb x
  simp only[List.take_length] at hc
  have hT:(1:Int)+(a0h Expr.parts e.args:Nat)=e.parts:=by omega
  rw[hT] at hc
  have hres:(if m<n then m else n)=(if (e.parts:Int)<m then(e.parts:Int) else m):=by
   unfold Cap at hc
   split<;>split<;>omega
  have hex:¬(i<e.args.length∧n<m):=by omega
  by_cases h1:i<e.args.length
  ·have h2:¬n<m:=by omega
   simp[h1,h2,a5R,hres]
  ·have h1i:¬(i:Int)<e.args.length:=by omega
   simp[h1,h1i,a5R,hres]
theorem a7M (l:List Decl) (hl:l.length≤140737488355328) (hd:∀d∈l,DF d) (m:Int) (hm1:1≤m) (hm2:m≤1500) (o:Bool) (h:List PObj):∃n:Int,a0o L 52 [.list o (l.map a0B),.int .i64 m] h=some (.int .i64 n,h)∧Cap m n (a0h Decl.parts l)∧0≤n∧n≤100000000000000000:=by
 suffices H:∃r,a0o L 52 [.list o (l.map a0B),.int .i64 m] h=some r∧∃n:Int,r=(.int .i64 n,h)∧Cap m n (a0h Decl.parts l)∧0≤n∧n≤100000000000000000 by
  obtain⟨r,h1,n,rfl,h2⟩:=H
  exact⟨n,h1,h2⟩
 refine a2Y (hL 52 _ rfl) rfl ?_
 have hto:a0h Decl.parts l=l.length+a0h (λd:Decl=>d.clock.length+d.name.length / 100) l:=by
  rw[← a4J]
  congr 1
  funext d; unfold Decl.parts; omega
 simp[a3Q]
 refine a25 l.length m (λi=>(l.length:Int)+(a0h (λd:Decl=>d.clock.length+d.name.length / 100) (l.take i):Nat)) 100000000000000000 (λi n (_:Unit)=>[(3,.int .i64 n),(4,.int .i64 i)]) (λ_ _=>0) l.length () ?_ ?_ ?_ ?_ rfl rfl
 ·intro i hi
  have:=a03 (λd:Decl=>d.clock.length+d.name.length / 100) hi
  simp only[this]; omega
 ·refine⟨?_,by omega,by omega⟩
  simp[a0h,Cap.refl]
 ·intro i hi n hn hT h0 x ih2
  have hw:=a0c i (by omega)
  have ht:=a03 (λd:Decl=>d.clock.length+d.name.length / 100) hi
  have hdf:=hd _ (List.getElem_mem hi)
  have hc1:=hdf.clock
  have hc2:=hdf.name
  have hT:n=(l.length:Int)+(a0h (λd:Decl=>d.clock.length+d.name.length / 100) (l.take i):Nat):=hT
  have ih2:=ih2 (n+l[i].clock.length+(l[i].name.length / 100:Nat)) ()
  rw[ht] at ih2
  have ih2 := ih2 (by rw [hT]; have : (l.length : Int) + (a0h (fun d : Decl => d.clock.length + d.name.length / 100) (l.take i) : Nat) + l[i].clock.length + (l[i].name.length / 100 : Nat) = (l.length : Int) + ((a0h (fun d : Decl => d.clock.length + d.name.length / 100) (l.take i) + (l[i].clock.length + l[i].name.length / 100) : Nat) : Int) := by omega
                      rw[this]; exact Cap.refl _ _) (by omega) (by omega)
  have hw1:IntKind.i64.wrap (n+(l[i].clock.length:Int))=n+l[i].clock.length:=a0E _ (by omega) (by omega)
  have hq:=c7h l[i].name.length
  have hw2:IntKind.i64.wrap ((l[i].name.length / 100:Nat):Int)=((l[i].name.length / 100:Nat):Int):=a0E _ (by omega) (by omega)
  have hw3:IntKind.i64.wrap (n+(l[i].clock.length:Int)+((l[i].name.length / 100:Nat):Int))=n+l[i].clock.length+(l[i].name.length / 100:Nat):=a0E _ (by omega) (by omega)
  generalize l[i].name.length / 100=q at *
  simp[hi,hn,hw,hw1,hq,hw2,hw3]
  simpa using ih2
 ·intro i hi n hx hc h0 hb x
  simp only[List.take_length] at hc
  rw[show (l.length:Int)+(a0h (λd:Decl=>d.clock.length+d.name.length / 100) l:Nat)=(a0h Decl.parts l:Nat) by omega] at hc
  have hfin:b3e [.var 2] (λr=>∃n:Int,r=(.int .i64 n,h)∧Cap m n (a0h Decl.parts l)∧0≤n∧n≤100000000000000000) .ret ⟨[.list false (l.map a0B),.int .i64 m,.int .i64 n,.int .i64 n,.int .i64 i],[],0,h⟩:=⟨.inr rfl,.int .i64 n,rfl,n,rfl,hc,h0,hb⟩
  by_cases h1:i<l.length
  ·have h2:¬n<m:=by omega
   simp[h1,h2]
   exact hfin
  ·have h1i:¬(i:Int)<l.length:=by omega
   simp[h1,h1i]
   exact hfin
theorem b2R (l:List Trn) (hl:l.length≤140737488355328) (hd:∀x∈l,EW x.cond) (m:Int) (hm1:1≤m) (hm2:m≤1500) (o:Bool) (h:List PObj):∃n:Int,a0o L 96 [.list o (l.map a6W),.int .i64 m] h=some (.int .i64 n,h)∧Cap m n (a0h Trn.parts l)∧0≤n∧n≤100000000000000000:=by
 suffices H:∃r,a0o L 96 [.list o (l.map a6W),.int .i64 m] h=some r∧∃n:Int,r=(.int .i64 n,h)∧Cap m n (a0h Trn.parts l)∧0≤n∧n≤100000000000000000 by
  obtain⟨r,h1,n,rfl,h2⟩:=H
  exact⟨n,h1,h2⟩
 refine a2Y (hL 96 _ rfl) rfl ?_
 have hto:a0h Trn.parts l=l.length+a0h (λt:Trn=>t.cond.parts) l:=by
  rw[← a4J]; rfl
 simp[a3W]
 refine a25 l.length m (λi=>(l.length:Int)+(a0h (λt:Trn=>t.cond.parts) (l.take i):Nat)) 100000000000000000 (λi n (_:Unit)=>[(3,.int .i64 n),(4,.int .i64 i)]) (λ_ _=>0) l.length () ?_ ?_ ?_ ?_ rfl rfl
 ·intro i hi
  have:=a03 (λt:Trn=>t.cond.parts) hi
  simp only[this]; omega
 ·refine⟨?_,by omega,by omega⟩
  simp[a0h,Cap.refl]
 ·intro i hi n hn hT h0 x ih2
  have hw:=a0c i (by omega)
  have ht:=a03 (λt:Trn=>t.cond.parts) hi
  have hdf:=hd _ (List.getElem_mem hi)
  have hT:n=(l.length:Int)+(a0h (λt:Trn=>t.cond.parts) (l.take i):Nat):=hT
  have hc:=a9S hL l[i].cond hdf m hm1 hm2 []
  have ih2:=ih2 (n+(if (l[i].cond.parts:Int)<m then(l[i].cond.parts:Int) else m)) ()
  rw[ht] at ih2
  generalize a0h (λt:Trn=>t.cond.parts) (l.take i)=T at *
  generalize l[i].cond.parts=q at *
  have hr:0≤(if (q:Int)<m then(q:Int) else m)∧(if (q:Int)<m then(q:Int) else m)≤1500:=by split<;>omega
  have ih2:=ih2 (by unfold Cap; split<;>omega) (by omega) (by omega)
  generalize (if (q:Int)<m then(q:Int) else m)=r at *
  have hw2:IntKind.i64.wrap (n+r)=n+r:=a0E _ (by omega) (by omega)
  simp[hi,hn,hw,hc,hw2]
  simpa using ih2
 ·intro i hi n hx hc h0 hb x
  simp only[List.take_length] at hc
  rw[show (l.length:Int)+(a0h (λt:Trn=>t.cond.parts) l:Nat)=(a0h Trn.parts l:Nat) by omega] at hc
  have hfin:b3e [.var 2] (λr=>∃n:Int,r=(.int .i64 n,h)∧Cap m n (a0h Trn.parts l)∧0≤n∧n≤100000000000000000) .ret ⟨[.list false (l.map a6W),.int .i64 m,.int .i64 n,.int .i64 n,.int .i64 i],[],0,h⟩:=⟨.inr rfl,.int .i64 n,rfl,n,rfl,hc,h0,hb⟩
  by_cases h1:i<l.length
  ·have h2:¬n<m:=by omega
   simp[h1,h2]
   exact hfin
  ·have h1i:¬(i:Int)<l.length:=by omega
   simp[h1,h1i]
   exact hfin
theorem b2S (l:List Expr) (hl:l.length≤140737488355328) (hd:∀x∈l,EW x) (m:Int) (hm1:1≤m) (hm2:m≤1500) (o:Bool) (h:List PObj):∃n:Int,a0o L 54 [.list o (l.map a0u),.int .i64 m] h=some (.int .i64 n,h)∧Cap m n (a0h (λe:Expr=>1+Expr.parts e) l)∧0≤n∧n≤100000000000000000:=by
 suffices H:∃r,a0o L 54 [.list o (l.map a0u),.int .i64 m] h=some r∧∃n:Int,r=(.int .i64 n,h)∧Cap m n (a0h (λe:Expr=>1+Expr.parts e) l)∧0≤n∧n≤100000000000000000 by
  obtain⟨r,h1,n,rfl,h2⟩:=H
  exact⟨n,h1,h2⟩
 refine a2Y (hL 54 _ rfl) rfl ?_
 have hto:a0h (λe:Expr=>1+Expr.parts e) l=l.length+a0h Expr.parts l:=by
  rw[← a4J]
 simp[a3R]
 refine a25 l.length m (λi=>(l.length:Int)+(a0h Expr.parts (l.take i):Nat)) 100000000000000000 (λi n (_:Unit)=>[(3,.int .i64 n),(4,.int .i64 i)]) (λ_ _=>0) l.length () ?_ ?_ ?_ ?_ rfl rfl
 ·intro i hi
  have:=a03 Expr.parts hi
  simp only[this]; omega
 ·refine⟨?_,by omega,by omega⟩
  simp[a0h,Cap.refl]
 ·intro i hi n hn hT h0 x ih2
  have hw:=a0c i (by omega)
  have ht:=a03 Expr.parts hi
  have hdf:=hd _ (List.getElem_mem hi)
  have hT:n=(l.length:Int)+(a0h Expr.parts (l.take i):Nat):=hT
  have hc:=a9S hL l[i] hdf m hm1 hm2 []
  have ih2:=ih2 (n+(if (l[i].parts:Int)<m then(l[i].parts:Int) else m)) ()
  rw[ht] at ih2
  generalize a0h Expr.parts (l.take i)=T at *
  generalize l[i].parts=q at *
  have hr:0≤(if (q:Int)<m then(q:Int) else m)∧(if (q:Int)<m then(q:Int) else m)≤1500:=by split<;>omega
  have ih2:=ih2 (by unfold Cap; split<;>omega) (by omega) (by omega)
  generalize (if (q:Int)<m then(q:Int) else m)=r at *
  have hw2:IntKind.i64.wrap (n+r)=n+r:=a0E _ (by omega) (by omega)
  simp[hi,hn,hw,hc,hw2]
  simpa using ih2
 ·intro i hi n hx hc h0 hb x
  simp only[List.take_length] at hc
  rw[show (l.length:Int)+(a0h Expr.parts l:Nat)=(a0h (λe:Expr=>1+Expr.parts e) l:Nat) by omega] at hc
  have hfin:b3e [.var 2] (λr=>∃n:Int,r=(.int .i64 n,h)∧Cap m n (a0h (λe:Expr=>1+Expr.parts e) l)∧0≤n∧n≤100000000000000000) .ret ⟨[.list false (l.map a0u),.int .i64 m,.int .i64 n,.int .i64 n,.int .i64 i],[],0,h⟩:=⟨.inr rfl,.int .i64 n,rfl,n,rfl,hc,h0,hb⟩
  by_cases h1:i<l.length
  ·have h2:¬n<m:=by omega
   simp[h1,h2]
   exact hfin
  ·have h1i:¬(i:Int)<l.length:=by omega
   simp[h1,h1i]
   exact hfin
theorem b65 (l:List Eqn) (hl:l.length≤140737488355328) (hd:∀x∈l,QF x) (m:Int) (hm1:1≤m) (hm2:m≤1500) (o:Bool) (h:List PObj):∃n:Int,a0o L 53 [.list o (l.map a5E),.int .i64 m] h=some (.int .i64 n,h)∧Cap m n (a0h Eqn.parts l)∧0≤n∧n≤100000000000000000:=by
 suffices H:∃r,a0o L 53 [.list o (l.map a5E),.int .i64 m] h=some r∧∃n:Int,r=(.int .i64 n,h)∧Cap m n (a0h Eqn.parts l)∧0≤n∧n≤100000000000000000 by
  obtain⟨r,h1,n,rfl,h2⟩:=H
  exact⟨n,h1,h2⟩
 refine a2Y (hL 53 _ rfl) rfl ?_
 have hto:a0h Eqn.parts l=l.length+a0h (λq:Eqn=>q.left.length+q.right.parts) l:=by
  rw[← a4J]
  congr 1
  funext d; try (unfold Eqn.parts; omega)
 simp[a4T]
 refine a25 l.length m (λi=>(l.length:Int)+(a0h (λq:Eqn=>q.left.length+q.right.parts) (l.take i):Nat)) 100000000000000000 (λi n (_:Unit)=>[(3,.int .i64 n),(4,.int .i64 i)]) (λ_ _=>0) l.length () ?_ ?_ ?_ ?_ rfl rfl
 ·intro i hi
  have:=a03 (λq:Eqn=>q.left.length+q.right.parts) hi
  simp only[this]; omega
 ·refine⟨?_,by omega,by omega⟩
  simp[a0h,Cap.refl]
 ·intro i hi n hn hT h0 x ih2
  have hw:=a0c i (by omega)
  have ht:=a03 (λq:Eqn=>q.left.length+q.right.parts) hi
  have hdf:=hd _ (List.getElem_mem hi)
  have hlf:=hdf.left
  have hT:n=(l.length:Int)+(a0h (λq:Eqn=>q.left.length+q.right.parts) (l.take i):Nat):=hT
  have hc:=a9S hL l[i].right hdf.right m hm1 hm2 []
  have ih2:=ih2 (n+l[i].left.length+(if (l[i].right.parts:Int)<m then(l[i].right.parts:Int) else m)) ()
  rw[ht] at ih2
  generalize a0h (λq:Eqn=>q.left.length+q.right.parts) (l.take i)=T at *
  generalize l[i].right.parts=q at *
  have hr:0≤(if (q:Int)<m then(q:Int) else m)∧(if (q:Int)<m then(q:Int) else m)≤1500:=by split<;>omega
  have ih2:=ih2 (by unfold Cap; split<;>omega) (by omega) (by omega)
  generalize (if (q:Int)<m then(q:Int) else m)=r at *
  have hw1:IntKind.i64.wrap (n+(l[i].left.length:Int))=n+l[i].left.length:=a0E _ (by omega) (by omega)
  have hw2:IntKind.i64.wrap (n+(l[i].left.length:Int)+r)=n+l[i].left.length+r:=a0E _ (by omega) (by omega)
  simp[hi,hn,hw,hc,hw1,hw2]
  simpa using ih2
 ·intro i hi n hx hc h0 hb x
  simp only[List.take_length] at hc
  rw[show (l.length:Int)+(a0h (λq:Eqn=>q.left.length+q.right.parts) l:Nat)=(a0h Eqn.parts l:Nat) by omega] at hc
  have hfin:b3e [.var 2] (λr=>∃n:Int,r=(.int .i64 n,h)∧Cap m n (a0h Eqn.parts l)∧0≤n∧n≤100000000000000000) .ret ⟨[.list false (l.map a5E),.int .i64 m,.int .i64 n,.int .i64 n,.int .i64 i],[],0,h⟩:=⟨.inr rfl,.int .i64 n,rfl,n,rfl,hc,h0,hb⟩
  by_cases h1:i<l.length
  ·have h2:¬n<m:=by omega
   simp[h1,h2]
   exact hfin
  ·have h1i:¬(i:Int)<l.length:=by omega
   simp[h1,h1i]
   exact hfin
end
theorem b7W (l:List (List State)):a2E l=l.length+a0h (λa=>a0h State.parts a) l:=by
 rw[a7A,← a4J]
section
variable {L:Nat→Option PFunc} (hL:∀k f,LS k=some f→L k=some f)
include hL
def WA (L:Nat→Option PFunc) (l:List (List State)):Prop:=∀(m:Int),1≤m→m≤1500→∀(o:Bool) (h:List PObj),∃n:Int,a0o L 55 [.list o (l.map a1H),.int .i64 m] h=some (.int .i64 n,h)∧Cap m n (a2E l)∧0≤n∧n≤m+500000000000000000
theorem b1P (l:List (List State)) (hl:AsF l) (ih:∀a∈l,∀x∈a,WA L x.autos):WA L l:=by
 intro m hm1 hm2 o h
 suffices H:∃r,a0o L 55 [.list o (l.map a1H),.int .i64 m] h=some r∧∃n:Int,r=(.int .i64 n,h)∧Cap m n (a2E l)∧0≤n∧n≤m+500000000000000000 by
  obtain⟨r,h1,n,rfl,h2⟩:=H
  exact⟨n,h1,h2⟩
 refine a2Y (hL 55 _ rfl) rfl ?_
 have hto:=b7W l
 have hll:=hl.len
 simp[a3S]
 refine a25 l.length m (λi=>(l.length:Int)+(a0h (λa=>a0h State.parts a) (l.take i):Nat)) (m+500000000000000000) (λi n (x:(PV×PV)×Nat)=>[(3,.int .i64 n),(4,.int .i64 i),(5,x.1.1),(6,x.1.2)]) (λ_ x=>x.2) l.length ((.dead,.dead),0) ?_ ?_ ?_ ?_ rfl rfl
 ·intro i hi
  have:=a03 (λa=>a0h State.parts a) hi
  simp only[this]; omega
 ·refine⟨?_,by omega,by omega⟩
  simp[a0h,Cap.refl]
 ·intro i hi n hn hT h0 x ih2
  have hw:=a0c i (by omega)
  have ht:=a03 (λa=>a0h State.parts a) hi
  have hT:n=(l.length:Int)+(a0h (λa=>a0h State.parts a) (l.take i):Nat):=hT
  have hal:=hl.as _ (List.getElem_mem hi)
  simp[hi,hn]
  refine a25 l[i].length m (λj=>n+(a0h State.parts (l[i].take j):Nat)) (m+500000000000000000) (λj n' (x:PV×Nat)=>[(3,.int .i64 n'),(5,.int .i64 j),(6,x.1)]) (λ_ x=>x.2) n (x.1.2,x.2) ?_ ?_ ?_ ?_ rfl rfl
  ·intro j hj
   have:=a03 State.parts hj
   simp only[this]; omega
  ·refine⟨?_,by omega,by omega⟩
   simp[a0h,Cap.refl]
  ·intro j hj n' hn' hT' h0' y ih3
   have hw':=a0c j (by omega)
   have ht':=a03 State.parts hj
   have hT':n'=n+(a0h State.parts (l[i].take j):Nat):=hT'
   have hsf:=hl.ss _ (List.getElem_mem hi) _ (List.getElem_mem hj)
   have hpe:=State.parts_eq l[i][j]
   obtain⟨w1,c1,q1,a1,b1⟩:=a7M hL l[i][j].locals hsf.locals hsf.ls m hm1 hm2 false []
   obtain⟨w2,c2,q2,a2,b2⟩:=b65 hL l[i][j].eqs hsf.eqs hsf.es m hm1 hm2 false []
   obtain⟨w3,c3,q3,a3,b3⟩:=b2R hL l[i][j].unl hsf.unl hsf.us m hm1 hm2 false []
   obtain⟨w4,c4,q4,a4,b4⟩:=b2R hL l[i][j].til hsf.til hsf.ts m hm1 hm2 false []
   have z0:IntKind.i64.wrap (n'+1)=n'+1:=a0E _ (by omega) (by omega)
   have z1:IntKind.i64.wrap (n'+1+w1)=n'+1+w1:=a0E _ (by omega) (by omega)
   have z2:IntKind.i64.wrap (n'+1+w1+w2)=n'+1+w1+w2:=a0E _ (by omega) (by omega)
   have z3:IntKind.i64.wrap (n'+1+w1+w2+w3)=n'+1+w1+w2+w3:=a0E _ (by omega) (by omega)
   have hS:∃S:Int,S=n'+1+w1+w2+w3+w4:=⟨_,rfl⟩
   obtain⟨S,hS⟩:=hS
   have z4:IntKind.i64.wrap (n'+1+w1+w2+w3+w4)=S:=by rw[hS]; exact a0E _ (by omega) (by omega)
   rw[ht'] at ih3
   have hSc:Cap m S (n+(a0h State.parts (l[i].take j):Nat)+(1+a0h Decl.parts l[i][j].locals+a0h Eqn.parts l[i][j].eqs+a0h Trn.parts l[i][j].unl+a0h Trn.parts l[i][j].til:Nat)):=by
    unfold Cap at *; omega
   by_cases hSm:S<m
   ·have hzs:IntKind.i64.wrap (m - S)=m - S:=a0E _ (by omega) (by omega)
    obtain⟨w5,c5,q5,a5,b5⟩:=ih _ (List.getElem_mem hi) _ (List.getElem_mem hj) (m - S) (by omega) (by omega) false []
    have z5:IntKind.i64.wrap (S+w5)=S+w5:=a0E _ (by omega) (by omega)
    have ih3:=λy=>ih3 (S+w5) y (by unfold Cap at *; omega) (by omega) (by omega)
    simp[hi,hj,hn',hw',c1,c2,c3,c4,z0,z1,z2,z3,z4,hSm,hzs,c5,z5]
    simpa using ih3 (_,_)
   ·have ih3:=λy=>ih3 S y (by unfold Cap at *; omega) (by omega) (by omega)
    simp[hi,hj,hn',hw',c1,c2,c3,c4,z0,z1,z2,z3,z4,hSm]
    simpa using ih3 (_,_)
  ·intro j hj n' hx hc h0' hb y
   simp only[List.take_length] at hc
   rw[ht] at ih2
   have ih2:=λy=>ih2 n' y (by rw[show (l.length:Int)+((a0h (λa=>a0h State.parts a) (l.take i)+a0h State.parts l[i]:Nat):Int)=n+(a0h State.parts l[i]:Nat) by omega]; exact hc) h0' hb
   by_cases h1:j<l[i].length
   ·have h2:¬n'<m:=by omega
    simp[hi,h1,h2,hw]
    simpa using ih2 ((_,_),_)
   ·have h1i:¬(j:Int)<l[i].length:=by omega
    simp[hi,h1,h1i,hw]
    simpa using ih2 ((_,_),_)
 ·intro i hi n hx hc h0 hb x
  simp only[List.take_length] at hc
  rw[show (l.length:Int)+(a0h (λa=>a0h State.parts a) l:Nat)=(a2E l:Nat) by omega] at hc
  have hfin:b3e [.var 2] (λr=>∃n:Int,r=(.int .i64 n,h)∧Cap m n (a2E l)∧0≤n∧n≤m+500000000000000000) .ret ⟨[.list false (l.map a1H),.int .i64 m,.int .i64 n,.int .i64 n,.int .i64 i,x.1.1,x.1.2],[],x.2,h⟩:=⟨.inr rfl,.int .i64 n,rfl,n,rfl,hc,h0,hb⟩
  by_cases h1:i<l.length
  ·have h2:¬n<m:=by omega
   simp[h1,h2]
   exact hfin
  ·have h1i:¬(i:Int)<l.length:=by omega
   simp[h1,h1i]
   exact hfin
theorem b7X (l:List (List State)) (hl:AsF l):WA L l:=by
 refine b1P hL l hl λa ha x hx =>?_
 have key:∀s:State,SF s→WA L s.autos:=by
  intro s
  induction s using State.ind with
  | h s ih=>intro hs; exact b1P hL s.autos hs.asF λa ha x hx=>ih a ha x hx (hs.ss a ha x hx)
 exact key x (hl.ss a ha x hx)
theorem b9h (p:Prog) (hp:PF p) (h:List PObj):∃n:Int,a0o L 25 [a3y p,.int .i64 1500] h=some (.int .i64 n,h)∧Cap 1500 n (parts p):=by
 suffices H:∃r,a0o L 25 [a3y p,.int .i64 1500] h=some r∧∃n:Int,r=(.int .i64 n,h)∧Cap 1500 n (parts p) by
  obtain⟨r,h1,n,rfl,h2⟩:=H
  exact⟨n,h1,h2⟩
 refine a2Y (hL 25 _ rfl) rfl ?_
 have l1:=hp.enums
 have l2:=hp.nodes
 have t1:a0h Enum.parts p.enums=p.enums.length+a0h (λu:Enum=>u.tags.length) p.enums:=by rw[← a4J]; rfl
 obtain⟨f,hf⟩:∃f:Node→Nat,∀n,f n=n.parts - 1:=⟨_,λ_=>rfl⟩
 have hf1:∀n:Node,n.parts=1+f n:=by
  intro n
  have:1≤n.parts:=by unfold Node.parts; omega
  rw[hf]; omega
 have t2:a0h Node.parts p.nodes=p.nodes.length+a0h f p.nodes:=by
  rw[← a4J]
  congr 1
  funext n; exact hf1 n
 have hpp:(parts p:Int)=(p.enums.length:Int)+p.nodes.length+(a0h (λu:Enum=>u.tags.length) p.enums:Nat)+(a0h f p.nodes:Nat):=by unfold parts; omega
 have hw0:IntKind.i64.wrap ((p.enums.length:Int)+p.nodes.length)=(p.enums.length:Int)+p.nodes.length:=a0E _ (by omega) (by omega)
 simp[a6G,hw0]
 refine a25 p.enums.length 1500 (λi=>(p.enums.length:Int)+p.nodes.length+(a0h (λu:Enum=>u.tags.length) (p.enums.take i):Nat)) 1000000000000000000 (λi n (_:Unit)=>[(4,.int .i64 n),(5,.int .i64 i)]) (λ_ _=>1) ((p.enums.length:Int)+p.nodes.length) () ?_ ?_ ?_ ?_ rfl rfl
 ·intro i hi
  have:=a03 (λu:Enum=>u.tags.length) hi
  simp only[this]; omega
 ·refine⟨?_,by omega,by omega⟩
  simp[a0h,Cap.refl]
 ·intro i hi n hn hT h0 x ih2
  have hw:=a0c i (by omega)
  have ht:=a03 (λu:Enum=>u.tags.length) hi
  have htl:=hp.tags _ (List.getElem_mem hi)
  have hT:n=(p.enums.length:Int)+p.nodes.length+(a0h (λu:Enum=>u.tags.length) (p.enums.take i):Nat):=hT
  have ih2:=ih2 (n+p.enums[i].tags.length) ()
  rw[ht] at ih2
  have ih2:=ih2 (by unfold Cap; omega) (by omega) (by omega)
  have hw1:IntKind.i64.wrap (n+(p.enums[i].tags.length:Int))=n+p.enums[i].tags.length:=a0E _ (by omega) (by omega)
  simp[hi,hn,hw,hw1]
  simpa using ih2
 ·intro i hi n hx hc h0 hb x
  simp only[List.take_length] at hc
  have hgo:wpL L a6U ⟨[a3y p,.int .i64 1500,.loc 0 (a3y p).cells,.int .i64 0,.int .i64 n,.int .i64 i,.int .i64 0,.dead],[],1,h⟩ (a7J 2 (c0o L (S (R [m v4,t 3 l0]) Y) (b3e [.var 3] λr=>∃n:Int,r=(.int .i64 n,h)∧Cap 1500 n (parts p)))):=by
   have hT0:∃T0:Int,T0=(p.enums.length:Int)+p.nodes.length+(a0h (λu:Enum=>u.tags.length) p.enums:Nat):=⟨_,rfl⟩
   obtain⟨T0,hT0⟩:=hT0
   rw[← hT0] at hc hpp
   have hT0n:0≤T0:=by omega
   refine a25 p.nodes.length 1500 (λi=>T0+(a0h f (p.nodes.take i):Nat)) 2000000000000000000 (λi n (x:PV×Nat)=>[(4,.int .i64 n),(6,.int .i64 i),(7,x.1)]) (λ_ x=>x.2) n (.dead,1) ?_ ?_ ?_ ?_ rfl rfl
   ·intro i hi
    have:=a03 f hi
    simp only[this]; omega
   ·refine⟨?_,by omega,by omega⟩
    simpa[a0h] using hc
   ·intro i hi n hn hT h0 x ih2
    have hw:=a0c i (by omega)
    have ht:=a03 f hi
    have hnf:=hp.ns _ (List.getElem_mem hi)
    have hfe:f p.nodes[i]=a0h Decl.parts p.nodes[i].ins+a0h Decl.parts p.nodes[i].outs+a0h Decl.parts p.nodes[i].locals+a0h Eqn.parts p.nodes[i].eqs+a0h (λe=>1+Expr.parts e) p.nodes[i].assume+a0h (λe=>1+Expr.parts e) p.nodes[i].ensure+a2E p.nodes[i].autos:=by
     rw[hf]; unfold Node.parts; omega
    have hT:n=T0+(a0h f (p.nodes.take i):Nat):=hT
    obtain⟨w1,c1,q1,a1,b1⟩:=a7M hL p.nodes[i].ins hnf.ins hnf.is 1500 (by omega) (by omega) false []
    obtain⟨w2,c2,q2,a2,b2⟩:=a7M hL p.nodes[i].outs hnf.outs hnf.os 1500 (by omega) (by omega) false []
    obtain⟨w3,c3,q3,a3,b3⟩:=a7M hL p.nodes[i].locals hnf.locals hnf.ls 1500 (by omega) (by omega) false []
    obtain⟨w4,c4,q4,a4,b4⟩:=b65 hL p.nodes[i].eqs hnf.eqs hnf.es 1500 (by omega) (by omega) false []
    obtain⟨w5,c5,q5,a5,b5⟩:=b2S hL p.nodes[i].assume hnf.assume hnf.as 1500 (by omega) (by omega) false []
    obtain⟨w6,c6,q6,a6,b6⟩:=b2S hL p.nodes[i].ensure hnf.ensure hnf.gs 1500 (by omega) (by omega) false []
    have z1:IntKind.i64.wrap (n+w1)=n+w1:=a0E _ (by omega) (by omega)
    have z2:IntKind.i64.wrap (n+w1+w2)=n+w1+w2:=a0E _ (by omega) (by omega)
    have z3:IntKind.i64.wrap (n+w1+w2+w3)=n+w1+w2+w3:=a0E _ (by omega) (by omega)
    have z4:IntKind.i64.wrap (n+w1+w2+w3+w4)=n+w1+w2+w3+w4:=a0E _ (by omega) (by omega)
    have z5:IntKind.i64.wrap (n+w1+w2+w3+w4+w5)=n+w1+w2+w3+w4+w5:=a0E _ (by omega) (by omega)
    obtain⟨S,hS⟩:∃S:Int,S=n+w1+w2+w3+w4+w5+w6:=⟨_,rfl⟩
    have z6:IntKind.i64.wrap (n+w1+w2+w3+w4+w5+w6)=S:=by rw[hS]; exact a0E _ (by omega) (by omega)
    have k1:=Cap.add (Cap.refl 1500 n) q1 h0 a1 h0 (by omega)
    have k2:=Cap.add k1 q2 (by omega) a2 (by omega) (by omega)
    have k3:=Cap.add k2 q3 (by omega) a3 (by omega) (by omega)
    have k4:=Cap.add k3 q4 (by omega) a4 (by omega) (by omega)
    have k5:=Cap.add k4 q5 (by omega) a5 (by omega) (by omega)
    have k6:=Cap.add k5 q6 (by omega) a6 (by omega) (by omega)
    rw[← hS] at k6
    have hSn:0≤S:=by omega
    have hSb:S≤1000000000000000000:=by omega
    clear k1 k2 k3 k4 k5 q1 q2 q3 q4 q5 q6
    rw[ht,hfe] at ih2
    obtain⟨U,hU⟩:∃U:Int,U=n+(a0h Decl.parts p.nodes[i].ins:Nat)+(a0h Decl.parts p.nodes[i].outs:Nat)+(a0h Decl.parts p.nodes[i].locals:Nat)+(a0h Eqn.parts p.nodes[i].eqs:Nat)+(a0h (λe=>1+Expr.parts e) p.nodes[i].assume:Nat)+(a0h (λe=>1+Expr.parts e) p.nodes[i].ensure:Nat):=⟨_,rfl⟩
    rw[← hU] at k6
    have hUt:T0+((a0h f (p.nodes.take i)+(a0h Decl.parts p.nodes[i].ins+a0h Decl.parts p.nodes[i].outs+a0h Decl.parts p.nodes[i].locals+a0h Eqn.parts p.nodes[i].eqs+a0h (λe=>1+Expr.parts e) p.nodes[i].assume+a0h (λe=>1+Expr.parts e) p.nodes[i].ensure+a2E p.nodes[i].autos):Nat):Int)=U+(a2E p.nodes[i].autos:Nat):=by omega
    have hUn:0≤U:=by omega
    rw[hUt] at ih2
    clear hUt hU hT hfe
    by_cases hSm:S<1500
    ·have hzs:IntKind.i64.wrap (1500 - S)=1500 - S:=a0E _ (by omega) (by omega)
     obtain⟨w7,c7,q7,a7,b7⟩:=b7X hL p.nodes[i].autos hnf.autos (1500 - S) (by omega) (by omega) false []
     have z7:IntKind.i64.wrap (S+w7)=S+w7:=a0E _ (by omega) (by omega)
     have hcap:Cap 1500 (S+w7) (U+(a2E p.nodes[i].autos:Nat)):=by
      clear ih2 c1 c2 c3 c4 c5 c6 c7 z1 z2 z3 z4 z5 z6 z7 hS
      unfold Cap at *; omega
     have ih2:=λy=>ih2 (S+w7) y hcap (by omega) (by omega)
     simp[hi,hn,hw,c1,c2,c3,c4,c5,c6,z1,z2,z3,z4,z5,z6,hSm,hzs,c7,z7]
     simpa using ih2 (_,_)
    ·have hcap:Cap 1500 S (U+(a2E p.nodes[i].autos:Nat)):=by
      clear ih2 c1 c2 c3 c4 c5 c6 z1 z2 z3 z4 z5 z6 hS
      unfold Cap at *; omega
     have ih2:=λy=>ih2 S y hcap (by omega) (by omega)
     simp[hi,hn,hw,c1,c2,c3,c4,c5,c6,z1,z2,z3,z4,z5,z6,hSm]
     simpa using ih2 (_,_)
   ·intro i hi n hx hc h0 hb x
    simp only[List.take_length] at hc
    rw[← hpp] at hc
    by_cases h1:i<p.nodes.length
    ·have h2:¬n<1500:=by omega
     simp[h1,h2]
     exact⟨.inr rfl,.int .i64 n,rfl,n,rfl,hc⟩
    ·have h1i:¬(i:Int)<p.nodes.length:=by omega
     simp[h1,h1i]
     exact⟨.inr rfl,.int .i64 n,rfl,n,rfl,hc⟩
  by_cases h1:i<p.enums.length
  ·have h2:¬n<1500:=by omega
   simp[h1,h2]
   simpa using hgo
  ·have h1i:¬(i:Int)<p.enums.length:=by omega
   simp[h1,h1i]
   simpa using hgo
end
theorem DF.dw {d:Decl} (h:DF d) (hp:d.parts≤1500):DW d:=⟨h.type,by unfold Decl.parts at hp; omega,h.on⟩
theorem QF.qw {q:Eqn} (h:QF q) (hp:q.parts≤1500):QW q:=⟨by unfold Eqn.parts at hp; omega,⟨by unfold Eqn.parts at hp; omega,h.right⟩⟩
theorem a2p {α:Type} (f:α→Nat) (h1:∀x,1≤f x) {l:List α} (h:a0h f l≤1500):l.length≤1500∧∀x∈l,f x≤1500:=
 ⟨Nat.le_trans (a84 f h1 l) h,λx hx=>Nat.le_trans (a31 f hx) h⟩
theorem b63 (d:Decl):1≤d.parts:=by unfold Decl.parts; omega
theorem c14 (q:Eqn):1≤q.parts:=by unfold Eqn.parts; omega
theorem c15 (t:Trn):1≤t.parts:=by unfold Trn.parts; omega
theorem c7g (s:State):1≤s.parts:=by cases s; simp only[State.parts]; omega
theorem b1G {l:List (List State)} (h:a2E l≤1500):l.length≤1500∧(∀a∈l,a.length≤1500)∧∀a∈l,∀x∈a,x.parts≤1500:=by
 rw[a7A] at h
 obtain⟨h1,h2⟩:=a2p (λa:List State=>1+a0h State.parts a) (λa=>by omega) h
 refine⟨h1,λa ha =>?_,λa ha x hx =>?_⟩
 ·have:1+a0h State.parts a≤1500:=h2 a ha
  have h3:=a84 State.parts c7g a
  omega
 ·have:1+a0h State.parts a≤1500:=h2 a ha
  have h3:=a31 State.parts hx
  omega
theorem SF.sw {s:State} (h:SF s) (hp:s.parts≤1500):SW s:=by
 induction s using State.ind with
 | h s ih =>
   have e:=State.parts_eq s
   obtain⟨a1,a2⟩:=a2p Decl.parts b63 (l:=s.locals) (by omega)
   obtain⟨b1,b2⟩:=a2p Eqn.parts c14 (l:=s.eqs) (by omega)
   obtain⟨c1,c2⟩:=a2p Trn.parts c15 (l:=s.unl) (by omega)
   obtain⟨d1,d2⟩:=a2p Trn.parts c15 (l:=s.til) (by omega)
   obtain⟨e1,e2,e3⟩:=b1G (l:=s.autos) (by omega)
   exact .mk s a1 (λd hd=>(h.ls d hd).dw (a2 d hd)) b1 (λq hq=>(h.es q hq).qw (b2 q hq)) c1 (λt ht=>⟨by have:=c2 t ht; unfold Trn.parts at this; omega,h.us t ht⟩) d1 (λt ht=>⟨by have:=d2 t ht; unfold Trn.parts at this; omega,h.ts t ht⟩) e1 e2 (λa ha x hx=>ih a ha x hx (h.ss a ha x hx) (e3 a ha x hx))
theorem NF.nw {n:Node} (h:NF n) (hp:n.parts≤1500):NW n:=by
 have e:n.parts=1+a0h Decl.parts n.ins+a0h Decl.parts n.outs+a0h Decl.parts n.locals+a0h Eqn.parts n.eqs+a0h (λe=>1+Expr.parts e) n.assume+a0h (λe=>1+Expr.parts e) n.ensure+a2E n.autos:=rfl
 obtain⟨a1,a2⟩:=a2p Decl.parts b63 (l:=n.ins) (by omega)
 obtain⟨b1,b2⟩:=a2p Decl.parts b63 (l:=n.outs) (by omega)
 obtain⟨c1,c2⟩:=a2p Decl.parts b63 (l:=n.locals) (by omega)
 obtain⟨d1,d2⟩:=a2p Eqn.parts c14 (l:=n.eqs) (by omega)
 obtain⟨f1,f2⟩:=a2p (λe=>1+Expr.parts e) (λx=>by omega) (l:=n.assume) (by omega)
 obtain⟨g1,g2⟩:=a2p (λe=>1+Expr.parts e) (λx=>by omega) (l:=n.ensure) (by omega)
 obtain⟨e1,e2,e3⟩:=b1G (l:=n.autos) (by omega)
 exact⟨a1,λd hd=>(h.is d hd).dw (a2 d hd),b1,λd hd=>(h.os d hd).dw (b2 d hd),c1,λd hd=>(h.ls d hd).dw (c2 d hd),d1,λq hq=>(h.es q hq).qw (d2 q hq),⟨e1,e2,λa ha x hx=>(h.autos.ss a ha x hx).sw (e3 a ha x hx)⟩,
  f1,λx hx=>⟨by have:1+x.parts≤1500:=f2 x hx; omega,h.as x hx⟩,g1,λx hx=>⟨by have:1+x.parts≤1500:=g2 x hx; omega,h.gs x hx⟩⟩
theorem PF.pw {p:Prog} (h:PF p) (hs:parts p≤1500):PW p:=by
 have hs':=hs
 unfold parts at hs
 obtain⟨a1,a2⟩:=a2p Enum.parts (λu=>by unfold Enum.parts; omega) (l:=p.enums) (by omega)
 obtain⟨b1,b2⟩:=a2p Node.parts (λu=>by unfold Node.parts; omega) (l:=p.nodes) (by omega)
 exact⟨a1,λu hu=>by have:=a2 u hu; unfold Enum.parts at this; omega,b1,λn hn=>(h.ns n hn).nw (b2 n hn)⟩
def isT:Option (PV×List PObj)→Bool
 | some (.bool true,[])=>true
 | _=>false
theorem c3t {r:Option (PV×List PObj)} (h:isT r=true):r=some (.bool true,[]):=by
 unfold isT at h
 split at h
 ·rfl
 ·simp at h
theorem b7T:isT (call LS 200 7 [] [])=true:=by decide +kernel
theorem b9d:a0o LS 7 [] []=some (.bool true,[]):=a2O.2 ⟨200,c3t b7T⟩
section
variable {L:Nat→Option PFunc} (hL:∀k f,LS k=some f→L k=some f)
include hL
theorem b9e (p:Prog) (hp:PF p) (h:List PObj):a0o L 6 [a3y p] h=some (.bool (b9f p),h):=by
 obtain⟨n,h1,h2⟩:=b9h hL p hp []
 have e:decide (1500≤n)=b9f p:=by unfold b9f; rw[Bool.eq_iff_iff,decide_eq_true_eq,decide_eq_true_eq]; unfold Cap at h2; omega
 refine a0i (hL 6 _ rfl) rfl ?_
 simp[a6E,h1,e]
end
theorem b0q (c:UInt8):∀s:Str,c∉s→Go.Lib.indexByte s c = -1
 | [],_=>rfl
 | b :: s, h => by
   simp only[List.mem_cons,not_or] at h
   have:(b==c)=false:=by simpa using λe=>h.1 e.symm
   simp[Go.Lib.indexByte,this,b0q c s h.2]
theorem a86 (c:UInt8):∀(a r:Str),c∉a→Go.Lib.indexByte (a++c::r) c=a.length
 | [],r,_=>by simp[Go.Lib.indexByte]
 | b :: a, r, h => by
   simp only[List.mem_cons,not_or] at h
   have h1:(b==c)=false:=by simpa using λe=>h.1 e.symm
   have h2:=a86 c a r h.2
   simp only[List.cons_append,Go.Lib.indexByte,h1,Bool.false_eq_true,if_false,h2]
   have:((a.length:Int) == -1)=false:=by simp
   rw[this]; rfl
theorem b9i (c:UInt8) (s:Str):c∉s∨∃a r,s=a++c::r∧c∉a:=by
 induction s with
 | nil=>left; simp
 | cons b s ih =>
   by_cases hb:b=c
   ·exact .inr ⟨[],s,by simp[hb],by simp⟩
   ·rcases ih with h|⟨a,r,e,hn⟩
    ·exact .inl (by simp[Ne.symm hb,h])
    ·exact .inr ⟨b::a,r,by simp[e],by simp[Ne.symm hb,hn]⟩
theorem b2T {c:UInt8}:∀{a a' r r':Str},c∉a→c∉a'→a++c::r=a'++c::r'→a=a'∧r=r'
 | [],[],r,r',_,_,h=>by simpa using h
 | [],x::a',r,r',_,h2,h=>by simp only[List.nil_append,List.cons_append,List.cons.injEq] at h; exact absurd (by simp[h.1]) h2
 | x::a,[],r,r',h1,_,h=>by simp only[List.nil_append,List.cons_append,List.cons.injEq] at h; exact absurd (by simp[h.1]) h1
 | x :: a, y :: a', r, r', h1, h2, h => by
   simp only[List.cons_append,List.cons.injEq] at h
   simp only[List.mem_cons,not_or] at h1 h2
   obtain⟨e1,e2⟩:=b2T h1.2 h2.2 h.2
   exact⟨by rw[h.1,e1],e2⟩
theorem b2U (s:Str):b1Z s=true↔∃a b:Str,s=a++40::(b++[41])∧a.all a4V=true∧b.all a4V=true∧b≠[]∧a.length+b.length≤64:=by
 unfold b1Z
 simp only[decide_eq_true_eq]
 constructor
 ·rintro⟨h1,h2,h3,h4,h5,h6⟩
  obtain⟨t,ht⟩:=List.takeWhile_prefix (p:=a4V) (l:=s)
  have ha:a34 s 0=s.takeWhile a4V:=by simp[a34]
  have hall:(a34 s 0).all a4V=true:=by rw[ha]; exact List.all_takeWhile
  rw[← ha] at ht
  generalize a34 s 0=a at *
  have ht2:t.head? = some 40:=by
   rw[← ht] at h2
   rw[List.getElem?_append_right (Nat.le_refl _),Nat.sub_self] at h2
   rw[List.head?_eq_getElem?]; exact h2
  obtain⟨r,rfl⟩:∃r,t=40::r:=by cases t with | nil=>simp at ht2 | cons x r=>simp at ht2; exact⟨r,by rw[ht2]⟩
  have hb:a34 s (a.length+1)=r.takeWhile a4V:=by
   unfold a34
   rw[← ht]
   have:(a++40::r).drop (a.length+1)=r:=by
    rw[List.drop_append,List.drop_eq_nil_of_le (by omega)]; simp
   rw[this]
  obtain⟨u,hu⟩:=List.takeWhile_prefix (p:=a4V) (l:=r)
  have hallb:(a34 s (a.length+1)).all a4V=true:=by rw[hb]; exact List.all_takeWhile
  rw[← hb] at hu
  generalize a34 s (a.length+1)=b at *
  have hlen:u.length=1:=by
   have:=congrArg List.length ht
   rw[← hu] at this
   simp at this; omega
  obtain⟨x,rfl⟩:=List.length_eq_one_iff.1 hlen
  have hx:x=41:=by
   rw[← ht,← hu] at h4
   have:(a++40::(b++[x]))[a.length+b.length+1]? = some x:=by
    rw[List.getElem?_append_right (by omega),show a.length+b.length+1 - a.length=b.length+1 by omega,List.getElem?_cons_succ,List.getElem?_append_right (Nat.le_refl _)]; simp
   rw[this] at h4; simpa using h4
  subst hx
  exact⟨a,b,by rw[← ht,← hu],hall,hallb,λe=>h5 (by rw[e]; rfl),h6⟩
 ·rintro⟨a,b,rfl,h1,h2,h3,h4⟩
  have ha:a34 (a++40::(b++[41])) 0=a:=by
   unfold a34
   rw[List.drop_zero,List.takeWhile_append_of_pos (by simpa using h1)]
   have:a4V 40=false:=rfl
   simp[List.takeWhile_cons,this]
  have hb:a34 (a++40::(b++[41])) (a.length+1)=b:=by
   unfold a34
   have:(a++40::(b++[41])).drop (a.length+1)=b++[41]:=by
    rw[List.drop_append,List.drop_eq_nil_of_le (by omega)]; simp
   rw[this,List.takeWhile_append_of_pos (by simpa using h2)]
   have:a4V 41=false:=rfl
   simp[List.takeWhile_cons,this]
  rw[ha,hb]
  have hb0:b.length≠0:=λe=>h3 (List.length_eq_zero_iff.1 e)
  refine⟨by simp; omega,?_,by simp; omega,?_,hb0,h4⟩
  ·rw[List.getElem?_append_right (Nat.le_refl _),Nat.sub_self]; rfl
  ·rw[List.getElem?_append_right (by omega),show a.length+b.length+1 - a.length=b.length+1 by omega,List.getElem?_cons_succ,List.getElem?_append_right (Nat.le_refl _)]; simp
def a4Z (r:Str):Bool:=decide (r.drop (r.length - 1)=[41])
theorem a9T {r:Str}:a4Z r=true↔∃b,r=b++[41]:=by
 unfold a4Z
 rw[decide_eq_true_eq]
 constructor
 ·intro e
  refine⟨r.take (r.length - 1),?_⟩
  rw[← e,List.take_append_drop]
 ·rintro⟨b,rfl⟩
  simp
section
variable {L:Nat→Option PFunc} (hL:∀k f,LS k=some f→L k=some f)
include hL
theorem b7Y (s:Str) (h:List PObj):a0o L 183 [.str s,.int .u8 40] h=some (.int .i64 (Go.Lib.indexByte s 40),h):=by
 rw[b8b (hL 183 _ rfl) rfl rfl]; rfl
theorem b2V (s:Str) (h:List PObj):a0o L 181 [.str s,.str [40]] h=some (.int .i64 (Go.Lib.indexByte s 40),h):=by
 refine a0i (hL 181 _ rfl) rfl ?_
 by_cases h1:s=[40]
 ·subst h1; simp[a1b]; rfl
 ·have h2:¬[40]=s:=λe=>h1 e.symm
  simp[a1b,h1,h2,b7Y hL]
theorem c7i (s:Str) (hs:s.length≤1000) (hn:(40:UInt8)∉s) (h:List PObj):a0o L 172 [.str s,.str [40]] h=some (.tuple [.str s,.str [],.bool false],h):=by
 have h1:a0o L 179 [.str s,.str [40]] []=some (.tuple [.str s,.str [],.bool false],[]):=by
  refine a0i (hL 179 _ rfl) rfl ?_
  have:=b2V hL s []
  rw[b0q 40 s hn] at this
  simp[a1m,this]
 refine a0i (hL 172 _ rfl) rfl ?_
 simp[a49,h1]
theorem c3v (a r:Str) (hs:(a++40::r).length≤1000) (hn:(40:UInt8)∉a) (h:List PObj):a0o L 172 [.str (a++40::r),.str [40]] h=some (.tuple [.str a,.str r,.bool true],h):=by
 have h1:a0o L 179 [.str (a++40::r),.str [40]] []=some (.tuple [.str a,.str r,.bool true],[]):=by
  refine a0i (hL 179 _ rfl) rfl ?_
  have:=b2V hL (a++40::r) []
  rw[a86 40 a r hn] at this
  have hl:(a++40::r).length=a.length+(r.length+1):=by simp
  obtain⟨p,hp⟩:∃p,p=a.length+1:=⟨_,rfl⟩
  have hw:IntKind.i64.wrap ((a.length:Int)+1)=(p:Int):=by rw[a0E]<;>omega
  have ht:(a++40::r).take a.length=a:=by simp
  have hd:(a++40::r).drop p=r:=by rw[hp,List.drop_append,List.drop_eq_nil_of_le (by omega)]; simp
  generalize a++40::r=s at *
  have q1:a.length≤s.length:=by omega
  have q2:p≤s.length:=by omega
  have q2i:(p:Int)≤s.length:=by omega
  simp[a1m,this,hw,q1,q2,q2i,ht,hd]
 refine a0i (hL 172 _ rfl) rfl ?_
 generalize a++40::r=s at *
 simp[a49,h1]
theorem b7Z (r:Str) (hr:r.length≤1000) (h:List PObj):a0o L 182 [.str r,.str [41]] h=some (.bool (a4Z r),h):=by
 refine a0i (hL 182 _ rfl) rfl ?_
 unfold a4Z
 by_cases h0:r=[]
 ·subst h0
  simp[a0F]
 ·have hp:0<r.length:=List.length_pos_iff.2 h0
  have hpi:(1:Int)≤r.length:=by omega
  have hw:IntKind.i64.wrap ((r.length:Int) - 1)=((r.length - 1:Nat):Int):=by rw[a0E]<;>omega
  have hle:r.length - 1≤r.length:=by omega
  have h1n:1≤r.length:=by omega
  by_cases hx:r.drop (r.length - 1)=[41]
  ·simp[a0F,hpi,h1n,hw,hle,hx]
  ·simp[a0F,hpi,h1n,hw,hle,hx]
theorem b2W (r:Str) (hr:r.length≤1000) (h:List PObj):a0o L 173 [.str r,.str [41]] h=some (.tuple [.str (if a4Z r then r.take (r.length - 1) else r),.bool (a4Z r)],h):=by
 have h1:a0o L 180 [.str r,.str [41]] []=some (.tuple [.str (if a4Z r then r.take (r.length - 1) else r),.bool (a4Z r)],[]):=by
  refine a0i (hL 180 _ rfl) rfl ?_
  have hsu:=b7Z hL r hr []
  cases hc:a4Z r with
  | false=>rw[hc] at hsu; simp[a0Q,hsu]
  | true =>
    rw[hc] at hsu
    obtain⟨b,rfl⟩:=a9T.1 hc
    obtain⟨q,hq⟩:∃q,q=(b++[41]).length - 1:=⟨_,rfl⟩
    have hbl:(b++[41]).length=b.length+1:=by simp
    have hw:IntKind.i64.wrap (((b++[41]).length:Int) - 1)=(q:Int):=by rw[a0E]<;>omega
    have hle:q≤(b++[41]).length:=by omega
    rw[← hq]
    generalize b++[41]=r at *
    simp[a0Q,hsu,hw,hle]
 refine a0i (hL 173 _ rfl) rfl ?_
 simp[a3x,h1]
theorem a7N (s:Str) (hs:s.length≤1000) (h:List PObj):∃o:Bool,a0o L 174 [.str s] h=some (.tuple [.list o (if s.all a4V then a2L s else[]),.bool (s.all a4V)],h):=by
 refine⟨false,?_⟩
 refine a0i (hL 174 _ rfl) rfl ?_
 generalize hA:s.all a4V=A
 simp[a5w]
 refine c06 s (λ_ b=>a4V b) (λi (x:PV)=>[(3,.list true (a2L (s.take i))),(4,x),(6,.int .i64 i)]) .dead ?_ ?_ ?_ (by simp[a2L])
 ·intro i hi hok x ih
  have hw:=a0c i (by omega)
  have hb:=(b7a s[i]).1 hok
  have h49:=d1J s[i]
  have ih:=ih (.int .i64 i)
  have happ:a2L (s.take (i+1))=a2L (s.take i)++[.bool (s[i]==49)]:=by unfold a2L; rw[a14 hi,List.map_append]; rfl
  rw[happ,h49] at ih
  have hlen:(a2L (s.take i)).length+1≤2147483648:=by simp[a2L]; omega
  have hhead:a0W 1 (a2L (s.take i))=true:=by cases s.take i<;>simp[a2L]
  generalize a2L (s.take i)=z at *
  rcases hb with hb|hb
  ·simp[hi,hb,hw,hlen,hhead]
   simpa[hb] using ih
  ·simp[hi,hb,hw,hlen,hhead]
   simpa[hb] using ih
 ·intro i hi hok _ x
  have hb:=b7a s[i]
  rw[hok] at hb
  simp only[Bool.false_eq_true,false_iff,not_or] at hb
  have b1:¬(s[i].toNat:Int)=48:=by omega
  have b2:¬(s[i].toNat:Int)=49:=by omega
  have hall:s.all a4V=false:=b9g hi hok
  rw[hall] at hA; subst hA
  simp[hi,b1,b2]
 ·intro hok x
  have hall:s.all a4V=true:=c17 hok
  rw[hall] at hA; subst hA
  simp
theorem c0V (a b:List PV) (ha:a.length≤1000) (hb:b.length≤1000) (o1 o2:Bool) (h:List PObj):a0o L 175 [.agg [.list o1 a,.list o2 b]] h=some (.int .i64 (if b.length=0 then 5 else if 64<a.length+b.length then 3 else 0),h):=by
 refine a0i (hL 175 _ rfl) rfl ?_
 have hw:IntKind.i64.wrap ((a.length:Int)+(b.length:Int))=((a.length+b.length:Nat):Int):=by rw[a0E]<;>omega
 by_cases h1:b.length=0
 ·have:b=[]:=List.length_eq_zero_iff.1 h1
  subst this
  simp[a30]
 ·have h1':¬b=[]:=λe=>h1 (by rw[e]; rfl)
  generalize hm:a.length+b.length=m at *
  by_cases h2:64<m
  ·have:(64:Int)<m:=by omega
   simp[a30,h1,h1',hw,h2,this]
  ·have:¬(64:Int)<m:=by omega
   simp[a30,h1,h1',hw,h2,this]
theorem c0W (s:Str) (h:List PObj):∃(o1 o2:Bool) (a b:List PV) (e:Int),a0j a=true∧a0j b=true∧(e=0↔b1Z s=true)∧a0o L 164 [.str s] h=some (.tuple [.agg [.list o1 a,.list o2 b],.int .i64 e],h):=by
 by_cases h0:66<s.length
 ·refine⟨false,false,[],[],3,rfl,rfl,?_,a0i (hL 164 _ rfl) rfl ?_⟩
  ·unfold b1Z; simp; omega
  ·have:(66:Int)<s.length:=by omega
   simp[a1G,this]
 have h0':¬(66:Int)<s.length:=by omega
 rcases b9i 40 s with hn|⟨a,r,rfl,hn⟩
 ·have hcut:=c7i hL s (by omega) hn []
  have hsu:=b2W hL [] (by simp) []
  obtain⟨o1,hl1⟩:=a7N hL s (by omega) []
  obtain⟨o2,hl2⟩:=a7N hL [] (by simp) []
  have hcl:a4Z []=false:=rfl
  rw[hcl] at hsu
  simp at hsu
  refine⟨false,false,[],[],5,rfl,rfl,?_,a0i (hL 164 _ rfl) rfl ?_⟩
  ·rw[b2U]
   constructor
   ·intro e; exact absurd e (by decide)
   ·rintro⟨a,b,e,_⟩; exact absurd (by rw[e]; simp) hn
  ·have f1:a0j (if s.all a4V then a2L s else[])=true:=by split; exact b1W s; rfl
   generalize (if s.all a4V then a2L s else[])=za at *
   simp[a2L] at hl2
   simp[a1G,h0',hcut,hsu,hl1,hl2,f1]
 ·have hcut:=c3v hL a r (by omega) hn []
  have hlen:(a++40::r).length=a.length+(r.length+1):=by simp
  have hsu:=b2W hL r (by omega) []
  obtain⟨o1,hl1⟩:=a7N hL a (by omega) []
  have hbl:(if a4Z r then r.take (r.length - 1) else r).length≤r.length:=by split<;>simp<;>omega
  obtain⟨o2,hl2⟩:=a7N hL (if a4Z r then r.take (r.length - 1) else r) (by omega) []
  obtain⟨B,hB⟩:∃B,B=(if a4Z r then r.take (r.length - 1) else r):=⟨_,rfl⟩
  rw[← hB] at hsu hl2 hbl
  have hkey:b1Z (a++40::r)=true↔a4Z r=true∧a.all a4V=true∧B.all a4V=true∧B≠[]∧a.length+B.length≤64:=by
   rw[b2U]
   constructor
   ·rintro⟨a',b',e,h1,h2,h3,h4⟩
    have hn':(40:UInt8)∉a':=λhm=>by have:=List.all_eq_true.1 h1 _ hm; revert this; decide
    obtain⟨rfl,rfl⟩:=b2T hn hn' e
    have hc:a4Z (b'++[41])=true:=a9T.2 ⟨b',rfl⟩
    have hBb:B=b':=by rw[hB,if_pos hc]; simp
    rw[hBb]
    exact⟨hc,h1,h2,h3,h4⟩
   ·rintro⟨hc,h1,h2,h3,h4⟩
    obtain⟨b,rfl⟩:=a9T.1 hc
    have hBb:B=b:=by rw[hB,if_pos hc]; simp
    rw[hBb] at h2 h3 h4
    exact⟨a,b,rfl,h1,h2,h3,h4⟩
  have la:(a2L a).length=a.length:=b7b a
  have lb:(a2L B).length=B.length:=b7b B
  have fa:=b1W a
  have fb:=b1W B
  have hck:=c0V hL (a2L a) (a2L B) (by omega) (by omega) false false []
  rw[la,lb] at hck
  have hce:(if B.length=0 then(5:Int) else if a.length+B.length>64 then 3 else 0)=0↔B≠[]∧a.length+B.length≤64:=by
   split
   ·rename_i h1; have:B=[]:=List.length_eq_zero_iff.1 h1
    simp[this]
   ·rename_i h1; have:B≠[]:=λe=>h1 (by rw[e]; rfl)
    split
    ·simp; intro _; omega
    ·simp[this]; omega
  simp only[gt_iff_lt] at hce
  generalize hce':(if B.length=0 then(5:Int) else if 64<a.length+B.length then 3 else 0)=ce at *
  generalize a2L a=za at *
  generalize a2L B=zb at *
  generalize hAl:a.all a4V=qa at *
  generalize hBl:B.all a4V=qb at *
  generalize a++40::r=s at *
  generalize a4Z r=cl at *
  cases cl with
  | false =>
    refine⟨false,false,[],[],5,rfl,rfl,by rw[hkey]; simp,a0i (hL 164 _ rfl) rfl ?_⟩
    have f1:a0j (if qa=true then za else[])=true:=by split; exact fa; rfl
    have f2:a0j (if qb=true then zb else[])=true:=by split; exact fb; rfl
    generalize (if qa=true then za else[])=ya at *
    generalize (if qb=true then zb else[])=yb at *
    simp[a1G,h0',hcut,hsu,hl1,hl2,f1,f2]
  | true =>
    cases qa with
    | false =>
      refine⟨false,false,[],[],5,rfl,rfl,by rw[hkey]; simp,a0i (hL 164 _ rfl) rfl ?_⟩
      have f2:a0j (if qb=true then zb else[])=true:=by split; exact fb; rfl
      generalize (if qb=true then zb else[])=yb at *
      simp at hl1
      simp[a1G,h0',hcut,hsu,hl1,hl2,f2]
    | true =>
      cases qb with
      | false =>
        refine⟨false,false,[],[],5,rfl,rfl,by rw[hkey]; simp,a0i (hL 164 _ rfl) rfl ?_⟩
        simp at hl1 hl2
        simp[a1G,h0',hcut,hsu,hl1,hl2,fa]
      | true =>
        simp at hl1 hl2
        by_cases hz:ce=0
        ·refine⟨false,false,za,zb,0,fa,fb,by rw[hkey,← hce]; simp[hz],a0i (hL 164 _ rfl) rfl ?_⟩
         subst hz
         simp[a1G,h0',hcut,hsu,hl1,hl2,fa,fb,hck]
        ·refine⟨false,false,[],[],5,rfl,rfl,by rw[hkey,← hce]; simp[hz],a0i (hL 164 _ rfl) rfl ?_⟩
         simp[a1G,h0',hcut,hsu,hl1,hl2,fa,fb,hck,hz]
end
def c5r (t n:Int):Bool:=decide (t=1∧n=2∨3≤t∧1≤n∧n≤16)
def ofA (e:Expr):Bool:=
 let n:Int:=e.args.length
 if e.kind=1∨e.kind=2∨e.kind=11 then decide (n=0)
 else if e.kind=3 then decide (n=if e.op=1∨e.op=2 then 1 else 2)
 else if e.kind=4 then decide (n=3)
 else if e.kind=5∨e.kind=8 then decide (n=1)
 else if e.kind=6∨e.kind=7 then decide (n=2)
 else if e.kind=9 then decide (e.t≠2)&&c5r e.t n
 else if e.kind=10 then decide (e.v≤n) else false
def ofT (e:Expr):Bool:=
 if e.kind=1 then decide (e.t=2∧-32768≤e.v∧e.v≤32767)||decide (e.t≠2)&&a8k e.t e.v
 else if e.kind=8 then decide (e.t≠2)&&a8k e.t e.v
 else if e.kind=9 then decide (e.v=0)
 else if e.kind=10 then decide (e.t=0∧(e.v=0∨e.v=1))
 else if 1≤e.kind∧e.kind≤11 then decide (e.t=0∧e.v=0) else false
theorem b9j (e:Expr):b7f e=(ofA e&&ofT e&&c7v e&&b9H e):=by
 have key:(decide (1≤e.kind∧e.kind≤11)&&b9G e&&b6n e)=(ofA e&&ofT e):=by
  unfold b9G b6n ofA ofT c5r a8k
  rcases c7r e.kind with hk|hk|hk|hk|hk|hk|hk|hk|hk|hk|hk|hk|hk
  ·have n1:¬e.kind=1:=by omega
   have n2:¬e.kind=2:=by omega
   have n3:¬e.kind=3:=by omega
   have n4:¬e.kind=4:=by omega
   have n5:¬e.kind=5:=by omega
   have n6:¬e.kind=6:=by omega
   have n7:¬e.kind=7:=by omega
   have n8:¬e.kind=8:=by omega
   have n9:¬e.kind=9:=by omega
   have n10:¬e.kind=10:=by omega
   have n11:¬e.kind=11:=by omega
   have:¬1≤e.kind:=by omega
   simp[n1,n2,n3,n4,n5,n6,n7,n8,n9,n10,n11,this]
  ·simp only[hk]
   rw[Bool.eq_iff_iff]
   simp
   intro _; split<;>omega
  ·simp only[hk]
   rw[Bool.eq_iff_iff]
   simp
   try omega
  ·simp only[hk]
   rw[Bool.eq_iff_iff]
   simp
   try omega
  ·simp only[hk]
   rw[Bool.eq_iff_iff]
   simp
   try omega
  ·simp only[hk]
   rw[Bool.eq_iff_iff]
   simp
   try omega
  ·simp only[hk]
   rw[Bool.eq_iff_iff]
   simp
   try omega
  ·simp only[hk]
   rw[Bool.eq_iff_iff]
   simp
   try omega
  ·simp only[hk]
   rw[Bool.eq_iff_iff]
   simp
   try omega
  ·simp only[hk]
   rw[Bool.eq_iff_iff]
   simp
   split<;>omega
  ·simp only[hk]
   rw[Bool.eq_iff_iff]
   simp
   try omega
  ·simp only[hk]
   rw[Bool.eq_iff_iff]
   simp
   try omega
  ·have n1:¬e.kind=1:=by omega
   have n2:¬e.kind=2:=by omega
   have n3:¬e.kind=3:=by omega
   have n4:¬e.kind=4:=by omega
   have n5:¬e.kind=5:=by omega
   have n6:¬e.kind=6:=by omega
   have n7:¬e.kind=7:=by omega
   have n8:¬e.kind=8:=by omega
   have n9:¬e.kind=9:=by omega
   have n10:¬e.kind=10:=by omega
   have n11:¬e.kind=11:=by omega
   have:¬e.kind≤11:=by omega
   simp[n1,n2,n3,n4,n5,n6,n7,n8,n9,n10,n11,this]
 unfold b7f
 rw[key]
section
variable {L:Nat→Option PFunc} (hL:∀k f,LS k=some f→L k=some f)
include hL
theorem a7B (t v:Int) (h:List PObj):a0o L 169 [.int .i64 t,.int .i64 v] h=some (.bool (a8k t v),h):=by
 refine a0i (hL 169 _ rfl) rfl ?_
 by_cases h1:t=1
 ·subst h1
  by_cases h2:v=0
  ·simp[a5d,a8k,h2]
  ·by_cases h3:v=1<;>simp[a5d,a8k,h2,h3]
 ·by_cases h2:3≤t
  ·by_cases h3:0≤v<;>by_cases h4:v<16<;>simp[a5d,a8k,h1,h2,h3,h4]
  ·simp[a5d,a8k,h1,h2]
theorem a1R (o:Int) (h:List PObj):a0o L 170 [.int .i64 o] h=some (.int .i64 (if o=1∨o=2 then 1 else 2),h):=by
 refine a0i (hL 170 _ rfl) rfl ?_
 by_cases h1:o=1
 ·simp[a3Z,h1]
 ·by_cases h2:o=2<;>simp[a3Z,h1,h2]
theorem a1S (t n:Int) (h:List PObj):a0o L 171 [.int .i64 t,.int .i64 n] h=some (.bool (c5r t n),h):=by
 refine a0i (hL 171 _ rfl) rfl ?_
 by_cases h1:t=1
 ·subst h1
  by_cases h2:n=2<;>simp[a2V,c5r,h2]
 ·by_cases h2:3≤t
  ·by_cases h3:1≤n<;>by_cases h4:n≤16<;>simp[a2V,c5r,h1,h2,h3,h4]
  ·simp[a2V,c5r,h1,h2]
def a2W (e:Expr):PV := .agg [.bool (ofA e),.bool (decide (e.kind=3)),.bool (ofT e),.bool (a4m e.kind),.bool (decide (e.kind=11))]
theorem c3w (e:Expr) (hk:e.kind=1) (h:List PObj):a0o L 163 [a0u e] h=some (a2W e,h):=by
 refine a0i (hL 163 _ rfl) rfl ?_
 have hop:=a1R hL e.op []
 have htg:=a7B hL e.t e.v []
 have hbr:=a1S hL e.t e.args.length []
 obtain⟨n,hn⟩:∃n:Int,n=e.args.length:=⟨_,rfl⟩
 have kf:=kfs hk
 by_cases t0:e.t=0
 ·have t2:¬e.t=2:=by omega
  by_cases v0:e.v=0
  ·simp[a0O,a2W,ofA,ofT,a4m,hop,htg,hbr,a0g,a0a,kf,tf t0,tf t2,tf v0]
  ·simp[a0O,a2W,ofA,ofT,a4m,hop,htg,hbr,a0g,a0a,kf,tf t0,tf t2,tf v0]
 ·skip
  by_cases t2:e.t=2
  ·by_cases a1 : -32768≤e.v<;>by_cases a2:e.v≤32767<;>simp[a0O,a2W,ofA,ofT,a4m,hop,htg,hbr,a0g,a0a,kf,tf t0,tf t2,tf a1,tf a2]
  ·simp[a0O,a2W,ofA,ofT,a4m,hop,htg,hbr,a0g,a0a,kf,tf t0,tf t2]
theorem c3x (e:Expr) (hk:e.kind=2) (h:List PObj):a0o L 163 [a0u e] h=some (a2W e,h):=by
 refine a0i (hL 163 _ rfl) rfl ?_
 have hop:=a1R hL e.op []
 have htg:=a7B hL e.t e.v []
 have hbr:=a1S hL e.t e.args.length []
 obtain⟨n,hn⟩:∃n:Int,n=e.args.length:=⟨_,rfl⟩
 have kf:=kfs hk
 by_cases t0:e.t=0<;>by_cases v0:e.v=0<;>simp[a0O,a2W,ofA,ofT,a4m,hop,htg,hbr,a0g,a0a,kf,tf t0,tf v0]
theorem c3y (e:Expr) (hk:e.kind=3) (h:List PObj):a0o L 163 [a0u e] h=some (a2W e,h):=by
 refine a0i (hL 163 _ rfl) rfl ?_
 have hop:=a1R hL e.op []
 have htg:=a7B hL e.t e.v []
 have hbr:=a1S hL e.t e.args.length []
 obtain⟨n,hn⟩:∃n:Int,n=e.args.length:=⟨_,rfl⟩
 have kf:=kfs hk
 by_cases t0:e.t=0<;>by_cases v0:e.v=0<;>simp[a0O,a2W,ofA,ofT,a4m,hop,htg,hbr,a0g,a0a,kf,tf t0,tf v0]
theorem c3z (e:Expr) (hk:e.kind=4) (h:List PObj):a0o L 163 [a0u e] h=some (a2W e,h):=by
 refine a0i (hL 163 _ rfl) rfl ?_
 have hop:=a1R hL e.op []
 have htg:=a7B hL e.t e.v []
 have hbr:=a1S hL e.t e.args.length []
 obtain⟨n,hn⟩:∃n:Int,n=e.args.length:=⟨_,rfl⟩
 have kf:=kfs hk
 by_cases t0:e.t=0<;>by_cases v0:e.v=0<;>simp[a0O,a2W,ofA,ofT,a4m,hop,htg,hbr,a0g,a0a,kf,tf t0,tf v0]
theorem c3A (e:Expr) (hk:e.kind=5) (h:List PObj):a0o L 163 [a0u e] h=some (a2W e,h):=by
 refine a0i (hL 163 _ rfl) rfl ?_
 have hop:=a1R hL e.op []
 have htg:=a7B hL e.t e.v []
 have hbr:=a1S hL e.t e.args.length []
 obtain⟨n,hn⟩:∃n:Int,n=e.args.length:=⟨_,rfl⟩
 have kf:=kfs hk
 by_cases t0:e.t=0<;>by_cases v0:e.v=0<;>simp[a0O,a2W,ofA,ofT,a4m,hop,htg,hbr,a0g,a0a,kf,tf t0,tf v0]
theorem c3B (e:Expr) (hk:e.kind=6) (h:List PObj):a0o L 163 [a0u e] h=some (a2W e,h):=by
 refine a0i (hL 163 _ rfl) rfl ?_
 have hop:=a1R hL e.op []
 have htg:=a7B hL e.t e.v []
 have hbr:=a1S hL e.t e.args.length []
 obtain⟨n,hn⟩:∃n:Int,n=e.args.length:=⟨_,rfl⟩
 have kf:=kfs hk
 by_cases t0:e.t=0<;>by_cases v0:e.v=0<;>simp[a0O,a2W,ofA,ofT,a4m,hop,htg,hbr,a0g,a0a,kf,tf t0,tf v0]
theorem c3C (e:Expr) (hk:e.kind=7) (h:List PObj):a0o L 163 [a0u e] h=some (a2W e,h):=by
 refine a0i (hL 163 _ rfl) rfl ?_
 have hop:=a1R hL e.op []
 have htg:=a7B hL e.t e.v []
 have hbr:=a1S hL e.t e.args.length []
 obtain⟨n,hn⟩:∃n:Int,n=e.args.length:=⟨_,rfl⟩
 have kf:=kfs hk
 by_cases t0:e.t=0<;>by_cases v0:e.v=0<;>simp[a0O,a2W,ofA,ofT,a4m,hop,htg,hbr,a0g,a0a,kf,tf t0,tf v0]
theorem c3D (e:Expr) (hk:e.kind=8) (h:List PObj):a0o L 163 [a0u e] h=some (a2W e,h):=by
 refine a0i (hL 163 _ rfl) rfl ?_
 have hop:=a1R hL e.op []
 have htg:=a7B hL e.t e.v []
 have hbr:=a1S hL e.t e.args.length []
 obtain⟨n,hn⟩:∃n:Int,n=e.args.length:=⟨_,rfl⟩
 have kf:=kfs hk
 by_cases t0:e.t=0
 ·have t2:¬e.t=2:=by omega
  by_cases v0:e.v=0
  ·simp[a0O,a2W,ofA,ofT,a4m,hop,htg,hbr,a0g,a0a,kf,tf t0,tf t2,tf v0]
  ·simp[a0O,a2W,ofA,ofT,a4m,hop,htg,hbr,a0g,a0a,kf,tf t0,tf t2,tf v0]
 ·skip
  by_cases t2:e.t=2<;>simp[a0O,a2W,ofA,ofT,a4m,hop,htg,hbr,a0g,a0a,kf,tf t0,tf t2]
theorem c3E (e:Expr) (hk:e.kind=9) (h:List PObj):a0o L 163 [a0u e] h=some (a2W e,h):=by
 refine a0i (hL 163 _ rfl) rfl ?_
 have hop:=a1R hL e.op []
 have htg:=a7B hL e.t e.v []
 have hbr:=a1S hL e.t e.args.length []
 obtain⟨n,hn⟩:∃n:Int,n=e.args.length:=⟨_,rfl⟩
 have kf:=kfs hk
 by_cases t0:e.t=0
 ·have t2:¬e.t=2:=by omega
  by_cases v0:e.v=0
  ·simp[a0O,a2W,ofA,ofT,a4m,hop,htg,hbr,a0g,a0a,kf,tf t0,tf t2,tf v0]
  ·simp[a0O,a2W,ofA,ofT,a4m,hop,htg,hbr,a0g,a0a,kf,tf t0,tf t2,tf v0]
 ·skip
  by_cases t2:e.t=2<;>simp[a0O,a2W,ofA,ofT,a4m,hop,htg,hbr,a0g,a0a,kf,tf t0,tf t2]
theorem c0X (e:Expr) (hk:e.kind=10) (h:List PObj):a0o L 163 [a0u e] h=some (a2W e,h):=by
 refine a0i (hL 163 _ rfl) rfl ?_
 have hop:=a1R hL e.op []
 have htg:=a7B hL e.t e.v []
 have hbr:=a1S hL e.t e.args.length []
 obtain⟨n,hn⟩:∃n:Int,n=e.args.length:=⟨_,rfl⟩
 have kf:=kfs hk
 by_cases t0:e.t=0
 ·have t2:¬e.t=2:=by omega
  by_cases v0:e.v=0
  ·simp[a0O,a2W,ofA,ofT,a4m,hop,htg,hbr,a0g,a0a,kf,tf t0,tf t2,tf v0]
  ·by_cases v1:e.v=1<;>simp[a0O,a2W,ofA,ofT,a4m,hop,htg,hbr,a0g,a0a,kf,tf t0,tf t2,tf v0,tf v1]
 ·skip
  by_cases v1:e.v=1<;>simp[a0O,a2W,ofA,ofT,a4m,hop,htg,hbr,a0g,a0a,kf,tf t0,tf v1]
theorem c0Y (e:Expr) (hk:e.kind=11) (h:List PObj):a0o L 163 [a0u e] h=some (a2W e,h):=by
 refine a0i (hL 163 _ rfl) rfl ?_
 have hop:=a1R hL e.op []
 have htg:=a7B hL e.t e.v []
 have hbr:=a1S hL e.t e.args.length []
 obtain⟨n,hn⟩:∃n:Int,n=e.args.length:=⟨_,rfl⟩
 have kf:=kfs hk
 by_cases t0:e.t=0<;>by_cases v0:e.v=0<;>simp[a0O,a2W,ofA,ofT,a4m,hop,htg,hbr,a0g,a0a,kf,tf t0,tf v0]
theorem d0z (e:Expr) (h:List PObj):a0o L 163 [a0u e] h=some (a2W e,h):=by
 rcases c7r e.kind with hk|hk|hk|hk|hk|hk|hk|hk|hk|hk|hk|hk|hk
 ·refine a0i (hL 163 _ rfl) rfl ?_
  have k1:¬e.kind=1:=by omega
  have k2:¬e.kind=2:=by omega
  have k3:¬e.kind=3:=by omega
  have k4:¬e.kind=4:=by omega
  have k5:¬e.kind=5:=by omega
  have k6:¬e.kind=6:=by omega
  have k7:¬e.kind=7:=by omega
  have k8:¬e.kind=8:=by omega
  have k9:¬e.kind=9:=by omega
  have k10:¬e.kind=10:=by omega
  have k11:¬e.kind=11:=by omega
  have kr:¬(1≤e.kind∧e.kind≤11):=by omega
  have ht:ofT e=false:=by unfold ofT; simp only[k1,k8,k9,k10,kr,if_false]
  have ha:ofA e=false:=by unfold ofA; simp only[k1,k2,k3,k4,k5,k6,k7,k8,k9,k10,k11,or_self,if_false]
  by_cases t0:e.t=0<;>by_cases v0:e.v=0<;>simp[a0O,a2W,ha,ht,a4m,a0g,a0a,k1,k2,k3,k4,k5,k6,k7,k8,k9,k10,k11,tf t0,tf v0]
 ·exact c3w hL e hk h
 ·exact c3x hL e hk h
 ·exact c3y hL e hk h
 ·exact c3z hL e hk h
 ·exact c3A hL e hk h
 ·exact c3B hL e hk h
 ·exact c3C hL e hk h
 ·exact c3D hL e hk h
 ·exact c3E hL e hk h
 ·exact c0X hL e hk h
 ·exact c0Y hL e hk h
 ·refine a0i (hL 163 _ rfl) rfl ?_
  have k1:¬e.kind=1:=by omega
  have k2:¬e.kind=2:=by omega
  have k3:¬e.kind=3:=by omega
  have k4:¬e.kind=4:=by omega
  have k5:¬e.kind=5:=by omega
  have k6:¬e.kind=6:=by omega
  have k7:¬e.kind=7:=by omega
  have k8:¬e.kind=8:=by omega
  have k9:¬e.kind=9:=by omega
  have k10:¬e.kind=10:=by omega
  have k11:¬e.kind=11:=by omega
  have kr:¬(1≤e.kind∧e.kind≤11):=by omega
  have ht:ofT e=false:=by unfold ofT; simp only[k1,k8,k9,k10,kr,if_false]
  have ha:ofA e=false:=by unfold ofA; simp only[k1,k2,k3,k4,k5,k6,k7,k8,k9,k10,k11,or_self,if_false]
  by_cases t0:e.t=0<;>by_cases v0:e.v=0<;>simp[a0O,a2W,ha,ht,a4m,a0g,a0a,k1,k2,k3,k4,k5,k6,k7,k8,k9,k10,k11,tf t0,tf v0]
theorem c7j (e:Expr) (h:List PObj):a0o L 150 [a0u e] h=some (.int .i64 (a8l e),h):=by
 refine a0i (hL 150 _ rfl) rfl ?_
 have hof:=d0z hL e []
 have hid:=b40 hL e.name []
 obtain⟨b1,b2,wa,wb,er,f1,f2,hwo,hwp⟩:=c0W hL e.name []
 have hform:=b9j e
 unfold a8l
 by_cases hlen:64<e.args.length
 ·have hl1:(64:Int)<e.args.length:=by omega
  have hl2:¬e.args.length≤64:=by omega
  simp[a01,hlen,hl1,hl2,need,a0x]
 have hl1:¬(64:Int)<e.args.length:=by omega
 have hl2:e.args.length≤64:=by omega
 unfold a2W at hof
 generalize ofA e=A at *
 generalize ofT e=T at *
 cases A with
 | false=>simp[a01,hlen,hl1,hl2,hof,a0g,hform,need,a0x]
 | true=>
 cases T with
 | false=>simp[a01,hlen,hl1,hl2,hof,a0g,hform,need,a0x]
 | true=>
 simp only[Bool.true_and] at hform
 have hopk:(c7v e=true∧(e.kind=3→e.op≠0∧1≤e.op∧e.op≤16)∧(e.kind≠3→e.op=0))∨(c7v e=false∧(e.kind=3→e.op<1∨16<e.op)∧(e.kind≠3→e.op≠0)):=by
  unfold c7v
  by_cases hk:e.kind=3
  ·by_cases ho:1≤e.op∧e.op≤16
   ·left; simp[hk,ho]; omega
   ·right; simp[hk]; omega
  ·by_cases ho:e.op=0
   ·left; simp[hk,ho]
   ·right; simp[hk,ho]
 rcases hopk with⟨q1,q2,q3⟩|⟨q1,q2,q3⟩
 ·rw[q1,Bool.true_and] at hform
  have hrest:∀(O:Bool),(decide (e.kind=3))=O→wpL L a01.code ⟨[a0u e,.dead,.dead,.dead,.dead,.dead],[],0,h⟩ (c2M [.var 2] (.int .i64 (a0x (need (decide (e.args.length≤64)) 3) (a0x (need (b7f e) 5) (need (!a4m e.kind||a9X e.name) 6))),h)):=by
   intro O hO
   have hopf:(O=true→¬e.op=0∧¬e.op<1∧¬16<e.op)∧(O=false→e.op=0):=by
    constructor
    ·intro ho; rw[ho,decide_eq_true_eq] at hO; have:=q2 hO; omega
    ·intro ho; rw[ho,decide_eq_false_iff_not] at hO; exact q3 hO
   rw[hO] at hof
   unfold b9H at hform
   generalize a4m e.kind=N at *
   cases O with
   | true =>
     have hk:e.kind=3:=by simpa using hO
     have h11:¬e.kind=11:=by omega
     obtain⟨o1,o2,o3⟩:=hopf.1 rfl
     cases N with
     | true =>
       cases hi:a9X e.name<;>rw[hi] at hid<;>simp[a01,hlen,hl1,hl2,hof,a0g,hform,hid,o1,o2,o3,need,a0x]
     | false =>
       by_cases hnm:e.name=[]
       ·simp[a01,hlen,hl1,hl2,hof,a0g,hform,tf hnm,o1,o2,o3,tf h11,need,a0x]
       ·simp[a01,hlen,hl1,hl2,hof,a0g,hform,tf hnm,o1,o2,o3,tf h11,need,a0x]
   | false =>
     have o1:=hopf.2 rfl
     cases N with
     | true =>
       cases hi:a9X e.name<;>rw[hi] at hid<;>simp[a01,hlen,hl1,hl2,hof,a0g,hform,hid,tf o1,need,a0x]
     | false =>
       by_cases h11:e.kind=11
       ·by_cases he:er=0
        ·have hw:=hwo.1 he
         simp[a01,hlen,hl1,hl2,hof,a0g,hform,hwp,f1,f2,tf h11,he,hw,tf o1,need,a0x]
        ·have hw:b1Z e.name=false:=by
          rw[← Bool.not_eq_true]; exact λhh=>he (hwo.2 hh)
         by_cases hnm:e.name=[]<;>simp[a01,hlen,hl1,hl2,hof,a0g,hform,hwp,f1,f2,tf h11,he,hw,tf o1,tf hnm,need,a0x]
       ·by_cases hnm:e.name=[]
        ·simp[a01,hlen,hl1,hl2,hof,a0g,hform,tf hnm,tf o1,tf h11,need,a0x]
        ·simp[a01,hlen,hl1,hl2,hof,a0g,hform,tf hnm,tf o1,tf h11,need,a0x]
  have hq:=hrest _ rfl
  rw[← b88 e] at hq
  exact hq
 ·rw[q1,Bool.false_and] at hform
  by_cases hk:e.kind=3
  ·by_cases o0:e.op=0
   ·simp[a01,hlen,hl1,hl2,hof,a0g,hform,tf hk,tf o0,need,a0x]
   ·rcases q2 hk with o1|o1
    ·simp[a01,hlen,hl1,hl2,hof,a0g,hform,tf hk,tf o0,o1,need,a0x]
    ·have o2:¬e.op<1:=by omega
     simp[a01,hlen,hl1,hl2,hof,a0g,hform,tf hk,tf o0,o1,o2,need,a0x]
  ·have o0:=q3 hk
   simp[a01,hlen,hl1,hl2,hof,a0g,hform,tf hk,tf o0,need,a0x]
theorem b9k (e:Expr):e.parts≤1500→∀h,a0o L 149 [a0u e] h=some (.int .i64 e.depth,h):=by
 induction e using Expr.ind with
 | h e ih=>
 intro hp h
 have hal:=c02 e
 refine a0i (hL 149 _ rfl) rfl ?_
 simp[a7y]
 refine c0U e.args.length (λi (x:PV×Nat)=>[(3,.int .i64 ((e.args.take i).foldl (λm x=>if x.depth>m then x.depth else m) 0)),(4,x.1),(7,.int .i64 i)]) (λ_ x=>x.2) (λ_ _=>h) (.dead,1) ?_ ?_ (by simp) rfl rfl
 ·intro i hi x ih2
  have hw:=a0c i (by omega)
  have hap:=b9v (List.getElem_mem hi)
  have hc:=ih e.args[i] (List.getElem_mem hi) (by omega) []
  have ih2:=λy=>ih2 y
  rw[a14 hi,List.foldl_append] at ih2
  generalize (e.args.take i).foldl (λm x=>if x.depth>m then x.depth else m) 0=a at *
  simp[hi,hw,hc,a5R]
  simpa using ih2 (_,_)
 ·intro _
  have:=Expr.depth_eq e
  unfold wrap at this
  simp[this]
end
end PI.Sc
