import Derived.Test.YtljbhgpanekomaaGreatDoorPiRel
import Derived.Test.YtljbhgpanekomaaGreatDoorPiComp
import Derived.Deep.AppendSrc
import Derived.Laws.CopyRow
import Derived.Laws.Build
import Derived.Laws.Tables
import Derived.ProofKit
import Derived.Laws.StructEq
set_option linter.unusedSectionVars false
namespace PI
open Go
structure FI (N:Nm) (w:World) (G:GS) (st:St) (a:Act) (vs:List Tmp) (lm:Nat→Option Tmp):Prop where
 len:st.vars.length=vs.length
 var:∀(i:Nat) (t:Tmp) (u:PV),vs[i]? = some t→st.vars[i]? = some u→SR N w G (.var i) (a.eval (.tmp t)) u
 loc:∀(j:Nat) (t:Tmp) (u:PV),lm j=some t→st.locs[j]? = some u→SR N w G (.loc j) (a.eval (.tmp t)) u
 tv:∀(i:Nat) (t:Tmp),vs[i]? = some t→t<a.tmps.size
 tl:∀(j:Nat) (t:Tmp),lm j=some t→t<a.tmps.size
 defers:a.defers=G.df
 gen:∀g b,G.box g=some b→g<st.gen
 owlt:∀b k,G.ow b=some k→b<w.heap.size
 fixlt:∀b o,G.fix b o→b<w.heap.size
 heap:HR N w G st.heap
 hdom:∀n b,G.heap n=some b→n<st.heap.length
structure Names (vs:List Tmp) (lm:Nat→Option Tmp):Prop where
 vnd:∀(i i':Nat) (t:Tmp),vs[i]? = some t→vs[i']? = some t→i=i'
 sep:∀(j:Nat) (t:Tmp) (i:Nat),lm j=some t→vs[i]?≠some t
 lnd:∀(j j':Nat) (t:Tmp),lm j=some t→lm j'=some t→j=j'
def a0t (vs:List Tmp) (ops:List Oper) (j:Nat):Option Tmp:=
 match ops[j]? with
 | some o => match o.dst with
   | some t=>if (a3O t vs 0).isSome then none else some t
   | none=>none
 | none=>none
structure EnvOk (E:Env) (N:Nm):Prop where
 fn:∀f k,E.inv f=some k→N.fn k=f
 yl:∀f k,E.inv f=some k→N.yl k=none
 pt:∀T i,a3O T E.pt 0=some i→N.ty (i+1)=T
 bt:∀t,E.bT=some t→N.bT=t∧∃i,E.P.info? t=some i∧i.zero=some (.agg #[.pointer none,.slice none 0 0])
theorem a4N {w:World} {b:Nat} {cv:Array Value} {T:TypeId} {fz:Nat×Nat} (hh:w.heap[b]? = some (.cells cv T fz)) (NR:Array Value) (hs:NR.size=cv.size):ShapeLe w (w.setRow b NR):=
 .one b (λk _ hk=>setRow_other w b k _ hk) (λs hx=>by
  simp only[World.shape?,hh] at hx
  simp only[World.shape?,setRow_heap w b cv NR T fz hh,hs]
  exact hx) (λs hx=>by rw[b0j hh] at hx; simp at hx)
theorem a7F {N:Nm} {w:World} {fix:Nat→Nat→Prop} {hp:Nat→Option Nat} {v:Value} {p:PV} (h:a58 v=some p):
  VR N w fix hp v p∧p.flat=true:=by
 unfold a58 at h
 split at h<;>simp at h<;>subst h<;>refine⟨?_,rfl⟩<;>constructor
theorem a55 {N:Nm} {w:World} {fix:Nat→Nat→Prop} {hp:Nat→Option Nat}:∀{vs:List Value} {ps:List PV},a5H vs=some ps →
  vs.length=ps.length∧(∀p∈ps,p.flat=true)∧∀(i:Nat) (v:Value) (p:PV),vs[i]? = some v→ps[i]? = some p→VR N w fix hp v p
 | [],ps,h=>by simp[a5H] at h; subst h; simp
 | v :: vs, ps, h => by
   simp only[a5H,Option.bind_eq_some_iff,Option.map_eq_some_iff] at h
   obtain⟨p,hp1,qs,hq,rfl⟩:=h
   obtain⟨h1,h2,h3⟩:=a55 (N:=N) (w:=w) (fix:=fix) (hp:=hp) hq
   have hv:=a7F (N:=N) (w:=w) (fix:=fix) (hp:=hp) hp1
   refine⟨by simp[h1],by simpa using⟨hv.2,h2⟩,?_⟩
   intro i x y hx hy
   cases i with
   | zero=>simp at hx hy; subst hx hy; exact hv.1
   | succ i=>exact h3 i x y (by simpa using hx) (by simpa using hy)
theorem a3I:∀{vs:List Value} {ps:List PV},a5H vs=some ps→∀(i:Nat) (v:Value) (es:List PV),vs[i]? = some v→ps[i]? = some (.list true es)→v = .slice none 0 0
 | [],ps,h,i,v,es,h1,_=>by simp at h1
 | x :: xs, ps, h, i, v, es, h1, h2 => by
   simp only[a5H,Option.bind_eq_some_iff,Option.map_eq_some_iff] at h
   obtain⟨p,hp1,qs,hq,rfl⟩:=h
   cases i with
   | zero =>
     simp at h1 h2; subst h1 h2
     unfold a58 at hp1
     split at hp1<;>simp at hp1
     rfl
   | succ i=>exact a3I hq i v es (by simpa using h1) (by simpa using h2)
theorem a9i {N:Nm} {w:World} {fix:Nat→Nat→Prop} {hp:Nat→Option Nat} {v:Value} {p:PV} (h:a9v v=some p):
  VR N w fix hp v p:=by
 unfold a9v at h
 split at h
 ·rename_i cs
  simp only[Option.map_eq_some_iff] at h
  obtain⟨ps,h1,rfl⟩:=h
  obtain⟨a,b,c⟩:=a55 (N:=N) (w:=w) (fix:=fix) (hp:=hp) h1
  exact .agg cs ps (by simpa using a) b (λi x es hx hy=>a3I h1 i x es (by simpa using hx) hy) (λi x y hx hy=>c i x y (by simpa using hx) hy)
 ·exact(a7F h).1
theorem a7G {v:Value} {p:PV} (h:a9v v=some p):(∃es,p = .list true es∧v = .slice none 0 0)∨cp p=some p:=by
 unfold a9v at h
 split at h
 ·simp only[Option.map_eq_some_iff] at h
  obtain⟨ps,_,rfl⟩:=h
  exact .inr rfl
 ·unfold a58 at h
  split at h<;>simp at h<;>subst h<;>first|exact .inr rfl|exact .inl ⟨_,rfl,rfl⟩
theorem a28 {t:Tmp}:∀{vs:List Tmp} {n i:Nat},a3O t vs n=some i→n≤i∧vs[i - n]? = some t
 | [],n,i,h=>by simp[a3O] at h
 | x :: xs, n, i, h => by
   simp only[a3O] at h
   split at h
   ·simp at h; subst h; subst_vars; simp
   ·obtain⟨h1,h2⟩:=a28 h
    refine⟨by omega,?_⟩
    rw[show i - n=(i - (n+1))+1 by omega]
    simpa using h2
theorem b23 {t:Tmp}:∀{ops:List Oper} {n j:Nat},b8z t ops n=some j→n≤j∧∃o,ops[j - n]? = some o∧o.dst=some t
 | [],n,j,h=>by simp[b8z] at h
 | o :: os, n, j, h => by
   simp only[b8z] at h
   split at h
   ·simp at h; subst h; exact⟨Nat.le_refl _,o,by simp,by assumption⟩
   ·obtain⟨h1,o',h2,h3⟩:=b23 h
    refine⟨by omega,o',?_,h3⟩
    rw[show j - n=(j - (n+1))+1 by omega]
    simpa using h2
def b2v:PX→Key
 | .v i => .var i
 | .l j => .loc j
 | .c _ => .loc 0
section
variable {E:Env} {N:Nm} {w:World} {G:GS} {st:St} {a:Act} {vs:List Tmp} {ops:List Oper}
theorem SR.of_pure {key:Key} {v:Value} {u:PV} (h:VR N w G.fix G.heap v u) (hu:cp u=some u):SR N w G key v u:=by
 unfold SR
 split<;>first|trivial|(simp[cp] at hu; done)|exact h
theorem SR.read {key:Key} {v:Value} {u r:PV} (h:SR N w G key v u) (hr:cp u=some r):VR N w G.fix G.heap v r∧cp r=some r:=by
 unfold SR at h
 split at h
 ·simp[cp] at hr
 ·simp[cp] at hr
 ·simp[cp] at hr
 ·simp[cp] at hr; subst hr; exact⟨h.1.dem,rfl⟩
 ·have:r=dem u∧cp r=some r:=by
   unfold cp at hr
   split at hr<;>simp at hr<;>subst hr<;>(try exact⟨rfl,rfl⟩)
   refine⟨?_,?_⟩
   ·unfold dem; split
    ·rename_i hx; exact absurd rfl (hx _ _)
    ·rfl
   ·unfold cp; split<;>first|rfl|simp_all
  rw[this.1]
  exact⟨h.dem,this.1▸this.2⟩
theorem a2X (hE:EnvOk E N) {x:Operand} {px:PX} {u:PV} (hc:cx E vs ops x=some px) (hf:FI N w G st a vs (a0t vs ops)) (hr:raw st px=some u):
  SR N w G (b2v px) (a.eval x) u:=by
 cases x with
 | tmp t =>
   simp only[cx] at hc
   split at hc
   ·rename_i i hi
    simp at hc; subst hc
    obtain⟨_,h2⟩:=a28 hi
    exact hf.var i t u (by simpa using h2) hr
   ·rename_i hn
    simp only[Option.map_eq_some_iff] at hc
    obtain⟨j,hj,rfl⟩:=hc
    obtain⟨_,o,h2,h3⟩:=b23 hj
    refine hf.loc j t u ?_ hr
    simp only[Nat.sub_zero] at h2
    simp[a0t,h2,h3,hn]
 | const v =>
   simp only[cx] at hc
   split at hc
   ·rename_i hnl
    simp only[Option.some.injEq] at hc
    subst hc
    simp only[raw,Option.some.injEq] at hr
    subst hr
    have hnil:v = .slice none 0 0:=by
     simp only[Bool.and_eq_true] at hnl
     have:=hnl.2
     unfold c1N at this
     split at this
     ·rfl
     ·simp at this
    subst hnil
    exact SR.of_pure .nils' rfl
   simp only[Option.map_eq_some_iff] at hc
   obtain⟨p,hp,rfl⟩:=hc
   simp only[raw,Option.some.injEq] at hr
   subst hr
   have hv:=a9i (N:=N) (w:=w) (fix:=G.fix) (hp:=G.heap) hp
   rcases a7G hp with⟨es,rfl,rfl⟩|h
   ·exact⟨hv,trivial⟩
   ·exact SR.of_pure hv h
 | global g=>simp[cx] at hc
 | func f =>
   simp only[cx,Option.map_eq_some_iff] at hc
   obtain⟨k,hk,rfl⟩:=hc
   simp only[raw,Option.some.injEq] at hr
   subst hr
   refine SR.of_pure ?_ rfl
   have hky:=hE.yl _ _ hk
   have:=hE.fn _ _ hk
   subst this
   exact .func k #[] #[] [] [] hky rfl rfl (by simp) (by simp)
theorem a0k (hE:EnvOk E N) {x:Operand} {px:PX} {u:PV} (hc:cx E vs ops x=some px) (hf:FI N w G st a vs (a0t vs ops)) (hr:rd st px=some u):
  VR N w G.fix G.heap (a.eval x) u∧cp u=some u:=by
 simp only[rd,Option.bind_eq_some_iff] at hr
 obtain⟨r,h1,h2⟩:=hr
 exact(a2X hE hc hf h1).read h2
theorem a1T (hE:EnvOk E N) {x:Operand} {px:PX} {n:Int} (hc:cx E vs ops x=some px) (hf:FI N w G st a vs (a0t vs ops)) (hr:rdInt st px=some n):
  ∃k,a.eval x = .int k n:=by
 unfold rdInt at hr
 split at hr
 ·rename_i k m hm
  simp at hr; subst hr
  have:=(a0k hE hc hf hm).1
  generalize a.eval x=y at this
  cases this
  exact⟨_,rfl⟩
 ·simp at hr
theorem a1C (hE:EnvOk E N) (hf:FI N w G st a vs (a0t vs ops)):∀{xs:List Operand} {pxs:List PX} {us:List PV},cxs E vs ops xs=some pxs→rdAll st pxs=some us →
  xs.length=us.length∧∀(i:Nat) (x:Operand) (u:PV),xs[i]? = some x→us[i]? = some u→VR N w G.fix G.heap (a.eval x) u∧cp u=some u
 | [], pxs, us, hc, hr => by
   simp[cxs] at hc; subst hc
   simp[rdAll] at hr; subst hr; simp
 | x :: xs, pxs, us, hc, hr => by
   simp only[cxs,Option.bind_eq_some_iff,Option.map_eq_some_iff] at hc
   obtain⟨p,hp,ps,hps,rfl⟩:=hc
   simp only[rdAll,Option.bind_eq_some_iff,Option.map_eq_some_iff] at hr
   obtain⟨u,hu,us',hus,rfl⟩:=hr
   obtain⟨h1,h2⟩:=a1C hE hf hps hus
   refine⟨by simp[h1],?_⟩
   intro i y v hy hv
   cases i with
   | zero=>simp at hy hv; subst hy hv; exact a0k hE hp hf hu
   | succ i=>exact h2 i y v (by simpa using hy) (by simpa using hv)
theorem a1Z (hE:EnvOk E N) {x:Operand} {px:PX} {u:PV} (hc:cx E vs ops x=some px) (hf:FI N w G st a vs (a0t vs ops)) (hr:addr st px=some u):
  (∃s g off b,u = .lptr s g off∧a.eval x = .pointer (some ⟨b,off,none⟩)∧G.box g=some b)∨(VR N w G.fix G.heap (a.eval x) u∧cp u=some u):=by
 unfold addr at hr
 split at hr
 ·rename_i i g cs hraw
  simp at hr; subst hr
  have:=a2X hE hc hf hraw
  simp only[SR,b2v] at this
  obtain⟨b,i',hk,hv,hb,_⟩:=this
  exact .inl ⟨i,g,0,b,rfl,hv,hb⟩
 ·rename_i s g off hraw
  simp at hr; subst hr
  have:=a2X hE hc hf hraw
  simp only[SR] at this
  obtain⟨b,hv,hb⟩:=this
  exact .inl ⟨s,g,off,b,rfl,hv,hb⟩
 ·rename_i v _ _ hraw
  exact .inr ((a2X hE hc hf hraw).read hr)
 ·simp at hr
end
def a9j (d:PD) (j:Nat):Key:=
 match d with
 | .v i => .var i
 | _ => .loc j
def c1y (vs:List Tmp) (lm:Nat→Option Tmp) (j:Nat) (d:PD) (dst:Option Tmp):Prop:=
 match d with
 | .v i=>∃t,dst=some t∧vs[i]? = some t
 | .l=>∃t,dst=some t∧lm j=some t
 | .n=>dst=none
theorem a5Q (a:Act) (d t:Tmp) (v:Value) (hd:d<a.tmps.size):(a.put (some d) v).eval (.tmp t)=if t=d then v else a.eval (.tmp t):=by
 simp only[Act.put,Act.eval,Array.getD_eq_getD_getElem?,Array.getElem?_setIfInBounds]
 by_cases h:t=d
 ·subst h; simp[hd]
 ·simp[h,Ne.symm h]
theorem FI.put {N:Nm} {w:World} {G:GS} {st:St} {a:Act} {vs:List Tmp} {lm:Nat→Option Tmp} {j:Nat} {d:PD} {dst:Option Tmp} {v:Value} {u:PV}
  (h:FI N w G st a vs lm) (nm:Names vs lm) (hd:c1y vs lm j d dst) (hs:SR N w G (a9j d j) v u):FI N w G (put st j d u) (a.put dst v) vs lm:=by
 cases d with
 | n =>
   simp only[c1y] at hd; subst hd
   exact h
 | v i =>
   obtain⟨t,rfl,ht⟩:=hd
   have hsz:=h.tv i t ht
   refine⟨by simp[PI.put,h.len],?_,?_,?_,?_,h.defers,h.gen,h.owlt,h.fixlt,h.heap,h.hdom⟩
   ·intro i' t' u' h1 h2
    rw[a5Q _ _ _ _ hsz]
    simp only[PI.put,List.getElem?_set] at h2
    by_cases hi:i=i'
    ·subst hi
     have:t'=t:=by rw[ht] at h1; simpa using h1.symm
     subst this
     split at h2
     ·split at h2
      ·simp at h2; subst h2; simp only[if_true]; exact hs
      ·simp at h2
     ·exact absurd rfl ‹_›
    ·rw[if_neg hi] at h2
     have hne:t'≠t:=λe=>hi (nm.vnd i i' t ht (e▸h1))
     rw[if_neg hne]
     exact h.var i' t' u' h1 h2
   ·intro j' t' u' h1 h2
    rw[a5Q _ _ _ _ hsz,if_neg (λe:t'=t=>nm.sep j' t' i h1 (e▸ht))]
    exact h.loc j' t' u' h1 h2
   ·intro i' t' h1; simpa[Act.put] using h.tv i' t' h1
   ·intro j' t' h1; simpa[Act.put] using h.tl j' t' h1
 | l =>
   obtain⟨t,rfl,ht⟩:=hd
   have hsz:=h.tl j t ht
   refine⟨h.len,?_,?_,?_,?_,h.defers,h.gen,h.owlt,h.fixlt,h.heap,h.hdom⟩
   ·intro i' t' u' h1 h2
    rw[a5Q _ _ _ _ hsz,if_neg (λe:t'=t=>nm.sep j t i' ht (e▸h1))]
    exact h.var i' t' u' h1 h2
   ·intro j' t' u' h1 h2
    rw[a5Q _ _ _ _ hsz]
    simp only[PI.put,List.getElem?_set] at h2
    by_cases hj:j=j'
    ·subst hj
     have:t'=t:=by rw[ht] at h1; simpa using h1.symm
     subst this
     split at h2
     ·split at h2
      ·simp at h2; subst h2; simp only[if_true]; exact hs
      ·simp at h2
     ·exact absurd rfl ‹_›
    ·rw[if_neg hj] at h2
     have hne:t'≠t:=λe=>hj (nm.lnd j j' t ht (e▸h1))
     rw[if_neg hne]
     exact h.loc j' t' u' h1 h2
   ·intro i' t' h1; simpa[Act.put] using h.tv i' t' h1
   ·intro j' t' h1; simpa[Act.put] using h.tl j' t' h1
theorem FI.ext {N:Nm} {w w':World} {G G':GS} {st:St} {a:Act} {vs:List Tmp} {lm:Nat→Option Tmp} (h:FI N w G st a vs lm) (e:Ext w G w' G')
  (hk:a6B (λ_=>False) w G w' G') (hg:∀g b,G'.box g=some b→g<st.gen) (ho:∀b k,G'.ow b=some k→b<w'.heap.size) (hx:∀b o,G'.fix b o→b<w'.heap.size) (hh:G'.heap=G.heap:=by rfl):
  FI N w' G' st a vs lm:=
 ⟨h.len,λi t u h1 h2=>(h.var i t u h1 h2).keep e hk (λh=>h) (λ_ _ _ h=>h),λj t u h1 h2=>(h.loc j t u h1 h2).keep e hk (λh=>h) (λ_ _ _ h=>h),h.tv,h.tl,(h.defers.trans e.df.symm),hg,ho,hx,h.heap.keep e hk (λ_ _ h=>h),by rw[hh]; exact h.hdom⟩
theorem a17 {vs:List Tmp} {ops:List Oper} {j:Nat} {o:Oper} (ho:ops[j]? = some o):c1y vs (a0t vs ops) j (a3j vs o.dst) o.dst:=by
 unfold a3j
 split
 ·rename_i h; exact h
 ·rename_i t h
  cases hi:a3O t vs 0 with
  | some i =>
    obtain⟨_,h2⟩:=a28 hi
    exact⟨t,h,by simpa using h2⟩
  | none=>exact⟨t,h,by simp[a0t,ho,h,hi]⟩
theorem a1v (a:Act) (d:Option Tmp) (v:Value):(a.put d v).tmps.size=a.tmps.size:=by
 cases d<;>simp[Act.put]
theorem a0l {P:Program} {N:Nm} {w:World} {G:GS} {st:St} {a:Act} {vs:List Tmp} {ops:List Oper} {j:Nat} {o:Oper} {v:Value} {u:PV} {next:Act→World→Prop}
  {Q:Exit→Act→World→Prop} (nm:Names vs (a0t vs ops)) (ho:ops[j]? = some o) (hf:FI N w G st a vs (a0t vs ops)) (hrun:(execOp a.eval o).run P w = .ok (.value v) w)
  (hs:SR N w G (a9j (a3j vs o.dst) j) v u) (hk:∀a' w' G',FI N w' G' (put st j (a3j vs o.dst) u) a' vs (a0t vs ops)→Ext w G w' G'→a'.tmps.size=a.tmps.size→next a' w'):o.wp P a w next Q:=by
 unfold Oper.wp
 rw[hrun]
 exact hk _ _ _ (hf.put nm (a17 ho) hs) (Ext.refl _ _) (a1v _ _ _)
theorem a8A (s:ByteArray):s.toList=s.data.toList:=ByteArray.toList_eq s
section
variable {E:Env} {N:Nm} {w:World} {G:GS} {st:St} {a:Act} {vs:List Tmp} {ops:List Oper} {P:Program}
theorem a3q {t:TypeId} {n:Nat} (h:a05 P t=some n):a0T P t=false→n=1:=by
 intro ha
 unfold a05 at h
 split at h
 ·split at h
  ·simp at h
  ·rename_i hn
   simp only[not_or,not_and,Decidable.not_not] at hn
   simp at h; subst h
   exact hn.2.2 ha
 ·simp at h
theorem a0n {t:TypeId} {n:Nat} (h:a05 P t=some n):∃i d,P.info? t=some i∧i.size=n∧n≠0∧P.underlying t=some d:=by
 unfold a05 at h
 split at h
 ·rename_i i hi
  split at h
  ·simp at h
  ·rename_i hn
   simp at h; subst h
   simp only[not_or] at hn
   obtain⟨hn1,hn2,_⟩:=hn
   cases hu:P.underlying t with
   | none=>simp[hu] at hn2
   | some d=>exact⟨i,d,hi,rfl,hn1,rfl⟩
 ·simp at h
theorem a08 {t:TypeId} {n:Nat} (h:a05 P t=some n) (w:World):(Go.sizeOf t).run P w = .ok n w:=by
 obtain⟨i,d,hi,rfl,_,_⟩:=a0n h
 simp[Go.sizeOf,typeInfo,hi]
theorem a4o {t:TypeId} {n:Nat} (h:a05 P t=some n) (w:World):(isAgg t).run P w = .ok (a0T P t) w:=by
 obtain⟨i,d,_,_,_,hd⟩:=a0n h
 simp only[isAgg,Sem.run_bind,run_underlying hd,Result.andThen_ok,a0T,hd]
 cases d<;>rfl
theorem a1X (b off n:Nat):(⟨b,off,none⟩:Addr).add n=⟨b,off+n,none⟩:=Addr.add_lit b off n
theorem a4O {t:TypeId} {n:Nat} (h:a05 P t=some n) (b off:Nat) (cs:List Value) (hl:n≤cs.length)
  (hc:∀j v,cs[j]? = some v→w.cell? ⟨b,off+j,none⟩=some v):
  (loadVar t ⟨b,off,none⟩).run P w = .ok (if a0T P t then .agg (cs.take n).toArray else cs.headD undef) w:=by
 obtain⟨i,d,hi,hn,hn0,hd⟩:=a0n h
 have hlc:(cs.take n).length=n:=by simp[hl]
 have hload:=run_loadCells_list (P:=P) w ⟨b,off,none⟩ (cs.take n) (λj v hv=>by
  rw[a1X]
  refine hc j v ?_
  rw[List.getElem?_take] at hv
  split at hv
  ·exact hv
  ·cases hv)
 rw[hlc] at hload
 unfold loadVar
 simp only[Sem.run_bind,a4o h,Result.andThen_ok,Sem.run_ite]
 by_cases ha:a0T P t=true
 ·simp[ha,a08 h,hload]
 ·simp only[Bool.not_eq_true] at ha
  cases cs with
  | nil=>simp at hl; omega
  | cons c cs =>
    have:=hc 0 c rfl
    simp only[Nat.add_zero] at this
    simp[ha,this]
def CellsR (N:Nm) (w:World) (fix:Nat→Nat→Prop) (hp:Nat→Option Nat) (cs:List Value) (ps:List PV):Prop:=
 cs.length=ps.length∧(∀x∈ps,x.flat=true)∧∀(i:Nat) (c:Value) (x:PV),cs[i]? = some c→ps[i]? = some x→VR N w fix hp c x
theorem CellsR.dem {fix:Nat→Nat→Prop} {hp:Nat→Option Nat} {cs:List Value} {ps:List PV} (h:CellsR N w fix hp cs ps):CellsR N w fix hp cs (ps.map dem):=by
 refine⟨by simpa using h.1,?_,?_⟩
 ·intro x hx
  obtain⟨y,hy,rfl⟩:=List.mem_map.1 hx
  rw[a6A]; exact h.2.1 y hy
 ·intro i c x hc hx
  simp only[List.getElem?_map,Option.map_eq_some_iff] at hx
  obtain⟨y,hy,rfl⟩:=hx
  exact(h.2.2 i c y hc hy).dem
theorem CellsR.take {fix:Nat→Nat→Prop} {hp:Nat→Option Nat} {cs:List Value} {ps:List PV} (h:CellsR N w fix hp cs ps) (n:Nat):CellsR N w fix hp (cs.take n) (ps.take n):=by
 refine⟨by simp[h.1],λx hx=>h.2.1 x (List.mem_of_mem_take hx),?_⟩
 intro i c x hc hx
 rw[List.getElem?_take] at hc hx
 split at hc
 ·rename_i hi; rw[if_pos hi] at hx; exact h.2.2 i c x hc hx
 ·cases hc
theorem CellsR.drop {fix:Nat→Nat→Prop} {hp:Nat→Option Nat} {cs:List Value} {ps:List PV} (h:CellsR N w fix hp cs ps) (n:Nat):CellsR N w fix hp (cs.drop n) (ps.drop n):=by
 refine⟨by simp[h.1],λx hx=>h.2.1 x (List.mem_of_mem_drop hx),?_⟩
 intro i c x hc hx
 rw[List.getElem?_drop] at hc hx
 exact h.2.2 _ c x hc hx
theorem CellsR.append {fix:Nat→Nat→Prop} {hp:Nat→Option Nat} {cs ds:List Value} {ps qs:List PV} (h:CellsR N w fix hp cs ps) (k:CellsR N w fix hp ds qs):
  CellsR N w fix hp (cs++ds) (ps++qs):=by
 refine⟨by simp[h.1,k.1],?_,?_⟩
 ·intro x hx
  rcases List.mem_append.1 hx with hx|hx
  ·exact h.2.1 x hx
  ·exact k.2.1 x hx
 ·intro i c x hc hx
  by_cases hi:i<cs.length
  ·rw[List.getElem?_append_left hi] at hc
   rw[List.getElem?_append_left (h.1▸hi)] at hx
   exact h.2.2 i c x hc hx
  ·rw[List.getElem?_append_right (by omega)] at hc
   rw[List.getElem?_append_right (by have:=h.1; omega),← h.1] at hx
   exact k.2.2 _ c x hc hx
def OwnNil (cs:List Value) (ps:List PV):Prop:=∀(i:Nat) (c:Value) (es:List PV),cs[i]? = some c→ps[i]? = some (.list true es)→c = .slice none 0 0
theorem OwnNil.dem (cs:List Value) (ps:List PV):OwnNil cs (ps.map PI.dem):=by
 intro i c es _ h
 simp only[List.getElem?_map,Option.map_eq_some_iff] at h
 obtain⟨q,_,hq⟩:=h
 cases q<;>simp[PI.dem] at hq
theorem OwnNil.take {cs:List Value} {ps:List PV} (h:OwnNil cs ps) (n:Nat):OwnNil (cs.take n) (ps.take n):=by
 intro i c es hc hx
 rw[List.getElem?_take] at hc hx
 split at hc
 ·rename_i hi; rw[if_pos hi] at hx; exact h i c es hc hx
 ·cases hc
theorem OwnNil.drop {cs:List Value} {ps:List PV} (h:OwnNil cs ps) (n:Nat):OwnNil (cs.drop n) (ps.drop n):=by
 intro i c es hc hx
 rw[List.getElem?_drop] at hc hx
 exact h _ c es hc hx
theorem OwnNil.append {cs ds:List Value} {ps qs:List PV} (hl:cs.length=ps.length) (h:OwnNil cs ps) (k:OwnNil ds qs):OwnNil (cs++ds) (ps++qs):=by
 intro i c es hc hx
 by_cases hi:i<cs.length
 ·rw[List.getElem?_append_left hi] at hc
  rw[List.getElem?_append_left (hl▸hi)] at hx
  exact h i c es hc hx
 ·rw[List.getElem?_append_right (by omega)] at hc
  rw[List.getElem?_append_right (by omega),← hl] at hx
  exact k _ c es hc hx
theorem CellsR.agg {fix:Nat→Nat→Prop} {hp:Nat→Option Nat} {cs:List Value} {ps:List PV} (h:CellsR N w fix hp cs ps) (ho:OwnNil cs ps):VR N w fix hp (.agg cs.toArray) (.agg ps):=
 .agg cs.toArray ps (by simpa using h.1) h.2.1 (λi c es hc hp=>ho i c es (by simpa using hc) hp) (λi c p hc hp=>h.2.2 i c p (by simpa using hc) hp)
theorem CellsR.of_agg {fix:Nat→Nat→Prop} {hp:Nat→Option Nat} {v:Value} {ps:List PV} (h:VR N w fix hp v (.agg ps)):∃cs:Array Value,v = .agg cs∧CellsR N w fix hp cs.toList ps:=by
 cases h with
 | agg cs _ hlen hflat _ hvr=>exact⟨cs,rfl,by simpa using hlen,hflat,λi c p hc hp=>hvr i c p (by simpa using hc) hp⟩
theorem OwnNil.of_agg {fix:Nat→Nat→Prop} {hp:Nat→Option Nat} {cs:Array Value} {ps:List PV} (h:VR N w fix hp (.agg cs) (.agg ps)):OwnNil cs.toList ps:=by
 cases h with
 | agg _ _ hlen hflat hown hvr=>exact λi c es hc hp=>hown i c es (by simpa using hc) hp
theorem CellsR.of_cells {fix:Nat→Nat→Prop} {hp:Nat→Option Nat} {v:Value} {p:PV} (h:VR N w fix hp v p) (h0:p.cells≠[]):CellsR N w fix hp v.cells.toList p.cells:=by
 obtain⟨h1,h2,h3⟩:=h.cells h0
 exact⟨by simpa using h1,h2,λi c x hc hx=>h3 i c x (by simpa using hc) hx⟩
theorem a18 {fix:Nat→Nat→Prop} {hp:Nat→Option Nat} {size:Nat} {agg:Bool} {ps:List PV} {off:Nat} {u:PV} {cs:List Value} (h:CellsR N w fix hp cs ps)
  (hl:a0a size agg ps off=some u) (hs:size≠0) (h1:agg=false→size=1):
  off+size≤cs.length∧VR N w fix hp (if agg then .agg ((cs.drop off).take size).toArray else(cs.drop off).headD undef) u∧cp u=some u:=by
 unfold a0a at hl
 cases agg with
 | true =>
   simp only[if_true] at hl
   split at hl
   ·rename_i hle
    simp only[Option.some.injEq] at hl; subst hl
    refine⟨by rw[h.1]; exact hle,?_,rfl⟩
    rw[if_pos rfl]
    exact(((h.drop off).take size).dem).agg (OwnNil.dem _ _)
   ·simp at hl
 | false =>
   have hs1:=h1 rfl
   subst hs1
   simp only[Bool.false_eq_true,if_false] at hl
   split at hl
   ·rename_i v hv
    have hlt:off<ps.length:=(List.getElem?_eq_some_iff.1 hv).1
    have hlt':off<cs.length:=by rw[h.1]; exact hlt
    refine⟨by omega,?_⟩
    have hvr:=h.2.2 off cs[off] v (List.getElem?_eq_getElem hlt') hv
    have hd:(cs.drop off).headD undef=cs[off]:=by rw[List.drop_eq_getElem_cons hlt']; rfl
    simp only[Bool.false_eq_true,if_false,hd]
    unfold cp at hl
    split at hl<;>simp at hl<;>subst hl
    ·exact⟨hvr.dem,rfl⟩
    ·refine⟨hvr,?_⟩
     unfold cp; split<;>first|rfl|simp_all
   ·simp at hl
theorem SR.lptr {key:Key} {s g off b:Nat} {v:Value} (hv:v = .pointer (some ⟨b,off,none⟩)) (hb:G.box g=some b):SR N w G key v (.lptr s g off):=⟨b,hv,hb⟩
variable {o:Oper} {j:Nat} {next:Act→World→Prop} {Q:Exit→Act→World→Prop} {u:PV} {st1:St}
abbrev a2Z (N:Nm) (w:World) (G:GS) (a:Act) (st1:St) (u:PV) (vs:List Tmp) (ops:List Oper) (j:Nat) (o:Oper) (next:Act→World→Prop):Prop:=
 ∀a' w' G',FI N w' G' (put st1 j (a3j vs o.dst) u) a' vs (a0t vs ops)→Ext w G w' G'→a'.tmps.size=a.tmps.size→next a' w'
theorem b9Q (hE:EnvOk E N) (nm:Names vs (a0t vs ops)) (ho:ops[j]? = some o) (hf:FI N w G st a vs (a0t vs ops)) {x:Operand} {p:PX} (hx:(execOp a.eval o).run P w = .ok (.value (a.eval x)) w)
  (hc:cx E vs ops x=some p) (hs:(rd st p).map (·,st)=some (u,st1)) (hk:a2Z N w G a st1 u vs ops j o next):o.wp P a w next Q:=by
 simp only[Option.map_eq_some_iff,Prod.mk.injEq] at hs
 obtain⟨r,hr,rfl,rfl⟩:=hs
 obtain⟨h1,h2⟩:=a0k hE hc hf hr
 exact a0l nm ho hf hx (SR.of_pure h1 h2) hk
theorem b8c (hE:EnvOk E N) (nm:Names vs (a0t vs ops)) (ho:ops[j]? = some o) (hf:FI N w G st a vs (a0t vs ops)) {c x y:Operand} {pc px py:PX} (hop:o.op = .pick c x y)
  (hc:cx E vs ops c=some pc) (hx:cx E vs ops x=some px) (hy:cx E vs ops y=some py) {cf:a0v} (hs:opv cf (.pick pc px py) st=some (u,st1)) (hk:a2Z N w G a st1 u vs ops j o next):o.wp P a w next Q:=by
 simp only[opv] at hs
 split at hs
 ·rename_i t ht
  simp only[Option.map_eq_some_iff,Prod.mk.injEq] at hs
  obtain⟨r,hr,rfl,rfl⟩:=hs
  have hb:=(a0k hE hc hf ht).1
  have hbe:a.eval c = .bool t:=by generalize a.eval c=z at hb; cases hb; rfl
  cases t with
  | true =>
    obtain⟨h1,h2⟩:=a0k hE hx hf hr
    exact a0l nm ho hf (by simp[execOp,hop,hbe,asBool]) (SR.of_pure h1 h2) hk
  | false =>
    obtain⟨h1,h2⟩:=a0k hE hy hf hr
    exact a0l nm ho hf (by simp[execOp,hop,hbe,asBool]) (SR.of_pure h1 h2) hk
 ·simp at hs
theorem b6t (hE:EnvOk E N) (nm:Names vs (a0t vs ops)) (ho:ops[j]? = some o) (hf:FI N w G st a vs (a0t vs ops)) {s:TypeId} {x:Operand} {f:Nat} {px:PX} {fs:Array Field} {fd:Field} {n:Nat} (hop:o.op = .fieldAddr s x f)
  (hu:P.underlying s=some (.struct fs)) (hfd:fs[f]? = some fd) (hn:a05 P fd.type=some n) (hx:cx E vs ops x=some px) {cf:a0v} (hs:opv cf (.faddr fd.offset px) st=some (u,st1)) (hk:a2Z N w G a st1 u vs ops j o next):o.wp P a w next Q:=by
 have hn0:n≠0:=by obtain⟨_,_,_,_,h,_⟩:=a0n hn; exact h
 have run:∀b off,a.eval x = .pointer (some ⟨b,off,none⟩)→(execOp a.eval o).run P w = .ok (.value (.pointer (some ⟨b,off+fd.offset,none⟩))) w:=by
  intro b off h
  simp[execOp,hop,h,Instr.fieldAt,run_underlying hu,hfd,Instr.sureAddr,fieldPlace,a08 hn,hn0,a1X]
 simp only[opv] at hs
 split at hs
 ·rename_i cs ha
  simp only[Option.some.injEq,Prod.mk.injEq] at hs
  obtain⟨rfl,rfl⟩:=hs
  rcases a1Z hE hx hf ha with⟨_,_,_,_,h,_⟩|⟨h,_⟩
  ·simp at h
  ·generalize hv:a.eval x=v at h
   cases h with
   | cptr b off _ cv hflat hcell hvr =>
     refine a0l nm ho hf (run b off hv) (SR.of_pure ?_ rfl) hk
     refine .cptr b (off+fd.offset) _ (λk=>cv (fd.offset+k)) (λy hy=>hflat y (List.mem_of_mem_drop hy)) ?_ ?_
     ·intro k hk
      have:=hcell (fd.offset+k) (by simp at hk; omega)
      simpa[Nat.add_assoc] using this
     ·intro k y hy
      rw[List.getElem?_drop] at hy
      exact hvr _ _ hy
 ·rename_i s' g off ha
  simp only[Option.some.injEq,Prod.mk.injEq] at hs
  obtain⟨rfl,rfl⟩:=hs
  rcases a1Z hE hx hf ha with⟨_,_,_,b,h,hv,hb⟩|⟨_,h⟩
  ·simp at h
   obtain⟨rfl,rfl,rfl⟩:=h
   exact a0l nm ho hf (run b _ hv) (SR.lptr rfl hb) hk
  ·simp[cp] at h
 ·rename_i n' off ha
  simp only[Option.some.injEq,Prod.mk.injEq] at hs
  obtain⟨rfl,rfl⟩:=hs
  rcases a1Z hE hx hf ha with⟨_,_,_,_,h,_⟩|⟨h,_⟩
  ·simp at h
  ·generalize hv:a.eval x=v at h
   cases h with
   | ptr _ _ b hb=>exact a0l nm ho hf (run b off hv) (SR.of_pure (.ptr _ _ b hb) rfl) hk
 ·simp at hs
theorem b5i (hE:EnvOk E N) (nm:Names vs (a0t vs ops)) (ho:ops[j]? = some o) (hf:FI N w G st a vs (a0t vs ops)) {t e:TypeId} {x i:Operand} {px pi:PX} {n:Nat} (hop:o.op = .indexAddr t x i)
  (hu:P.underlying t=some (.slice e)) (hn:a05 P e=some n) (hx:cx E vs ops x=some px) (hi:cx E vs ops i=some pi) {cf:a0v} (hs:opv cf (.iaddrS n px pi) st=some (u,st1)) (hk:a2Z N w G a st1 u vs ops j o next):o.wp P a w next Q:=by
 simp only[opv] at hs
 split at hs
 ·rename_i own es m hes hm
  split at hs
  ·rename_i hm0
   split at hs
   ·rename_i y hy
    split at hs
    ·rename_i hyl
     simp only[Option.some.injEq,Prod.mk.injEq] at hs
     obtain⟨rfl,rfl⟩:=hs
     have h:=(a0k hE hx hf hes).1
     obtain⟨k,hik⟩:=a1T hE hi hf hm
     have hlt:m.toNat<es.length:=(List.getElem?_eq_some_iff.1 hy).1
     generalize hv:a.eval x=v at h
     cases h with
     | nils=>simp at hlt
     | void=>simp at hlt
     | list _ b off len cap sz _ cv hlen hcap hsz hflat hcell hvr =>
       have hmem:y∈es:=List.mem_of_getElem? hy
       have hszn:sz=n:=by rw[← hsz y hmem]; exact hyl
       subst hszn
       have hrun:(execOp a.eval o).run P w = .ok (.value (.pointer (some ⟨b,off+m.toNat*sz,none⟩))) w:=by
        have h1:m<len:=by omega
        simp[execOp,hop,hv,hik,Instr.indexAt,asIntOf,run_underlying hu,hm0,h1,a08 hn,a1X]
       refine a0l nm ho hf hrun (SR.of_pure ?_ rfl) hk
       refine .cptr b _ _ (λk=>cv (m.toNat*sz+k)) (hflat y hmem) ?_ ?_
       ·intro k hk
        rw[hyl] at hk
        have hb:m.toNat*sz+k<len*sz:=by
         have:(m.toNat+1)*sz≤len*sz:=Nat.mul_le_mul_right _ (by omega)
         rw[Nat.add_mul] at this; omega
        have:=hcell _ hb
        simpa[Nat.add_assoc] using this
       ·intro k z hz
        exact hvr _ _ hy _ _ hz
    ·simp at hs
   ·simp at hs
  ·simp at hs
 ·rename_i r sz agg len m hes hm
  split at hs
  ·rename_i hc
   obtain⟨rfl,hm0,hlt⟩:=hc
   simp only[Option.some.injEq,Prod.mk.injEq] at hs
   obtain⟨rfl,rfl⟩:=hs
   have h:=(a0k hE hx hf hes).1
   obtain⟨k,hik⟩:=a1T hE hi hf hm
   generalize hv:a.eval x=v at h
   cases h with
   | rowp _ _ _ _ b cap hb hcap hsh =>
     have hrun:(execOp a.eval o).run P w = .ok (.value (.pointer (some ⟨b,0+m.toNat*sz,none⟩))) w:=by
      simp[execOp,hop,hv,hik,Instr.indexAt,asIntOf,run_underlying hu,hm0,hlt,a08 hn,a1X]
     rw[Nat.zero_add] at hrun
     exact a0l nm ho hf hrun (SR.of_pure (.ptr _ _ b hb) rfl) hk
  ·simp at hs
 ·simp at hs
theorem b5j (hE:EnvOk E N) (nm:Names vs (a0t vs ops)) (ho:ops[j]? = some o) (hf:FI N w G st a vs (a0t vs ops)) {t e:TypeId} {x i:Operand} {px pi:PX} {n len:Nat} (hop:o.op = .indexAddr t x i)
  (hu:P.underlying t=some (.array len e)) (hn:a05 P e=some n) (hx:cx E vs ops x=some px) (hi:cx E vs ops i=some pi) {cf:a0v} (hs:opv cf (.iaddrA len n px pi) st=some (u,st1)) (hk:a2Z N w G a st1 u vs ops j o next):o.wp P a w next Q:=by
 have run:∀b off m k,a.eval x = .pointer (some ⟨b,off,none⟩)→a.eval i = .int k m→0≤m→m<len→(execOp a.eval o).run P w = .ok (.value (.pointer (some ⟨b,off+m.toNat*n,none⟩))) w:=by
  intro b off m k hv hik h0 h1
  simp[execOp,hop,hv,hik,Instr.indexAt,asIntOf,run_underlying hu,Instr.sureAddr,h0,h1,a08 hn,a1X]
 simp only[opv] at hs
 split at hs
 ·rename_i s g off m ha hm
  split at hs
  ·rename_i hb
   simp only[Option.some.injEq,Prod.mk.injEq] at hs
   obtain⟨rfl,rfl⟩:=hs
   obtain⟨k,hik⟩:=a1T hE hi hf hm
   rcases a1Z hE hx hf ha with⟨_,_,_,b,h,hv,hbx⟩|⟨_,h⟩
   ·simp at h
    obtain⟨rfl,rfl,rfl⟩:=h
    exact a0l nm ho hf (run b _ m k hv hik hb.1 hb.2) (SR.lptr rfl hbx) hk
   ·simp[cp] at h
  ·simp at hs
 ·rename_i cs m ha hm
  split at hs
  ·rename_i hb
   simp only[Option.some.injEq,Prod.mk.injEq] at hs
   obtain⟨rfl,rfl⟩:=hs
   obtain⟨k,hik⟩:=a1T hE hi hf hm
   rcases a1Z hE hx hf ha with⟨_,_,_,_,h,_⟩|⟨h,_⟩
   ·simp at h
   ·generalize hv:a.eval x=v at h
    cases h with
    | cptr b off _ cv hflat hcell hvr =>
      refine a0l nm ho hf (run b off m k hv hik hb.1 hb.2) (SR.of_pure ?_ rfl) hk
      refine .cptr b _ _ (λk=>cv (m.toNat*n+k)) (λy hy=>hflat y (List.mem_of_mem_drop hy)) ?_ ?_
      ·intro k hk
       have:=hcell (m.toNat*n+k) (by simp at hk; omega)
       simpa[Nat.add_assoc] using this
      ·intro k y hy
       rw[List.getElem?_drop] at hy
       exact hvr _ _ hy
  ·simp at hs
 ·simp at hs
theorem b12 {t:TypeId} {n:Nat} (hn:a05 P t=some n) {v:Value} {cs:List PV} {u:PV} (h:VR N w G.fix G.heap v (.cptr cs))
  (hl:a0a n (a0T P t) cs 0=some u):∃r,(Instr.loadAt t v).run P w = .ok r w∧VR N w G.fix G.heap r u∧cp u=some u:=by
 cases h with
 | cptr b off _ cv hflat hcell hvr =>
   have hn0:n≠0:=by obtain⟨_,_,_,_,h,_⟩:=a0n hn; exact h
   let ds:List Value:=(List.range cs.length).map cv
   have hR:CellsR N w G.fix G.heap ds cs:=by
    refine⟨by simp[ds],hflat,?_⟩
    intro i c x hc hx
    have hi:i<cs.length:=(List.getElem?_eq_some_iff.1 hx).1
    simp[ds,hi] at hc
    subst hc
    exact hvr i x hx
   obtain⟨h1,h2,h3⟩:=a18 hR hl hn0 (a3q hn)
   refine⟨_,?_,h2,h3⟩
   have:=a4O (w:=w) hn b off ds (by simpa using h1) (λj v hv=>by
    have hj:j<cs.length:=by have:=(List.getElem?_eq_some_iff.1 hv).1; simpa[ds] using this
    simp[ds,hj] at hv
    subst hv
    exact(hcell j hj).1)
   simpa[Instr.loadAt,Instr.sureAddr] using this
theorem b6u (hE:EnvOk E N) (nm:Names vs (a0t vs ops)) (ho:ops[j]? = some o) (hf:FI N w G st a vs (a0t vs ops)) {t:TypeId} {x:Operand} {f:Nat} {px:PX} {fs:Array Field} {fd:Field} {n:Nat} (hop:o.op = .field t x f)
  (hu:P.underlying t=some (.struct fs)) (hfd:fs[f]? = some fd) (hn:a05 P fd.type=some n) (hx:cx E vs ops x=some px) {cf:a0v}
  (hs:opv cf (.field fd.offset n (a0T P fd.type) px) st=some (u,st1)) (hk:a2Z N w G a st1 u vs ops j o next):o.wp P a w next Q:=by
 have hn0:n≠0:=by obtain⟨_,_,_,_,h,_⟩:=a0n hn; exact h
 simp only[opv] at hs
 split at hs
 ·rename_i ps hps
  simp only[Option.map_eq_some_iff,Prod.mk.injEq] at hs
  obtain⟨r,hr,rfl,rfl⟩:=hs
  obtain⟨cs,hv,hR⟩:=CellsR.of_agg (a0k hE hx hf hps).1
  obtain⟨h1,h2,h3⟩:=a18 hR hr hn0 (a3q hn)
  refine a0l nm ho hf ?_ (SR.of_pure h2 h3) hk
  have hx:(Instr.field t (.agg cs) f).run P w = .ok (if a0T P fd.type then .agg ((cs.toList.drop fd.offset).take n).toArray else(cs.toList.drop fd.offset).headD undef) w:=by
   simp only[Instr.field,Sem.run_bind,run_underlying hu,Result.andThen_ok,hfd,asAgg,Sem.run_pure,part,a4o hn,Sem.run_ite,a08 hn]
   by_cases ha:a0T P fd.type=true
   ·simp only[ha,if_true]
    congr 2
    apply Array.ext'
    simp
   ·simp only[Bool.not_eq_true] at ha
    have hlt:fd.offset<cs.size:=by simp at h1; omega
    simp[ha,List.drop_eq_getElem_cons (l:=cs.toList) (i:=fd.offset) (by simpa using hlt),hlt]
  simp[execOp,hop,hv,hx]
 ·simp at hs
theorem b2w (hE:EnvOk E N) (nm:Names vs (a0t vs ops)) (ho:ops[j]? = some o) (hf:FI N w G st a vs (a0t vs ops)) {t:TypeId} {x i:Operand} {px pi:PX} (hop:o.op = .index t x i)
  (hu:P.underlying t=some .string) (hx:cx E vs ops x=some px) (hi:cx E vs ops i=some pi) {cf:a0v} (hs:opv cf (.indexStr px pi) st=some (u,st1)) (hk:a2Z N w G a st1 u vs ops j o next):o.wp P a w next Q:=by
 simp only[opv] at hs
 split at hs
 ·rename_i s m hes hm
  split at hs
  ·rename_i hm0
   split at hs
   ·rename_i y hy
    simp only[Option.some.injEq,Prod.mk.injEq] at hs
    obtain⟨rfl,rfl⟩:=hs
    have h:=(a0k hE hx hf hes).1
    obtain⟨k,hik⟩:=a1T hE hi hf hm
    generalize hv:a.eval x=v at h
    cases h with
    | str s =>
      have hy':s[m.toNat]? = some y:=by
       have hlt:m.toNat<s.data.toList.length:=(List.getElem?_eq_some_iff.1 hy).1
       have hlt':m.toNat<s.size:=by rw[Array.length_toList] at hlt; exact hlt
       rw[getElem?_pos s m.toNat hlt']
       rw[List.getElem?_eq_getElem hlt] at hy
       simp only[Option.some.injEq] at hy ⊢
       rw[← hy]; rfl
      refine a0l nm ho hf ?_ (SR.of_pure (.int _ _) rfl) hk
      simp only[execOp,hop,hv,hik,Instr.index,asIntOf,Sem.run_bind,Sem.run_pure,run_underlying hu,Result.andThen_ok,hm0,if_true,hy']
   ·simp at hs
  ·simp at hs
 ·simp at hs
end
end PI
set_option linter.unusedSimpArgs false
set_option linter.unusedVariables false
namespace PI
open Go
section
variable {E:Env} {N:Nm} {w:World} {G:GS} {st:St} {a:Act} {vs:List Tmp} {ops:List Oper} {P:Program}
variable {o:Oper} {j:Nat} {next:Act→World→Prop} {Q:Exit→Act→World→Prop} {u:PV} {st1:St}
theorem b5k {op:BinOp} {t:TypeId} {k:IntKind} {x y:Int} (h:b31 op k x y=some u):∃v,(binOp op t (.int k x) (.int k y)).run P w = .ok v w∧VR N w G.fix G.heap v u∧cp u=some u:=by
 cases op<;>simp only[b31] at h
 case quo=>
  split at h
  ·simp at h
  ·rename_i h0
   simp at h; subst h
   exact⟨_,by simp[binOp,Op.intDiv,h0],.int _ _,rfl⟩
 case rem=>
  split at h
  ·simp at h
  ·rename_i h0
   simp at h; subst h
   exact⟨_,by simp[binOp,Op.intDiv,h0],.int _ _,rfl⟩
 all_goals first
  | (simp at h; done)
  | (simp only [Option.some.injEq] at h; subst h
     first
      | exact⟨_,by simp only[binOp,Op.intArith,ne_eq,not_true_eq_false,if_false]; rfl,.int _ _,rfl⟩
      | exact⟨_,by simp only[binOp,Op.intBits,ne_eq,not_true_eq_false,if_false]; rfl,.int _ _,rfl⟩
      | exact⟨_,by simp only[binOp,Op.intCmp,ne_eq,not_true_eq_false,if_false]; rfl,.bool _,rfl⟩)
theorem b5l {op:BinOp} {t:TypeId} {x y:ByteArray} (h:b32 op x.data.toList y.data.toList=some u):
  ∃v,(binOp op t (.string x) (.string y)).run P w = .ok v w∧VR N w G.fix G.heap v u∧cp u=some u:=by
 cases op<;>simp only[b32] at h
 case add=>
  split at h
  ·rename_i hl
   simp only[Option.some.injEq] at h; subst h
   have h1:¬((x.size+y.size:Nat):Int)>IntKind.i64.max:=by
    have hx:x.data.toList.length=x.size:=Array.length_toList
    have hy:y.data.toList.length=y.size:=Array.length_toList
    rw[IntKind.max_i64]; omega
   refine⟨.string (x++y),by simp only[binOp,Op.stringOp,if_neg h1]; rfl,?_,rfl⟩
   have:(x++y).data.toList=x.data.toList++y.data.toList:=by simp
   rw[← this]
   exact .str _
  ·simp at h
 all_goals first
  | (simp at h; done)
  | (simp only [Option.some.injEq] at h; subst h
     exact⟨_,by simp only[binOp,Op.stringOp,a8A]; rfl,.bool _,rfl⟩)
theorem b13 {op:BinOp} {t:TypeId} {k k':IntKind} {x y:Int} (hop:op = .shl∨op = .shr) (h:b8v op (.int k x) (.int k' y)=some u):
  ∃v,(binOp op t (.int k x) (.int k' y)).run P w = .ok v w∧VR N w G.fix G.heap v u∧cp u=some u:=by
 rcases hop with rfl|rfl<;>simp only[b8v] at h
 ·split at h
  ·simp at h
  ·rename_i h0
   simp only[Option.some.injEq] at h; subst h
   exact⟨_,by simp only[binOp,Op.shift,if_neg h0]; rfl,.int _ _,rfl⟩
 ·split at h
  ·simp at h
  ·rename_i h0
   simp only[Option.some.injEq] at h; subst h
   exact⟨_,by simp only[binOp,Op.shift,if_neg h0]; rfl,.int _ _,rfl⟩
theorem b8d {op:BinOp} {t:TypeId} {vx vy:Value} {x y:PV} (hx:VR N w G.fix G.heap vx x) (hy:VR N w G.fix G.heap vy y) (h:b8v op x y=some u) (ox oy:Operand):
  ∃v,(do eqGuard op t ox oy vx vy; binOp op t vx vy:Sem Value).run P w = .ok v w∧VR N w G.fix G.heap v u∧cp u=some u:=by
 have key:(∃v,(binOp op t vx vy).run P w = .ok v w∧VR N w G.fix G.heap v u∧cp u=some u)∧(eqGuard op t ox oy vx vy).run P w = .ok () w:=by
  unfold b8v at h
  split at h
  ·rename_i k m k' m'
   cases hx; cases hy
   refine⟨?_,by cases op<;>simp[eqGuard]⟩
   split at h
   ·exact b13 (.inl rfl) (by simpa[b8v] using h)
   ·exact b13 (.inr rfl) (by simpa[b8v] using h)
   ·split at h
    ·subst_vars
     exact b5k h
    ·simp at h
  ·rename_i s s'
   cases hx; cases hy
   exact⟨b5l h,by cases op<;>simp[eqGuard]⟩
  ·simp at h
 obtain⟨⟨v,h1,h2,h3⟩,h4⟩:=key
 exact⟨v,by simp[h4,h1],h2,h3⟩
theorem b5m (hE:EnvOk E N) (nm:Names vs (a0t vs ops)) (ho:ops[j]? = some o) (hf:FI N w G st a vs (a0t vs ops)) {op:BinOp} {t t':TypeId} {x y:Operand} {px py:PX} (hop:o.op = .binOp op t x y t')
  (hx:cx E vs ops x=some px) (hy:cx E vs ops y=some py) {cf:a0v} (hs:opv cf (.bin op px py) st=some (u,st1)) (hk:a2Z N w G a st1 u vs ops j o next):o.wp P a w next Q:=by
 simp only[opv] at hs
 split at hs
 ·rename_i p q hp hq
  simp only[Option.map_eq_some_iff,Prod.mk.injEq] at hs
  obtain⟨r,hr,rfl,rfl⟩:=hs
  obtain⟨v,h1,h2,h3⟩:=b8d (t:=t) (P:=P) (a0k hE hx hf hp).1 (a0k hE hy hf hq).1 hr x y
  refine a0l nm ho hf ?_ (SR.of_pure h2 h3) hk
  simp only[execOp,hop,Sem.run_bind,h1,Result.andThen_ok,Sem.run_pure]
 ·simp at hs
theorem b24 {d:Nat} {t:TypeId} {k:EK} {vx vy:Value} {x y:PV} {b:Bool} (hx:VR N w G.fix G.heap vx x) (hy:VR N w G.fix G.heap vy y) (h:b6L k x y=some b) (ht:ekT P t=some k):
  (Op.equalIn (d+1) t vx vy).run P w = .ok b w:=by
 unfold ekT at ht
 unfold b6L at h
 split at h
 ·cases hx; cases hy
  simp only[Option.some.injEq] at h; subst h
  split at ht<;>simp at ht
  exact run_equalIn_bool' w d t _ _ (by assumption)
 ·cases hx; cases hy
  split at h
  ·subst_vars
   simp only[Option.some.injEq] at h; subst h
   split at ht<;>simp at ht
   exact run_equalIn_int w d t _ _ _ _ (by assumption)
  ·simp at h
 ·cases hx; cases hy
  simp only[Option.some.injEq] at h; subst h
  split at ht<;>simp at ht
  rw[run_equalIn_string w d t _ _ (by assumption),a8A,a8A]
 ·simp at h
theorem a96 {d:Nat} {cs ds:Array Value} {ps qs:List PV} (hc:CellsR N w G.fix G.heap cs.toList ps) (hd:CellsR N w G.fix G.heap ds.toList qs):∀{fs:List Field} {off:Nat} {ks:List EK} {b:Bool},
  eqFields P fs off=some ks→b33 ks (ps.drop off) (qs.drop off)=some b→(Op.eqFields (d+1) cs ds fs).run P w = .ok b w
 | [], off, ks, b, hk, h => by
   simp[eqFields] at hk; subst hk
   unfold b33 at h
   split at h<;>simp_all [Op.eqFields]
 | f :: fs, off, ks, b, hk, h => by
   simp only[eqFields] at hk
   split at hk
   ·rename_i hcond
    obtain⟨h1,h2,h3,h4⟩:=hcond
    simp only[Option.bind_eq_some_iff,Option.map_eq_some_iff] at hk
    obtain⟨k,hk1,ks',hk2,rfl⟩:=hk
    unfold b33 at h
    split at h
    ·rename_i heq _ _; simp at heq
    ·rename_i k' ks'' x xs y ys hkk hxs hys
     simp only[List.cons.injEq] at hkk
     obtain⟨rfl,rfl⟩:=hkk
     simp only[Option.bind_eq_some_iff,Option.map_eq_some_iff] at h
     obtain⟨b1,hb1,b2,hb2,rfl⟩:=h
     have hpo:ps[off]? = some x:=by
      have:=congrArg List.head? hxs; simpa[List.head?_drop] using this
     have hqo:qs[off]? = some y:=by
      have:=congrArg List.head? hys; simpa[List.head?_drop] using this
     have hlp:off<cs.size:=by have:=(List.getElem?_eq_some_iff.1 hpo).1; have:=hc.1; simp at this; omega
     have hlq:off<ds.size:=by have:=(List.getElem?_eq_some_iff.1 hqo).1; have:=hd.1; simp at this; omega
     have hpart:∀(zs:Array Value) (hz:off<zs.size),(part f.type zs f.offset).run P w = .ok zs[off] w:=by
      intro zs hz
      simp[part,a4o h3,h4,h1,hz]
     have hx:=hc.2.2 off cs[off] x (by simp[hlp]) hpo
     have hy:=hd.2.2 off ds[off] y (by simp[hlq]) hqo
     have hxs':ps.drop (off+1)=xs:=by have:=congrArg List.tail hxs; simpa[List.tail_drop] using this
     have hys':qs.drop (off+1)=ys:=by have:=congrArg List.tail hys; simpa[List.tail_drop] using this
     have ih:=a96 (d:=d) hc hd (fs:=fs) (off:=off+1) hk2 (by rw[hxs',hys']; exact hb2)
     simp only[Op.eqFields,h2,ne_eq,not_false_eq_true,if_true,Sem.run_bind,hpart cs hlp,hpart ds hlq,Result.andThen_ok,b24 hx hy hb1 hk1,Sem.run_ite]
     cases b1 with
     | true=>simpa using ih
     | false=>simp
    ·simp at h
   ·simp at hk
theorem c1z (hE:EnvOk E N) (hP:E.P=P) (nm:Names vs (a0t vs ops)) (ho:ops[j]? = some o) (hf:FI N w G st a vs (a0t vs ops)) {op:BinOp} {t t':TypeId} {x y:Operand} {px py:PX} {agg:Bool} {ks:List EK} (hop:o.op = .binOp op t x y t')
  (hop2:op = .eql∨op = .neq) (ht:eqT P t=some (some (agg,ks))) (hx:cx E vs ops x=some px) (hy:cx E vs ops y=some py) {cf:a0v} (hs:opv cf (.eq (op == .neq) agg ks px py) st=some (u,st1))
  (hk:a2Z N w G a st1 u vs ops j o next):o.wp P a w next Q:=by
 simp only[opv] at hs
 split at hs
 ·rename_i p q hp hq
  simp only[Option.map_eq_some_iff,Prod.mk.injEq] at hs
  obtain⟨b,hb,rfl,rfl⟩:=hs
  have hx':=(a0k hE hx hf hp).1
  have hy':=(a0k hE hy hf hq).1
  have key:∀vx vy,VR N w G.fix G.heap vx p→VR N w G.fix G.heap vy q→(do eqGuard op t x y vx vy; binOp op t vx vy:Sem Value).run P w = .ok (.bool (if op == .neq then !b else b)) w:=by
   intro vx vy hvx hvy
   unfold eqT at ht
   split at ht
   ·simp at ht
   ·simp at ht
   ·rename_i hu
    simp only[Option.some.injEq,Prod.mk.injEq] at ht
    obtain⟨rfl,rfl⟩:=ht
    simp only[peq,Bool.false_eq_true,if_false] at hb
    have he:=b24 (P:=P) (d:=9999) (t:=t) hvx hvy hb (by simp[ekT,hu])
    have:∃c d,p = .bool c∧q = .bool d:=by
     cases p<;>cases q<;>simp[b6L] at hb
     exact⟨_,_,rfl,rfl⟩
    obtain⟨c,d,rfl,rfl⟩:=this
    cases hvx; cases hvy
    rcases hop2 with rfl|rfl<;>simp[eqGuard,binOp,Op.equal,Op.maxDepth,he]
   ·rename_i fs hu
    split at ht
    ·rename_i ks' hks
     split at ht
     ·rename_i hcond
      simp only[Option.some.injEq,Prod.mk.injEq] at ht
      obtain⟨rfl,rfl⟩:=ht
      simp only[Bool.and_eq_true,Bool.not_eq_true'] at hcond
      simp only[peq,if_true] at hb
      split at hb
      ·obtain⟨cs,rfl,hc⟩:=CellsR.of_agg hvx
       obtain⟨ds,rfl,hd⟩:=CellsR.of_agg hvy
       have hfo:P.fieldsOf t=fs:=by simp[Program.fieldsOf,hu]
       have h1:=run_equalIn_struct (P:=P) w 9999 t cs ds (by rw[hfo]; exact hu) hcond.1
       rw[hfo,a96 hc hd hks (by simpa using hb)] at h1
       rcases hop2 with rfl|rfl
       ·simp only[Sem.run_bind,run_eqGuard_agg w _ t x y cs ds hcond.2,Result.andThen_ok,run_eql_struct,h1]; rfl
       ·simp only[Sem.run_bind,run_eqGuard_agg w _ t x y cs ds hcond.2,Result.andThen_ok,run_neq_struct,h1]; rfl
      ·simp at hb
     ·simp at ht
    ·simp at ht
   ·simp at ht
  refine a0l nm ho hf ?_ (SR.of_pure (.bool _) rfl) hk
  simp only[execOp,hop,Sem.run_bind,key _ _ hx' hy',Result.andThen_ok,Sem.run_pure]
 ·simp at hs
theorem c1A (hE:EnvOk E N) (nm:Names vs (a0t vs ops)) (ho:ops[j]? = some o) (hf:FI N w G st a vs (a0t vs ops)) {op:UnOp} {t:TypeId} {x:Operand} {px:PX} (hop:o.op = .unOp op t x)
  (hx:cx E vs ops x=some px) {cf:a0v} (hs:opv cf (.un op px) st=some (u,st1)) (hk:a2Z N w G a st1 u vs ops j o next):o.wp P a w next Q:=by
 simp only[opv] at hs
 split at hs
 ·rename_i p hp
  simp only[Option.map_eq_some_iff,Prod.mk.injEq] at hs
  obtain⟨r,hr,rfl,rfl⟩:=hs
  have h:=(a0k hE hx hf hp).1
  generalize hv:a.eval x=v at h
  unfold unv at hr
  split at hr
  ·cases h
   simp only[Option.some.injEq] at hr; subst hr
   exact a0l nm ho hf (by simp[execOp,hop,hv,Op.unary]) (SR.of_pure (.bool _) rfl) hk
  ·cases h
   simp only[Option.some.injEq] at hr; subst hr
   exact a0l nm ho hf (by simp only[execOp,hop,hv,Op.unary,Op.intArith]; rfl) (SR.of_pure (.int _ _) rfl) hk
  ·simp at hr
 ·simp at hs
theorem b3L (hE:EnvOk E N) (nm:Names vs (a0t vs ops)) (ho:ops[j]? = some o) (hf:FI N w G st a vs (a0t vs ops)) {s t:TypeId} {k k':IntKind} {x:Operand} {px:PX} (hop:o.op = .convert s t x)
  (hu:P.underlying s=some (.int k')) (hu':P.underlying t=some (.int k)) (hx:cx E vs ops x=some px) {cf:a0v} (hs:opv cf (.convInt k px) st=some (u,st1)) (hk:a2Z N w G a st1 u vs ops j o next):o.wp P a w next Q:=by
 simp only[opv,Option.map_eq_some_iff,Prod.mk.injEq] at hs
 obtain⟨n,hn,rfl,rfl⟩:=hs
 obtain⟨k1,hv⟩:=a1T hE hx hf hn
 refine a0l nm ho hf ?_ (SR.of_pure (.int _ _) rfl) hk
 simp[execOp,hop,hv,convert,run_underlying hu,run_underlying hu',Conv.intToInt]
theorem b8e (hE:EnvOk E N) (nm:Names vs (a0t vs ops)) (ho:ops[j]? = some o) (hf:FI N w G st a vs (a0t vs ops)) {s t:TypeId} {x:Operand} {px:PX} (hop:o.op = .convert s t x)
  (hu:P.underlying s=some .string) (hu':P.underlying t=some .string) (hx:cx E vs ops x=some px) {cf:a0v} (hs:opv cf (.movs px) st=some (u,st1)) (hk:a2Z N w G a st1 u vs ops j o next):o.wp P a w next Q:=by
 simp only[opv] at hs
 split at hs
 ·rename_i l hp
  simp only[Option.some.injEq,Prod.mk.injEq] at hs
  obtain⟨rfl,rfl⟩:=hs
  have h:=(a0k hE hx hf hp).1
  generalize hv:a.eval x=v at h
  cases h
  exact a0l nm ho hf (by simp[execOp,hop,hv,convert,run_underlying hu,run_underlying hu']) (SR.of_pure (.str _) rfl) hk
 ·simp at hs
theorem b3M (hE:EnvOk E N) (nm:Names vs (a0t vs ops)) (ho:ops[j]? = some o) (hf:FI N w G st a vs (a0t vs ops)) {i:Nat} {x:Operand} {px:PX} (hop:o.op = .extract x i)
  (hx:cx E vs ops x=some px) {cf:a0v} (hs:opv cf (.extract i px) st=some (u,st1)) (hk:a2Z N w G a st1 u vs ops j o next):o.wp P a w next Q:=by
 simp only[opv] at hs
 split at hs
 ·rename_i ps hp
  simp only[Option.map_eq_some_iff,Option.bind_eq_some_iff,Prod.mk.injEq] at hs
  obtain⟨r,⟨p,hp1,hp2⟩,rfl,rfl⟩:=hs
  have h:=(a0k hE hx hf hp).1
  generalize hv:a.eval x=v at h
  cases h with
  | tuple cs _ hlen hvr =>
    have hi:i<cs.size:=by have:=(List.getElem?_eq_some_iff.1 hp1).1; omega
    have hvr':=hvr i cs[i] p (by simp[hi]) hp1
    have hd:VR N w G.fix G.heap cs[i] r∧cp r=some r:=by
     unfold cp at hp2
     split at hp2<;>simp at hp2<;>subst hp2
     ·exact⟨hvr'.dem,rfl⟩
     ·refine⟨hvr',?_⟩
      unfold cp; split<;>first|rfl|simp_all
    exact a0l nm ho hf (by simp[execOp,hop,hv,Instr.extract,hi]) (SR.of_pure hd.1 hd.2) hk
 ·simp at hs
theorem b5n (hE:EnvOk E N) (nm:Names vs (a0t vs ops)) (ho:ops[j]? = some o) (hf:FI N w G st a vs (a0t vs ops)) {t:TypeId} {ts:Array TypeId} {x:Operand} {px:PX} {str:Bool} (hop:o.op = .call { callee := .builtin .len,args := #[x],argTypes:=ts })
  (h0:ts[0]? = some t) (hu:if str then P.underlying t=some .string else ∃e,P.underlying t=some (.slice e)) (hx:cx E vs ops x=some px) {cf:a0v} (hs:opv cf (.len str px) st=some (u,st1)) (hk:a2Z N w G a st1 u vs ops j o next):o.wp P a w next Q:=by
 simp only[opv] at hs
 split at hs
 ·rename_i s hp
  simp only[Option.some.injEq,Prod.mk.injEq] at hs
  obtain⟨rfl,rfl⟩:=hs
  have h:=(a0k hE hx hf hp).1
  simp only[if_true] at hu
  generalize hv:a.eval x=v at h
  cases h with
  | str s =>
    have hl:s.data.toList.length=s.size:=Array.length_toList
    refine a0l nm ho hf ?_ (SR.of_pure (.int _ _) rfl) hk
    rw[hl]
    simp only[execOp,hop,resolve,Sem.run_bind,Sem.run_pure,Result.andThen_ok,invoke,builtin,Builtin.len_,h0,List.map_toArray,List.map_cons,List.map_nil,hv,List.getElem?_toArray,List.getElem?_cons_zero,run_underlying hu,goInt]
 ·rename_i b es hp
  simp only[Option.some.injEq,Prod.mk.injEq] at hs
  obtain⟨rfl,rfl⟩:=hs
  have h:=(a0k hE hx hf hp).1
  simp only[Bool.false_eq_true,if_false] at hu
  obtain⟨e,hu'⟩:=hu
  generalize hv:a.eval x=v at h
  cases h with
  | nils =>
    refine a0l nm ho hf ?_ (SR.of_pure (.int _ _) rfl) hk
    simp[execOp,hop,hv,resolve,invoke,builtin,Builtin.len_,h0,run_underlying hu',goInt]
  | void =>
    refine a0l nm ho hf ?_ (SR.of_pure (.int _ _) rfl) hk
    simp[execOp,hop,hv,resolve,invoke,builtin,Builtin.len_,h0,run_underlying hu',goInt]
  | list _ b off len cap sz _ cv hlen =>
    refine a0l nm ho hf ?_ (SR.of_pure (.int _ _) rfl) hk
    simp[execOp,hop,hv,resolve,invoke,builtin,Builtin.len_,h0,run_underlying hu',goInt,hlen]
 ·rename_i m sz agg n hp
  simp only[Option.some.injEq,Prod.mk.injEq] at hs
  obtain⟨rfl,rfl⟩:=hs
  have h:=(a0k hE hx hf hp).1
  simp only[Bool.false_eq_true,if_false] at hu
  obtain⟨e,hu'⟩:=hu
  generalize hv:a.eval x=v at h
  cases h with
  | rowp _ _ _ _ b cap hb hcap hsh =>
    refine a0l nm ho hf ?_ (SR.of_pure (.int _ _) rfl) hk
    simp[execOp,hop,hv,resolve,invoke,builtin,Builtin.len_,h0,run_underlying hu',goInt]
 ·rename_i hp
  simp only[Option.some.injEq,Prod.mk.injEq] at hs
  obtain⟨rfl,rfl⟩:=hs
  have h:=(a0k hE hx hf hp).1
  simp only[Bool.false_eq_true,if_false] at hu
  obtain⟨e,hu'⟩:=hu
  generalize hv:a.eval x=v at h
  cases h with
  | nils' =>
    refine a0l nm ho hf ?_ (SR.of_pure (.int _ _) rfl) hk
    simp[execOp,hop,hv,resolve,invoke,builtin,Builtin.len_,h0,run_underlying hu',goInt]
 ·rename_i hp
  simp only[Option.some.injEq,Prod.mk.injEq] at hs
  obtain⟨rfl,rfl⟩:=hs
  have h:=(a0k hE hx hf hp).1
  simp only[Bool.false_eq_true,if_false] at hu
  obtain⟨e,hu'⟩:=hu
  generalize hv:a.eval x=v at h
  cases h with
  | void' =>
    refine a0l nm ho hf ?_ (SR.of_pure (.int _ _) rfl) hk
    simp[execOp,hop,hv,resolve,invoke,builtin,Builtin.len_,h0,run_underlying hu',goInt]
 ·simp at hs
theorem b9R (hE:EnvOk E N) (nm:Names vs (a0t vs ops)) (ho:ops[j]? = some o) (hf:FI N w G st a vs (a0t vs ops)) {t e:TypeId} {ts:Array TypeId} {x:Operand} {px:PX}
  (hop:o.op = .call { callee := .builtin .cap,args := #[x],argTypes:=ts }) (h0:ts[0]? = some t) (hu:P.underlying t=some (.slice e)) (hx:cx E vs ops x=some px) {cf:a0v} (hs:opv cf (.cap px) st=some (u,st1)) (hk:a2Z N w G a st1 u vs ops j o next):o.wp P a w next Q:=by
 simp only[opv] at hs
 split at hs
 ·rename_i hp
  simp only[Option.some.injEq,Prod.mk.injEq] at hs
  obtain⟨rfl,rfl⟩:=hs
  have h:=(a0k hE hx hf hp).1
  generalize hv:a.eval x=v at h
  cases h with
  | nils' =>
    refine a0l nm ho hf ?_ (SR.of_pure (.int _ _) rfl) hk
    simp[execOp,hop,hv,resolve,invoke,builtin,Builtin.cap_,h0,run_underlying hu,goInt]
 ·simp at hs
end
section
variable {E:Env} {N:Nm} {w:World} {G:GS} {st:St} {a:Act} {vs:List Tmp} {ops:List Oper} {P:Program}
variable {o:Oper} {j:Nat} {next:Act→World→Prop} {Q:Exit→Act→World→Prop} {u:PV} {st1:St}
theorem a4z {n:Int} {y:Nat} {k:IntKind} (h0:0≤n) (h1:n≤y) (c:BoundsCode):(Instr.sliceBound (.int k n) y c).run P w = .ok n.toNat w:=by
 simp[Instr.sliceBound,asIntOf,h0,h1]
theorem b14 (hE:EnvOk E N) (hf:FI N w G st a vs (a0t vs ops)) {x:Option Operand} {px:Option PX} {dflt most r:Nat} (hc:cxo E vs ops x=some px) (hr:bound st px dflt most=some r):
  (x=none∧r=dflt)∨∃y k n,x=some y∧a.eval y = .int k n∧0≤n∧n≤most∧r=n.toNat:=by
 cases x with
 | none=>simp[cxo] at hc; subst hc; simp[bound] at hr; exact .inl ⟨rfl,hr.symm⟩
 | some y =>
   simp only[cxo,Option.map_eq_some_iff] at hc
   obtain⟨p,hp,rfl⟩:=hc
   simp only[bound] at hr
   split at hr
   ·rename_i n hn
    split at hr
    ·rename_i hb
     simp at hr
     obtain⟨k,hk⟩:=a1T hE hp hf hn
     exact .inr ⟨y,k,n,rfl,hk,hb.1,hb.2,hr.symm⟩
    ·simp at hr
   ·simp at hr
theorem a2s (hE:EnvOk E N) (hf:FI N w G st a vs (a0t vs ops)) {lo hi:Option Operand} {pl ph:Option PX} {isSlice:Bool} {len cap l h:Nat} (hcap:len≤cap)
  (hl:cxo E vs ops lo=some pl) (hh:cxo E vs ops hi=some ph) (h1:bound st ph len len=some h) (h2:bound st pl 0 h=some l):
  (Instr.sliceBounds isSlice len cap (lo.map a.eval) (hi.map a.eval) none).run P w = .ok (l,h,cap) w∧l≤h∧h≤len:=by
 have hH:=b14 hE hf hh h1
 have hL:=b14 hE hf hl h2
 have hhl:h≤len:=by rcases hH with⟨_,rfl⟩|⟨_,_,n,_,_,_,_,rfl⟩<;>omega
 have hlh:l≤h:=by rcases hL with⟨_,rfl⟩|⟨_,_,n,_,_,_,_,rfl⟩<;>omega
 refine⟨?_,hlh,hhl⟩
 rcases hH with⟨rfl,hr1⟩|⟨y,k,n,rfl,hy,hn0,hn1,hr1⟩<;>rcases hL with⟨rfl,hr2⟩|⟨y',k',n',rfl,hy',hn0',hn1',hr2⟩<;>subst hr1<;>subst hr2
 ·simp[Instr.sliceBounds]
 ·simp[Instr.sliceBounds,hy',a4z hn0' hn1']
 ·simp[Instr.sliceBounds,hy,a4z (P:=P) (w:=w) hn0 (show n≤(cap:Int) by omega)]
 ·simp[Instr.sliceBounds,hy,hy',a4z (P:=P) (w:=w) hn0 (show n≤(cap:Int) by omega),a4z (P:=P) (w:=w) hn0' hn1']
theorem b5o (s:ByteArray) (l h:Nat):(s.extract l h).data.toList=(s.data.toList.take h).drop l:=by
 simp[ByteArray.data_extract,List.drop_take]
theorem b5p (hE:EnvOk E N) (nm:Names vs (a0t vs ops)) (ho:ops[j]? = some o) (hf:FI N w G st a vs (a0t vs ops)) {t:TypeId} {x:Operand} {lo hi:Option Operand} {px:PX} {pl ph:Option PX} {size:Nat} (hop:o.op = .slice t x lo hi none)
  (hu:P.underlying t=some .string) (hx:cx E vs ops x=some px) (hl:cxo E vs ops lo=some pl) (hh:cxo E vs ops hi=some ph) {cf:a0v} (hs:opv cf (.slice true size px pl ph) st=some (u,st1))
  (hk:a2Z N w G a st1 u vs ops j o next):o.wp P a w next Q:=by
 simp only[opv] at hs
 split at hs
 ·rename_i s hp
  simp only[Option.bind_eq_some_iff,Option.map_eq_some_iff,Prod.mk.injEq] at hs
  obtain⟨h,h1,l,h2,rfl,rfl⟩:=hs
  have hv':=(a0k hE hx hf hp).1
  generalize hv:a.eval x=v at hv'
  cases hv' with
  | str s =>
    have hsz:s.data.toList.length=s.size:=Array.length_toList
    rw[hsz] at h1
    obtain⟨hb,_,_⟩:=a2s (P:=P) (isSlice:=false) hE hf (Nat.le_refl s.size) hl hh h1 h2
    refine a0l nm ho hf (v := .string (s.extract l h)) ?_ (SR.of_pure ?_ rfl) hk
    ·simp[execOp,hop,hv,Instr.sliceAt,Instr.slice,run_underlying hu,hb]
    ·rw[← b5o]; exact .str _
 ·rename_i heq _; simp at heq
 ·rename_i heq _; simp at heq
 ·rename_i heq _; simp at heq
 ·simp at hs
theorem b5q (hE:EnvOk E N) (nm:Names vs (a0t vs ops)) (ho:ops[j]? = some o) (hf:FI N w G st a vs (a0t vs ops)) {t e:TypeId} {x:Operand} {lo hi:Option Operand} {px:PX} {pl ph:Option PX} {size:Nat} (hop:o.op = .slice t x lo hi none)
  (hu:P.underlying t=some (.slice e)) (hn:a05 P e=some size) (hx:cx E vs ops x=some px) (hl:cxo E vs ops lo=some pl) (hh:cxo E vs ops hi=some ph) {cf:a0v} (hs:opv cf (.slice false size px pl ph) st=some (u,st1))
  (hk:a2Z N w G a st1 u vs ops j o next):o.wp P a w next Q:=by
 simp only[opv] at hs
 split at hs
 ·rename_i heq _; simp at heq
 ·rename_i own es _ hp
  split at hs
  ·rename_i hhead
   simp only[Option.bind_eq_some_iff,Option.map_eq_some_iff,Prod.mk.injEq] at hs
   obtain⟨h,h1,l,h2,rfl,rfl⟩:=hs
   have hv':=(a0k hE hx hf hp).1
   generalize hv:a.eval x=v at hv'
   cases hv' with
   | nils =>
     obtain⟨hb,hlh,hhl⟩:=a2s (P:=P) (isSlice:=true) hE hf (Nat.le_refl 0) hl hh h1 h2
     simp at hhl; subst hhl
     have:l=0:=by omega
     subst this
     refine a0l nm ho hf (v := .slice none 0 0) ?_ (SR.of_pure (.nils false) rfl) hk
     simp[execOp,hop,hv,Instr.sliceAt,Instr.slice,run_underlying hu,hb,a08 hn]
   | void _ ad cap =>
     obtain⟨hb,hlh,hhl⟩:=a2s (P:=P) (isSlice:=true) hE hf (Nat.zero_le cap) hl hh h1 h2
     simp at hhl; subst hhl
     have:l=0:=by omega
     subst this
     refine a0l nm ho hf (v := .slice (some ad) 0 cap) ?_ (SR.of_pure (.void false ad cap) rfl) hk
     have hz:(if cap=0 then some ad else some ad)=some ad:=by split<;>rfl
     simp[execOp,hop,hv,Instr.sliceAt,Instr.slice,run_underlying hu,hb,a08 hn,Addr.add_zero']
   | list _ b off len cap sz _ cv hlen hcap hsz hflat hcell hvr =>
     subst hlen
     obtain⟨hb,hlh,hhl⟩:=a2s (P:=P) (isSlice:=true) hE hf hcap hl hh h1 h2
     have hrun:(execOp a.eval o).run P w = .ok (.value (.slice (some (if cap=l then⟨b,off,none⟩ else⟨b,off+l*size,none⟩)) (h - l) (cap - l))) w:=by
      by_cases hc:cap=l
      ·rw[if_pos hc]
       simp only[execOp,hop,hv,Instr.sliceAt,Instr.slice,Sem.run_bind,run_underlying hu,Result.andThen_ok,hb,a08 hn,if_pos hc,Sem.run_pure,Option.map_none]
      ·rw[if_neg hc]
       simp only[execOp,hop,hv,Instr.sliceAt,Instr.slice,Sem.run_bind,run_underlying hu,Result.andThen_ok,hb,a08 hn,if_neg hc,Sem.run_pure,Option.map_none,Option.map_some,a1X]
     refine a0l nm ho hf hrun (SR.of_pure ?_ rfl) hk
     have hlen':((es.take h).drop l).length=h - l:=by simp; omega
     have a57:∀(i:Nat) (y:PV),((es.take h).drop l)[i]? = some y→es[l+i]? = some y:=by
      intro i y hy
      rw[List.getElem?_drop,List.getElem?_take] at hy
      split at hy
      ·exact hy
      ·cases hy
     have hmem:∀y∈(es.take h).drop l,y∈es:=λy hy=>List.mem_of_mem_take (List.mem_of_mem_drop hy)
     by_cases hc:cap=l
     ·have he:(es.take h).drop l=[]:=List.length_eq_zero_iff.1 (by rw[hlen']; omega)
      rw[if_pos hc,he]
      have:h - l=0:=by omega
      rw[this]
      exact .list false b off 0 _ 0 [] cv rfl (Nat.zero_le _) (by simp) (by simp) (by simp) (by simp)
     ·rw[if_neg hc]
      by_cases hz:h - l=0
      ·have he:(es.take h).drop l=[]:=List.length_eq_zero_iff.1 (by rw[hlen']; omega)
       rw[he,hz]
       exact .list false b _ 0 _ 0 [] cv rfl (Nat.zero_le _) (by simp) (by simp) (by simp) (by simp)
      ·have hszn:sz=size:=by
        cases es with
        | nil=>simp at hhl; omega
        | cons y ys =>
          have:=hsz y (by simp)
          simp[a0W] at hhead
          omega
       subst hszn
       refine .list false b _ (h - l) _ sz _ (λk=>cv (l*sz+k)) hlen' (by omega) (λy hy=>hsz y (hmem y hy)) (λy hy=>hflat y (hmem y hy)) ?_ ?_
       ·intro k hk
        have hlt:l*sz+k<es.length*sz:=by
         have h3:(l+(h - l))*sz≤es.length*sz:=Nat.mul_le_mul_right _ (by omega)
         rw[Nat.add_mul] at h3; omega
        have:=hcell _ hlt
        simpa[Nat.add_assoc] using this
       ·intro i y hy j' z hz'
        have:=hvr (l+i) y (a57 i y hy) j' z hz'
        simpa[Nat.add_mul,Nat.add_assoc] using this
  ·simp at hs
 ·rename_i _ hp
  simp only[Option.bind_eq_some_iff,Option.map_eq_some_iff,Prod.mk.injEq] at hs
  obtain⟨h,h1,l,h2,rfl,rfl⟩:=hs
  have hv':=(a0k hE hx hf hp).1
  generalize hv:a.eval x=v at hv'
  cases hv' with
  | nils' =>
    obtain⟨hb,hlh,hhl⟩:=a2s (P:=P) (isSlice:=true) hE hf (Nat.le_refl 0) hl hh h1 h2
    have:h=0:=by omega
    subst this
    have:l=0:=by omega
    subst this
    refine a0l nm ho hf (v := .slice none 0 0) ?_ (SR.of_pure .nils' rfl) hk
    simp[execOp,hop,hv,Instr.sliceAt,Instr.slice,run_underlying hu,hb,a08 hn]
 ·rename_i n sz agg len _ hp
  split at hs
  ·rename_i hsz
   subst hsz
   simp only[Option.bind_eq_some_iff,Option.map_eq_some_iff,Prod.mk.injEq] at hs
   obtain⟨h,h1,l,h2,rfl,rfl⟩:=hs
   have hv':=(a0k hE hx hf hp).1
   generalize hv:a.eval x=v at hv'
   cases hv' with
   | rowp _ _ _ _ b cap hb0 hcap hsh =>
     obtain⟨T,m,hs1,hs2⟩:=hsh
     obtain⟨hb,hlh,hhl⟩:=a2s (P:=P) (isSlice:=true) hE hf hcap hl hh h1 h2
     have hrun:(execOp a.eval o).run P w = .ok (.value (.slice (some (if cap=l then⟨b,0,none⟩ else⟨b,0+l*sz,none⟩)) (h - l) (cap - l))) w:=by
      by_cases hc:cap=l
      ·rw[if_pos hc]
       simp only[execOp,hop,hv,Instr.sliceAt,Instr.slice,Sem.run_bind,run_underlying hu,Result.andThen_ok,hb,a08 hn,if_pos hc,Sem.run_pure,Option.map_none]
      ·rw[if_neg hc]
       simp only[execOp,hop,hv,Instr.sliceAt,Instr.slice,Sem.run_bind,run_underlying hu,Result.andThen_ok,hb,a08 hn,if_neg hc,Sem.run_pure,Option.map_none,Option.map_some,a1X]
     have hmul:h*sz≤cap*sz:=Nat.mul_le_mul_right _ (by omega)
     by_cases hl0:l=0
     ·subst hl0
      rw[if_pos rfl] at hk
      have he:(if cap=0 then(⟨b,0,none⟩:Addr) else⟨b,0+0*sz,none⟩)=⟨b,0,none⟩:=by split<;>simp
      rw[he,Nat.sub_zero,Nat.sub_zero] at hrun
      exact a0l nm ho hf hrun (SR.of_pure (.rowp _ _ _ _ b cap hb0 (by omega) ⟨T,m,hs1,hs2⟩) rfl) hk
     ·rw[if_neg hl0] at hk
      have hend:(l+(h - l))*sz≤m:=by rw[show l+(h - l)=h by omega]; omega
      by_cases hc:cap=l
      ·rw[if_pos hc] at hrun
       exact a0l nm ho hf hrun (SR.of_pure (.rows _ _ _ _ _ b 0 _ m T hb0 (by omega) (.inl (by omega)) hs1 hend) rfl) hk
      ·rw[if_neg hc] at hrun
       exact a0l nm ho hf hrun (SR.of_pure (.rows _ _ _ _ _ b _ _ m T hb0 (by omega) (.inr (by rw[Nat.zero_add])) hs1 hend) rfl) hk
  ·simp at hs
 ·simp at hs
theorem b0w {mx:Bool}:∀{ps:List PV} {vals:List Value} {p:PV} {v:Value},VR N w G.fix G.heap v p→vals.length=ps.length →
  (∀(i:Nat) (x:Value) (q:PV),vals[i]? = some x→ps[i]? = some q→VR N w G.fix G.heap x q)→cp p=some p→a5R mx p ps=some u →
  ∃r,(vals.foldlM (if mx then Builtin.max2 else Builtin.min2) v).run P w = .ok r w∧VR N w G.fix G.heap r u∧cp u=some u
 | [], vals, p, v, hv, hl, _, hcp, hm => by
   have:vals=[]:=by simpa using hl
   subst this
   simp[a5R] at hm; subst hm
   exact⟨v,by simp,hv,hcp⟩
 | q :: ps, vals, p, v, hv, hl, hr, hcp, hm => by
   cases vals with
   | nil=>simp at hl
   | cons x vals =>
     unfold a5R at hm
     split at hm
     ·simp_all
     ·rename_i k m k' m' r heq
      simp only[List.cons.injEq] at heq
      obtain⟨rfl,rfl⟩:=heq
      split at hm
      ·subst_vars
       have hx:=hr 0 x _ rfl rfl
       cases hv; cases hx
       obtain⟨r,h1,h2,h3⟩:=b0w (mx:=mx) (vals:=vals) (VR.int _ (if mx then(if m'>m then m' else m) else(if m'<m then m' else m))) (by simpa using hl)
        (λi y z hy hz=>hr (i+1) y z (by simpa using hy) (by simpa using hz)) rfl hm
       refine⟨r,?_,h2,h3⟩
       cases mx<;>simpa[Builtin.max2,Builtin.min2] using h1
      ·simp at hm
     ·simp at hm
theorem b7h (hE:EnvOk E N) (nm:Names vs (a0t vs ops)) (ho:ops[j]? = some o) (hf:FI N w G st a vs (a0t vs ops)) {mx:Bool} {xs:Array Operand} {ts:Array TypeId} {pxs:List PX}
  (hop:o.op = .call { callee := .builtin (if mx then .max else .min),args:=xs,argTypes:=ts }) (hx:cxs E vs ops xs.toList=some pxs) {cf:a0v} (hs:opv cf (.minmax mx pxs) st=some (u,st1))
  (hk:a2Z N w G a st1 u vs ops j o next):o.wp P a w next Q:=by
 simp only[opv] at hs
 split at hs
 ·rename_i p ps hp
  simp only[Option.map_eq_some_iff,Prod.mk.injEq] at hs
  obtain⟨r,hr,rfl,rfl⟩:=hs
  obtain⟨h1,h2⟩:=a1C hE hf hx hp
  cases hxs:xs.toList with
  | nil=>simp[hxs] at h1
  | cons y ys =>
    rw[hxs] at h1 h2
    have h0:=h2 0 y p rfl rfl
    obtain⟨v,hv1,hv2,hv3⟩:=b0w (P:=P) (vals:=ys.map a.eval) h0.1 (by simpa using h1) (by
     intro i x q hx' hq
     simp only[List.getElem?_map,Option.map_eq_some_iff] at hx'
     obtain⟨z,hz,rfl⟩:=hx'
     exact(h2 (i+1) z q (by simpa using hz) (by simpa using hq)).1) h0.2 hr
    refine a0l nm ho hf (v:=v) ?_ (SR.of_pure hv2 hv3) hk
    cases mx
    ·simp only[Bool.false_eq_true,if_false] at hop hv1
     simp[execOp,hop,resolve,invoke,builtin,Builtin.min_,hxs,hv1]
    ·simp only[if_true] at hop hv1
     simp[execOp,hop,resolve,invoke,builtin,Builtin.max_,hxs,hv1]
 ·simp at hs
theorem b3N (off:Nat):∀(vc:List Value) (n:Nat) (cs:Array Value) (k:Nat),off+n+vc.length≤cs.size →
  ((vc.zipIdx n).foldl (λ(cs:Array Value) (x:Value×Nat)=>cs.setIfInBounds (off+x.2) x.1) cs)[k]? = if off+n≤k∧k<off+n+vc.length then vc[k - (off+n)]? else cs[k]?
 | [],n,cs,k,_=>by simp; omega
 | v :: vc, n, cs, k, hn => by
   simp only[List.length_cons] at hn
   simp only[List.zipIdx_cons,List.foldl_cons]
   rw[b3N off vc (n+1) _ k (by simp; omega)]
   simp only[List.length_cons]
   by_cases h1:k=off+n
   ·subst h1
    rw[if_neg (by omega),if_pos (by omega)]
    simp[Array.getElem?_setIfInBounds]
    omega
   ·by_cases h2:off+n≤k∧k<off+n+(vc.length+1)
    ·rw[if_pos (by omega),if_pos h2]
     rw[show k - (off+n)=(k - (off+(n+1)))+1 by omega]
     simp
    ·rw[if_neg (by omega),if_neg h2]
     simp[Array.getElem?_setIfInBounds,Ne.symm h1]
theorem b15 (off:Nat) (vc:Array Value) (cs:Array Value) (h:off+vc.size≤cs.size):
  (vc.zipIdx.foldl (λ(cs:Array Value) (x:Value×Nat)=>cs.setIfInBounds (off+x.2) x.1) cs).toList=cs.toList.take off++(vc.toList++cs.toList.drop (off+vc.size)):=by
 apply List.ext_getElem?
 intro k
 have hg:=b3N off vc.toList 0 cs k (by simpa using h)
 have he:vc.zipIdx.foldl (λ(cs:Array Value) (x:Value×Nat)=>cs.setIfInBounds (off+x.2) x.1) cs=(vc.toList.zipIdx 0).foldl (λ(cs:Array Value) (x:Value×Nat)=>cs.setIfInBounds (off+x.2) x.1) cs:=by
  rw[← Array.foldl_toList]; simp
 rw[he,Array.getElem?_toList,hg]
 simp only[Nat.add_zero,Array.length_toList]
 by_cases h1:k<off
 ·rw[if_neg (by omega),List.getElem?_append_left (by simp; omega),List.getElem?_take,if_pos h1,Array.getElem?_toList]
 ·rw[List.getElem?_append_right (by simp; omega)]
  have hmin:(cs.toList.take off).length=off:=by simp; omega
  rw[hmin]
  by_cases h2:k<off+vc.size
  ·rw[if_pos ⟨by omega,h2⟩,List.getElem?_append_left (by simp; omega)]
  ·rw[if_neg (by omega),List.getElem?_append_right (by simp; omega),List.getElem?_drop,Array.getElem?_toList]
   congr 1
   simp; omega
theorem a6Q (hE:EnvOk E N) (hf:FI N w G st a vs (a0t vs ops)) {place:Nat→Option (Nat×Nat)}:∀{parts:List (Nat×Operand)} {ps:List (Nat×Nat×PX)} {qs:List (Nat×Nat×PV)} {zs rs:List PV} {cs:Array Value},
  b0c E vs ops place parts=some ps→rdParts st ps=some qs→a3M zs qs=some rs→CellsR N w G.fix G.heap cs.toList zs →
  OwnNil cs.toList zs→∃ds,Instr.fill place cs (parts.map λ(i,x)=>(i,a.eval x))=some ds∧CellsR N w G.fix G.heap ds.toList rs∧OwnNil ds.toList rs
 | [], ps, qs, zs, rs, cs, hc, hr, a3L, hR, hO => by
   simp[b0c] at hc; subst hc
   simp[rdParts] at hr; subst hr
   simp[a3M] at a3L; subst a3L
   exact⟨cs,rfl,hR,hO⟩
 | (i, x) :: parts, ps, qs, zs, rs, cs, hc, hr, a3L, hR, hO => by
   simp only[b0c,Option.bind_eq_some_iff] at hc
   obtain⟨p,hp,hc⟩:=hc
   split at hc
   ·simp at hc
   ·rename_i hp0
    simp only[Option.bind_eq_some_iff,Option.map_eq_some_iff] at hc
    obtain⟨px,hpx,ps',hps,rfl⟩:=hc
    simp only[rdParts,Option.bind_eq_some_iff,Option.map_eq_some_iff] at hr
    obtain⟨v,hv,qs',hqs,rfl⟩:=hr
    simp only[a3M] at a3L
    split at a3L
    ·rename_i hcond
     have hvr:=(a0k hE hpx hf hv).1
     have hcells:=CellsR.of_cells hvr (by intro e; rw[e] at hcond; simp at hcond; omega)
     have hsz:(a.eval x).cells.size=p.2:=by have:=hcells.1; simp at this; omega
     have hle:p.1+(a.eval x).cells.size≤cs.size:=by have:=hR.1; simp at this; omega
     have hnew:CellsR N w G.fix G.heap ((a.eval x).cells.zipIdx.foldl (λ(cs:Array Value) (y:Value×Nat)=>cs.setIfInBounds (p.1+y.2) y.1) cs).toList (zs.take p.1++(v.cells.map dem++zs.drop (p.1+p.2))):=by
      rw[b15 _ _ _ hle,hsz]
      exact(hR.take _).append (hcells.dem.append (hR.drop _))
     have hnewO:OwnNil ((a.eval x).cells.zipIdx.foldl (λ(cs:Array Value) (y:Value×Nat)=>cs.setIfInBounds (p.1+y.2) y.1) cs).toList (zs.take p.1++(v.cells.map dem++zs.drop (p.1+p.2))):=by
      rw[b15 _ _ _ hle,hsz]
      refine(hO.take _).append ?_ ((OwnNil.dem _ _).append ?_ (hO.drop _))
      ·have:=hR.1; simp at this ⊢; omega
      ·have:=hcells.1; simpa using this
     obtain⟨ds,h1,h2⟩:=a6Q hE hf hps hqs a3L hnew hnewO
     refine⟨ds,?_,h2⟩
     simp only[List.map_cons,Instr.fill,hp]
     rw[if_neg (by simp[hsz]; omega)]
     exact h1
    ·simp at a3L
theorem a19 {fix:Nat→Nat→Prop} {hp:Nat→Option Nat} {t:TypeId} {z:List PV} (h:a38 P t=some z):
  ∃i zv,P.info? t=some i∧i.zero=some zv∧i.size≠0∧z.length=i.size∧CellsR N w fix hp zv.cells.toList z∧OwnNil zv.cells.toList z:=by
 unfold a38 at h
 split at h
 ·rename_i i hi
  split at h
  ·rename_i zv hz
   simp only[Option.bind_eq_some_iff] at h
   obtain⟨cs,hcs,h⟩:=h
   split at h
   ·rename_i hcond
    simp at h; subst h
    obtain⟨h1,h2,h3⟩:=a55 (N:=N) (w:=w) (fix:=fix) (hp:=hp) hcs
    exact⟨i,zv,hi,hz,hcond.2,hcond.1,⟨h1,h2,h3⟩,λk c es hc he=>a3I hcs k c es hc he⟩
   ·simp at h
  ·simp at h
 ·simp at h
theorem b6v (hE:EnvOk E N) (nm:Names vs (a0t vs ops)) (ho:ops[j]? = some o) (hf:FI N w G st a vs (a0t vs ops)) {t:TypeId} {parts:Array (Nat×Operand)} {fs:Array Field} {places:List (Nat×Nat)} {z:List PV} {ps:List (Nat×Nat×PX)}
  (hop:o.op = .build t parts) (hu:P.underlying t=some (.struct fs)) (hz:a38 P t=some z) (hpl:fs.toList.mapM (λf=>(P.info? f.type).map λi=>(f.offset,i.size))=some places)
  (hc:b0c E vs ops (places.toArray[·]?) parts.toList=some ps) {cf:a0v} (hs:opv cf (.build z ps) st=some (u,st1)) (hk:a2Z N w G a st1 u vs ops j o next):o.wp P a w next Q:=by
 simp only[opv,Option.map_eq_some_iff,Option.bind_eq_some_iff,Prod.mk.injEq] at hs
 obtain⟨rs,⟨qs,hq,a3L⟩,rfl,rfl⟩:=hs
 obtain⟨i,zv,hi,hzv,_,_,hR,hO⟩:=a19 (N:=N) (w:=w) (fix:=G.fix) (hp:=G.heap) hz
 obtain⟨ds,h1,h2,h3⟩:=a6Q hE hf hc hq a3L hR hO
 refine a0l nm ho hf (v := .agg ds) ?_ (SR.of_pure (by simpa using h2.agg h3) rfl) hk
 have hb:P.built t (parts.map λ(i,x)=>(i,a.eval x)).toList=some ds:=by
  simp only[Program.built,hi,hu,hzv,hpl]
  simpa using h1
 simp[execOp,hop,run_build w t _ ds hb]
end
def GS.give (G:GS) (b:Nat) (k:Key):GS:={ G with ow:=λx=>if x=b then some k else G.ow x }
section
variable {E:Env} {N:Nm} {w:World} {G:GS} {st:St} {a:Act} {vs:List Tmp} {ops:List Oper} {P:Program}
variable {o:Oper} {j:Nat} {next:Act→World→Prop} {Q:Exit→Act→World→Prop} {u:PV} {st1:St}
theorem FI.src (hf:FI N w G st a vs (a0t vs ops)) {px:PX} {es:List PV} {G':GS} {w':World} (hpx:∀p,px≠.c p) (hr:raw st px=some (.list true es))
  (e:Ext w G w' G') (hk:a6B (λk=>k=b2v px) w G w' G') (hg:∀g b,G'.box g=some b→g<st.gen) (ho:∀b k,G'.ow b=some k→b<w'.heap.size) (hx:∀b o,G'.fix b o→b<w'.heap.size) (hh:G'.heap=G.heap):
  FI N w' G' (a68 st px (.list false es)) a vs (a0t vs ops):=by
 cases px with
 | c p=>exact absurd rfl (hpx p)
 | v i =>
   refine⟨by simp[a68,hf.len],?_,?_,hf.tv,hf.tl,(hf.defers.trans e.df.symm),hg,ho,hx,hf.heap.keep e hk (by intro k hk e; subst e; simp[b2v,Key.isH] at hk),by rw[hh]; exact hf.hdom⟩
   ·intro i' t u h1 h2
    simp only[a68,List.getElem?_set] at h2
    split at h2
    ·rename_i hi
     subst hi
     split at h2
     ·simp at h2; subst h2
      exact((hf.var i t _ h1 hr).1.dem).ext e
     ·simp at h2
    ·rename_i hi
     exact(hf.var i' t u h1 h2).keep e hk (by simp[b2v]; omega) (by simp[b2v])
   ·intro i' t u h1 h2
    exact(hf.loc i' t u h1 h2).keep e hk (by simp[b2v]) (by simp[b2v])
 | l i =>
   refine⟨hf.len,?_,?_,hf.tv,hf.tl,(hf.defers.trans e.df.symm),hg,ho,hx,hf.heap.keep e hk (by intro k hk e; subst e; simp[b2v,Key.isH] at hk),by rw[hh]; exact hf.hdom⟩
   ·intro i' t u h1 h2
    exact(hf.var i' t u h1 h2).keep e hk (by simp[b2v]) (by simp[b2v])
   ·intro i' t u h1 h2
    simp only[a68,List.getElem?_set] at h2
    split at h2
    ·rename_i hi
     subst hi
     split at h2
     ·simp at h2; subst h2
      exact((hf.loc i t _ h1 hr).1.dem).ext e
     ·simp at h2
    ·rename_i hi
     exact(hf.loc i' t u h1 h2).keep e hk (by simp[b2v]; omega) (by simp[b2v])
theorem b00 (b:Nat) (k:Key) (h:b<w.heap.size→G.ow b≠none):Ext w G w (G.give b k):=by
 refine⟨rfl,rfl,rfl,Nat.le_refl _,λ_ _ _=>rfl,λ_ _ h=>⟨h,rfl⟩,λ_ _ h => .inl h,?_,λ_ _ h=>h,ShapeLe.refl w,rfl⟩
 intro x hx
 simp only[GS.give] at hx
 split at hx
 ·rename_i hxb
  subst hxb
  by_cases hlt:x<w.heap.size
  ·exact .inr (h hlt)
  ·exact .inl (by omega)
 ·exact .inr hx
theorem a9k (b:Nat) (k:Key) {K:Key→Prop} (h:∀k',G.ow b=some k'→K k'):a6B K w G w (G.give b k):=by
 refine⟨?_,λ_ _ h=>h⟩
 intro x k' hx hn
 refine⟨?_,rfl,λ_ h=>h⟩
 simp only[GS.give]
 split
 ·rename_i hxb
  subst hxb
  exact absurd (h k' hx) hn
 ·exact hx
theorem Room.give {key key':Key} {v:Value} {es:List PV} (h:Room w G key v es):
  ∃G',(G'=G∨∃b,G.ow b=some key∧G'=G.give b key')∧Room w G' key' v es:=by
 unfold Room at h
 split at h
 ·rename_i a len cap
  rcases h with h|⟨ho,sz,cs,T,h1,h2,h3,h4,h5⟩
  ·exact⟨G,.inl rfl,.inl h⟩
  ·exact⟨G.give a.block key',.inr ⟨_,ho,rfl⟩,.inr ⟨by simp[GS.give],sz,cs,T,h1,h2,h3,h4,h5⟩⟩
 ·rename_i hx
  refine⟨G,.inl rfl,?_⟩
  unfold Room
  split
  ·rename_i a len cap; exact absurd rfl (hx _ _ _)
  ·trivial
def c1B (w:World) (G:GS) (key:Key) (v:Value):PV→Prop
 | .list true es=>Room w G key v es
 | u=>cp u=some u
theorem a7R (hE:EnvOk E N) {x:Operand} {px:PX} (hc:cx E vs ops x=some px) (hf:FI N w G st a vs (a0t vs ops)) (ht:tk st px=some (u,st1)) (key:Key):
  ∃ G', FI N w G' st1 a vs (a0t vs ops) ∧ Ext w G w G' ∧ G'.box = G.box ∧ G'.fix = G.fix ∧ G'.heap = G.heap ∧ VR N w G.fix G.heap (a.eval x) u ∧
    c1B w G' key (a.eval x) u∧(∀b,G'.ow b=G.ow b∨(G.ow b=some (b2v px)∧G'.ow b=some key))∧st1.gen=st.gen∧st1.heap=st.heap:=by
 unfold tk at ht
 split at ht
 ·rename_i es hr
  simp only[Option.some.injEq,Prod.mk.injEq] at ht
  obtain⟨rfl,rfl⟩:=ht
  have hs:=a2X hE hc hf hr
  obtain⟨hv,hroom⟩:=hs
  by_cases hpx:∃p,px = .c p
  ·obtain⟨p,rfl⟩:=hpx
   simp only[raw,Option.some.injEq] at hr
   subst hr
   refine⟨G,hf,Ext.refl _ _,rfl,rfl,rfl,hv,?_,λ_ => .inl rfl,rfl,rfl⟩
   cases x with
   | tmp t=>simp only[cx] at hc; split at hc<;>simp at hc
   | const v =>
     simp only[cx] at hc
     split at hc
     ·simp at hc
     simp only[Option.map_eq_some_iff] at hc
     obtain⟨q,hq,hq2⟩:=hc
     simp at hq2; subst hq2
     rcases a7G hq with⟨es',_,rfl⟩|h
     ·exact True.intro
     ·simp[cp] at h
   | global g=>simp[cx] at hc
   | func f =>
     simp only[cx,Option.map_eq_some_iff] at hc
     obtain⟨k,_,hk⟩:=hc
     simp at hk
  ·obtain⟨G',hG,hroom'⟩:=hroom.give (key':=key)
   have hg:G'.box=G.box∧G'.fix=G.fix∧G'.heap=G.heap:=by
    rcases hG with rfl|⟨b,_,rfl⟩<;>exact⟨rfl,rfl,rfl⟩
   have hext:Ext w G w G':=by
    rcases hG with rfl|⟨b,hb,rfl⟩
    ·exact Ext.refl _ _
    ·exact b00 b key (λ_=>by simp[hb])
   have hkeep:a6B (λk=>k=b2v px) w G w G':=by
    rcases hG with rfl|⟨b,hb,rfl⟩
    ·exact⟨λb k h _=>⟨h,rfl,λ_ h=>h⟩,λ_ _ h=>h⟩
    ·exact a9k b key (λk' hk'=>by rw[hb] at hk'; simpa using hk'.symm)
   have how:∀b,G'.ow b=G.ow b∨(G.ow b=some (b2v px)∧G'.ow b=some key):=by
    intro b
    rcases hG with rfl|⟨b',hb,rfl⟩
    ·exact .inl rfl
    ·simp only[GS.give]
     split
     ·subst_vars; exact .inr ⟨hb,rfl⟩
     ·exact .inl rfl
   refine⟨G',?_,hext,hg.1,hg.2.1,hg.2.2,hv,hroom',how,?_,?_⟩
   ·refine hf.src (λp hp=>hpx ⟨p,hp⟩) hr hext hkeep (by rw[hg.1]; exact hf.gen) ?_ (by rw[hg.2.1]; exact hf.fixlt) hg.2.2
    intro b k hb
    rcases how b with h|⟨h,_⟩
    ·exact hf.owlt b k (h▸hb)
    ·exact hf.owlt b _ h
   ·cases px<;>rfl
   ·cases px<;>rfl
 ·rename_i v hnot hr
  simp only[Option.map_eq_some_iff,Prod.mk.injEq] at ht
  obtain⟨r,hr2,rfl,rfl⟩:=ht
  obtain⟨h1,h2⟩:=(a2X hE hc hf hr).read hr2
  refine⟨G,hf,Ext.refl _ _,rfl,rfl,rfl,h1,?_,λ_ => .inl rfl,rfl,rfl⟩
  unfold c1B
  split
  ·simp[cp] at h2
  ·exact h2
 ·simp at ht
theorem SR.of_taken {key:Key} {v:Value} {u:PV} (h:VR N w G.fix G.heap v u) (hm:c1B w G key v u):SR N w G key v u:=by
 unfold c1B at hm
 split at hm
 ·exact⟨h,hm⟩
 ·exact SR.of_pure h hm
theorem b25 (hE:EnvOk E N) (nm:Names vs (a0t vs ops)) (ho:ops[j]? = some o) (hf:FI N w G st a vs (a0t vs ops)) {x:Operand} {px:PX} (hx:(execOp a.eval o).run P w = .ok (.value (a.eval x)) w)
  (hc:cx E vs ops x=some px) (hs:tk st px=some (u,st1)) (hk:a2Z N w G a st1 u vs ops j o next):o.wp P a w next Q:=by
 obtain⟨G',h1,h2,h3,h4,h5,h6,h7,_⟩:=a7R hE hc hf hs (a9j (a3j vs o.dst) j)
 unfold Oper.wp
 rw[hx]
 refine hk _ _ G' (h1.put nm (a17 ho) (SR.of_taken ?_ h7)) h2 (a1v _ _ _)
 rw[h4,h5]; exact h6
theorem a2a {w:World} {ob:Obj} {b o:Nat} (h:b<w.heap.size):(w.alloc ob).cell? ⟨b,o,none⟩=w.cell? ⟨b,o,none⟩:=World.cell?_alloc_lt w ob _ h
theorem a0q {w:World} {ob:Obj} {b:Nat} (h:b<w.heap.size):(w.alloc ob).heap[b]? = w.heap[b]? := by
 simp only[World.alloc,Array.getElem?_push]
 rw[if_neg (by omega)]
theorem a0S {w:World} {ob:Obj}:(w.alloc ob).heap[w.heap.size]? = some ob:=by unfold World.alloc; simp only[Array.getElem?_push_size]
theorem b5r (nm:Names vs (a0t vs ops)) (ho:ops[j]? = some o) (hf:FI N w G st a vs (a0t vs ops)) {cs:Array Value} {ps:List PV} {T:TypeId} {i:Nat} (hd:a3j vs o.dst = .v i)
  (hrun:(execOp a.eval o).run P w = .ok (.value (.pointer (some ⟨w.heap.size,0,none⟩))) (w.alloc (.cells cs T)))
  (hR:∀(k:Nat) (c:Value) (x:PV),cs[k]? = some c→ps[k]? = some x→VR N w G.fix G.heap c x∧x.flat=true∧(∀es,x = .list true es→c = .slice none 0 0)) (hl:cs.size=ps.length)
  (hk:a2Z N w G a { st with gen:=st.gen+1 } (.loc st.gen ps) vs ops j o next):o.wp P a w next Q:=by
 unfold Oper.wp
 rw[hrun]
 have hnow:G.ow w.heap.size=none:=by
  cases h:G.ow w.heap.size with
  | none=>rfl
  | some k=>have:=hf.owlt _ _ h; omega
 have hnofix:∀o,¬G.fix w.heap.size o:=λo h=>by have:=hf.fixlt _ _ h; omega
 let G':GS:={ G with ow:=λx=>if x=w.heap.size then some (.var i) else G.ow x,box:=λg=>if g=st.gen then some w.heap.size else G.box g }
 have hext:Ext w G (w.alloc (.cells cs T)) G':=by
  refine⟨rfl,rfl,rfl,by simp,λb hb _=>a0q hb,λb o h=>⟨h,a2a (hf.fixlt _ _ h)⟩,λ_ _ h => .inl h,?_,λ_ _ h=>h,.same λk hk=>a0q hk,rfl⟩
  intro b hb
  by_cases hlt:b<w.heap.size
  ·refine .inr ?_
   simp only[G'] at hb
   rw[if_neg (by omega)] at hb
   exact hb
  ·exact .inl (by omega)
 have hkeep:a6B (λ_=>False) w G (w.alloc (.cells cs T)) G':=by
  refine⟨?_,?_⟩
  ·intro b k hb _
   have hlt:=hf.owlt _ _ hb
   refine⟨?_,a0q hlt,λ_ h=>h⟩
   simp only[G']
   rw[if_neg (by omega)]; exact hb
  ·intro g b hb
   have:=hf.gen _ _ hb
   simp only[G']
   rw[if_neg (by omega)]; exact hb
 have hf1:FI N (w.alloc (.cells cs T)) G' { st with gen:=st.gen+1 } a vs (a0t vs ops):=by
  refine⟨hf.len,λi t u h1 h2=>(hf.var i t u h1 h2).keep hext hkeep (λh=>h) (λ_ _ _ h=>h),λj t u h1 h2=>(hf.loc j t u h1 h2).keep hext hkeep (λh=>h) (λ_ _ _ h=>h),hf.tv,hf.tl,hf.defers,?_,?_,?_,hf.heap.keep hext hkeep (λ_ _ h=>h),hf.hdom⟩
  ·intro g b hb
   simp only[G'] at hb
   split at hb
   ·simp; omega
   ·have:=hf.gen _ _ hb; simp; omega
  ·intro b k hb
   simp only[G'] at hb
   split at hb
   ·simp; omega
   ·have:=hf.owlt _ _ hb; simp; omega
  ·intro b o h; have:=hf.fixlt _ _ h; simp; omega
 refine hk _ _ G' (hf1.put nm (a17 ho) ?_) hext (a1v _ _ _)
 rw[hd]
 refine⟨w.heap.size,i,rfl,rfl,by simp[G'],by simp[G',a9j],hnofix,cs,T,a0S,hl,?_⟩
 intro k c x hc hx
 obtain⟨h1,h2,h3⟩:=hR k c x hc hx
 refine⟨h1.ext hext,h2,?_⟩
 split
 ·rename_i es
  have:=h3 es rfl
  subst this
  trivial
 ·trivial
theorem b26 {d:PD} (h:b3k d=true):∃i,d = .v i:=by
 cases d with
 | v i=>exact⟨i,rfl⟩
 | l=>simp[b3k] at h
 | n=>simp[b3k] at h
theorem b5s (nm:Names vs (a0t vs ops)) (ho:ops[j]? = some o) (hf:FI N w G st a vs (a0t vs ops)) {t:TypeId} {z:List PV} (hop:o.op = .alloc t) (hz:a38 P t=some z) (hd:b3k (a3j vs o.dst)=true) {cf:a0v}
  (hs:opv cf (.newloc z) st=some (u,st1)) (hk:a2Z N w G a st1 u vs ops j o next):o.wp P a w next Q:=by
 simp only[opv,Option.some.injEq,Prod.mk.injEq] at hs
 obtain⟨rfl,rfl⟩:=hs
 obtain⟨i,hi⟩:=b26 hd
 obtain⟨ti,zv,h1,h2,h3,h4,h5,_⟩:=a19 (N:=N) (w:=w) (fix:=G.fix) (hp:=G.heap) hz
 refine b5r (cs:=zv.cells) (ps:=z) (T:=t) nm ho hf hi ?_ ?_ ?_ hk
 ·simp[execOp,hop,Instr.alloc,zeroValue,typeInfo,h1,h2,newVar,newRow]
 ·intro k c x hc hx
  refine⟨h5.2.2 k c x (by simpa using hc) hx,h5.2.1 x (List.mem_of_getElem? hx),?_⟩
  rintro es rfl
  unfold a38 at hz
  simp only[h1,h2,Option.bind_eq_some_iff] at hz
  obtain⟨cs',hcs,hz⟩:=hz
  split at hz
  ·simp at hz; subst hz
   exact a3I hcs k c es (by simpa using hc) hx
  ·simp at hz
 ·have:=h5.1; simpa using this
theorem b5t (hE:EnvOk E N) (nm:Names vs (a0t vs ops)) (ho:ops[j]? = some o) (hf:FI N w G st a vs (a0t vs ops)) {t:TypeId} {n:Nat} {x:Operand} {px:PX} (hop:o.op = .box t x) (hn:a05 P t=some n) (hx:cx E vs ops x=some px)
  (hd:b3k (a3j vs o.dst)=true) {cf:a0v} (hs:opv cf (.boxloc n px) st=some (u,st1)) (hk:a2Z N w G a st1 u vs ops j o next):o.wp P a w next Q:=by
 simp only[opv] at hs
 split at hs
 ·rename_i p hp
  split at hs
  ·rename_i hl
   simp only[Option.some.injEq,Prod.mk.injEq] at hs
   obtain⟨rfl,rfl⟩:=hs
   obtain⟨i,hi⟩:=b26 hd
   obtain⟨_,_,_,_,hn0,_⟩:=a0n hn
   have hv:=(a0k hE hx hf hp).1
   have hcells:=(CellsR.of_cells hv (by intro e; rw[e] at hl; simp at hl; omega)).dem
   refine b5r (cs:=(a.eval x).cells) (ps:=p.cells.map dem) (T:=t) nm ho hf hi ?_ ?_ ?_ hk
   ·simp[execOp,hop,Instr.box,newVar,newRow]
   ·intro k c y hc hy
    refine⟨hcells.2.2 k c y (by simpa using hc) hy,hcells.2.1 y (List.mem_of_getElem? hy),?_⟩
    rintro es rfl
    simp only[List.getElem?_map,Option.map_eq_some_iff] at hy
    obtain⟨q,_,hq⟩:=hy
    cases q<;>simp[dem] at hq
   ·have:=hcells.1; simpa using this
  ·simp at hs
 ·simp at hs
end
section
variable {E:Env} {N:Nm} {w:World} {G:GS} {st:St} {a:Act} {vs:List Tmp} {ops:List Oper} {P:Program}
variable {o:Oper} {j:Nat} {next:Act→World→Prop} {Q:Exit→Act→World→Prop} {u:PV} {st1:St}
def b5u (N:Nm) (w:World) (fix:Nat→Nat→Prop) (hp:Nat→Option Nat) (size:Nat) (cs:Array Value) (es:List PV):Prop:=
 cs.size=es.length*size∧∀(i:Nat) (e:PV),es[i]? = some e→e.cells.length=size∧(∀x∈e.cells,x.flat=true) ∧
  ∀(k:Nat) (c:Value) (x:PV),cs[i*size+k]? = some c→e.cells[k]? = some x→VR N w fix hp c x
theorem b7i {i n k size:Nat} (hi:i<n) (hk:k<size):i*size+k<n*size:=by
 have:(i+1)*size≤n*size:=Nat.mul_le_mul_right _ hi
 rw[Nat.add_mul] at this; omega
theorem b8f (v:PV):(b3f v).cells=v.cells.map PI.dem:=by
 cases v<;>rfl
theorem b16 (hE:EnvOk E N) (hf:FI N w G st a vs (a0t vs ops)) {size:Nat} (hs0:size≠0):∀{parts:List (Nat×Operand)} {ps:List (Nat×PX)} {qs:List (Nat×PV)} {zs rs:List PV} {cs:Array Value},
  b2z E vs ops parts=some ps→rdElems st ps=some qs→a5G size zs qs=some rs→b5u N w G.fix G.heap size cs zs →
  ∃ds,Instr.fill (λi=>some (i*size,size)) cs (parts.map λ(i,x)=>(i,a.eval x))=some ds∧b5u N w G.fix G.heap size ds rs∧rs.length=zs.length
 | [], ps, qs, zs, rs, cs, hc, hr, a3L, hR => by
   simp[b2z] at hc; subst hc
   simp[rdElems] at hr; subst hr
   simp[a5G] at a3L; subst a3L
   exact⟨cs,rfl,hR,rfl⟩
 | (i, x) :: parts, ps, qs, zs, rs, cs, hc, hr, a3L, hR => by
   simp only[b2z,Option.bind_eq_some_iff,Option.map_eq_some_iff] at hc
   obtain⟨px,hpx,ps',hps,rfl⟩:=hc
   simp only[rdElems,Option.bind_eq_some_iff,Option.map_eq_some_iff] at hr
   obtain⟨v,hv,qs',hqs,rfl⟩:=hr
   simp only[a5G] at a3L
   split at a3L
   ·rename_i hcond
    have hvr:=(a0k hE hpx hf hv).1
    have hcells:=CellsR.of_cells hvr (by intro e; rw[e] at hcond; simp at hcond; omega)
    have hsz:(a.eval x).cells.size=size:=by have:=hcells.1; simp at this; omega
    have hle:i*size+(a.eval x).cells.size≤cs.size:=by
     rw[hR.1,hsz]
     have:(i+1)*size≤zs.length*size:=Nat.mul_le_mul_right _ hcond.2
     rw[Nat.add_mul] at this; omega
    have hnew:b5u N w G.fix G.heap size ((a.eval x).cells.zipIdx.foldl (λ(cs:Array Value) (y:Value×Nat)=>cs.setIfInBounds (i*size+y.2) y.1) cs) (zs.set i (b3f v)):=by
     have hl:=b15 (i*size) (a.eval x).cells cs hle
     have a57:∀k,((a.eval x).cells.zipIdx.foldl (λ(cs:Array Value) (y:Value×Nat)=>cs.setIfInBounds (i*size+y.2) y.1) cs)[k]? = if i*size≤k∧k<i*size+size then(a.eval x).cells[k - i*size]? else cs[k]? := by
      intro k
      have hg:=b3N (i*size) (a.eval x).cells.toList 0 cs k (by simpa using hle)
      have he:(a.eval x).cells.zipIdx.foldl (λ(cs:Array Value) (y:Value×Nat)=>cs.setIfInBounds (i*size+y.2) y.1) cs=((a.eval x).cells.toList.zipIdx 0).foldl (λ(cs:Array Value) (y:Value×Nat)=>cs.setIfInBounds (i*size+y.2) y.1) cs:=by
       rw[← Array.foldl_toList]; simp
      rw[he,hg]
      simp[hsz]
     refine⟨?_,?_⟩
     ·have:=congrArg List.length hl
      rw[Array.length_toList,List.length_append,List.length_append,List.length_take,List.length_drop,Array.length_toList,Array.length_toList] at this
      rw[List.length_set,← hR.1,this]
      omega
     ·intro i' e' he'
      rw[List.getElem?_set] at he'
      split at he'
      ·rename_i hii
       subst hii
       rw[if_pos hcond.2] at he'
       simp at he'; subst he'
       rw[b8f]
       refine⟨by rw[List.length_map]; exact hcond.1,hcells.dem.2.1,?_⟩
       intro k c y hc hy
       have hk:k<size:=by have:=(List.getElem?_eq_some_iff.1 hy).1; rw[List.length_map] at this; omega
       rw[a57,if_pos ⟨by omega,by omega⟩,show i*size+k - i*size=k by omega] at hc
       exact hcells.dem.2.2 k c y (by simpa using hc) hy
      ·rename_i hii
       obtain⟨h1,h2,h3⟩:=hR.2 i' e' he'
       refine⟨h1,h2,?_⟩
       intro k c y hc hy
       have hk:k<size:=by have:=(List.getElem?_eq_some_iff.1 hy).1; omega
       have hout:¬(i*size≤i'*size+k∧i'*size+k<i*size+size):=by
        rintro⟨ha,hb⟩
        rcases Nat.lt_or_gt_of_ne hii with h|h
        ·have:(i+1)*size≤i'*size:=Nat.mul_le_mul_right _ h
         rw[Nat.add_mul] at this; omega
        ·have:(i'+1)*size≤i*size:=Nat.mul_le_mul_right _ h
         rw[Nat.add_mul] at this; omega
       rw[a57,if_neg hout] at hc
       exact h3 k c y hc hy
    obtain⟨ds,h1,h2,h3⟩:=b16 hE hf hs0 hps hqs a3L hnew
    refine⟨ds,?_,h2,by rw[h3,List.length_set]⟩
    simp only[List.map_cons,Instr.fill]
    rw[if_neg (by simp[hsz]; omega)]
    exact h1
   ·simp at a3L
theorem b9S (nm:Names vs (a0t vs ops)) (ho:ops[j]? = some o) (hf:FI N w G st a vs (a0t vs ops)) {cs:Array Value} {es:List PV} {T:TypeId} {size:Nat} (hR:b5u N w G.fix G.heap size cs es)
  (hrun:(execOp a.eval o).run P w = .ok (.value (.slice (some ⟨w.heap.size,0,none⟩) es.length es.length)) (w.alloc (.cells cs T)))
  (hk:a2Z N w G a st (.list true es) vs ops j o next):o.wp P a w next Q:=by
 unfold Oper.wp
 rw[hrun]
 have hnofix:∀o,¬G.fix w.heap.size o:=λo h=>by have:=hf.fixlt _ _ h; omega
 let G':GS:={ G with fix:=λb o=>G.fix b o∨b=w.heap.size }
 have hext:Ext w G (w.alloc (.cells cs T)) G':=by
  refine⟨rfl,rfl,rfl,by simp,λb hb _=>a0q hb,λb o h=>⟨.inl h,a2a (hf.fixlt _ _ h)⟩,?_,λ_ h => .inr h,λ_ _ h=>h,.same λk hk=>a0q hk,rfl⟩
  rintro b o (h|h)
  ·exact .inl h
  ·exact .inr (.inl (by omega))
 have hkeep:a6B (λ_=>False) w G (w.alloc (.cells cs T)) G':=by
  refine⟨?_,λ_ _ h=>h⟩
  intro b k hb _
  have hlt:=hf.owlt _ _ hb
  refine⟨hb,a0q hlt,?_⟩
  rintro o (h|h)
  ·exact h
  ·omega
 have hf1:=hf.ext (G':=G') hext hkeep hf.gen (λb k hb=>by have:=hf.owlt b k hb; simp; omega) (by
  rintro b o (h|h)
  ·have:=hf.fixlt _ _ h; simp; omega
  ·simp; omega)
 refine hk _ _ G' (hf1.put nm (a17 ho) ⟨?_,.inl rfl⟩) hext (a1v _ _ _)
 refine .list true w.heap.size 0 es.length es.length size es (λk=>cs.getD k undef) rfl (Nat.le_refl _) ?_ ?_ ?_ ?_
 ·intro e he
  obtain⟨i,hi⟩:=List.mem_iff_getElem?.1 he
  exact(hR.2 i e hi).1
 ·intro e he
  obtain⟨i,hi⟩:=List.mem_iff_getElem?.1 he
  exact(hR.2 i e hi).2.1
 ·intro k hk
  rw[← hR.1] at hk
  refine⟨?_,.inr rfl⟩
  rw[Nat.zero_add,World.cell?_alloc_new]
  simp[hk]
 ·intro i e he k x hx
  obtain⟨h1,h2,h3⟩:=hR.2 i e he
  have hk:k<size:=by have:=(List.getElem?_eq_some_iff.1 hx).1; omega
  have hi:i<es.length:=(List.getElem?_eq_some_iff.1 he).1
  have hlt:i*size+k<cs.size:=by rw[hR.1]; exact b7i hi hk
  have:=h3 k cs[i*size+k] x (by simp[hlt]) hx
  simp only[Array.getD_eq_getD_getElem?,Array.getElem?_eq_getElem hlt,Option.getD_some]
  exact this.ext hext
theorem b3O (hE:EnvOk E N) (nm:Names vs (a0t vs ops)) (ho:ops[j]? = some o) (hf:FI N w G st a vs (a0t vs ops)) {t e:TypeId} {len size:Nat} {parts:Array (Nat×Operand)} {z:List PV} {ps:List (Nat×PX)}
  (hop:o.op = .buildSlice t len parts) (hu:P.underlying t=some (.slice e)) (hn:a05 P e=some size) (hz:a38 P e=some z) (hlen:len*size≤16777216) (hc:b2z E vs ops parts.toList=some ps) {cf:a0v}
  (hs:opv cf (.mkslice size (if a0T P e then .agg z else z.headD .dead) len ps) st=some (u,st1)) (hk:a2Z N w G a st1 u vs ops j o next):o.wp P a w next Q:=by
 simp only[opv,Option.map_eq_some_iff,Option.bind_eq_some_iff,Prod.mk.injEq] at hs
 obtain⟨rs,⟨qs,hq,a3L⟩,rfl,rfl⟩:=hs
 obtain⟨ti,zv,h1,h2,h3,h4,h5,_⟩:=a19 (N:=N) (w:=w) (fix:=G.fix) (hp:=G.heap) hz
 obtain⟨ti',d,hi',hsz',hs0,hd⟩:=a0n hn
 have hti:ti'=ti:=by rw[h1] at hi'; simpa using hi'.symm
 subst hti
 have hzs:zv.cells.size=size:=by have:=h5.1; simp at this; omega
 have hzc:(if a0T P e then PV.agg z else z.headD .dead).cells=z:=by
  split
  ·rfl
  ·rename_i hna
   have hs1:=a3q hn (by simpa using hna)
   match z,h4 with
   | [],h=>simp at h; omega
   | [p], _ =>
     have:=h5.2.1 p (by simp)
     cases p<;>first|rfl|simp[PV.flat] at this
   | _::_::_,h=>simp at h; omega
 let cs0:Array Value:=(Array.range (len*size)).map (zv.cells[· % zv.cells.size]!)
 have hR0:b5u N w G.fix G.heap size cs0 (List.replicate len (if a0T P e then PV.agg z else z.headD .dead)):=by
  refine⟨by simp[cs0],?_⟩
  intro i x hx
  have hx':=List.getElem?_replicate.symm.trans hx
  split at hx'
  ·rename_i hi
   simp only[Option.some.injEq] at hx'
   rw[← hx',hzc]
   refine⟨by omega,h5.2.1,?_⟩
   intro k c y hcc hy
   have hk:k<size:=by have:=(List.getElem?_eq_some_iff.1 hy).1; omega
   have hlt:i*size+k<len*size:=b7i hi hk
   have hmod:(i*size+k) % size=k:=by
    rw[Nat.add_comm,Nat.mul_comm,Nat.add_mul_mod_self_left]; exact Nat.mod_eq_of_lt hk
   simp only[cs0,Array.getElem?_map,Array.getElem?_range,hlt,if_true,Option.map_some,Option.some.injEq,hzs,hmod] at hcc
   have hk':k<zv.cells.size:=by omega
   rw[getElem!_pos zv.cells k hk'] at hcc
   exact h5.2.2 k c y (by rw[← hcc]; simp[hk']) hy
  ·simp at hx'
 obtain⟨ds,hfill,hR,hlen'⟩:=b16 hE hf hs0 hc hq a3L hR0
 have hl:rs.length=len:=by simpa using hlen'
 refine b9S (cs:=ds) (T:=e) nm ho hf hR ?_ hk
 rw[hl]
 have hbig:¬(len*size>2 ^ 24):=by
  have:(2:Nat) ^ 24=16777216:=by decide
  omega
 have hpl:(parts.map λ(i,x)=>(i,a.eval x)).toList=parts.toList.map λ(i,x)=>(i,a.eval x):=by simp
 have hbs:(Instr.buildSlice t len (parts.map λ(i,x)=>(i,a.eval x))).run P w = .ok (.slice (some ⟨w.heap.size,0,none⟩) len len) (w.alloc (.cells ds e)):=by
  unfold Instr.buildSlice
  simp only[Sem.run_bind,run_underlying hu,Result.andThen_ok,a08 hn,if_neg hbig]
  by_cases h0:len*size=0
  ·have hc0:(Array.range (len*size)).map ((#[]:Array Value)[· % (#[]:Array Value).size]!)=cs0:=by simp[h0,cs0]
   simp only[if_pos h0,Sem.run_bind,Sem.run_pure,Result.andThen_ok,hc0,hpl,hfill]
   simp[newRow]
  ·simp only[if_neg h0,Sem.run_bind,Sem.run_pure,Result.andThen_ok,zeroValue,typeInfo,run_program,h1,h2,hpl]
   have:Instr.fill (λi=>some (i*size,size)) ((Array.range (len*size)).map (zv.cells[· % zv.cells.size]!)) (parts.toList.map λ(i,x)=>(i,a.eval x))=some ds:=hfill
   rw[this]
   simp[newRow]
 simp[execOp,hop,hbs]
end
section
variable {E:Env} {N:Nm} {w:World} {G:GS} {st:St} {a:Act} {vs:List Tmp} {ops:List Oper} {P:Program}
variable {o:Oper} {j:Nat} {next:Act→World→Prop} {Q:Exit→Act→World→Prop} {u:PV} {st1:St}
theorem b01 (hf:FI N w G st a vs (a0t vs ops)) {s g b:Nat} {cs:List PV} (hv:st.vars[s]? = some (.loc g cs)) (hb:G.box g=some b):
  ∃ t, vs[s]? = some t ∧ a.eval (.tmp t) = .pointer (some ⟨b, 0, none⟩) ∧ G.ow b = some (.var s) ∧ (∀ o, ¬ G.fix b o) ∧
    ∃cv T,w.heap[b]? = some (.cells cv T (0,0))∧cv.size=cs.length∧∀(k:Nat) (c:Value) (x:PV),cv[k]? = some c→cs[k]? = some x→CR N w G (.vcell s k) c x:=by
 have hs:s<vs.length:=by rw[← hf.len]; exact(List.getElem?_eq_some_iff.1 hv).1
 have h:=hf.var s vs[s] _ (List.getElem?_eq_getElem hs) hv
 obtain⟨b',i,hk,h1,h2,h3,h4,h5⟩:=h
 have hi:i=s:=by simpa using hk.symm
 subst hi
 have:b'=b:=by rw[hb] at h2; simpa using h2.symm
 subst this
 exact⟨vs[i],List.getElem?_eq_getElem hs,h1,h3,h4,h5⟩
theorem a7H {b:Nat} {cv:Array Value} {T:TypeId} {cs:List PV} {s:Nat} (hh:w.heap[b]? = some (.cells cv T (0,0))) (hl:cv.size=cs.length)
  (hc:∀(k:Nat) (c:Value) (x:PV),cv[k]? = some c→cs[k]? = some x→CR N w G (.vcell s k) c x):
  CellsR N w G.fix G.heap cv.toList cs∧∀(k:Nat) (v:Value),cv.toList[k]? = some v→w.cell? ⟨b,k,none⟩=some v:=by
 refine⟨⟨by simpa using hl,?_,λi c x h1 h2=>(hc i c x (by simpa using h1) h2).1⟩,?_⟩
 ·intro x hx
  obtain⟨i,hi⟩:=List.mem_iff_getElem?.1 hx
  have hlt:i<cv.size:=by have:=(List.getElem?_eq_some_iff.1 hi).1; omega
  exact(hc i cv[i] x (by simp[hlt]) hi).2.1
 ·intro k v hv
  simp only[Array.getElem?_toList] at hv
  simp[World.cell?,hh,hv]
theorem b9T (hf:FI N w G st a vs (a0t vs ops)) {t:TypeId} {n s g off b:Nat} {cs:List PV} {v:Value} (hn:a05 P t=some n) (hv:v = .pointer (some ⟨b,off,none⟩)) (hb:G.box g=some b)
  (hs:st.vars[s]? = some (.loc g cs)) (hl:a0a n (a0T P t) cs off=some u):∃r,(Instr.loadAt t v).run P w = .ok r w∧VR N w G.fix G.heap r u∧cp u=some u:=by
 obtain⟨_,_,_,_,_,cv,T,h1,h2,h3⟩:=b01 hf hs hb
 obtain⟨hR,hcell⟩:=a7H h1 h2 h3
 have hn0:n≠0:=by obtain⟨_,_,_,_,h,_⟩:=a0n hn; exact h
 obtain⟨k1,k2,k3⟩:=a18 hR hl hn0 (a3q hn)
 refine⟨_,?_,k2,k3⟩
 subst hv
 have:=a4O (w:=w) hn b off (cv.toList.drop off) (by simp at k1 ⊢; omega) (λj v hv=>by
  rw[List.getElem?_drop] at hv
  exact hcell _ _ hv)
 simpa[Instr.loadAt,Instr.sureAddr] using this
theorem b27 (hE:EnvOk E N) (nm:Names vs (a0t vs ops)) (ho:ops[j]? = some o) (hf:FI N w G st a vs (a0t vs ops)) {t:TypeId} {n:Nat} {x:Operand} {px:PX} {tk:Bool} (hop:o.op = .load t x) (hn:a05 P t=some n)
  (hx:cx E vs ops x=some px) {cf:a0v} (hs:opv cf (.load n (a0T P t) px tk) st=some (u,st1)) (hk:a2Z N w G a st1 u vs ops j o next):o.wp P a w next Q:=by
 have plain:∀r,(Instr.loadAt t (a.eval x)).run P w = .ok r w→(execOp a.eval o).run P w = .ok (.value r) w:=by
  intro r hr
  simp[execOp,hop,hr]
 simp only[opv] at hs
 split at hs
 ·rename_i cs ha
  simp only[Option.map_eq_some_iff,Prod.mk.injEq] at hs
  obtain⟨r,hr,rfl,rfl⟩:=hs
  rcases a1Z hE hx hf ha with⟨_,_,_,_,h,_⟩|⟨h,_⟩
  ·simp at h
  ·obtain⟨r',h1,h2,h3⟩:=b12 (P:=P) hn h hr
   exact a0l nm ho hf (plain _ h1) (SR.of_pure h2 h3) hk
 ·rename_i s g off ha
  rcases a1Z hE hx hf ha with⟨_,_,_,b,h,hv,hb⟩|⟨_,h⟩
  ·simp only[PV.lptr.injEq] at h
   obtain⟨rfl,rfl,rfl⟩:=h
   split at hs
   ·rename_i g' cs hsv
    split at hs
    ·rename_i hgg
     subst hgg
     split at hs
     ·rename_i es htk hcell
      simp only[Option.some.injEq,Prod.mk.injEq] at hs
      obtain⟨rfl,rfl⟩:=hs
      simp only[Bool.and_eq_true,Bool.not_eq_true'] at htk
      obtain⟨tt,ht1,ht2,ht3,ht4,cv,T,hh,hl,hc⟩:=b01 hf hsv hb
      have hlt:off<cv.size:=by have:=(List.getElem?_eq_some_iff.1 hcell).1; omega
      obtain⟨hvr,_,hroom⟩:=hc off cv[off] _ (by simp[hlt]) hcell
      obtain⟨G',hG,hroom'⟩:=Room.give (key':=a9j (a3j vs o.dst) j) hroom
      have hgg:G'.box=G.box∧G'.fix=G.fix∧G'.heap=G.heap:=by
       rcases hG with rfl|⟨b,_,rfl⟩<;>exact⟨rfl,rfl,rfl⟩
      have hext:Ext w G w G':=by
       rcases hG with rfl|⟨b,hb,rfl⟩
       ·exact Ext.refl _ _
       ·exact b00 b _ (λ_=>by simp[hb])
      have hkeep:a6B (λk=>k = .vcell s off) w G w G':=by
       rcases hG with rfl|⟨b,hb,rfl⟩
       ·exact⟨λb k h _=>⟨h,rfl,λ_ h=>h⟩,λ_ _ h=>h⟩
       ·exact a9k b _ (λk' hk'=>by rw[hb] at hk'; simpa using hk'.symm)
      have hf1:FI N w G' { st with vars:=st.vars.set s (.loc g (cs.set off (.list false es))) } a vs (a0t vs ops):=by
       refine⟨by simp[hf.len],?_,λi t' u' h1 h2=>(hf.loc i t' u' h1 h2).keep hext hkeep (by simp) (by simp),hf.tv,hf.tl,(hf.defers.trans hext.df.symm),by rw[hgg.1]; exact hf.gen,?_,by rw[hgg.2.1]; exact hf.fixlt,hf.heap.keep hext hkeep (by rintro k hk rfl; simp[Key.isH] at hk),by rw[hgg.2.2]; exact hf.hdom⟩
       ·intro i t' u' h1 h2
        simp only[List.getElem?_set] at h2
        split at h2
        ·rename_i hi
         subst hi
         split at h2
         ·simp at h2; subst h2
          have:t'=tt:=by rw[ht1] at h1; simpa using h1.symm
          subst this
          obtain⟨ho1,_,_⟩:=hkeep.1 _ _ ht3 (by simp)
          refine⟨b,s,rfl,ht2,by rw[hgg.1]; exact hb,ho1,by rw[hgg.2.1]; exact ht4,cv,T,hh,by simp[hl],?_⟩
          intro k c y hc1 hy
          rw[List.getElem?_set] at hy
          split at hy
          ·rename_i hk2
           subst hk2
           split at hy
           ·simp at hy; subst hy
            have:c=cv[off]:=by simp[hlt] at hc1; exact hc1.symm
            subst this
            refine⟨(hvr.dem).ext hext,rfl,trivial⟩
           ·simp at hy
          ·rename_i hk2
           exact(hc k c y hc1 hy).keep hext hkeep (by simp; omega)
         ·simp at h2
        ·rename_i hi
         exact(hf.var i t' u' h1 h2).keep hext hkeep (by simp) (by simp; intro i' k hi' e; omega)
       ·intro b' k hb'
        rcases hG with rfl|⟨b2,hb2,rfl⟩
        ·exact hf.owlt _ _ hb'
        ·simp only[GS.give] at hb'
         split at hb'
         ·subst_vars; exact hf.owlt _ _ hb2
         ·exact hf.owlt _ _ hb'
      unfold Oper.wp
      have hrun:(Instr.loadAt t (a.eval x)).run P w = .ok cv[off] w:=by
       have hcl:w.cell? ⟨b,off,none⟩=some cv[off]:=by simp[World.cell?,hh,hlt]
       rw[hv]
       simp[Instr.loadAt,Instr.sureAddr,loadVar,a4o hn,htk.2,hcl]
      rw[plain _ hrun]
      exact hk _ _ G' (hf1.put nm (a17 ho) ⟨hvr.ext hext,hroom'⟩) hext (a1v _ _ _)
     ·simp only[Option.map_eq_some_iff,Prod.mk.injEq] at hs
      obtain⟨r,hr,rfl,rfl⟩:=hs
      obtain⟨r',h1,h2,h3⟩:=b9T (P:=P) hf hn hv hb hsv hr
      exact a0l nm ho hf (plain _ h1) (SR.of_pure h2 h3) hk
    ·simp at hs
   ·simp at hs
  ·simp[cp] at h
 ·simp at hs
theorem b6w (hE:EnvOk E N) (nm:Names vs (a0t vs ops)) (ho:ops[j]? = some o) (hf:FI N w G st a vs (a0t vs ops)) {t:TypeId} {n:Nat} {x y:Operand} {px py:PX} (hop:o.op = .store t x y) (hdst:o.dst=none) (hn:a05 P t=some n)
  (hx:cx E vs ops x=some px) (hy:cx E vs ops y=some py) {cf:a0v} (hs:opv cf (.store n (a0T P t) px py) st=some (u,st1)) (hk:a2Z N w G a st1 u vs ops j o next):o.wp P a w next Q:=by
 simp only[opv] at hs
 split at hs
 ·rename_i s g off v st' ha htk
  rcases a1Z hE hx hf ha with⟨_,_,_,b,h,hv,hb⟩|⟨_,h⟩
  ·simp only[PV.lptr.injEq] at h
   obtain⟨rfl,rfl,rfl⟩:=h
   obtain⟨G1,hf1,hext1,hbox1,hfix1,hheap1,hvr,htaken,_,_,_⟩:=a7R hE hy hf htk (.vcell s off)
   split at hs
   ·rename_i g' cs hsv
    split at hs
    ·rename_i hgg
     subst hgg
     simp only[Option.map_eq_some_iff,Prod.mk.injEq] at hs
     obtain⟨cs',hst,rfl,rfl⟩:=hs
     obtain⟨tt,ht1,ht2,ht3,ht4,cv,T,hh,hl,hc⟩:=b01 hf1 hsv (by rw[hbox1]; exact hb)
     have hn0:n≠0:=by obtain⟨_,_,_,_,h,_⟩:=a0n hn; exact h
     have key:∃nc:List Value,(a.eval y).cells.toList=nc∧nc.length=n∧off+n≤cv.size∧(∀c∈nc,c.oneCell'=true)∧cs'.length=cs.length ∧
       ∀ (k : Nat) (c : Value) (z : PV), (cv.toList.take off ++ nc ++ cv.toList.drop (off + n))[k]? = some c → cs'[k]? = some z →
         (cv[k]? = some c∧cs[k]? = some z)∨(VR N w G.fix G.heap c z∧z.flat=true∧∀es,z = .list true es→(k=off∧Room w G1 (.vcell s off) c es)∨c = .slice none 0 0):=by
      unfold a0g at hst
      split at hst
      ·rename_i hagg
       split at hst
       ·rename_i ws
        split at hst
        ·rename_i hcond
         simp only[Option.some.injEq] at hst; subst hst
         obtain⟨ca,hca,hR⟩:=CellsR.of_agg hvr
         have hO:OwnNil ca.toList ws:=OwnNil.of_agg (hca▸hvr)
         have hcl:(a.eval y).cells.toList=ca.toList:=by rw[hca]; rfl
         have hlen:ca.toList.length=n:=by have:=hR.1; omega
         refine⟨ca.toList,hcl,hlen,by omega,?_,by simp; omega,?_⟩
         ·intro c hcm
          obtain⟨i,hi⟩:=List.mem_iff_getElem?.1 hcm
          have hlt:i<ws.length:=by have:=(List.getElem?_eq_some_iff.1 hi).1; have:=hR.1; omega
          have h1:=hR.2.2 i c ws[i] hi (List.getElem?_eq_getElem hlt)
          have h2:=h1.oneCell (hR.2.1 _ (List.getElem_mem hlt))
          cases c<;>first|rfl|simp[oneCell] at h2
         ·intro k c z hc1 hz
          rw[List.append_assoc] at hc1
          have hoff:(cv.toList.take off).length=off:=by simp; omega
          have hoff':(cs.take off).length=off:=by simp; omega
          by_cases h1:k<off
          ·rw[List.getElem?_append_left (by omega),List.getElem?_take,if_pos h1] at hc1
           rw[List.getElem?_append_left (by omega),List.getElem?_take,if_pos h1] at hz
           exact .inl ⟨by simpa using hc1,hz⟩
          ·rw[List.getElem?_append_right (by omega),hoff] at hc1
           rw[List.getElem?_append_right (by omega),hoff'] at hz
           by_cases h2:k<off+n
           ·rw[List.getElem?_append_left (by omega)] at hc1
            rw[List.getElem?_append_left (by omega)] at hz
            refine .inr ⟨hR.2.2 _ c z hc1 hz,hR.2.1 z (List.mem_of_getElem? hz),?_⟩
            rintro es rfl
            exact .inr (hO _ c es hc1 hz)
           ·rw[List.getElem?_append_right (by omega),List.getElem?_drop,hlen] at hc1
            rw[List.getElem?_append_right (by omega),List.getElem?_drop,hcond.1] at hz
            rw[show off+n+(k - off - n)=k by omega] at hc1 hz
            exact .inl ⟨by simpa using hc1,hz⟩
        ·simp at hst
       ·simp at hst
      ·rename_i hagg
       have hn1:=a3q hn (by simpa using hagg)
       subst hn1
       split at hst
       ·rename_i hcond
        simp only[Option.some.injEq] at hst; subst hst
        have h1:=hvr.oneCell hcond.2
        have hcl:(a.eval y).cells.toList=[a.eval y]:=by
         generalize a.eval y=q at h1
         cases q<;>first|rfl|simp[oneCell] at h1
        refine⟨[a.eval y],hcl,rfl,by omega,?_,by simp,?_⟩
        ·intro c hcm
         simp at hcm; subst hcm
         generalize a.eval y=q at h1
         cases q<;>first|rfl|simp[oneCell] at h1
        ·intro k c z hc1 hz
         rw[List.append_assoc] at hc1
         have hoff:(cv.toList.take off).length=off:=by simp; omega
         rw[List.getElem?_set] at hz
         split at hz
         ·rename_i hko
          subst hko
          split at hz
          ·simp at hz; subst hz
           rw[List.getElem?_append_right (by omega),hoff] at hc1
           simp at hc1; subst hc1
           refine .inr ⟨hvr,hcond.2,?_⟩
           rintro es rfl
           exact .inl ⟨rfl,htaken⟩
          ·simp at hz
         ·rename_i hko
          refine .inl ⟨?_,hz⟩
          by_cases h1:k<off
          ·rw[List.getElem?_append_left (by omega),List.getElem?_take,if_pos h1] at hc1
           simpa using hc1
          ·rw[List.getElem?_append_right (by omega),hoff,List.getElem?_append_right (by simp; omega),List.getElem?_drop] at hc1
           simp only[List.length_singleton] at hc1
           rw[show off+1+(k - off - 1)=k by omega] at hc1
           simpa using hc1
       ·simp at hst
     obtain⟨nc,hnc,hlen,hfit,hone,hlcs,hcells⟩:=key
     have hrun:(execOp a.eval o).run P w = .ok .skip (w.setRow b (cv.toList.take off++nc++cv.toList.drop (off+n)).toArray):=by
      have hst:=run_storeCells_at P b off T nc 0 cv w hh (by simp; omega) hone
      simp only[Nat.add_zero,hlen] at hst
      have hsz:(a.eval y).cells.size=n:=by rw[← hlen,← hnc]; simp
      simp[execOp,hop,Instr.storeAt,hv,Instr.sureAddr,storeVar,a08 hn,hsz,hnc,hst]
     unfold Oper.wp
     rw[hrun]
     have hblt:b<w.heap.size:=hf1.owlt _ _ ht3
     have hother:∀x,x≠b→(w.setRow b (cv.toList.take off++nc++cv.toList.drop (off+n)).toArray).heap[x]? = w.heap[x]? := λx hx=>setRow_other w b x _ hx
     have hext2:Ext w G1 (w.setRow b (cv.toList.take off++nc++cv.toList.drop (off+n)).toArray) G1:=by
      refine⟨rfl,rfl,rfl,by simp[World.setRow],?_,?_,λ_ _ h => .inl h,λ_ h => .inr h,λ_ _ h=>h,a4N hh _ ?_,rfl⟩
      rotate_left 2
      ·simp; omega
      ·intro x _ hxo
       exact hother x (by rintro rfl; rw[ht3] at hxo; simp at hxo)
      ·intro x o' hfx
       refine⟨hfx,?_⟩
       have hxb:x≠b:=by rintro rfl; exact ht4 _ hfx
       simp only[World.cell?,hother x hxb]
     have hkeep2:a6B (λk=>k = .var s) w G1 (w.setRow b (cv.toList.take off++nc++cv.toList.drop (off+n)).toArray) G1:=by
      refine⟨?_,λ_ _ h=>h⟩
      intro x k hxk hnk
      refine⟨hxk,hother x ?_,λ_ h=>h⟩
      rintro rfl
      rw[ht3] at hxk
      simp at hxk
      exact hnk hxk.symm
     have hf2:FI N (w.setRow b (cv.toList.take off++nc++cv.toList.drop (off+n)).toArray) G1 { st' with vars:=st'.vars.set s (.loc g cs') } a vs (a0t vs ops):=by
      refine⟨by simp[hf1.len],?_,λi t' u' h1 h2=>(hf1.loc i t' u' h1 h2).keep hext2 hkeep2 (by simp) (by simp),hf1.tv,hf1.tl,hf1.defers,hf1.gen,?_,?_,hf1.heap.keep hext2 hkeep2 (by rintro k hk rfl; simp[Key.isH] at hk),hf1.hdom⟩
      ·intro i t' u' h1 h2
       simp only[List.getElem?_set] at h2
       split at h2
       ·rename_i hi
        subst hi
        split at h2
        ·simp at h2; subst h2
         have:t'=tt:=by rw[ht1] at h1; simpa using h1.symm
         subst this
         refine⟨b,s,rfl,ht2,by rw[hbox1]; exact hb,ht3,ht4,_,T,setRow_heap w b cv _ T (0,0) hh,?_,?_⟩
         ·simp; omega
         ·intro k c z hc1 hz
          rcases hcells k c z (by simpa using hc1) hz with⟨k1,k2⟩|⟨k1,k2,k3⟩
          ·exact(hc k c z k1 k2).keep hext2 hkeep2 (by simp)
          ·refine⟨(hfix1▸hheap1▸k1:VR N w G1.fix G1.heap c z).ext hext2,k2,?_⟩
           split
           ·rename_i es
            rcases k3 es rfl with⟨e1,e2⟩|e
            ·subst e1
             exact e2.keep hkeep2 (by simp)
            ·subst e; trivial
           ·trivial
        ·simp at h2
       ·rename_i hi
        exact(hf1.var i t' u' h1 h2).keep hext2 hkeep2 (by simp; omega) (by simp)
      ·intro x k hx; simpa[World.setRow] using hf1.owlt x k hx
      ·intro x o' hx; simpa[World.setRow] using hf1.fixlt x o' hx
     have hput:a.put o.dst undef=a:=by simp[hdst,Act.put]
     have hd:a3j vs o.dst = .n:=by simp[hdst,a3j]
     show next (a.put o.dst undef) _
     rw[hput]
     refine hk _ _ G1 ?_ (hext1.trans hext2) rfl
     rw[hd]
     exact hf2
    ·simp at hs
   ·simp at hs
  ·simp[cp] at h
 ·simp at hs
end
end PI
