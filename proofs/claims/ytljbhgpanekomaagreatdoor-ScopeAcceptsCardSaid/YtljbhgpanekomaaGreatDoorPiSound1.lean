import Derived.Test.YtljbhgpanekomaaGreatDoorPiRel
import Derived.Test.YtljbhgpanekomaaGreatDoorPiComp
import Derived.Deep.AppendSrc
import Derived.Laws.CopyRow
import Derived.Laws.Build
import Derived.Laws.Tables
import Derived.ProofKit
import Derived.Laws.StructEq
set_option linter.unusedSectionVars false
namespace PI
open Go
structure FI (N:Nm) (w:World) (G:GS) (st:St) (a:Act) (vs:List Tmp) (lm:Nat→Option Tmp):Prop where
 len:st.vars.length=vs.length
 var:∀(i:Nat) (t:Tmp) (u:PV),vs[i]? = some t→st.vars[i]? = some u→SR N w G (.var i) (a.eval (.tmp t)) u
 loc:∀(j:Nat) (t:Tmp) (u:PV),lm j=some t→st.locs[j]? = some u→SR N w G (.loc j) (a.eval (.tmp t)) u
 tv:∀(i:Nat) (t:Tmp),vs[i]? = some t→t<a.tmps.size
 tl:∀(j:Nat) (t:Tmp),lm j=some t→t<a.tmps.size
 defers:a.defers=G.df
 gen:∀g b,G.box g=some b→g<st.gen
 owlt:∀b k,G.ow b=some k→b<w.heap.size
 fixlt:∀b o,G.fix b o→b<w.heap.size
 heap:HR N w G st.heap
 hdom:∀n b,G.heap n=some b→n<st.heap.length
structure Names (vs:List Tmp) (lm:Nat→Option Tmp):Prop where
 vnd:∀(i i':Nat) (t:Tmp),vs[i]? = some t→vs[i']? = some t→i=i'
 sep:∀(j:Nat) (t:Tmp) (i:Nat),lm j=some t→vs[i]?≠some t
 lnd:∀(j j':Nat) (t:Tmp),lm j=some t→lm j'=some t→j=j'
def vS (vs:List Tmp) (ops:List Oper) (j:Nat):Option Tmp:=
 match ops[j]? with
 | some o => match o.dst with
   | some t=>if (xH t vs 0).isSome then none else some t
   | none=>none
 | none=>none
structure EnvOk (E:Env) (N:Nm):Prop where
 fn:∀f k,E.inv f=some k→N.fn k=f
 yl:∀f k,E.inv f=some k→N.yl k=none
 pt:∀T i,xH T E.pt 0=some i→N.ty (i+1)=T
 bt:∀t,E.bT=some t→N.bT=t∧∃i,E.P.info? t=some i∧i.zero=some (.agg #[.pointer none,.slice none 0 0])
theorem Fh {w:World} {b:Nat} {cv:Array Value} {T:TypeId} {fz:Nat×Nat} (hh:w.heap[b]? = some (.cells cv T fz)) (NR:Array Value) (hs:NR.size=cv.size):ShapeLe w (w.setRow b NR):=
 .one b (λk _ hk=>setRow_other w b k _ hk) (λs hx=>by
  simp only[World.shape?,hh] at hx
  simp only[World.shape?,setRow_heap w b cv NR T fz hh,hs]
  exact hx) (λs hx=>by rw[LE hh] at hx; simp at hx)
theorem OM {N:Nm} {w:World} {fix:Nat→Nat→Prop} {hp:Nat→Option Nat} {v:Value} {p:PV} (h:Dd v=some p):
  VR N w fix hp v p∧p.flat=true:=by
 unfold Dd at h
 split at h<;>simp at h<;>subst h<;>refine⟨?_,rfl⟩<;>constructor
theorem Ka {N:Nm} {w:World} {fix:Nat→Nat→Prop} {hp:Nat→Option Nat}:∀{vs:List Value} {ps:List PV},Ca vs=some ps →
  vs.length=ps.length∧(∀p∈ps,p.flat=true)∧∀(i:Nat) (v:Value) (p:PV),vs[i]? = some v→ps[i]? = some p→VR N w fix hp v p
 | [],ps,h=>by simp[Ca] at h; subst h; simp
 | v :: vs, ps, h => by
   simp only[Ca,af,ab] at h
   obtain⟨p,lL,qs,hq,rfl⟩:=h
   obtain⟨h1,h2,h3⟩:=Ka (N:=N) (w:=w) (fix:=fix) (hp:=hp) hq
   have hv:=OM (N:=N) (w:=w) (fix:=fix) (hp:=hp) lL
   refine⟨by simp[h1],by simpa using⟨hv.2,h2⟩,?_⟩
   intro i x y hx hy
   cases i with
   | zero=>simp at hx hy; subst hx hy; exact hv.1
   | succ i=>exact h3 i x y (by simpa using hx) (by simpa using hy)
theorem DT:∀{vs:List Value} {ps:List PV},Ca vs=some ps→∀(i:Nat) (v:Value) (es:List PV),vs[i]? = some v→ps[i]? = some (.list true es)→v = .slice none 0 0
 | [],ps,h,i,v,es,h1,_=>by simp at h1
 | x :: xs, ps, h, i, v, es, h1, h2 => by
   simp only[Ca,af,ab] at h
   obtain⟨p,lL,qs,hq,rfl⟩:=h
   cases i with
   | zero =>
     simp at h1 h2; subst h1 h2
     unfold Dd at lL
     split at lL<;>simp at lL
     rfl
   | succ i=>exact DT hq i v es (by simpa using h1) (by simpa using h2)
theorem ON {N:Nm} {w:World} {fix:Nat→Nat→Prop} {hp:Nat→Option Nat} {v:Value} {p:PV} (h:De v=some p):
  VR N w fix hp v p:=by
 unfold De at h
 split at h
 ·rename_i cs
  simp only[ab] at h
  obtain⟨ps,h1,rfl⟩:=h
  obtain⟨a,b,c⟩:=Ka (N:=N) (w:=w) (fix:=fix) (hp:=hp) h1
  exact .agg cs ps (by simpa using a) b (λi x es hx hy=>DT h1 i x es (by simpa using hx) hy) (λi x y hx hy=>c i x y (by simpa using hx) hy)
 ·exact(OM h).1
theorem Kb {v:Value} {p:PV} (h:De v=some p):(∃es,p = .list true es∧v = .slice none 0 0)∨cp p=some p:=by
 unfold De at h
 split at h
 ·simp only[ab] at h
  obtain⟨ps,_,rfl⟩:=h
  exact .inr rfl
 ·unfold Dd at h
  split at h<;>simp at h<;>subst h<;>first|exact .inr rfl|exact .inl ⟨_,rfl,rfl⟩
theorem BP {t:Tmp}:∀{vs:List Tmp} {n i:Nat},xH t vs n=some i→n≤i∧vs[i - n]? = some t
 | [],n,i,h=>by simp[xH] at h
 | x :: xs, n, i, h => by
   simp only[xH] at h
   split at h
   ·simp at h; subst h; subst_vars; simp
   ·obtain⟨h1,h2⟩:=BP h
    refine⟨by omega,?_⟩
    rw[show i - n=(i - (n+1))+1 by omega]
    simpa using h2
theorem OO {t:Tmp}:∀{ops:List Oper} {n j:Nat},Eb t ops n=some j→n≤j∧∃o,ops[j - n]? = some o∧o.dst=some t
 | [],n,j,h=>by simp[Eb] at h
 | o :: os, n, j, h => by
   simp only[Eb] at h
   split at h
   ·simp at h; subst h; exact⟨ao _,o,by simp,by assumption⟩
   ·obtain⟨h1,o',h2,h3⟩:=OO h
    refine⟨by omega,o',?_,h3⟩
    rw[show j - n=(j - (n+1))+1 by omega]
    simpa using h2
def yH:PX→Key
 | .v i => .var i
 | .l j => .loc j
 | .c _ => .loc 0
section
variable {E:Env} {N:Nm} {w:World} {G:GS} {st:St} {a:Act} {vs:List Tmp} {ops:List Oper}
theorem SR.of_pure {key:Key} {v:Value} {u:PV} (h:VR N w G.fix G.heap v u) (hu:cp u=some u):SR N w G key v u:=by
 unfold SR
 split<;>first|trivial|(simp[cp] at hu; done)|exact h
theorem SR.read {key:Key} {v:Value} {u r:PV} (h:SR N w G key v u) (hr:cp u=some r):VR N w G.fix G.heap v r∧cp r=some r:=by
 unfold SR at h
 split at h
 ·simp[cp] at hr
 ·simp[cp] at hr
 ·simp[cp] at hr
 ·simp[cp] at hr; subst hr; exact⟨h.1.dem,rfl⟩
 ·have:r=dem u∧cp r=some r:=by
   unfold cp at hr
   split at hr<;>simp at hr<;>subst hr<;>(try exact⟨rfl,rfl⟩)
   refine⟨?_,?_⟩
   ·unfold dem; split
    ·rename_i hx; exact absurd rfl (hx _ _)
    ·rfl
   ·unfold cp; split<;>first|rfl|simp_all
  rw[this.1]
  exact⟨h.dem,this.1▸this.2⟩
theorem Bf (hE:EnvOk E N) {x:Operand} {px:PX} {u:PV} (hc:cx E vs ops x=some px) (hf:FI N w G st a vs (vS vs ops)) (hr:raw st px=some u):
  SR N w G (yH px) (a.eval x) u:=by
 cases x with
 | tmp t =>
   simp only[cx] at hc
   split at hc
   ·rename_i i hi
    simp at hc; subst hc
    obtain⟨_,h2⟩:=BP hi
    exact hf.var i t u (by simpa using h2) hr
   ·rename_i hn
    simp only[ab] at hc
    obtain⟨j,hj,rfl⟩:=hc
    obtain⟨_,o,h2,h3⟩:=OO hj
    refine hf.loc j t u ?_ hr
    simp only[Nat.sub_zero] at h2
    simp[vS,h2,h3,hn]
 | const v =>
   simp only[cx] at hc
   split at hc
   ·rename_i jE
    simp only[aa] at hc
    subst hc
    simp only[raw,aa] at hr
    subst hr
    have iC:v = .slice none 0 0:=by
     simp only[am] at jE
     have:=jE.2
     unfold KJ at this
     split at this
     ·rfl
     ·simp at this
    subst iC
    exact SR.of_pure .nils' rfl
   simp only[ab] at hc
   obtain⟨p,hp,rfl⟩:=hc
   simp only[raw,aa] at hr
   subst hr
   have hv:=ON (N:=N) (w:=w) (fix:=G.fix) (hp:=G.heap) hp
   rcases Kb hp with⟨es,rfl,rfl⟩|h
   ·exact⟨hv,trivial⟩
   ·exact SR.of_pure hv h
 | global g=>simp[cx] at hc
 | func f =>
   simp only[cx,ab] at hc
   obtain⟨k,hk,rfl⟩:=hc
   simp only[raw,aa] at hr
   subst hr
   refine SR.of_pure ?_ rfl
   have iT:=hE.yl _ _ hk
   have:=hE.fn _ _ hk
   subst this
   exact .func k #[] #[] [] [] iT rfl rfl (by simp) (by simp)
theorem wB (hE:EnvOk E N) {x:Operand} {px:PX} {u:PV} (hc:cx E vs ops x=some px) (hf:FI N w G st a vs (vS vs ops)) (hr:rd st px=some u):
  VR N w G.fix G.heap (a.eval x) u∧cp u=some u:=by
 simp only[rd,af] at hr
 obtain⟨r,h1,h2⟩:=hr
 exact(Bf hE hc hf h1).read h2
theorem Bg (hE:EnvOk E N) {x:Operand} {px:PX} {n:Int} (hc:cx E vs ops x=some px) (hf:FI N w G st a vs (vS vs ops)) (hr:rdInt st px=some n):
  ∃k,a.eval x = .int k n:=by
 unfold rdInt at hr
 split at hr
 ·rename_i k m hm
  simp at hr; subst hr
  have:=(wB hE hc hf hm).1
  generalize a.eval x=y at this
  cases this
  exact⟨_,rfl⟩
 ·simp at hr
theorem AD (hE:EnvOk E N) (hf:FI N w G st a vs (vS vs ops)):∀{xs:List Operand} {pxs:List PX} {us:List PV},cxs E vs ops xs=some pxs→rdAll st pxs=some us →
  xs.length=us.length∧∀(i:Nat) (x:Operand) (u:PV),xs[i]? = some x→us[i]? = some u→VR N w G.fix G.heap (a.eval x) u∧cp u=some u
 | [], pxs, us, hc, hr => by
   simp[cxs] at hc; subst hc
   simp[rdAll] at hr; subst hr; simp
 | x :: xs, pxs, us, hc, hr => by
   simp only[cxs,af,ab] at hc
   obtain⟨p,hp,ps,d4,rfl⟩:=hc
   simp only[rdAll,af,ab] at hr
   obtain⟨u,hu,us',eL,rfl⟩:=hr
   obtain⟨h1,h2⟩:=AD hE hf d4 eL
   refine⟨by simp[h1],?_⟩
   intro i y v hy hv
   cases i with
   | zero=>simp at hy hv; subst hy hv; exact wB hE hp hf hu
   | succ i=>exact h2 i y v (by simpa using hy) (by simpa using hv)
theorem AQ (hE:EnvOk E N) {x:Operand} {px:PX} {u:PV} (hc:cx E vs ops x=some px) (hf:FI N w G st a vs (vS vs ops)) (hr:addr st px=some u):
  (∃s g off b,u = .lptr s g off∧a.eval x = .pointer (some ⟨b,off,none⟩)∧G.box g=some b)∨(VR N w G.fix G.heap (a.eval x) u∧cp u=some u):=by
 unfold addr at hr
 split at hr
 ·rename_i i g cs fk
  simp at hr; subst hr
  have:=Bf hE hc hf fk
  simp only[SR,yH] at this
  obtain⟨b,i',hk,hv,hb,_⟩:=this
  exact .inl ⟨i,g,0,b,rfl,hv,hb⟩
 ·rename_i s g off fk
  simp at hr; subst hr
  have:=Bf hE hc hf fk
  simp only[SR] at this
  obtain⟨b,hv,hb⟩:=this
  exact .inl ⟨s,g,off,b,rfl,hv,hb⟩
 ·rename_i v _ _ fk
  exact .inr ((Bf hE hc hf fk).read hr)
 ·simp at hr
end
def xJ (d:PD) (j:Nat):Key:=
 match d with
 | .v i => .var i
 | _ => .loc j
def GZ (vs:List Tmp) (lm:Nat→Option Tmp) (j:Nat) (d:PD) (dst:Option Tmp):Prop:=
 match d with
 | .v i=>∃t,dst=some t∧vs[i]? = some t
 | .l=>∃t,dst=some t∧lm j=some t
 | .n=>dst=none
theorem Cu (a:Act) (d t:Tmp) (v:Value) (hd:d<a.tmps.size):(a.put (some d) v).eval (.tmp t)=if t=d then v else a.eval (.tmp t):=by
 simp only[Act.put,Act.eval,aK,aY]
 by_cases h:t=d
 ·subst h; simp[hd]
 ·simp[h,Ne.symm h]
theorem FI.put {N:Nm} {w:World} {G:GS} {st:St} {a:Act} {vs:List Tmp} {lm:Nat→Option Tmp} {j:Nat} {d:PD} {dst:Option Tmp} {v:Value} {u:PV}
  (h:FI N w G st a vs lm) (nm:Names vs lm) (hd:GZ vs lm j d dst) (hs:SR N w G (xJ d j) v u):FI N w G (put st j d u) (a.put dst v) vs lm:=by
 cases d with
 | n =>
   simp only[GZ] at hd; subst hd
   exact h
 | v i =>
   obtain⟨t,rfl,ht⟩:=hd
   have cQ:=h.tv i t ht
   refine⟨by simp[PI.put,h.len],?_,?_,?_,?_,h.defers,h.gen,h.owlt,h.fixlt,h.heap,h.hdom⟩
   ·intro i' t' u' h1 h2
    rw[Cu _ _ _ _ cQ]
    simp only[PI.put,aI] at h2
    by_cases hi:i=i'
    ·subst hi
     have:t'=t:=by rw[ht] at h1; simpa using h1.symm
     subst this
     split at h2
     ·split at h2
      ·simp at h2; subst h2; simp only[if_true]; exact hs
      ·simp at h2
     ·exact absurd rfl ‹_›
    ·rw[ae hi] at h2
     have c9:t'≠t:=λe=>hi (nm.vnd i i' t ht (e▸h1))
     rw[ae c9]
     exact h.var i' t' u' h1 h2
   ·intro j' t' u' h1 h2
    rw[Cu _ _ _ _ cQ,ae (λe:t'=t=>nm.sep j' t' i h1 (e▸ht))]
    exact h.loc j' t' u' h1 h2
   ·intro i' t' h1; simpa[Act.put] using h.tv i' t' h1
   ·intro j' t' h1; simpa[Act.put] using h.tl j' t' h1
 | l =>
   obtain⟨t,rfl,ht⟩:=hd
   have cQ:=h.tl j t ht
   refine⟨h.len,?_,?_,?_,?_,h.defers,h.gen,h.owlt,h.fixlt,h.heap,h.hdom⟩
   ·intro i' t' u' h1 h2
    rw[Cu _ _ _ _ cQ,ae (λe:t'=t=>nm.sep j t i' ht (e▸h1))]
    exact h.var i' t' u' h1 h2
   ·intro j' t' u' h1 h2
    rw[Cu _ _ _ _ cQ]
    simp only[PI.put,aI] at h2
    by_cases hj:j=j'
    ·subst hj
     have:t'=t:=by rw[ht] at h1; simpa using h1.symm
     subst this
     split at h2
     ·split at h2
      ·simp at h2; subst h2; simp only[if_true]; exact hs
      ·simp at h2
     ·exact absurd rfl ‹_›
    ·rw[ae hj] at h2
     have c9:t'≠t:=λe=>hj (nm.lnd j j' t ht (e▸h1))
     rw[ae c9]
     exact h.loc j' t' u' h1 h2
   ·intro i' t' h1; simpa[Act.put] using h.tv i' t' h1
   ·intro j' t' h1; simpa[Act.put] using h.tl j' t' h1
theorem FI.ext {N:Nm} {w w':World} {G G':GS} {st:St} {a:Act} {vs:List Tmp} {lm:Nat→Option Tmp} (h:FI N w G st a vs lm) (e:Ext w G w' G')
  (hk:xa (λ_=>False) w G w' G') (hg:∀g b,G'.box g=some b→g<st.gen) (ho:∀b k,G'.ow b=some k→b<w'.heap.size) (hx:∀b o,G'.fix b o→b<w'.heap.size) (hh:G'.heap=G.heap:=by rfl):
  FI N w' G' st a vs lm:=
 ⟨h.len,λi t u h1 h2=>(h.var i t u h1 h2).keep e hk (λh=>h) (λ_ _ _ h=>h),λj t u h1 h2=>(h.loc j t u h1 h2).keep e hk (λh=>h) (λ_ _ _ h=>h),h.tv,h.tl,(h.defers.trans e.df.symm),hg,ho,hx,h.heap.keep e hk (λ_ _ h=>h),by rw[hh]; exact h.hdom⟩
theorem yI {vs:List Tmp} {ops:List Oper} {j:Nat} {o:Oper} (ho:ops[j]? = some o):GZ vs (vS vs ops) j (wv vs o.dst) o.dst:=by
 unfold wv
 split
 ·rename_i h; exact h
 ·rename_i t h
  cases hi:xH t vs 0 with
  | some i =>
    obtain⟨_,h2⟩:=BP hi
    exact⟨t,h,by simpa using h2⟩
  | none=>exact⟨t,h,by simp[vS,ho,h,hi]⟩
theorem yJ (a:Act) (d:Option Tmp) (v:Value):(a.put d v).tmps.size=a.tmps.size:=by
 cases d<;>simp[Act.put]
theorem wD {P:Program} {N:Nm} {w:World} {G:GS} {st:St} {a:Act} {vs:List Tmp} {ops:List Oper} {j:Nat} {o:Oper} {v:Value} {u:PV} {next:Act→World→Prop}
  {Q:Exit→Act→World→Prop} (nm:Names vs (vS vs ops)) (ho:ops[j]? = some o) (hf:FI N w G st a vs (vS vs ops)) (cM:(execOp a.eval o).run P w = .ok (.value v) w)
  (hs:SR N w G (xJ (wv vs o.dst) j) v u) (hk:∀a' w' G',FI N w' G' (put st j (wv vs o.dst) u) a' vs (vS vs ops)→Ext w G w' G'→a'.tmps.size=a.tmps.size→next a' w'):o.wp P a w next Q:=by
 unfold Oper.wp
 rw[cM]
 exact hk _ _ _ (hf.put nm (yI ho) hs) (Ext.refl _ _) (yJ _ _ _)
theorem Kc (s:ByteArray):s.toList=s.data.toList:=ByteArray.toList_eq s
section
variable {E:Env} {N:Nm} {w:World} {G:GS} {st:St} {a:Act} {vs:List Tmp} {ops:List Oper} {P:Program}
theorem Bj {t:TypeId} {n:Nat} (h:wx P t=some n):wQ P t=false→n=1:=by
 intro ha
 unfold wx at h
 split at h
 ·split at h
  ·simp at h
  ·rename_i hn
   simp only[not_or,not_and,Decidable.not_not] at hn
   simp at h; subst h
   exact hn.2.2 ha
 ·simp at h
theorem yt {t:TypeId} {n:Nat} (h:wx P t=some n):∃i d,P.info? t=some i∧i.size=n∧n≠0∧P.underlying t=some d:=by
 unfold wx at h
 split at h
 ·rename_i i hi
  split at h
  ·simp at h
  ·rename_i hn
   simp at h; subst h
   simp only[not_or] at hn
   obtain⟨nh,ou,_⟩:=hn
   cases hu:P.underlying t with
   | none=>simp[hu] at ou
   | some d=>exact⟨i,d,hi,rfl,nh,rfl⟩
 ·simp at h
theorem yY {t:TypeId} {n:Nat} (h:wx P t=some n) (w:World):(Go.sizeOf t).run P w = .ok n w:=by
 obtain⟨i,d,hi,rfl,_,_⟩:=yt h
 simp[Go.sizeOf,typeInfo,hi]
theorem C7 {t:TypeId} {n:Nat} (h:wx P t=some n) (w:World):(isAgg t).run P w = .ok (wQ P t) w:=by
 obtain⟨i,d,_,_,_,hd⟩:=yt h
 simp only[isAgg,Sem.run_bind,run_underlying hd,Result.andThen_ok,wQ,hd]
 cases d<;>rfl
theorem zk (b off n:Nat):(⟨b,off,none⟩:Addr).add n=⟨b,off+n,none⟩:=Addr.add_lit b off n
theorem Ef {t:TypeId} {n:Nat} (h:wx P t=some n) (b off:Nat) (cs:List Value) (hl:n≤cs.length)
  (hc:∀j v,cs[j]? = some v→w.cell? ⟨b,off+j,none⟩=some v):
  (loadVar t ⟨b,off,none⟩).run P w = .ok (if wQ P t then .agg (cs.take n).toArray else cs.headD undef) w:=by
 obtain⟨i,d,hi,hn,eF,hd⟩:=yt h
 have vt:(cs.take n).length=n:=by simp[hl]
 have lM:=run_loadCells_list (P:=P) w ⟨b,off,none⟩ (cs.take n) (λj v hv=>by
  rw[zk]
  refine hc j v ?_
  rw[aP] at hv
  split at hv
  ·exact hv
  ·cases hv)
 rw[vt] at lM
 unfold loadVar
 simp only[Sem.run_bind,C7 h,Result.andThen_ok,Sem.run_ite]
 by_cases ha:wQ P t=true
 ·simp[ha,yY h,lM]
 ·simp only[Bool.not_eq_true] at ha
  cases cs with
  | nil=>simp at hl; omega
  | cons c cs =>
    have:=hc 0 c rfl
    simp only[bo] at this
    simp[ha,this]
def CellsR (N:Nm) (w:World) (fix:Nat→Nat→Prop) (hp:Nat→Option Nat) (cs:List Value) (ps:List PV):Prop:=
 cs.length=ps.length∧(∀x∈ps,x.flat=true)∧∀(i:Nat) (c:Value) (x:PV),cs[i]? = some c→ps[i]? = some x→VR N w fix hp c x
theorem CellsR.dem {fix:Nat→Nat→Prop} {hp:Nat→Option Nat} {cs:List Value} {ps:List PV} (h:CellsR N w fix hp cs ps):CellsR N w fix hp cs (ps.map dem):=by
 refine⟨by simpa using h.1,?_,?_⟩
 ·intro x hx
  obtain⟨y,hy,rfl⟩:=aM.1 hx
  rw[CB]; exact h.2.1 y hy
 ·intro i c x hc hx
  simp only[aA,ab] at hx
  obtain⟨y,hy,rfl⟩:=hx
  exact(h.2.2 i c y hc hy).dem
theorem CellsR.take {fix:Nat→Nat→Prop} {hp:Nat→Option Nat} {cs:List Value} {ps:List PV} (h:CellsR N w fix hp cs ps) (n:Nat):CellsR N w fix hp (cs.take n) (ps.take n):=by
 refine⟨by simp[h.1],λx hx=>h.2.1 x (List.mem_of_mem_take hx),?_⟩
 intro i c x hc hx
 rw[aP] at hc hx
 split at hc
 ·rename_i hi; rw[ah hi] at hx; exact h.2.2 i c x hc hx
 ·cases hc
theorem CellsR.drop {fix:Nat→Nat→Prop} {hp:Nat→Option Nat} {cs:List Value} {ps:List PV} (h:CellsR N w fix hp cs ps) (n:Nat):CellsR N w fix hp (cs.drop n) (ps.drop n):=by
 refine⟨by simp[h.1],λx hx=>h.2.1 x (cu hx),?_⟩
 intro i c x hc hx
 rw[aT] at hc hx
 exact h.2.2 _ c x hc hx
theorem CellsR.append {fix:Nat→Nat→Prop} {hp:Nat→Option Nat} {cs ds:List Value} {ps qs:List PV} (h:CellsR N w fix hp cs ps) (k:CellsR N w fix hp ds qs):
  CellsR N w fix hp (cs++ds) (ps++qs):=by
 refine⟨by simp[h.1,k.1],?_,?_⟩
 ·intro x hx
  rcases aw.1 hx with hx|hx
  ·exact h.2.1 x hx
  ·exact k.2.1 x hx
 ·intro i c x hc hx
  by_cases hi:i<cs.length
  ·rw[al hi] at hc
   rw[al (h.1▸hi)] at hx
   exact h.2.2 i c x hc hx
  ·rw[ap (by omega)] at hc
   rw[ap (by have:=h.1; omega),← h.1] at hx
   exact k.2.2 _ c x hc hx
def OwnNil (cs:List Value) (ps:List PV):Prop:=∀(i:Nat) (c:Value) (es:List PV),cs[i]? = some c→ps[i]? = some (.list true es)→c = .slice none 0 0
theorem OwnNil.dem (cs:List Value) (ps:List PV):OwnNil cs (ps.map PI.dem):=by
 intro i c es _ h
 simp only[aA,ab] at h
 obtain⟨q,_,hq⟩:=h
 cases q<;>simp[PI.dem] at hq
theorem OwnNil.take {cs:List Value} {ps:List PV} (h:OwnNil cs ps) (n:Nat):OwnNil (cs.take n) (ps.take n):=by
 intro i c es hc hx
 rw[aP] at hc hx
 split at hc
 ·rename_i hi; rw[ah hi] at hx; exact h i c es hc hx
 ·cases hc
theorem OwnNil.drop {cs:List Value} {ps:List PV} (h:OwnNil cs ps) (n:Nat):OwnNil (cs.drop n) (ps.drop n):=by
 intro i c es hc hx
 rw[aT] at hc hx
 exact h _ c es hc hx
theorem OwnNil.append {cs ds:List Value} {ps qs:List PV} (hl:cs.length=ps.length) (h:OwnNil cs ps) (k:OwnNil ds qs):OwnNil (cs++ds) (ps++qs):=by
 intro i c es hc hx
 by_cases hi:i<cs.length
 ·rw[al hi] at hc
  rw[al (hl▸hi)] at hx
  exact h i c es hc hx
 ·rw[ap (by omega)] at hc
  rw[ap (by omega),← hl] at hx
  exact k _ c es hc hx
theorem CellsR.agg {fix:Nat→Nat→Prop} {hp:Nat→Option Nat} {cs:List Value} {ps:List PV} (h:CellsR N w fix hp cs ps) (ho:OwnNil cs ps):VR N w fix hp (.agg cs.toArray) (.agg ps):=
 .agg cs.toArray ps (by simpa using h.1) h.2.1 (λi c es hc hp=>ho i c es (by simpa using hc) hp) (λi c p hc hp=>h.2.2 i c p (by simpa using hc) hp)
theorem CellsR.of_agg {fix:Nat→Nat→Prop} {hp:Nat→Option Nat} {v:Value} {ps:List PV} (h:VR N w fix hp v (.agg ps)):∃cs:Array Value,v = .agg cs∧CellsR N w fix hp cs.toList ps:=by
 cases h with
 | agg cs _ cK cS _ cR=>exact⟨cs,rfl,by simpa using cK,cS,λi c p hc hp=>cR i c p (by simpa using hc) hp⟩
theorem OwnNil.of_agg {fix:Nat→Nat→Prop} {hp:Nat→Option Nat} {cs:Array Value} {ps:List PV} (h:VR N w fix hp (.agg cs) (.agg ps)):OwnNil cs.toList ps:=by
 cases h with
 | agg _ _ cK cS eK cR=>exact λi c es hc hp=>eK i c es (by simpa using hc) hp
theorem CellsR.of_cells {fix:Nat→Nat→Prop} {hp:Nat→Option Nat} {v:Value} {p:PV} (h:VR N w fix hp v p) (h0:p.cells≠[]):CellsR N w fix hp v.cells.toList p.cells:=by
 obtain⟨h1,h2,h3⟩:=h.cells h0
 exact⟨by simpa using h1,h2,λi c x hc hx=>h3 i c x (by simpa using hc) hx⟩
theorem CC {fix:Nat→Nat→Prop} {hp:Nat→Option Nat} {size:Nat} {agg:Bool} {ps:List PV} {off:Nat} {u:PV} {cs:List Value} (h:CellsR N w fix hp cs ps)
  (hl:wh size agg ps off=some u) (hs:size≠0) (h1:agg=false→size=1):
  off+size≤cs.length∧VR N w fix hp (if agg then .agg ((cs.drop off).take size).toArray else(cs.drop off).headD undef) u∧cp u=some u:=by
 unfold wh at hl
 cases agg with
 | true =>
   simp only[if_true] at hl
   split at hl
   ·rename_i eg
    simp only[aa] at hl; subst hl
    refine⟨by rw[h.1]; exact eg,?_,rfl⟩
    rw[ah rfl]
    exact(((h.drop off).take size).dem).agg (OwnNil.dem _ _)
   ·simp at hl
 | false =>
   have d7:=h1 rfl
   subst d7
   simp only[aH,if_false] at hl
   split at hl
   ·rename_i v hv
    have cO:off<ps.length:=(aj.1 hv).1
    have fB:off<cs.length:=by rw[h.1]; exact cO
    refine⟨by omega,?_⟩
    have cR:=h.2.2 off cs[off] v (aq fB) hv
    have hd:(cs.drop off).headD undef=cs[off]:=by rw[aQ fB]; rfl
    simp only[aH,if_false,hd]
    unfold cp at hl
    split at hl<;>simp at hl<;>subst hl
    ·exact⟨cR.dem,rfl⟩
    ·refine⟨cR,?_⟩
     unfold cp; split<;>first|rfl|simp_all
   ·simp at hl
theorem SR.lptr {key:Key} {s g off b:Nat} {v:Value} (hv:v = .pointer (some ⟨b,off,none⟩)) (hb:G.box g=some b):SR N w G key v (.lptr s g off):=⟨b,hv,hb⟩
variable {o:Oper} {j:Nat} {next:Act→World→Prop} {Q:Exit→Act→World→Prop} {u:PV} {st1:St}
abbrev wn (N:Nm) (w:World) (G:GS) (a:Act) (st1:St) (u:PV) (vs:List Tmp) (ops:List Oper) (j:Nat) (o:Oper) (next:Act→World→Prop):Prop:=
 ∀a' w' G',FI N w' G' (put st1 j (wv vs o.dst) u) a' vs (vS vs ops)→Ext w G w' G'→a'.tmps.size=a.tmps.size→next a' w'
theorem c0L (hE:EnvOk E N) (nm:Names vs (vS vs ops)) (ho:ops[j]? = some o) (hf:FI N w G st a vs (vS vs ops)) {x:Operand} {p:PX} (hx:(execOp a.eval o).run P w = .ok (.value (a.eval x)) w)
  (hc:cx E vs ops x=some p) (hs:(rd st p).map (·,st)=some (u,st1)) (hk:wn N w G a st1 u vs ops j o next):o.wp P a w next Q:=by
 simp only[ab,ac] at hs
 obtain⟨r,hr,rfl,rfl⟩:=hs
 obtain⟨h1,h2⟩:=wB hE hc hf hr
 exact wD nm ho hf hx (SR.of_pure h1 h2) hk
theorem b88 (hE:EnvOk E N) (nm:Names vs (vS vs ops)) (ho:ops[j]? = some o) (hf:FI N w G st a vs (vS vs ops)) {c x y:Operand} {pc px py:PX} (cL:o.op = .pick c x y)
  (hc:cx E vs ops c=some pc) (hx:cx E vs ops x=some px) (hy:cx E vs ops y=some py) {cf:vZ} (hs:opv cf (.pick pc px py) st=some (u,st1)) (hk:wn N w G a st1 u vs ops j o next):o.wp P a w next Q:=by
 simp only[opv] at hs
 split at hs
 ·rename_i t ht
  simp only[ab,ac] at hs
  obtain⟨r,hr,rfl,rfl⟩:=hs
  have hb:=(wB hE hc hf ht).1
  have kX:a.eval c = .bool t:=by generalize a.eval c=z at hb; cases hb; rfl
  cases t with
  | true =>
    obtain⟨h1,h2⟩:=wB hE hx hf hr
    exact wD nm ho hf (by simp[execOp,cL,kX,asBool]) (SR.of_pure h1 h2) hk
  | false =>
    obtain⟨h1,h2⟩:=wB hE hy hf hr
    exact wD nm ho hf (by simp[execOp,cL,kX,asBool]) (SR.of_pure h1 h2) hk
 ·simp at hs
theorem b7d (hE:EnvOk E N) (nm:Names vs (vS vs ops)) (ho:ops[j]? = some o) (hf:FI N w G st a vs (vS vs ops)) {s:TypeId} {x:Operand} {f:Nat} {px:PX} {fs:Array Field} {fd:Field} {n:Nat} (cL:o.op = .fieldAddr s x f)
  (hu:P.underlying s=some (.struct fs)) (fF:fs[f]? = some fd) (hn:wx P fd.type=some n) (hx:cx E vs ops x=some px) {cf:vZ} (hs:opv cf (.faddr fd.offset px) st=some (u,st1)) (hk:wn N w G a st1 u vs ops j o next):o.wp P a w next Q:=by
 have eF:n≠0:=by obtain⟨_,_,_,_,h,_⟩:=yt hn; exact h
 have run:∀b off,a.eval x = .pointer (some ⟨b,off,none⟩)→(execOp a.eval o).run P w = .ok (.value (.pointer (some ⟨b,off+fd.offset,none⟩))) w:=by
  intro b off h
  simp[execOp,cL,h,Instr.fieldAt,run_underlying hu,fF,Instr.sureAddr,fieldPlace,yY hn,eF,zk]
 simp only[opv] at hs
 split at hs
 ·rename_i cs ha
  simp only[aa,ac] at hs
  obtain⟨rfl,rfl⟩:=hs
  rcases AQ hE hx hf ha with⟨_,_,_,_,h,_⟩|⟨h,_⟩
  ·simp at h
  ·generalize hv:a.eval x=v at h
   cases h with
   | cptr b off _ cv cS hcell cR =>
     refine wD nm ho hf (run b off hv) (SR.of_pure ?_ rfl) hk
     refine .cptr b (off+fd.offset) _ (λk=>cv (fd.offset+k)) (λy hy=>cS y (cu hy)) ?_ ?_
     ·intro k hk
      have:=hcell (fd.offset+k) (by simp at hk; omega)
      simpa[bX] using this
     ·intro k y hy
      rw[aT] at hy
      exact cR _ _ hy
 ·rename_i s' g off ha
  simp only[aa,ac] at hs
  obtain⟨rfl,rfl⟩:=hs
  rcases AQ hE hx hf ha with⟨_,_,_,b,h,hv,hb⟩|⟨_,h⟩
  ·simp at h
   obtain⟨rfl,rfl,rfl⟩:=h
   exact wD nm ho hf (run b _ hv) (SR.lptr rfl hb) hk
  ·simp[cp] at h
 ·rename_i n' off ha
  simp only[aa,ac] at hs
  obtain⟨rfl,rfl⟩:=hs
  rcases AQ hE hx hf ha with⟨_,_,_,_,h,_⟩|⟨h,_⟩
  ·simp at h
  ·generalize hv:a.eval x=v at h
   cases h with
   | ptr _ _ b hb=>exact wD nm ho hf (run b off hv) (SR.of_pure (.ptr _ _ b hb) rfl) hk
 ·simp at hs
theorem b5W (hE:EnvOk E N) (nm:Names vs (vS vs ops)) (ho:ops[j]? = some o) (hf:FI N w G st a vs (vS vs ops)) {t e:TypeId} {x i:Operand} {px pi:PX} {n:Nat} (cL:o.op = .indexAddr t x i)
  (hu:P.underlying t=some (.slice e)) (hn:wx P e=some n) (hx:cx E vs ops x=some px) (hi:cx E vs ops i=some pi) {cf:vZ} (hs:opv cf (.iaddrS n px pi) st=some (u,st1)) (hk:wn N w G a st1 u vs ops j o next):o.wp P a w next Q:=by
 simp only[opv] at hs
 split at hs
 ·rename_i own es m fE hm
  split at hs
  ·rename_i mH
   split at hs
   ·rename_i y hy
    split at hs
    ·rename_i nD
     simp only[aa,ac] at hs
     obtain⟨rfl,rfl⟩:=hs
     have h:=(wB hE hx hf fE).1
     obtain⟨k,fQ⟩:=Bg hE hi hf hm
     have cO:m.toNat<es.length:=(aj.1 hy).1
     generalize hv:a.eval x=v at h
     cases h with
     | nils=>simp at cO
     | void=>simp at cO
     | list _ b off len cap sz _ cv cK cT cQ cS hcell cR =>
       have dW:y∈es:=av hy
       have mI:sz=n:=by rw[← cQ y dW]; exact nD
       subst mI
       have cM:(execOp a.eval o).run P w = .ok (.value (.pointer (some ⟨b,off+m.toNat*sz,none⟩))) w:=by
        have h1:m<len:=by omega
        simp[execOp,cL,hv,fQ,Instr.indexAt,asIntOf,run_underlying hu,mH,h1,yY hn,zk]
       refine wD nm ho hf cM (SR.of_pure ?_ rfl) hk
       refine .cptr b _ _ (λk=>cv (m.toNat*sz+k)) (cS y dW) ?_ ?_
       ·intro k hk
        rw[nD] at hk
        have hb:m.toNat*sz+k<len*sz:=by
         have:(m.toNat+1)*sz≤len*sz:=bi _ (by omega)
         rw[aO] at this; omega
        have:=hcell _ hb
        simpa[bX] using this
       ·intro k z hz
        exact cR _ _ hy _ _ hz
    ·simp at hs
   ·simp at hs
  ·simp at hs
 ·rename_i r sz agg len m fE hm
  split at hs
  ·rename_i hc
   obtain⟨rfl,mH,cO⟩:=hc
   simp only[aa,ac] at hs
   obtain⟨rfl,rfl⟩:=hs
   have h:=(wB hE hx hf fE).1
   obtain⟨k,fQ⟩:=Bg hE hi hf hm
   generalize hv:a.eval x=v at h
   cases h with
   | rowp _ _ _ _ b cap hb cT dX =>
     have cM:(execOp a.eval o).run P w = .ok (.value (.pointer (some ⟨b,0+m.toNat*sz,none⟩))) w:=by
      simp[execOp,cL,hv,fQ,Instr.indexAt,asIntOf,run_underlying hu,mH,cO,yY hn,zk]
     rw[aR] at cM
     exact wD nm ho hf cM (SR.of_pure (.ptr _ _ b hb) rfl) hk
  ·simp at hs
 ·simp at hs
theorem b5X (hE:EnvOk E N) (nm:Names vs (vS vs ops)) (ho:ops[j]? = some o) (hf:FI N w G st a vs (vS vs ops)) {t e:TypeId} {x i:Operand} {px pi:PX} {n len:Nat} (cL:o.op = .indexAddr t x i)
  (hu:P.underlying t=some (.array len e)) (hn:wx P e=some n) (hx:cx E vs ops x=some px) (hi:cx E vs ops i=some pi) {cf:vZ} (hs:opv cf (.iaddrA len n px pi) st=some (u,st1)) (hk:wn N w G a st1 u vs ops j o next):o.wp P a w next Q:=by
 have run:∀b off m k,a.eval x = .pointer (some ⟨b,off,none⟩)→a.eval i = .int k m→0≤m→m<len→(execOp a.eval o).run P w = .ok (.value (.pointer (some ⟨b,off+m.toNat*n,none⟩))) w:=by
  intro b off m k hv fQ h0 h1
  simp[execOp,cL,hv,fQ,Instr.indexAt,asIntOf,run_underlying hu,Instr.sureAddr,h0,h1,yY hn,zk]
 simp only[opv] at hs
 split at hs
 ·rename_i s g off m ha hm
  split at hs
  ·rename_i hb
   simp only[aa,ac] at hs
   obtain⟨rfl,rfl⟩:=hs
   obtain⟨k,fQ⟩:=Bg hE hi hf hm
   rcases AQ hE hx hf ha with⟨_,_,_,b,h,hv,rX⟩|⟨_,h⟩
   ·simp at h
    obtain⟨rfl,rfl,rfl⟩:=h
    exact wD nm ho hf (run b _ m k hv fQ hb.1 hb.2) (SR.lptr rfl rX) hk
   ·simp[cp] at h
  ·simp at hs
 ·rename_i cs m ha hm
  split at hs
  ·rename_i hb
   simp only[aa,ac] at hs
   obtain⟨rfl,rfl⟩:=hs
   obtain⟨k,fQ⟩:=Bg hE hi hf hm
   rcases AQ hE hx hf ha with⟨_,_,_,_,h,_⟩|⟨h,_⟩
   ·simp at h
   ·generalize hv:a.eval x=v at h
    cases h with
    | cptr b off _ cv cS hcell cR =>
      refine wD nm ho hf (run b off m k hv fQ hb.1 hb.2) (SR.of_pure ?_ rfl) hk
      refine .cptr b _ _ (λk=>cv (m.toNat*n+k)) (λy hy=>cS y (cu hy)) ?_ ?_
      ·intro k hk
       have:=hcell (m.toNat*n+k) (by simp at hk; omega)
       simpa[bX] using this
      ·intro k y hy
       rw[aT] at hy
       exact cR _ _ hy
  ·simp at hs
 ·simp at hs
theorem Kd {t:TypeId} {n:Nat} (hn:wx P t=some n) {v:Value} {cs:List PV} {u:PV} (h:VR N w G.fix G.heap v (.cptr cs))
  (hl:wh n (wQ P t) cs 0=some u):∃r,(Instr.loadAt t v).run P w = .ok r w∧VR N w G.fix G.heap r u∧cp u=some u:=by
 cases h with
 | cptr b off _ cv cS hcell cR =>
   have eF:n≠0:=by obtain⟨_,_,_,_,h,_⟩:=yt hn; exact h
   let ds:List Value:=(List.range cs.length).map cv
   have hR:CellsR N w G.fix G.heap ds cs:=by
    refine⟨by simp[ds],cS,?_⟩
    intro i c x hc hx
    have hi:i<cs.length:=(aj.1 hx).1
    simp[ds,hi] at hc
    subst hc
    exact cR i x hx
   obtain⟨h1,h2,h3⟩:=CC hR hl eF (Bj hn)
   refine⟨_,?_,h2,h3⟩
   have:=Ef (w:=w) hn b off ds (by simpa using h1) (λj v hv=>by
    have hj:j<cs.length:=by have:=(aj.1 hv).1; simpa[ds] using this
    simp[ds,hj] at hv
    subst hv
    exact(hcell j hj).1)
   simpa[Instr.loadAt,Instr.sureAddr] using this
theorem b7e (hE:EnvOk E N) (nm:Names vs (vS vs ops)) (ho:ops[j]? = some o) (hf:FI N w G st a vs (vS vs ops)) {t:TypeId} {x:Operand} {f:Nat} {px:PX} {fs:Array Field} {fd:Field} {n:Nat} (cL:o.op = .field t x f)
  (hu:P.underlying t=some (.struct fs)) (fF:fs[f]? = some fd) (hn:wx P fd.type=some n) (hx:cx E vs ops x=some px) {cf:vZ}
  (hs:opv cf (.field fd.offset n (wQ P fd.type) px) st=some (u,st1)) (hk:wn N w G a st1 u vs ops j o next):o.wp P a w next Q:=by
 have eF:n≠0:=by obtain⟨_,_,_,_,h,_⟩:=yt hn; exact h
 simp only[opv] at hs
 split at hs
 ·rename_i ps d4
  simp only[ab,ac] at hs
  obtain⟨r,hr,rfl,rfl⟩:=hs
  obtain⟨cs,hv,hR⟩:=CellsR.of_agg (wB hE hx hf d4).1
  obtain⟨h1,h2,h3⟩:=CC hR hr eF (Bj hn)
  refine wD nm ho hf ?_ (SR.of_pure h2 h3) hk
  have hx:(Instr.field t (.agg cs) f).run P w = .ok (if wQ P fd.type then .agg ((cs.toList.drop fd.offset).take n).toArray else(cs.toList.drop fd.offset).headD undef) w:=by
   simp only[Instr.field,Sem.run_bind,run_underlying hu,Result.andThen_ok,fF,asAgg,Sem.run_pure,part,C7 hn,Sem.run_ite,yY hn]
   by_cases ha:wQ P fd.type=true
   ·simp only[ha,if_true]
    congr 2
    apply Array.ext'
    simp
   ·simp only[Bool.not_eq_true] at ha
    have cO:fd.offset<cs.size:=by simp at h1; omega
    simp[ha,aQ (l:=cs.toList) (i:=fd.offset) (by simpa using cO),cO]
  simp[execOp,cL,hv,hx]
 ·simp at hs
theorem b27 (hE:EnvOk E N) (nm:Names vs (vS vs ops)) (ho:ops[j]? = some o) (hf:FI N w G st a vs (vS vs ops)) {t:TypeId} {x i:Operand} {px pi:PX} (cL:o.op = .index t x i)
  (hu:P.underlying t=some .string) (hx:cx E vs ops x=some px) (hi:cx E vs ops i=some pi) {cf:vZ} (hs:opv cf (.indexStr px pi) st=some (u,st1)) (hk:wn N w G a st1 u vs ops j o next):o.wp P a w next Q:=by
 simp only[opv] at hs
 split at hs
 ·rename_i s m fE hm
  split at hs
  ·rename_i mH
   split at hs
   ·rename_i y hy
    simp only[aa,ac] at hs
    obtain⟨rfl,rfl⟩:=hs
    have h:=(wB hE hx hf fE).1
    obtain⟨k,fQ⟩:=Bg hE hi hf hm
    generalize hv:a.eval x=v at h
    cases h with
    | str s =>
      have fK:s[m.toNat]? = some y:=by
       have cO:m.toNat<s.data.toList.length:=(aj.1 hy).1
       have fB:m.toNat<s.size:=by rw[aV] at cO; exact cO
       rw[getElem?_pos s m.toNat fB]
       rw[aq cO] at hy
       simp only[aa] at hy ⊢
       rw[← hy]; rfl
      refine wD nm ho hf ?_ (SR.of_pure (.int _ _) rfl) hk
      simp only[execOp,cL,hv,fQ,Instr.index,asIntOf,Sem.run_bind,Sem.run_pure,run_underlying hu,Result.andThen_ok,mH,if_true,fK]
   ·simp at hs
  ·simp at hs
 ·simp at hs
end
end PI
set_option linter.unusedSimpArgs false
set_option linter.unusedVariables false
namespace PI
open Go
section
variable {E:Env} {N:Nm} {w:World} {G:GS} {st:St} {a:Act} {vs:List Tmp} {ops:List Oper} {P:Program}
variable {o:Oper} {j:Nat} {next:Act→World→Prop} {Q:Exit→Act→World→Prop} {u:PV} {st1:St}
theorem b5Y {op:BinOp} {t:TypeId} {k:IntKind} {x y:Int} (h:DY op k x y=some u):∃v,(binOp op t (.int k x) (.int k y)).run P w = .ok v w∧VR N w G.fix G.heap v u∧cp u=some u:=by
 cases op<;>simp only[DY] at h
 case quo=>
  split at h
  ·simp at h
  ·rename_i h0
   simp at h; subst h
   exact⟨_,by simp[binOp,Op.intDiv,h0],.int _ _,rfl⟩
 case rem=>
  split at h
  ·simp at h
  ·rename_i h0
   simp at h; subst h
   exact⟨_,by simp[binOp,Op.intDiv,h0],.int _ _,rfl⟩
 all_goals first
  | (simp at h; done)
  | (simp only [aa] at h; subst h
     first
      | exact⟨_,by simp only[binOp,Op.intArith,ne_eq,bh,if_false]; rfl,.int _ _,rfl⟩
      | exact⟨_,by simp only[binOp,Op.intBits,ne_eq,bh,if_false]; rfl,.int _ _,rfl⟩
      | exact⟨_,by simp only[binOp,Op.intCmp,ne_eq,bh,if_false]; rfl,.bool _,rfl⟩)
theorem b5Z {op:BinOp} {t:TypeId} {x y:ByteArray} (h:DZ op x.data.toList y.data.toList=some u):
  ∃v,(binOp op t (.string x) (.string y)).run P w = .ok v w∧VR N w G.fix G.heap v u∧cp u=some u:=by
 cases op<;>simp only[DZ] at h
 case add=>
  split at h
  ·rename_i hl
   simp only[aa] at h; subst h
   have h1:¬((x.size+y.size:Nat):Int)>IntKind.i64.max:=by
    have hx:x.data.toList.length=x.size:=aV
    have hy:y.data.toList.length=y.size:=aV
    rw[IntKind.max_i64]; omega
   refine⟨.string (x++y),by simp only[binOp,Op.stringOp,ae h1]; rfl,?_,rfl⟩
   have:(x++y).data.toList=x.data.toList++y.data.toList:=by simp
   rw[← this]
   exact .str _
  ·simp at h
 all_goals first
  | (simp at h; done)
  | (simp only [aa] at h; subst h
     exact⟨_,by simp only[binOp,Op.stringOp,Kc]; rfl,.bool _,rfl⟩)
theorem OQ {op:BinOp} {t:TypeId} {k k':IntKind} {x y:Int} (cL:op = .shl∨op = .shr) (h:AT op (.int k x) (.int k' y)=some u):
  ∃v,(binOp op t (.int k x) (.int k' y)).run P w = .ok v w∧VR N w G.fix G.heap v u∧cp u=some u:=by
 rcases cL with rfl|rfl<;>simp only[AT] at h
 ·split at h
  ·simp at h
  ·rename_i h0
   simp only[aa] at h; subst h
   exact⟨_,by simp only[binOp,Op.shift,ae h0]; rfl,.int _ _,rfl⟩
 ·split at h
  ·simp at h
  ·rename_i h0
   simp only[aa] at h; subst h
   exact⟨_,by simp only[binOp,Op.shift,ae h0]; rfl,.int _ _,rfl⟩
theorem b89 {op:BinOp} {t:TypeId} {vx vy:Value} {x y:PV} (hx:VR N w G.fix G.heap vx x) (hy:VR N w G.fix G.heap vy y) (h:AT op x y=some u) (ox oy:Operand):
  ∃v,(do eqGuard op t ox oy vx vy; binOp op t vx vy:Sem Value).run P w = .ok v w∧VR N w G.fix G.heap v u∧cp u=some u:=by
 have key:(∃v,(binOp op t vx vy).run P w = .ok v w∧VR N w G.fix G.heap v u∧cp u=some u)∧(eqGuard op t ox oy vx vy).run P w = .ok () w:=by
  unfold AT at h
  split at h
  ·rename_i k m k' m'
   cases hx; cases hy
   refine⟨?_,by cases op<;>simp[eqGuard]⟩
   split at h
   ·exact OQ (.inl rfl) (by simpa[AT] using h)
   ·exact OQ (.inr rfl) (by simpa[AT] using h)
   ·split at h
    ·subst_vars
     exact b5Y h
    ·simp at h
  ·rename_i s s'
   cases hx; cases hy
   exact⟨b5Z h,by cases op<;>simp[eqGuard]⟩
  ·simp at h
 obtain⟨⟨v,h1,h2,h3⟩,h4⟩:=key
 exact⟨v,by simp[h4,h1],h2,h3⟩
theorem OR (hE:EnvOk E N) (nm:Names vs (vS vs ops)) (ho:ops[j]? = some o) (hf:FI N w G st a vs (vS vs ops)) {op:BinOp} {t t':TypeId} {x y:Operand} {px py:PX} (cL:o.op = .binOp op t x y t')
  (hx:cx E vs ops x=some px) (hy:cx E vs ops y=some py) {cf:vZ} (hs:opv cf (.bin op px py) st=some (u,st1)) (hk:wn N w G a st1 u vs ops j o next):o.wp P a w next Q:=by
 simp only[opv] at hs
 split at hs
 ·rename_i p q hp hq
  simp only[ab,ac] at hs
  obtain⟨r,hr,rfl,rfl⟩:=hs
  obtain⟨v,h1,h2,h3⟩:=b89 (t:=t) (P:=P) (wB hE hx hf hp).1 (wB hE hy hf hq).1 hr x y
  refine wD nm ho hf ?_ (SR.of_pure h2 h3) hk
  simp only[execOp,cL,Sem.run_bind,h1,Result.andThen_ok,Sem.run_pure]
 ·simp at hs
theorem OS {d:Nat} {t:TypeId} {k:EK} {vx vy:Value} {x y:PV} {b:Bool} (hx:VR N w G.fix G.heap vx x) (hy:VR N w G.fix G.heap vy y) (h:zZ k x y=some b) (ht:ekT P t=some k):
  (Op.equalIn (d+1) t vx vy).run P w = .ok b w:=by
 unfold ekT at ht
 unfold zZ at h
 split at h
 ·cases hx; cases hy
  simp only[aa] at h; subst h
  split at ht<;>simp at ht
  exact run_equalIn_bool' w d t _ _ (by assumption)
 ·cases hx; cases hy
  split at h
  ·subst_vars
   simp only[aa] at h; subst h
   split at ht<;>simp at ht
   exact run_equalIn_int w d t _ _ _ _ (by assumption)
  ·simp at h
 ·cases hx; cases hy
  simp only[aa] at h; subst h
  split at ht<;>simp at ht
  rw[run_equalIn_string w d t _ _ (by assumption),Kc,Kc]
 ·simp at h
theorem Ke {d:Nat} {cs ds:Array Value} {ps qs:List PV} (hc:CellsR N w G.fix G.heap cs.toList ps) (hd:CellsR N w G.fix G.heap ds.toList qs):∀{fs:List Field} {off:Nat} {ks:List EK} {b:Bool},
  eqFields P fs off=some ks→zA ks (ps.drop off) (qs.drop off)=some b→(Op.eqFields (d+1) cs ds fs).run P w = .ok b w
 | [], off, ks, b, hk, h => by
   simp[eqFields] at hk; subst hk
   unfold zA at h
   split at h<;>simp_all [Op.eqFields]
 | f :: fs, off, ks, b, hk, h => by
   simp only[eqFields] at hk
   split at hk
   ·rename_i cP
    obtain⟨h1,h2,h3,h4⟩:=cP
    simp only[af,ab] at hk
    obtain⟨k,gn,ks',ez,rfl⟩:=hk
    unfold zA at h
    split at h
    ·rename_i heq _ _; simp at heq
    ·rename_i k' ks'' x xs y ys eO iE oW
     simp only[bq] at eO
     obtain⟨rfl,rfl⟩:=eO
     simp only[af,ab] at h
     obtain⟨b1,eH,b2,dB,rfl⟩:=h
     have lz:ps[off]? = some x:=by
      have:=aD List.head? iE; simpa[List.head?_drop] using this
     have tC:qs[off]? = some y:=by
      have:=aD List.head? oW; simpa[List.head?_drop] using this
     have js:off<cs.size:=by have:=(aj.1 lz).1; have:=hc.1; simp at this; omega
     have rH:off<ds.size:=by have:=(aj.1 tC).1; have:=hd.1; simp at this; omega
     have i8:∀(zs:Array Value) (hz:off<zs.size),(part f.type zs f.offset).run P w = .ok zs[off] w:=by
      intro zs hz
      simp[part,C7 h3,h4,h1,hz]
     have hx:=hc.2.2 off cs[off] x (by simp[js]) lz
     have hy:=hd.2.2 off ds[off] y (by simp[rH]) tC
     have rY:ps.drop (off+1)=xs:=by have:=aD List.tail iE; simpa[List.tail_drop] using this
     have rZ:qs.drop (off+1)=ys:=by have:=aD List.tail oW; simpa[List.tail_drop] using this
     have ih:=Ke (d:=d) hc hd (fs:=fs) (off:=off+1) ez (by rw[rY,rZ]; exact dB)
     simp only[Op.eqFields,h2,ne_eq,cm,if_true,Sem.run_bind,i8 cs js,i8 ds rH,Result.andThen_ok,OS hx hy eH gn,Sem.run_ite]
     cases b1 with
     | true=>simpa using ih
     | false=>simp
    ·simp at h
   ·simp at hk
theorem c2H (hE:EnvOk E N) (hP:E.P=P) (nm:Names vs (vS vs ops)) (ho:ops[j]? = some o) (hf:FI N w G st a vs (vS vs ops)) {op:BinOp} {t t':TypeId} {x y:Operand} {px py:PX} {agg:Bool} {ks:List EK} (cL:o.op = .binOp op t x y t')
  (fM:op = .eql∨op = .neq) (ht:eqT P t=some (some (agg,ks))) (hx:cx E vs ops x=some px) (hy:cx E vs ops y=some py) {cf:vZ} (hs:opv cf (.eq (op == .neq) agg ks px py) st=some (u,st1))
  (hk:wn N w G a st1 u vs ops j o next):o.wp P a w next Q:=by
 simp only[opv] at hs
 split at hs
 ·rename_i p q hp hq
  simp only[ab,ac] at hs
  obtain⟨b,hb,rfl,rfl⟩:=hs
  have ei:=(wB hE hx hf hp).1
  have fK:=(wB hE hy hf hq).1
  have key:∀vx vy,VR N w G.fix G.heap vx p→VR N w G.fix G.heap vy q→(do eqGuard op t x y vx vy; binOp op t vx vy:Sem Value).run P w = .ok (.bool (if op == .neq then !b else b)) w:=by
   intro vx vy gg r5
   unfold eqT at ht
   split at ht
   ·simp at ht
   ·simp at ht
   ·rename_i hu
    simp only[aa,ac] at ht
    obtain⟨rfl,rfl⟩:=ht
    simp only[peq,aH,if_false] at hb
    have he:=OS (P:=P) (d:=9999) (t:=t) gg r5 hb (by simp[ekT,hu])
    have:∃c d,p = .bool c∧q = .bool d:=by
     cases p<;>cases q<;>simp[zZ] at hb
     exact⟨_,_,rfl,rfl⟩
    obtain⟨c,d,rfl,rfl⟩:=this
    cases gg; cases r5
    rcases fM with rfl|rfl<;>simp[eqGuard,binOp,Op.equal,Op.maxDepth,he]
   ·rename_i fs hu
    split at ht
    ·rename_i ks' gL
     split at ht
     ·rename_i cP
      simp only[aa,ac] at ht
      obtain⟨rfl,rfl⟩:=ht
      simp only[am,bF] at cP
      simp only[peq,if_true] at hb
      split at hb
      ·obtain⟨cs,rfl,hc⟩:=CellsR.of_agg gg
       obtain⟨ds,rfl,hd⟩:=CellsR.of_agg r5
       have oX:P.fieldsOf t=fs:=by simp[Program.fieldsOf,hu]
       have h1:=run_equalIn_struct (P:=P) w 9999 t cs ds (by rw[oX]; exact hu) cP.1
       rw[oX,Ke hc hd gL (by simpa using hb)] at h1
       rcases fM with rfl|rfl
       ·simp only[Sem.run_bind,run_eqGuard_agg w _ t x y cs ds cP.2,Result.andThen_ok,run_eql_struct,h1]; rfl
       ·simp only[Sem.run_bind,run_eqGuard_agg w _ t x y cs ds cP.2,Result.andThen_ok,run_neq_struct,h1]; rfl
      ·simp at hb
     ·simp at ht
    ·simp at ht
   ·simp at ht
  refine wD nm ho hf ?_ (SR.of_pure (.bool _) rfl) hk
  simp only[execOp,cL,Sem.run_bind,key _ _ ei fK,Result.andThen_ok,Sem.run_pure]
 ·simp at hs
theorem c2I (hE:EnvOk E N) (nm:Names vs (vS vs ops)) (ho:ops[j]? = some o) (hf:FI N w G st a vs (vS vs ops)) {op:UnOp} {t:TypeId} {x:Operand} {px:PX} (cL:o.op = .unOp op t x)
  (hx:cx E vs ops x=some px) {cf:vZ} (hs:opv cf (.un op px) st=some (u,st1)) (hk:wn N w G a st1 u vs ops j o next):o.wp P a w next Q:=by
 simp only[opv] at hs
 split at hs
 ·rename_i p hp
  simp only[ab,ac] at hs
  obtain⟨r,hr,rfl,rfl⟩:=hs
  have h:=(wB hE hx hf hp).1
  generalize hv:a.eval x=v at h
  unfold unv at hr
  split at hr
  ·cases h
   simp only[aa] at hr; subst hr
   exact wD nm ho hf (by simp[execOp,cL,hv,Op.unary]) (SR.of_pure (.bool _) rfl) hk
  ·cases h
   simp only[aa] at hr; subst hr
   exact wD nm ho hf (by simp only[execOp,cL,hv,Op.unary,Op.intArith]; rfl) (SR.of_pure (.int _ _) rfl) hk
  ·simp at hr
 ·simp at hs
theorem b4o (hE:EnvOk E N) (nm:Names vs (vS vs ops)) (ho:ops[j]? = some o) (hf:FI N w G st a vs (vS vs ops)) {s t:TypeId} {k k':IntKind} {x:Operand} {px:PX} (cL:o.op = .convert s t x)
  (hu:P.underlying s=some (.int k')) (eM:P.underlying t=some (.int k)) (hx:cx E vs ops x=some px) {cf:vZ} (hs:opv cf (.convInt k px) st=some (u,st1)) (hk:wn N w G a st1 u vs ops j o next):o.wp P a w next Q:=by
 simp only[opv,ab,ac] at hs
 obtain⟨n,hn,rfl,rfl⟩:=hs
 obtain⟨k1,hv⟩:=Bg hE hx hf hn
 refine wD nm ho hf ?_ (SR.of_pure (.int _ _) rfl) hk
 simp[execOp,cL,hv,convert,run_underlying hu,run_underlying eM,Conv.intToInt]
theorem b9a (hE:EnvOk E N) (nm:Names vs (vS vs ops)) (ho:ops[j]? = some o) (hf:FI N w G st a vs (vS vs ops)) {s t:TypeId} {x:Operand} {px:PX} (cL:o.op = .convert s t x)
  (hu:P.underlying s=some .string) (eM:P.underlying t=some .string) (hx:cx E vs ops x=some px) {cf:vZ} (hs:opv cf (.movs px) st=some (u,st1)) (hk:wn N w G a st1 u vs ops j o next):o.wp P a w next Q:=by
 simp only[opv] at hs
 split at hs
 ·rename_i l hp
  simp only[aa,ac] at hs
  obtain⟨rfl,rfl⟩:=hs
  have h:=(wB hE hx hf hp).1
  generalize hv:a.eval x=v at h
  cases h
  exact wD nm ho hf (by simp[execOp,cL,hv,convert,run_underlying hu,run_underlying eM]) (SR.of_pure (.str _) rfl) hk
 ·simp at hs
theorem b4p (hE:EnvOk E N) (nm:Names vs (vS vs ops)) (ho:ops[j]? = some o) (hf:FI N w G st a vs (vS vs ops)) {i:Nat} {x:Operand} {px:PX} (cL:o.op = .extract x i)
  (hx:cx E vs ops x=some px) {cf:vZ} (hs:opv cf (.extract i px) st=some (u,st1)) (hk:wn N w G a st1 u vs ops j o next):o.wp P a w next Q:=by
 simp only[opv] at hs
 split at hs
 ·rename_i ps hp
  simp only[ab,af,ac] at hs
  obtain⟨r,⟨p,lL,pW⟩,rfl,rfl⟩:=hs
  have h:=(wB hE hx hf hp).1
  generalize hv:a.eval x=v at h
  cases h with
  | tuple cs _ cK cR =>
    have hi:i<cs.size:=by have:=(aj.1 lL).1; omega
    have ga:=cR i cs[i] p (by simp[hi]) lL
    have hd:VR N w G.fix G.heap cs[i] r∧cp r=some r:=by
     unfold cp at pW
     split at pW<;>simp at pW<;>subst pW
     ·exact⟨ga.dem,rfl⟩
     ·refine⟨ga,?_⟩
      unfold cp; split<;>first|rfl|simp_all
    exact wD nm ho hf (by simp[execOp,cL,hv,Instr.extract,hi]) (SR.of_pure hd.1 hd.2) hk
 ·simp at hs
theorem OT (hE:EnvOk E N) (nm:Names vs (vS vs ops)) (ho:ops[j]? = some o) (hf:FI N w G st a vs (vS vs ops)) {t:TypeId} {ts:Array TypeId} {x:Operand} {px:PX} {str:Bool} (cL:o.op = .call { callee := .builtin .len,args := #[x],argTypes:=ts })
  (h0:ts[0]? = some t) (hu:if str then P.underlying t=some .string else ∃e,P.underlying t=some (.slice e)) (hx:cx E vs ops x=some px) {cf:vZ} (hs:opv cf (.len str px) st=some (u,st1)) (hk:wn N w G a st1 u vs ops j o next):o.wp P a w next Q:=by
 simp only[opv] at hs
 split at hs
 ·rename_i s hp
  simp only[aa,ac] at hs
  obtain⟨rfl,rfl⟩:=hs
  have h:=(wB hE hx hf hp).1
  simp only[if_true] at hu
  generalize hv:a.eval x=v at h
  cases h with
  | str s =>
    have hl:s.data.toList.length=s.size:=aV
    refine wD nm ho hf ?_ (SR.of_pure (.int _ _) rfl) hk
    rw[hl]
    simp only[execOp,cL,resolve,Sem.run_bind,Sem.run_pure,Result.andThen_ok,invoke,builtin,Builtin.len_,h0,List.map_toArray,aF,bA,hv,bC,ci,run_underlying hu,goInt]
 ·rename_i b es hp
  simp only[aa,ac] at hs
  obtain⟨rfl,rfl⟩:=hs
  have h:=(wB hE hx hf hp).1
  simp only[aH,if_false] at hu
  obtain⟨e,eM⟩:=hu
  generalize hv:a.eval x=v at h
  cases h with
  | nils =>
    refine wD nm ho hf ?_ (SR.of_pure (.int _ _) rfl) hk
    simp[execOp,cL,hv,resolve,invoke,builtin,Builtin.len_,h0,run_underlying eM,goInt]
  | void =>
    refine wD nm ho hf ?_ (SR.of_pure (.int _ _) rfl) hk
    simp[execOp,cL,hv,resolve,invoke,builtin,Builtin.len_,h0,run_underlying eM,goInt]
  | list _ b off len cap sz _ cv cK =>
    refine wD nm ho hf ?_ (SR.of_pure (.int _ _) rfl) hk
    simp[execOp,cL,hv,resolve,invoke,builtin,Builtin.len_,h0,run_underlying eM,goInt,cK]
 ·rename_i m sz agg n hp
  simp only[aa,ac] at hs
  obtain⟨rfl,rfl⟩:=hs
  have h:=(wB hE hx hf hp).1
  simp only[aH,if_false] at hu
  obtain⟨e,eM⟩:=hu
  generalize hv:a.eval x=v at h
  cases h with
  | rowp _ _ _ _ b cap hb cT dX =>
    refine wD nm ho hf ?_ (SR.of_pure (.int _ _) rfl) hk
    simp[execOp,cL,hv,resolve,invoke,builtin,Builtin.len_,h0,run_underlying eM,goInt]
 ·rename_i hp
  simp only[aa,ac] at hs
  obtain⟨rfl,rfl⟩:=hs
  have h:=(wB hE hx hf hp).1
  simp only[aH,if_false] at hu
  obtain⟨e,eM⟩:=hu
  generalize hv:a.eval x=v at h
  cases h with
  | nils' =>
    refine wD nm ho hf ?_ (SR.of_pure (.int _ _) rfl) hk
    simp[execOp,cL,hv,resolve,invoke,builtin,Builtin.len_,h0,run_underlying eM,goInt]
 ·rename_i hp
  simp only[aa,ac] at hs
  obtain⟨rfl,rfl⟩:=hs
  have h:=(wB hE hx hf hp).1
  simp only[aH,if_false] at hu
  obtain⟨e,eM⟩:=hu
  generalize hv:a.eval x=v at h
  cases h with
  | void' =>
    refine wD nm ho hf ?_ (SR.of_pure (.int _ _) rfl) hk
    simp[execOp,cL,hv,resolve,invoke,builtin,Builtin.len_,h0,run_underlying eM,goInt]
 ·simp at hs
theorem c0M (hE:EnvOk E N) (nm:Names vs (vS vs ops)) (ho:ops[j]? = some o) (hf:FI N w G st a vs (vS vs ops)) {t e:TypeId} {ts:Array TypeId} {x:Operand} {px:PX}
  (cL:o.op = .call { callee := .builtin .cap,args := #[x],argTypes:=ts }) (h0:ts[0]? = some t) (hu:P.underlying t=some (.slice e)) (hx:cx E vs ops x=some px) {cf:vZ} (hs:opv cf (.cap px) st=some (u,st1)) (hk:wn N w G a st1 u vs ops j o next):o.wp P a w next Q:=by
 simp only[opv] at hs
 split at hs
 ·rename_i hp
  simp only[aa,ac] at hs
  obtain⟨rfl,rfl⟩:=hs
  have h:=(wB hE hx hf hp).1
  generalize hv:a.eval x=v at h
  cases h with
  | nils' =>
    refine wD nm ho hf ?_ (SR.of_pure (.int _ _) rfl) hk
    simp[execOp,cL,hv,resolve,invoke,builtin,Builtin.cap_,h0,run_underlying hu,goInt]
 ·simp at hs
end
section
variable {E:Env} {N:Nm} {w:World} {G:GS} {st:St} {a:Act} {vs:List Tmp} {ops:List Oper} {P:Program}
variable {o:Oper} {j:Nat} {next:Act→World→Prop} {Q:Exit→Act→World→Prop} {u:PV} {st1:St}
theorem G5 {n:Int} {y:Nat} {k:IntKind} (h0:0≤n) (h1:n≤y) (c:BoundsCode):(Instr.sliceBound (.int k n) y c).run P w = .ok n.toNat w:=by
 simp[Instr.sliceBound,asIntOf,h0,h1]
theorem OU (hE:EnvOk E N) (hf:FI N w G st a vs (vS vs ops)) {x:Option Operand} {px:Option PX} {dflt most r:Nat} (hc:cxo E vs ops x=some px) (hr:bound st px dflt most=some r):
  (x=none∧r=dflt)∨∃y k n,x=some y∧a.eval y = .int k n∧0≤n∧n≤most∧r=n.toNat:=by
 cases x with
 | none=>simp[cxo] at hc; subst hc; simp[bound] at hr; exact .inl ⟨rfl,hr.symm⟩
 | some y =>
   simp only[cxo,ab] at hc
   obtain⟨p,hp,rfl⟩:=hc
   simp only[bound] at hr
   split at hr
   ·rename_i n hn
    split at hr
    ·rename_i hb
     simp at hr
     obtain⟨k,hk⟩:=Bg hE hp hf hn
     exact .inr ⟨y,k,n,rfl,hk,hb.1,hb.2,hr.symm⟩
    ·simp at hr
   ·simp at hr
theorem DU (hE:EnvOk E N) (hf:FI N w G st a vs (vS vs ops)) {lo hi:Option Operand} {pl ph:Option PX} {isSlice:Bool} {len cap l h:Nat} (cT:len≤cap)
  (hl:cxo E vs ops lo=some pl) (hh:cxo E vs ops hi=some ph) (h1:bound st ph len len=some h) (h2:bound st pl 0 h=some l):
  (Instr.sliceBounds isSlice len cap (lo.map a.eval) (hi.map a.eval) none).run P w = .ok (l,h,cap) w∧l≤h∧h≤len:=by
 have hH:=OU hE hf hh h1
 have hL:=OU hE hf hl h2
 have ki:h≤len:=by rcases hH with⟨_,rfl⟩|⟨_,_,n,_,_,_,_,rfl⟩<;>omega
 have ni:l≤h:=by rcases hL with⟨_,rfl⟩|⟨_,_,n,_,_,_,_,rfl⟩<;>omega
 refine⟨?_,ni,ki⟩
 rcases hH with⟨rfl,tD⟩|⟨y,k,n,rfl,hy,eF,nh,tD⟩<;>rcases hL with⟨rfl,eY⟩|⟨y',k',n',rfl,fK,oY,oZ,eY⟩<;>subst tD<;>subst eY
 ·simp[Instr.sliceBounds]
 ·simp[Instr.sliceBounds,fK,G5 oY oZ]
 ·simp[Instr.sliceBounds,hy,G5 (P:=P) (w:=w) eF (show n≤(cap:Int) by omega)]
 ·simp[Instr.sliceBounds,hy,fK,G5 (P:=P) (w:=w) eF (show n≤(cap:Int) by omega),G5 (P:=P) (w:=w) oY oZ]
theorem b52 (s:ByteArray) (l h:Nat):(s.extract l h).data.toList=(s.data.toList.take h).drop l:=by
 simp[ByteArray.data_extract,List.drop_take]
theorem b53 (hE:EnvOk E N) (nm:Names vs (vS vs ops)) (ho:ops[j]? = some o) (hf:FI N w G st a vs (vS vs ops)) {t:TypeId} {x:Operand} {lo hi:Option Operand} {px:PX} {pl ph:Option PX} {size:Nat} (cL:o.op = .slice t x lo hi none)
  (hu:P.underlying t=some .string) (hx:cx E vs ops x=some px) (hl:cxo E vs ops lo=some pl) (hh:cxo E vs ops hi=some ph) {cf:vZ} (hs:opv cf (.slice true size px pl ph) st=some (u,st1))
  (hk:wn N w G a st1 u vs ops j o next):o.wp P a w next Q:=by
 simp only[opv] at hs
 split at hs
 ·rename_i s hp
  simp only[af,ab,ac] at hs
  obtain⟨h,h1,l,h2,rfl,rfl⟩:=hs
  have dJ:=(wB hE hx hf hp).1
  generalize hv:a.eval x=v at dJ
  cases dJ with
  | str s =>
    have cQ:s.data.toList.length=s.size:=aV
    rw[cQ] at h1
    obtain⟨hb,_,_⟩:=DU (P:=P) (isSlice:=false) hE hf (ao s.size) hl hh h1 h2
    refine wD nm ho hf (v := .string (s.extract l h)) ?_ (SR.of_pure ?_ rfl) hk
    ·simp[execOp,cL,hv,Instr.sliceAt,Instr.slice,run_underlying hu,hb]
    ·rw[← b52]; exact .str _
 ·rename_i heq _; simp at heq
 ·rename_i heq _; simp at heq
 ·rename_i heq _; simp at heq
 ·simp at hs
theorem b54 (hE:EnvOk E N) (nm:Names vs (vS vs ops)) (ho:ops[j]? = some o) (hf:FI N w G st a vs (vS vs ops)) {t e:TypeId} {x:Operand} {lo hi:Option Operand} {px:PX} {pl ph:Option PX} {size:Nat} (cL:o.op = .slice t x lo hi none)
  (hu:P.underlying t=some (.slice e)) (hn:wx P e=some size) (hx:cx E vs ops x=some px) (hl:cxo E vs ops lo=some pl) (hh:cxo E vs ops hi=some ph) {cf:vZ} (hs:opv cf (.slice false size px pl ph) st=some (u,st1))
  (hk:wn N w G a st1 u vs ops j o next):o.wp P a w next Q:=by
 simp only[opv] at hs
 split at hs
 ·rename_i heq _; simp at heq
 ·rename_i own es _ hp
  split at hs
  ·rename_i i7
   simp only[af,ab,ac] at hs
   obtain⟨h,h1,l,h2,rfl,rfl⟩:=hs
   have dJ:=(wB hE hx hf hp).1
   generalize hv:a.eval x=v at dJ
   cases dJ with
   | nils =>
     obtain⟨hb,ni,ki⟩:=DU (P:=P) (isSlice:=true) hE hf (ao 0) hl hh h1 h2
     simp at ki; subst ki
     have:l=0:=by omega
     subst this
     refine wD nm ho hf (v := .slice none 0 0) ?_ (SR.of_pure (.nils false) rfl) hk
     simp[execOp,cL,hv,Instr.sliceAt,Instr.slice,run_underlying hu,hb,yY hn]
   | void _ ad cap =>
     obtain⟨hb,ni,ki⟩:=DU (P:=P) (isSlice:=true) hE hf (Nat.zero_le cap) hl hh h1 h2
     simp at ki; subst ki
     have:l=0:=by omega
     subst this
     refine wD nm ho hf (v := .slice (some ad) 0 cap) ?_ (SR.of_pure (.void false ad cap) rfl) hk
     have hz:(if cap=0 then some ad else some ad)=some ad:=by split<;>rfl
     simp[execOp,cL,hv,Instr.sliceAt,Instr.slice,run_underlying hu,hb,yY hn,Addr.add_zero']
   | list _ b off len cap sz _ cv cK cT cQ cS hcell cR =>
     subst cK
     obtain⟨hb,ni,ki⟩:=DU (P:=P) (isSlice:=true) hE hf cT hl hh h1 h2
     have cM:(execOp a.eval o).run P w = .ok (.value (.slice (some (if cap=l then⟨b,off,none⟩ else⟨b,off+l*size,none⟩)) (h - l) (cap - l))) w:=by
      by_cases hc:cap=l
      ·rw[ah hc]
       simp only[execOp,cL,hv,Instr.sliceAt,Instr.slice,Sem.run_bind,run_underlying hu,Result.andThen_ok,hb,yY hn,ah hc,Sem.run_pure,cq]
      ·rw[ae hc]
       simp only[execOp,cL,hv,Instr.sliceAt,Instr.slice,Sem.run_bind,run_underlying hu,Result.andThen_ok,hb,yY hn,ae hc,Sem.run_pure,cq,ay,zk]
     refine wD nm ho hf cM (SR.of_pure ?_ rfl) hk
     have ig:((es.take h).drop l).length=h - l:=by simp; omega
     have wU:∀(i:Nat) (y:PV),((es.take h).drop l)[i]? = some y→es[l+i]? = some y:=by
      intro i y hy
      rw[aT,aP] at hy
      split at hy
      ·exact hy
      ·cases hy
     have dW:∀y∈(es.take h).drop l,y∈es:=λy hy=>List.mem_of_mem_take (cu hy)
     by_cases hc:cap=l
     ·have he:(es.take h).drop l=[]:=br.1 (by rw[ig]; omega)
      rw[ah hc,he]
      have:h - l=0:=by omega
      rw[this]
      exact .list false b off 0 _ 0 [] cv rfl (Nat.zero_le _) (by simp) (by simp) (by simp) (by simp)
     ·rw[ae hc]
      by_cases hz:h - l=0
      ·have he:(es.take h).drop l=[]:=br.1 (by rw[ig]; omega)
       rw[he,hz]
       exact .list false b _ 0 _ 0 [] cv rfl (Nat.zero_le _) (by simp) (by simp) (by simp) (by simp)
      ·have mI:sz=size:=by
        cases es with
        | nil=>simp at ki; omega
        | cons y ys =>
          have:=cQ y (by simp)
          simp[wL] at i7
          omega
       subst mI
       refine .list false b _ (h - l) _ sz _ (λk=>cv (l*sz+k)) ig (by omega) (λy hy=>cQ y (dW y hy)) (λy hy=>cS y (dW y hy)) ?_ ?_
       ·intro k hk
        have cO:l*sz+k<es.length*sz:=by
         have h3:(l+(h - l))*sz≤es.length*sz:=bi _ (by omega)
         rw[aO] at h3; omega
        have:=hcell _ cO
        simpa[bX] using this
       ·intro i y hy j' z gV
        have:=cR (l+i) y (wU i y hy) j' z gV
        simpa[aO,bX] using this
  ·simp at hs
 ·rename_i _ hp
  simp only[af,ab,ac] at hs
  obtain⟨h,h1,l,h2,rfl,rfl⟩:=hs
  have dJ:=(wB hE hx hf hp).1
  generalize hv:a.eval x=v at dJ
  cases dJ with
  | nils' =>
    obtain⟨hb,ni,ki⟩:=DU (P:=P) (isSlice:=true) hE hf (ao 0) hl hh h1 h2
    have:h=0:=by omega
    subst this
    have:l=0:=by omega
    subst this
    refine wD nm ho hf (v := .slice none 0 0) ?_ (SR.of_pure .nils' rfl) hk
    simp[execOp,cL,hv,Instr.sliceAt,Instr.slice,run_underlying hu,hb,yY hn]
 ·rename_i n sz agg len _ hp
  split at hs
  ·rename_i cQ
   subst cQ
   simp only[af,ab,ac] at hs
   obtain⟨h,h1,l,h2,rfl,rfl⟩:=hs
   have dJ:=(wB hE hx hf hp).1
   generalize hv:a.eval x=v at dJ
   cases dJ with
   | rowp _ _ _ _ b cap gS cT dX =>
     obtain⟨T,m,d7,nL⟩:=dX
     obtain⟨hb,ni,ki⟩:=DU (P:=P) (isSlice:=true) hE hf cT hl hh h1 h2
     have cM:(execOp a.eval o).run P w = .ok (.value (.slice (some (if cap=l then⟨b,0,none⟩ else⟨b,0+l*sz,none⟩)) (h - l) (cap - l))) w:=by
      by_cases hc:cap=l
      ·rw[ah hc]
       simp only[execOp,cL,hv,Instr.sliceAt,Instr.slice,Sem.run_bind,run_underlying hu,Result.andThen_ok,hb,yY hn,ah hc,Sem.run_pure,cq]
      ·rw[ae hc]
       simp only[execOp,cL,hv,Instr.sliceAt,Instr.slice,Sem.run_bind,run_underlying hu,Result.andThen_ok,hb,yY hn,ae hc,Sem.run_pure,cq,ay,zk]
     have vu:h*sz≤cap*sz:=bi _ (by omega)
     by_cases iU:l=0
     ·subst iU
      rw[ah rfl] at hk
      have he:(if cap=0 then(⟨b,0,none⟩:Addr) else⟨b,0+0*sz,none⟩)=⟨b,0,none⟩:=by split<;>simp
      rw[he,Nat.sub_zero,Nat.sub_zero] at cM
      exact wD nm ho hf cM (SR.of_pure (.rowp _ _ _ _ b cap gS (by omega) ⟨T,m,d7,nL⟩) rfl) hk
     ·rw[ae iU] at hk
      have eV:(l+(h - l))*sz≤m:=by rw[show l+(h - l)=h by omega]; omega
      by_cases hc:cap=l
      ·rw[ah hc] at cM
       exact wD nm ho hf cM (SR.of_pure (.rows _ _ _ _ _ b 0 _ m T gS (by omega) (.inl (by omega)) d7 eV) rfl) hk
      ·rw[ae hc] at cM
       exact wD nm ho hf cM (SR.of_pure (.rows _ _ _ _ _ b _ _ m T gS (by omega) (.inr (by rw[aR])) d7 eV) rfl) hk
  ·simp at hs
 ·simp at hs
theorem OV {mx:Bool}:∀{ps:List PV} {vals:List Value} {p:PV} {v:Value},VR N w G.fix G.heap v p→vals.length=ps.length →
  (∀(i:Nat) (x:Value) (q:PV),vals[i]? = some x→ps[i]? = some q→VR N w G.fix G.heap x q)→cp p=some p→AA mx p ps=some u →
  ∃r,(vals.foldlM (if mx then Builtin.max2 else Builtin.min2) v).run P w = .ok r w∧VR N w G.fix G.heap r u∧cp u=some u
 | [], vals, p, v, hv, hl, _, ft, hm => by
   have:vals=[]:=by simpa using hl
   subst this
   simp[AA] at hm; subst hm
   exact⟨v,by simp,hv,ft⟩
 | q :: ps, vals, p, v, hv, hl, hr, ft, hm => by
   cases vals with
   | nil=>simp at hl
   | cons x vals =>
     unfold AA at hm
     split at hm
     ·simp_all
     ·rename_i k m k' m' r heq
      simp only[bq] at heq
      obtain⟨rfl,rfl⟩:=heq
      split at hm
      ·subst_vars
       have hx:=hr 0 x _ rfl rfl
       cases hv; cases hx
       obtain⟨r,h1,h2,h3⟩:=OV (mx:=mx) (vals:=vals) (VR.int _ (if mx then(if m'>m then m' else m) else(if m'<m then m' else m))) (by simpa using hl)
        (λi y z hy hz=>hr (i+1) y z (by simpa using hy) (by simpa using hz)) rfl hm
       refine⟨r,?_,h2,h3⟩
       cases mx<;>simpa[Builtin.max2,Builtin.min2] using h1
      ·simp at hm
     ·simp at hm
theorem OW (hE:EnvOk E N) (nm:Names vs (vS vs ops)) (ho:ops[j]? = some o) (hf:FI N w G st a vs (vS vs ops)) {mx:Bool} {xs:Array Operand} {ts:Array TypeId} {pxs:List PX}
  (cL:o.op = .call { callee := .builtin (if mx then .max else .min),args:=xs,argTypes:=ts }) (hx:cxs E vs ops xs.toList=some pxs) {cf:vZ} (hs:opv cf (.minmax mx pxs) st=some (u,st1))
  (hk:wn N w G a st1 u vs ops j o next):o.wp P a w next Q:=by
 simp only[opv] at hs
 split at hs
 ·rename_i p ps hp
  simp only[ab,ac] at hs
  obtain⟨r,hr,rfl,rfl⟩:=hs
  obtain⟨h1,h2⟩:=AD hE hf hx hp
  cases iE:xs.toList with
  | nil=>simp[iE] at h1
  | cons y ys =>
    rw[iE] at h1 h2
    have h0:=h2 0 y p rfl rfl
    obtain⟨v,iA,jl,vv⟩:=OV (P:=P) (vals:=ys.map a.eval) h0.1 (by simpa using h1) (by
     intro i x q ei hq
     simp only[aA,ab] at ei
     obtain⟨z,hz,rfl⟩:=ei
     exact(h2 (i+1) z q (by simpa using hz) (by simpa using hq)).1) h0.2 hr
    refine wD nm ho hf (v:=v) ?_ (SR.of_pure jl vv) hk
    cases mx
    ·simp only[aH,if_false] at cL iA
     simp[execOp,cL,resolve,invoke,builtin,Builtin.min_,iE,iA]
    ·simp only[if_true] at cL iA
     simp[execOp,cL,resolve,invoke,builtin,Builtin.max_,iE,iA]
 ·simp at hs
theorem Kf (off:Nat):∀(vc:List Value) (n:Nat) (cs:Array Value) (k:Nat),off+n+vc.length≤cs.size →
  ((vc.zipIdx n).foldl (λ(cs:Array Value) (x:Value×Nat)=>cs.setIfInBounds (off+x.2) x.1) cs)[k]? = if off+n≤k∧k<off+n+vc.length then vc[k - (off+n)]? else cs[k]?
 | [],n,cs,k,_=>by simp; omega
 | v :: vc, n, cs, k, hn => by
   simp only[bc] at hn
   simp only[List.zipIdx_cons,List.foldl_cons]
   rw[Kf off vc (n+1) _ k (by simp; omega)]
   simp only[bc]
   by_cases h1:k=off+n
   ·subst h1
    rw[ae (by omega),ah (by omega)]
    simp[aY]
    omega
   ·by_cases h2:off+n≤k∧k<off+n+(vc.length+1)
    ·rw[ah (by omega),ah h2]
     rw[show k - (off+n)=(k - (off+(n+1)))+1 by omega]
     simp
    ·rw[ae (by omega),ae h2]
     simp[aY,Ne.symm h1]
theorem Kg (off:Nat) (vc:Array Value) (cs:Array Value) (h:off+vc.size≤cs.size):
  (vc.zipIdx.foldl (λ(cs:Array Value) (x:Value×Nat)=>cs.setIfInBounds (off+x.2) x.1) cs).toList=cs.toList.take off++(vc.toList++cs.toList.drop (off+vc.size)):=by
 apply bY
 intro k
 have hg:=Kf off vc.toList 0 cs k (by simpa using h)
 have he:vc.zipIdx.foldl (λ(cs:Array Value) (x:Value×Nat)=>cs.setIfInBounds (off+x.2) x.1) cs=(vc.toList.zipIdx 0).foldl (λ(cs:Array Value) (x:Value×Nat)=>cs.setIfInBounds (off+x.2) x.1) cs:=by
  rw[← Array.foldl_toList]; simp
 rw[he,bN,hg]
 simp only[bo,aV]
 by_cases h1:k<off
 ·rw[ae (by omega),al (by simp; omega),aP,ah h1,bN]
 ·rw[ap (by simp; omega)]
  have r6:(cs.toList.take off).length=off:=by simp; omega
  rw[r6]
  by_cases h2:k<off+vc.size
  ·rw[ah ⟨by omega,h2⟩,al (by simp; omega)]
  ·rw[ae (by omega),ap (by simp; omega),aT,bN]
   congr 1
   simp; omega
theorem Kh (hE:EnvOk E N) (hf:FI N w G st a vs (vS vs ops)) {place:Nat→Option (Nat×Nat)}:∀{parts:List (Nat×Operand)} {ps:List (Nat×Nat×PX)} {qs:List (Nat×Nat×PV)} {zs rs:List PV} {cs:Array Value},
  Cb E vs ops place parts=some ps→rdParts st ps=some qs→AU zs qs=some rs→CellsR N w G.fix G.heap cs.toList zs →
  OwnNil cs.toList zs→∃ds,Instr.fill place cs (parts.map λ(i,x)=>(i,a.eval x))=some ds∧CellsR N w G.fix G.heap ds.toList rs∧OwnNil ds.toList rs
 | [], ps, qs, zs, rs, cs, hc, hr, wA, hR, hO => by
   simp[Cb] at hc; subst hc
   simp[rdParts] at hr; subst hr
   simp[AU] at wA; subst wA
   exact⟨cs,rfl,hR,hO⟩
 | (i, x) :: parts, ps, qs, zs, rs, cs, hc, hr, wA, hR, hO => by
   simp only[Cb,af] at hc
   obtain⟨p,hp,hc⟩:=hc
   split at hc
   ·simp at hc
   ·rename_i pK
    simp only[af,ab] at hc
    obtain⟨px,fu,ps',d4,rfl⟩:=hc
    simp only[rdParts,af,ab] at hr
    obtain⟨v,hv,qs',jC,rfl⟩:=hr
    simp only[AU] at wA
    split at wA
    ·rename_i cP
     have cR:=(wB hE fu hf hv).1
     have dh:=CellsR.of_cells cR (by intro e; rw[e] at cP; simp at cP; omega)
     have cQ:(a.eval x).cells.size=p.2:=by have:=dh.1; simp at this; omega
     have eg:p.1+(a.eval x).cells.size≤cs.size:=by have:=hR.1; simp at this; omega
     have fc:CellsR N w G.fix G.heap ((a.eval x).cells.zipIdx.foldl (λ(cs:Array Value) (y:Value×Nat)=>cs.setIfInBounds (p.1+y.2) y.1) cs).toList (zs.take p.1++(v.cells.map dem++zs.drop (p.1+p.2))):=by
      rw[Kg _ _ _ eg,cQ]
      exact(hR.take _).append (dh.dem.append (hR.drop _))
     have o4:OwnNil ((a.eval x).cells.zipIdx.foldl (λ(cs:Array Value) (y:Value×Nat)=>cs.setIfInBounds (p.1+y.2) y.1) cs).toList (zs.take p.1++(v.cells.map dem++zs.drop (p.1+p.2))):=by
      rw[Kg _ _ _ eg,cQ]
      refine(hO.take _).append ?_ ((OwnNil.dem _ _).append ?_ (hO.drop _))
      ·have:=hR.1; simp at this ⊢; omega
      ·have:=dh.1; simpa using this
     obtain⟨ds,h1,h2⟩:=Kh hE hf d4 jC wA fc o4
     refine⟨ds,?_,h2⟩
     simp only[aF,Instr.fill,hp]
     rw[ae (by simp[cQ]; omega)]
     exact h1
    ·simp at wA
theorem BG {fix:Nat→Nat→Prop} {hp:Nat→Option Nat} {t:TypeId} {z:List PV} (h:xN P t=some z):
  ∃i zv,P.info? t=some i∧i.zero=some zv∧i.size≠0∧z.length=i.size∧CellsR N w fix hp zv.cells.toList z∧OwnNil zv.cells.toList z:=by
 unfold xN at h
 split at h
 ·rename_i i hi
  split at h
  ·rename_i zv hz
   simp only[af] at h
   obtain⟨cs,dY,h⟩:=h
   split at h
   ·rename_i cP
    simp at h; subst h
    obtain⟨h1,h2,h3⟩:=Ka (N:=N) (w:=w) (fix:=fix) (hp:=hp) dY
    exact⟨i,zv,hi,hz,cP.2,cP.1,⟨h1,h2,h3⟩,λk c es hc he=>DT dY k c es hc he⟩
   ·simp at h
  ·simp at h
 ·simp at h
theorem b7f (hE:EnvOk E N) (nm:Names vs (vS vs ops)) (ho:ops[j]? = some o) (hf:FI N w G st a vs (vS vs ops)) {t:TypeId} {parts:Array (Nat×Operand)} {fs:Array Field} {places:List (Nat×Nat)} {z:List PV} {ps:List (Nat×Nat×PX)}
  (cL:o.op = .build t parts) (hu:P.underlying t=some (.struct fs)) (hz:xN P t=some z) (fN:fs.toList.mapM (λf=>(P.info? f.type).map λi=>(f.offset,i.size))=some places)
  (hc:Cb E vs ops (places.toArray[·]?) parts.toList=some ps) {cf:vZ} (hs:opv cf (.build z ps) st=some (u,st1)) (hk:wn N w G a st1 u vs ops j o next):o.wp P a w next Q:=by
 simp only[opv,ab,af,ac] at hs
 obtain⟨rs,⟨qs,hq,wA⟩,rfl,rfl⟩:=hs
 obtain⟨i,zv,hi,ja,_,_,hR,hO⟩:=BG (N:=N) (w:=w) (fix:=G.fix) (hp:=G.heap) hz
 obtain⟨ds,h1,h2,h3⟩:=Kh hE hf hc hq wA hR hO
 refine wD nm ho hf (v := .agg ds) ?_ (SR.of_pure (by simpa using h2.agg h3) rfl) hk
 have hb:P.built t (parts.map λ(i,x)=>(i,a.eval x)).toList=some ds:=by
  simp only[Program.built,hi,hu,ja,fN]
  simpa using h1
 simp[execOp,cL,run_build w t _ ds hb]
end
def GS.give (G:GS) (b:Nat) (k:Key):GS:={ G with ow:=λx=>if x=b then some k else G.ow x }
section
variable {E:Env} {N:Nm} {w:World} {G:GS} {st:St} {a:Act} {vs:List Tmp} {ops:List Oper} {P:Program}
variable {o:Oper} {j:Nat} {next:Act→World→Prop} {Q:Exit→Act→World→Prop} {u:PV} {st1:St}
theorem FI.src (hf:FI N w G st a vs (vS vs ops)) {px:PX} {es:List PV} {G':GS} {w':World} (fu:∀p,px≠.c p) (hr:raw st px=some (.list true es))
  (e:Ext w G w' G') (hk:xa (λk=>k=yH px) w G w' G') (hg:∀g b,G'.box g=some b→g<st.gen) (ho:∀b k,G'.ow b=some k→b<w'.heap.size) (hx:∀b o,G'.fix b o→b<w'.heap.size) (hh:G'.heap=G.heap):
  FI N w' G' (AS st px (.list false es)) a vs (vS vs ops):=by
 cases px with
 | c p=>exact absurd rfl (fu p)
 | v i =>
   refine⟨by simp[AS,hf.len],?_,?_,hf.tv,hf.tl,(hf.defers.trans e.df.symm),hg,ho,hx,hf.heap.keep e hk (by intro k hk e; subst e; simp[yH,Key.isH] at hk),by rw[hh]; exact hf.hdom⟩
   ·intro i' t u h1 h2
    simp only[AS,aI] at h2
    split at h2
    ·rename_i hi
     subst hi
     split at h2
     ·simp at h2; subst h2
      exact((hf.var i t _ h1 hr).1.dem).ext e
     ·simp at h2
    ·rename_i hi
     exact(hf.var i' t u h1 h2).keep e hk (by simp[yH]; omega) (by simp[yH])
   ·intro i' t u h1 h2
    exact(hf.loc i' t u h1 h2).keep e hk (by simp[yH]) (by simp[yH])
 | l i =>
   refine⟨hf.len,?_,?_,hf.tv,hf.tl,(hf.defers.trans e.df.symm),hg,ho,hx,hf.heap.keep e hk (by intro k hk e; subst e; simp[yH,Key.isH] at hk),by rw[hh]; exact hf.hdom⟩
   ·intro i' t u h1 h2
    exact(hf.var i' t u h1 h2).keep e hk (by simp[yH]) (by simp[yH])
   ·intro i' t u h1 h2
    simp only[AS,aI] at h2
    split at h2
    ·rename_i hi
     subst hi
     split at h2
     ·simp at h2; subst h2
      exact((hf.loc i t _ h1 hr).1.dem).ext e
     ·simp at h2
    ·rename_i hi
     exact(hf.loc i' t u h1 h2).keep e hk (by simp[yH]; omega) (by simp[yH])
theorem G6 (b:Nat) (k:Key) (h:b<w.heap.size→G.ow b≠none):Ext w G w (G.give b k):=by
 refine⟨rfl,rfl,rfl,ao _,λ_ _ _=>rfl,λ_ _ h=>⟨h,rfl⟩,λ_ _ h => .inl h,?_,λ_ _ h=>h,ShapeLe.refl w,rfl⟩
 intro x hx
 simp only[GS.give] at hx
 split at hx
 ·rename_i gc
  subst gc
  by_cases cO:x<w.heap.size
  ·exact .inr (h cO)
  ·exact .inl (by omega)
 ·exact .inr hx
theorem G7 (b:Nat) (k:Key) {K:Key→Prop} (h:∀k',G.ow b=some k'→K k'):xa K w G w (G.give b k):=by
 refine⟨?_,λ_ _ h=>h⟩
 intro x k' hx hn
 refine⟨?_,rfl,λ_ h=>h⟩
 simp only[GS.give]
 split
 ·rename_i gc
  subst gc
  exact absurd (h k' hx) hn
 ·exact hx
theorem Room.give {key key':Key} {v:Value} {es:List PV} (h:Room w G key v es):
  ∃G',(G'=G∨∃b,G.ow b=some key∧G'=G.give b key')∧Room w G' key' v es:=by
 unfold Room at h
 split at h
 ·rename_i a len cap
  rcases h with h|⟨ho,sz,cs,T,h1,h2,h3,h4,h5⟩
  ·exact⟨G,.inl rfl,.inl h⟩
  ·exact⟨G.give a.block key',.inr ⟨_,ho,rfl⟩,.inr ⟨by simp[GS.give],sz,cs,T,h1,h2,h3,h4,h5⟩⟩
 ·rename_i hx
  refine⟨G,.inl rfl,?_⟩
  unfold Room
  split
  ·rename_i a len cap; exact absurd rfl (hx _ _ _)
  ·trivial
def G8 (w:World) (G:GS) (key:Key) (v:Value):PV→Prop
 | .list true es=>Room w G key v es
 | u=>cp u=some u
theorem DV (hE:EnvOk E N) {x:Operand} {px:PX} (hc:cx E vs ops x=some px) (hf:FI N w G st a vs (vS vs ops)) (ht:tk st px=some (u,st1)) (key:Key):
  ∃ G', FI N w G' st1 a vs (vS vs ops) ∧ Ext w G w G' ∧ G'.box = G.box ∧ G'.fix = G.fix ∧ G'.heap = G.heap ∧ VR N w G.fix G.heap (a.eval x) u ∧
    G8 w G' key (a.eval x) u∧(∀b,G'.ow b=G.ow b∨(G.ow b=some (yH px)∧G'.ow b=some key))∧st1.gen=st.gen∧st1.heap=st.heap:=by
 unfold tk at ht
 split at ht
 ·rename_i es hr
  simp only[aa,ac] at ht
  obtain⟨rfl,rfl⟩:=ht
  have hs:=Bf hE hc hf hr
  obtain⟨hv,dm⟩:=hs
  by_cases fu:∃p,px = .c p
  ·obtain⟨p,rfl⟩:=fu
   simp only[raw,aa] at hr
   subst hr
   refine⟨G,hf,Ext.refl _ _,rfl,rfl,rfl,hv,?_,λ_ => .inl rfl,rfl,rfl⟩
   cases x with
   | tmp t=>simp only[cx] at hc; split at hc<;>simp at hc
   | const v =>
     simp only[cx] at hc
     split at hc
     ·simp at hc
     simp only[ab] at hc
     obtain⟨q,hq,oi⟩:=hc
     simp at oi; subst oi
     rcases Kb hq with⟨es',_,rfl⟩|h
     ·exact True.intro
     ·simp[cp] at h
   | global g=>simp[cx] at hc
   | func f =>
     simp only[cx,ab] at hc
     obtain⟨k,_,hk⟩:=hc
     simp at hk
  ·obtain⟨G',hG,fe⟩:=dm.give (key':=key)
   have hg:G'.box=G.box∧G'.fix=G.fix∧G'.heap=G.heap:=by
    rcases hG with rfl|⟨b,_,rfl⟩<;>exact⟨rfl,rfl,rfl⟩
   have cJ:Ext w G w G':=by
    rcases hG with rfl|⟨b,hb,rfl⟩
    ·exact Ext.refl _ _
    ·exact G6 b key (λ_=>by simp[hb])
   have cN:xa (λk=>k=yH px) w G w G':=by
    rcases hG with rfl|⟨b,hb,rfl⟩
    ·exact⟨λb k h _=>⟨h,rfl,λ_ h=>h⟩,λ_ _ h=>h⟩
    ·exact G7 b key (λk' dg=>by rw[hb] at dg; simpa using dg.symm)
   have how:∀b,G'.ow b=G.ow b∨(G.ow b=some (yH px)∧G'.ow b=some key):=by
    intro b
    rcases hG with rfl|⟨b',hb,rfl⟩
    ·exact .inl rfl
    ·simp only[GS.give]
     split
     ·subst_vars; exact .inr ⟨hb,rfl⟩
     ·exact .inl rfl
   refine⟨G',?_,cJ,hg.1,hg.2.1,hg.2.2,hv,fe,how,?_,?_⟩
   ·refine hf.src (λp hp=>fu ⟨p,hp⟩) hr cJ cN (by rw[hg.1]; exact hf.gen) ?_ (by rw[hg.2.1]; exact hf.fixlt) hg.2.2
    intro b k hb
    rcases how b with h|⟨h,_⟩
    ·exact hf.owlt b k (h▸hb)
    ·exact hf.owlt b _ h
   ·cases px<;>rfl
   ·cases px<;>rfl
 ·rename_i v mf hr
  simp only[ab,ac] at ht
  obtain⟨r,eY,rfl,rfl⟩:=ht
  obtain⟨h1,h2⟩:=(Bf hE hc hf hr).read eY
  refine⟨G,hf,Ext.refl _ _,rfl,rfl,rfl,h1,?_,λ_ => .inl rfl,rfl,rfl⟩
  unfold G8
  split
  ·simp[cp] at h2
  ·exact h2
 ·simp at ht
theorem SR.of_taken {key:Key} {v:Value} {u:PV} (h:VR N w G.fix G.heap v u) (hm:G8 w G key v u):SR N w G key v u:=by
 unfold G8 at hm
 split at hm
 ·exact⟨h,hm⟩
 ·exact SR.of_pure h hm
theorem OX (hE:EnvOk E N) (nm:Names vs (vS vs ops)) (ho:ops[j]? = some o) (hf:FI N w G st a vs (vS vs ops)) {x:Operand} {px:PX} (hx:(execOp a.eval o).run P w = .ok (.value (a.eval x)) w)
  (hc:cx E vs ops x=some px) (hs:tk st px=some (u,st1)) (hk:wn N w G a st1 u vs ops j o next):o.wp P a w next Q:=by
 obtain⟨G',h1,h2,h3,h4,h5,h6,h7,_⟩:=DV hE hc hf hs (xJ (wv vs o.dst) j)
 unfold Oper.wp
 rw[hx]
 refine hk _ _ G' (h1.put nm (yI ho) (SR.of_taken ?_ h7)) h2 (yJ _ _ _)
 rw[h4,h5]; exact h6
theorem CE {w:World} {ob:Obj} {b o:Nat} (h:b<w.heap.size):(w.alloc ob).cell? ⟨b,o,none⟩=w.cell? ⟨b,o,none⟩:=World.cell?_alloc_lt w ob _ h
theorem yr {w:World} {ob:Obj} {b:Nat} (h:b<w.heap.size):(w.alloc ob).heap[b]? = w.heap[b]? := by
 simp only[World.alloc,Array.getElem?_push]
 rw[ae (by omega)]
theorem AE {w:World} {ob:Obj}:(w.alloc ob).heap[w.heap.size]? = some ob:=by unfold World.alloc; simp only[Array.getElem?_push_size]
theorem OY (nm:Names vs (vS vs ops)) (ho:ops[j]? = some o) (hf:FI N w G st a vs (vS vs ops)) {cs:Array Value} {ps:List PV} {T:TypeId} {i:Nat} (hd:wv vs o.dst = .v i)
  (cM:(execOp a.eval o).run P w = .ok (.value (.pointer (some ⟨w.heap.size,0,none⟩))) (w.alloc (.cells cs T)))
  (hR:∀(k:Nat) (c:Value) (x:PV),cs[k]? = some c→ps[k]? = some x→VR N w G.fix G.heap c x∧x.flat=true∧(∀es,x = .list true es→c = .slice none 0 0)) (hl:cs.size=ps.length)
  (hk:wn N w G a { st with gen:=st.gen+1 } (.loc st.gen ps) vs ops j o next):o.wp P a w next Q:=by
 unfold Oper.wp
 rw[cM]
 have vz:G.ow w.heap.size=none:=by
  cases h:G.ow w.heap.size with
  | none=>rfl
  | some k=>have:=hf.owlt _ _ h; omega
 have fq:∀o,¬G.fix w.heap.size o:=λo h=>by have:=hf.fixlt _ _ h; omega
 let G':GS:={ G with ow:=λx=>if x=w.heap.size then some (.var i) else G.ow x,box:=λg=>if g=st.gen then some w.heap.size else G.box g }
 have cJ:Ext w G (w.alloc (.cells cs T)) G':=by
  refine⟨rfl,rfl,rfl,by simp,λb hb _=>yr hb,λb o h=>⟨h,CE (hf.fixlt _ _ h)⟩,λ_ _ h => .inl h,?_,λ_ _ h=>h,.same λk hk=>yr hk,rfl⟩
  intro b hb
  by_cases cO:b<w.heap.size
  ·refine .inr ?_
   simp only[G'] at hb
   rw[ae (by omega)] at hb
   exact hb
  ·exact .inl (by omega)
 have cN:xa (λ_=>False) w G (w.alloc (.cells cs T)) G':=by
  refine⟨?_,?_⟩
  ·intro b k hb _
   have cO:=hf.owlt _ _ hb
   refine⟨?_,yr cO,λ_ h=>h⟩
   simp only[G']
   rw[ae (by omega)]; exact hb
  ·intro g b hb
   have:=hf.gen _ _ hb
   simp only[G']
   rw[ae (by omega)]; exact hb
 have db:FI N (w.alloc (.cells cs T)) G' { st with gen:=st.gen+1 } a vs (vS vs ops):=by
  refine⟨hf.len,λi t u h1 h2=>(hf.var i t u h1 h2).keep cJ cN (λh=>h) (λ_ _ _ h=>h),λj t u h1 h2=>(hf.loc j t u h1 h2).keep cJ cN (λh=>h) (λ_ _ _ h=>h),hf.tv,hf.tl,hf.defers,?_,?_,?_,hf.heap.keep cJ cN (λ_ _ h=>h),hf.hdom⟩
  ·intro g b hb
   simp only[G'] at hb
   split at hb
   ·simp; omega
   ·have:=hf.gen _ _ hb; simp; omega
  ·intro b k hb
   simp only[G'] at hb
   split at hb
   ·simp; omega
   ·have:=hf.owlt _ _ hb; simp; omega
  ·intro b o h; have:=hf.fixlt _ _ h; simp; omega
 refine hk _ _ G' (db.put nm (yI ho) ?_) cJ (yJ _ _ _)
 rw[hd]
 refine⟨w.heap.size,i,rfl,rfl,by simp[G'],by simp[G',xJ],fq,cs,T,AE,hl,?_⟩
 intro k c x hc hx
 obtain⟨h1,h2,h3⟩:=hR k c x hc hx
 refine⟨h1.ext cJ,h2,?_⟩
 split
 ·rename_i es
  have:=h3 es rfl
  subst this
  trivial
 ·trivial
theorem OZ {d:PD} (h:BO d=true):∃i,d = .v i:=by
 cases d with
 | v i=>exact⟨i,rfl⟩
 | l=>simp[BO] at h
 | n=>simp[BO] at h
theorem b56 (nm:Names vs (vS vs ops)) (ho:ops[j]? = some o) (hf:FI N w G st a vs (vS vs ops)) {t:TypeId} {z:List PV} (cL:o.op = .alloc t) (hz:xN P t=some z) (hd:BO (wv vs o.dst)=true) {cf:vZ}
  (hs:opv cf (.newloc z) st=some (u,st1)) (hk:wn N w G a st1 u vs ops j o next):o.wp P a w next Q:=by
 simp only[opv,aa,ac] at hs
 obtain⟨rfl,rfl⟩:=hs
 obtain⟨i,hi⟩:=OZ hd
 obtain⟨ti,zv,h1,h2,h3,h4,h5,_⟩:=BG (N:=N) (w:=w) (fix:=G.fix) (hp:=G.heap) hz
 refine OY (cs:=zv.cells) (ps:=z) (T:=t) nm ho hf hi ?_ ?_ ?_ hk
 ·simp[execOp,cL,Instr.alloc,zeroValue,typeInfo,h1,h2,newVar,newRow]
 ·intro k c x hc hx
  refine⟨h5.2.2 k c x (by simpa using hc) hx,h5.2.1 x (av hx),?_⟩
  rintro es rfl
  unfold xN at hz
  simp only[h1,h2,af] at hz
  obtain⟨cs',dY,hz⟩:=hz
  split at hz
  ·simp at hz; subst hz
   exact DT dY k c es (by simpa using hc) hx
  ·simp at hz
 ·have:=h5.1; simpa using this
theorem b57 (hE:EnvOk E N) (nm:Names vs (vS vs ops)) (ho:ops[j]? = some o) (hf:FI N w G st a vs (vS vs ops)) {t:TypeId} {n:Nat} {x:Operand} {px:PX} (cL:o.op = .box t x) (hn:wx P t=some n) (hx:cx E vs ops x=some px)
  (hd:BO (wv vs o.dst)=true) {cf:vZ} (hs:opv cf (.boxloc n px) st=some (u,st1)) (hk:wn N w G a st1 u vs ops j o next):o.wp P a w next Q:=by
 simp only[opv] at hs
 split at hs
 ·rename_i p hp
  split at hs
  ·rename_i hl
   simp only[aa,ac] at hs
   obtain⟨rfl,rfl⟩:=hs
   obtain⟨i,hi⟩:=OZ hd
   obtain⟨_,_,_,_,eF,_⟩:=yt hn
   have hv:=(wB hE hx hf hp).1
   have dh:=(CellsR.of_cells hv (by intro e; rw[e] at hl; simp at hl; omega)).dem
   refine OY (cs:=(a.eval x).cells) (ps:=p.cells.map dem) (T:=t) nm ho hf hi ?_ ?_ ?_ hk
   ·simp[execOp,cL,Instr.box,newVar,newRow]
   ·intro k c y hc hy
    refine⟨dh.2.2 k c y (by simpa using hc) hy,dh.2.1 y (av hy),?_⟩
    rintro es rfl
    simp only[aA,ab] at hy
    obtain⟨q,_,hq⟩:=hy
    cases q<;>simp[dem] at hq
   ·have:=dh.1; simpa using this
  ·simp at hs
 ·simp at hs
end
section
variable {E:Env} {N:Nm} {w:World} {G:GS} {st:St} {a:Act} {vs:List Tmp} {ops:List Oper} {P:Program}
variable {o:Oper} {j:Nat} {next:Act→World→Prop} {Q:Exit→Act→World→Prop} {u:PV} {st1:St}
def Fi (N:Nm) (w:World) (fix:Nat→Nat→Prop) (hp:Nat→Option Nat) (size:Nat) (cs:Array Value) (es:List PV):Prop:=
 cs.size=es.length*size∧∀(i:Nat) (e:PV),es[i]? = some e→e.cells.length=size∧(∀x∈e.cells,x.flat=true) ∧
  ∀(k:Nat) (c:Value) (x:PV),cs[i*size+k]? = some c→e.cells[k]? = some x→VR N w fix hp c x
theorem G9 {i n k size:Nat} (hi:i<n) (hk:k<size):i*size+k<n*size:=by
 have:(i+1)*size≤n*size:=bi _ hi
 rw[aO] at this; omega
theorem b9b (v:PV):(yZ v).cells=v.cells.map PI.dem:=by
 cases v<;>rfl
theorem O0 (hE:EnvOk E N) (hf:FI N w G st a vs (vS vs ops)) {size:Nat} (fD:size≠0):∀{parts:List (Nat×Operand)} {ps:List (Nat×PX)} {qs:List (Nat×PV)} {zs rs:List PV} {cs:Array Value},
  Df E vs ops parts=some ps→rdElems st ps=some qs→BZ size zs qs=some rs→Fi N w G.fix G.heap size cs zs →
  ∃ds,Instr.fill (λi=>some (i*size,size)) cs (parts.map λ(i,x)=>(i,a.eval x))=some ds∧Fi N w G.fix G.heap size ds rs∧rs.length=zs.length
 | [], ps, qs, zs, rs, cs, hc, hr, wA, hR => by
   simp[Df] at hc; subst hc
   simp[rdElems] at hr; subst hr
   simp[BZ] at wA; subst wA
   exact⟨cs,rfl,hR,rfl⟩
 | (i, x) :: parts, ps, qs, zs, rs, cs, hc, hr, wA, hR => by
   simp only[Df,af,ab] at hc
   obtain⟨px,fu,ps',d4,rfl⟩:=hc
   simp only[rdElems,af,ab] at hr
   obtain⟨v,hv,qs',jC,rfl⟩:=hr
   simp only[BZ] at wA
   split at wA
   ·rename_i cP
    have cR:=(wB hE fu hf hv).1
    have dh:=CellsR.of_cells cR (by intro e; rw[e] at cP; simp at cP; omega)
    have cQ:(a.eval x).cells.size=size:=by have:=dh.1; simp at this; omega
    have eg:i*size+(a.eval x).cells.size≤cs.size:=by
     rw[hR.1,cQ]
     have:(i+1)*size≤zs.length*size:=bi _ cP.2
     rw[aO] at this; omega
    have fc:Fi N w G.fix G.heap size ((a.eval x).cells.zipIdx.foldl (λ(cs:Array Value) (y:Value×Nat)=>cs.setIfInBounds (i*size+y.2) y.1) cs) (zs.set i (yZ v)):=by
     have hl:=Kg (i*size) (a.eval x).cells cs eg
     have wU:∀k,((a.eval x).cells.zipIdx.foldl (λ(cs:Array Value) (y:Value×Nat)=>cs.setIfInBounds (i*size+y.2) y.1) cs)[k]? = if i*size≤k∧k<i*size+size then(a.eval x).cells[k - i*size]? else cs[k]? := by
      intro k
      have hg:=Kf (i*size) (a.eval x).cells.toList 0 cs k (by simpa using eg)
      have he:(a.eval x).cells.zipIdx.foldl (λ(cs:Array Value) (y:Value×Nat)=>cs.setIfInBounds (i*size+y.2) y.1) cs=((a.eval x).cells.toList.zipIdx 0).foldl (λ(cs:Array Value) (y:Value×Nat)=>cs.setIfInBounds (i*size+y.2) y.1) cs:=by
       rw[← Array.foldl_toList]; simp
      rw[he,hg]
      simp[cQ]
     refine⟨?_,?_⟩
     ·have:=aD List.length hl
      rw[aV,ax,ax,bB,cA,aV,aV] at this
      rw[bJ,← hR.1,this]
      omega
     ·intro i' e' dy
      rw[aI] at dy
      split at dy
      ·rename_i jm
       subst jm
       rw[ah cP.2] at dy
       simp at dy; subst dy
       rw[b9b]
       refine⟨by rw[aS]; exact cP.1,dh.dem.2.1,?_⟩
       intro k c y hc hy
       have hk:k<size:=by have:=(aj.1 hy).1; rw[aS] at this; omega
       rw[wU,ah ⟨by omega,by omega⟩,show i*size+k - i*size=k by omega] at hc
       exact dh.dem.2.2 k c y (by simpa using hc) hy
      ·rename_i jm
       obtain⟨h1,h2,h3⟩:=hR.2 i' e' dy
       refine⟨h1,h2,?_⟩
       intro k c y hc hy
       have hk:k<size:=by have:=(aj.1 hy).1; omega
       have r7:¬(i*size≤i'*size+k∧i'*size+k<i*size+size):=by
        rintro⟨ha,hb⟩
        rcases Nat.lt_or_gt_of_ne jm with h|h
        ·have:(i+1)*size≤i'*size:=bi _ h
         rw[aO] at this; omega
        ·have:(i'+1)*size≤i*size:=bi _ h
         rw[aO] at this; omega
       rw[wU,ae r7] at hc
       exact h3 k c y hc hy
    obtain⟨ds,h1,h2,h3⟩:=O0 hE hf fD d4 jC wA fc
    refine⟨ds,?_,h2,by rw[h3,bJ]⟩
    simp only[aF,Instr.fill]
    rw[ae (by simp[cQ]; omega)]
    exact h1
   ·simp at wA
theorem c0N (nm:Names vs (vS vs ops)) (ho:ops[j]? = some o) (hf:FI N w G st a vs (vS vs ops)) {cs:Array Value} {es:List PV} {T:TypeId} {size:Nat} (hR:Fi N w G.fix G.heap size cs es)
  (cM:(execOp a.eval o).run P w = .ok (.value (.slice (some ⟨w.heap.size,0,none⟩) es.length es.length)) (w.alloc (.cells cs T)))
  (hk:wn N w G a st (.list true es) vs ops j o next):o.wp P a w next Q:=by
 unfold Oper.wp
 rw[cM]
 have fq:∀o,¬G.fix w.heap.size o:=λo h=>by have:=hf.fixlt _ _ h; omega
 let G':GS:={ G with fix:=λb o=>G.fix b o∨b=w.heap.size }
 have cJ:Ext w G (w.alloc (.cells cs T)) G':=by
  refine⟨rfl,rfl,rfl,by simp,λb hb _=>yr hb,λb o h=>⟨.inl h,CE (hf.fixlt _ _ h)⟩,?_,λ_ h => .inr h,λ_ _ h=>h,.same λk hk=>yr hk,rfl⟩
  rintro b o (h|h)
  ·exact .inl h
  ·exact .inr (.inl (by omega))
 have cN:xa (λ_=>False) w G (w.alloc (.cells cs T)) G':=by
  refine⟨?_,λ_ _ h=>h⟩
  intro b k hb _
  have cO:=hf.owlt _ _ hb
  refine⟨hb,yr cO,?_⟩
  rintro o (h|h)
  ·exact h
  ·omega
 have db:=hf.ext (G':=G') cJ cN hf.gen (λb k hb=>by have:=hf.owlt b k hb; simp; omega) (by
  rintro b o (h|h)
  ·have:=hf.fixlt _ _ h; simp; omega
  ·simp; omega)
 refine hk _ _ G' (db.put nm (yI ho) ⟨?_,.inl rfl⟩) cJ (yJ _ _ _)
 refine .list true w.heap.size 0 es.length es.length size es (λk=>cs.getD k undef) rfl (ao _) ?_ ?_ ?_ ?_
 ·intro e he
  obtain⟨i,hi⟩:=bb.1 he
  exact(hR.2 i e hi).1
 ·intro e he
  obtain⟨i,hi⟩:=bb.1 he
  exact(hR.2 i e hi).2.1
 ·intro k hk
  rw[← hR.1] at hk
  refine⟨?_,.inr rfl⟩
  rw[aR,World.cell?_alloc_new]
  simp[hk]
 ·intro i e he k x hx
  obtain⟨h1,h2,h3⟩:=hR.2 i e he
  have hk:k<size:=by have:=(aj.1 hx).1; omega
  have hi:i<es.length:=(aj.1 he).1
  have cO:i*size+k<cs.size:=by rw[hR.1]; exact G9 hi hk
  have:=h3 k cs[i*size+k] x (by simp[cO]) hx
  simp only[aK,Array.getElem?_eq_getElem cO,bL]
  exact this.ext cJ
theorem b4r (hE:EnvOk E N) (nm:Names vs (vS vs ops)) (ho:ops[j]? = some o) (hf:FI N w G st a vs (vS vs ops)) {t e:TypeId} {len size:Nat} {parts:Array (Nat×Operand)} {z:List PV} {ps:List (Nat×PX)}
  (cL:o.op = .buildSlice t len parts) (hu:P.underlying t=some (.slice e)) (hn:wx P e=some size) (hz:xN P e=some z) (cK:len*size≤16777216) (hc:Df E vs ops parts.toList=some ps) {cf:vZ}
  (hs:opv cf (.mkslice size (if wQ P e then .agg z else z.headD .dead) len ps) st=some (u,st1)) (hk:wn N w G a st1 u vs ops j o next):o.wp P a w next Q:=by
 simp only[opv,ab,af,ac] at hs
 obtain⟨rs,⟨qs,hq,wA⟩,rfl,rfl⟩:=hs
 obtain⟨ti,zv,h1,h2,h3,h4,h5,_⟩:=BG (N:=N) (w:=w) (fix:=G.fix) (hp:=G.heap) hz
 obtain⟨ti',d,il,vA,fD,hd⟩:=yt hn
 have lD:ti'=ti:=by rw[h1] at il; simpa using il.symm
 subst lD
 have ge:zv.cells.size=size:=by have:=h5.1; simp at this; omega
 have vB:(if wQ P e then PV.agg z else z.headD .dead).cells=z:=by
  split
  ·rfl
  ·rename_i fj
   have d7:=Bj hn (by simpa using fj)
   match z,h4 with
   | [],h=>simp at h; omega
   | [p], _ =>
     have:=h5.2.1 p (by simp)
     cases p<;>first|rfl|simp[PV.flat] at this
   | _::_::_,h=>simp at h; omega
 let cs0:Array Value:=(Array.range (len*size)).map (zv.cells[· % zv.cells.size]!)
 have vC:Fi N w G.fix G.heap size cs0 (List.replicate len (if wQ P e then PV.agg z else z.headD .dead)):=by
  refine⟨by simp[cs0],?_⟩
  intro i x hx
  have ei:=ct.symm.trans hx
  split at ei
  ·rename_i hi
   simp only[aa] at ei
   rw[← ei,vB]
   refine⟨by omega,h5.2.1,?_⟩
   intro k c y eB hy
   have hk:k<size:=by have:=(aj.1 hy).1; omega
   have cO:i*size+k<len*size:=G9 hi hk
   have iG:(i*size+k) % size=k:=by
    rw[Nat.add_comm,Nat.mul_comm,Nat.add_mul_mod_self_left]; exact Nat.mod_eq_of_lt hk
   simp only[cs0,bK,Array.getElem?_range,cO,if_true,ay,aa,ge,iG] at eB
   have dg:k<zv.cells.size:=by omega
   rw[getElem!_pos zv.cells k dg] at eB
   exact h5.2.2 k c y (by rw[← eB]; simp[dg]) hy
  ·simp at ei
 obtain⟨ds,lN,hR,ig⟩:=O0 hE hf fD hc hq wA vC
 have hl:rs.length=len:=by simpa using ig
 refine c0N (cs:=ds) (T:=e) nm ho hf hR ?_ hk
 rw[hl]
 have r8:¬(len*size>2 ^ 24):=by
  have:(2:Nat) ^ 24=16777216:=by decide
  omega
 have fN:(parts.map λ(i,x)=>(i,a.eval x)).toList=parts.toList.map λ(i,x)=>(i,a.eval x):=by simp
 have r9:(Instr.buildSlice t len (parts.map λ(i,x)=>(i,a.eval x))).run P w = .ok (.slice (some ⟨w.heap.size,0,none⟩) len len) (w.alloc (.cells ds e)):=by
  unfold Instr.buildSlice
  simp only[Sem.run_bind,run_underlying hu,Result.andThen_ok,yY hn,ae r8]
  by_cases h0:len*size=0
  ·have jY:(Array.range (len*size)).map ((#[]:Array Value)[· % (#[]:Array Value).size]!)=cs0:=by simp[h0,cs0]
   simp only[ah h0,Sem.run_bind,Sem.run_pure,Result.andThen_ok,jY,fN,lN]
   simp[newRow]
  ·simp only[ae h0,Sem.run_bind,Sem.run_pure,Result.andThen_ok,zeroValue,typeInfo,run_program,h1,h2,fN]
   have:Instr.fill (λi=>some (i*size,size)) ((Array.range (len*size)).map (zv.cells[· % zv.cells.size]!)) (parts.toList.map λ(i,x)=>(i,a.eval x))=some ds:=lN
   rw[this]
   simp[newRow]
 simp[execOp,cL,r9]
end
section
variable {E:Env} {N:Nm} {w:World} {G:GS} {st:St} {a:Act} {vs:List Tmp} {ops:List Oper} {P:Program}
variable {o:Oper} {j:Nat} {next:Act→World→Prop} {Q:Exit→Act→World→Prop} {u:PV} {st1:St}
theorem Ha (hf:FI N w G st a vs (vS vs ops)) {s g b:Nat} {cs:List PV} (hv:st.vars[s]? = some (.loc g cs)) (hb:G.box g=some b):
  ∃ t, vs[s]? = some t ∧ a.eval (.tmp t) = .pointer (some ⟨b, 0, none⟩) ∧ G.ow b = some (.var s) ∧ (∀ o, ¬ G.fix b o) ∧
    ∃cv T,w.heap[b]? = some (.cells cv T (0,0))∧cv.size=cs.length∧∀(k:Nat) (c:Value) (x:PV),cv[k]? = some c→cs[k]? = some x→CR N w G (.vcell s k) c x:=by
 have hs:s<vs.length:=by rw[← hf.len]; exact(aj.1 hv).1
 have h:=hf.var s vs[s] _ (aq hs) hv
 obtain⟨b',i,hk,h1,h2,h3,h4,h5⟩:=h
 have hi:i=s:=by simpa using hk.symm
 subst hi
 have:b'=b:=by rw[hb] at h2; simpa using h2.symm
 subst this
 exact⟨vs[i],aq hs,h1,h3,h4,h5⟩
theorem HG {b:Nat} {cv:Array Value} {T:TypeId} {cs:List PV} {s:Nat} (hh:w.heap[b]? = some (.cells cv T (0,0))) (hl:cv.size=cs.length)
  (hc:∀(k:Nat) (c:Value) (x:PV),cv[k]? = some c→cs[k]? = some x→CR N w G (.vcell s k) c x):
  CellsR N w G.fix G.heap cv.toList cs∧∀(k:Nat) (v:Value),cv.toList[k]? = some v→w.cell? ⟨b,k,none⟩=some v:=by
 refine⟨⟨by simpa using hl,?_,λi c x h1 h2=>(hc i c x (by simpa using h1) h2).1⟩,?_⟩
 ·intro x hx
  obtain⟨i,hi⟩:=bb.1 hx
  have cO:i<cv.size:=by have:=(aj.1 hi).1; omega
  exact(hc i cv[i] x (by simp[cO]) hi).2.1
 ·intro k v hv
  simp only[bN] at hv
  simp[World.cell?,hh,hv]
theorem c0O (hf:FI N w G st a vs (vS vs ops)) {t:TypeId} {n s g off b:Nat} {cs:List PV} {v:Value} (hn:wx P t=some n) (hv:v = .pointer (some ⟨b,off,none⟩)) (hb:G.box g=some b)
  (hs:st.vars[s]? = some (.loc g cs)) (hl:wh n (wQ P t) cs off=some u):∃r,(Instr.loadAt t v).run P w = .ok r w∧VR N w G.fix G.heap r u∧cp u=some u:=by
 obtain⟨_,_,_,_,_,cv,T,h1,h2,h3⟩:=Ha hf hs hb
 obtain⟨hR,hcell⟩:=HG h1 h2 h3
 have eF:n≠0:=by obtain⟨_,_,_,_,h,_⟩:=yt hn; exact h
 obtain⟨k1,k2,k3⟩:=CC hR hl eF (Bj hn)
 refine⟨_,?_,k2,k3⟩
 subst hv
 have:=Ef (w:=w) hn b off (cv.toList.drop off) (by simp at k1 ⊢; omega) (λj v hv=>by
  rw[aT] at hv
  exact hcell _ _ hv)
 simpa[Instr.loadAt,Instr.sureAddr] using this
theorem O1 (hE:EnvOk E N) (nm:Names vs (vS vs ops)) (ho:ops[j]? = some o) (hf:FI N w G st a vs (vS vs ops)) {t:TypeId} {n:Nat} {x:Operand} {px:PX} {tk:Bool} (cL:o.op = .load t x) (hn:wx P t=some n)
  (hx:cx E vs ops x=some px) {cf:vZ} (hs:opv cf (.load n (wQ P t) px tk) st=some (u,st1)) (hk:wn N w G a st1 u vs ops j o next):o.wp P a w next Q:=by
 have plain:∀r,(Instr.loadAt t (a.eval x)).run P w = .ok r w→(execOp a.eval o).run P w = .ok (.value r) w:=by
  intro r hr
  simp[execOp,cL,hr]
 simp only[opv] at hs
 split at hs
 ·rename_i cs ha
  simp only[ab,ac] at hs
  obtain⟨r,hr,rfl,rfl⟩:=hs
  rcases AQ hE hx hf ha with⟨_,_,_,_,h,_⟩|⟨h,_⟩
  ·simp at h
  ·obtain⟨r',h1,h2,h3⟩:=Kd (P:=P) hn h hr
   exact wD nm ho hf (plain _ h1) (SR.of_pure h2 h3) hk
 ·rename_i s g off ha
  rcases AQ hE hx hf ha with⟨_,_,_,b,h,hv,hb⟩|⟨_,h⟩
  ·simp only[PV.lptr.injEq] at h
   obtain⟨rfl,rfl,rfl⟩:=h
   split at hs
   ·rename_i g' cs jG
    split at hs
    ·rename_i gM
     subst gM
     split at hs
     ·rename_i es ec hcell
      simp only[aa,ac] at hs
      obtain⟨rfl,rfl⟩:=hs
      simp only[am,bF] at ec
      obtain⟨tt,nj,kF,kI,ib,cv,T,hh,hl,hc⟩:=Ha hf jG hb
      have cO:off<cv.size:=by have:=(aj.1 hcell).1; omega
      obtain⟨cR,_,dm⟩:=hc off cv[off] _ (by simp[cO]) hcell
      obtain⟨G',hG,fe⟩:=Room.give (key':=xJ (wv vs o.dst) j) dm
      have gM:G'.box=G.box∧G'.fix=G.fix∧G'.heap=G.heap:=by
       rcases hG with rfl|⟨b,_,rfl⟩<;>exact⟨rfl,rfl,rfl⟩
      have cJ:Ext w G w G':=by
       rcases hG with rfl|⟨b,hb,rfl⟩
       ·exact Ext.refl _ _
       ·exact G6 b _ (λ_=>by simp[hb])
      have cN:xa (λk=>k = .vcell s off) w G w G':=by
       rcases hG with rfl|⟨b,hb,rfl⟩
       ·exact⟨λb k h _=>⟨h,rfl,λ_ h=>h⟩,λ_ _ h=>h⟩
       ·exact G7 b _ (λk' dg=>by rw[hb] at dg; simpa using dg.symm)
      have db:FI N w G' { st with vars:=st.vars.set s (.loc g (cs.set off (.list false es))) } a vs (vS vs ops):=by
       refine⟨by simp[hf.len],?_,λi t' u' h1 h2=>(hf.loc i t' u' h1 h2).keep cJ cN (by simp) (by simp),hf.tv,hf.tl,(hf.defers.trans cJ.df.symm),by rw[gM.1]; exact hf.gen,?_,by rw[gM.2.1]; exact hf.fixlt,hf.heap.keep cJ cN (by rintro k hk rfl; simp[Key.isH] at hk),by rw[gM.2.2]; exact hf.hdom⟩
       ·intro i t' u' h1 h2
        simp only[aI] at h2
        split at h2
        ·rename_i hi
         subst hi
         split at h2
         ·simp at h2; subst h2
          have:t'=tt:=by rw[nj] at h1; simpa using h1.symm
          subst this
          obtain⟨eo,_,_⟩:=cN.1 _ _ kI (by simp)
          refine⟨b,s,rfl,kF,by rw[gM.1]; exact hb,eo,by rw[gM.2.1]; exact ib,cv,T,hh,by simp[hl],?_⟩
          intro k c y dD hy
          rw[aI] at hy
          split at hy
          ·rename_i ez
           subst ez
           split at hy
           ·simp at hy; subst hy
            have:c=cv[off]:=by simp[cO] at dD; exact dD.symm
            subst this
            refine⟨(cR.dem).ext cJ,rfl,trivial⟩
           ·simp at hy
          ·rename_i ez
           exact(hc k c y dD hy).keep cJ cN (by simp; omega)
         ·simp at h2
        ·rename_i hi
         exact(hf.var i t' u' h1 h2).keep cJ cN (by simp) (by simp; intro i' k il e; omega)
       ·intro b' k cX
        rcases hG with rfl|⟨b2,dB,rfl⟩
        ·exact hf.owlt _ _ cX
        ·simp only[GS.give] at cX
         split at cX
         ·subst_vars; exact hf.owlt _ _ dB
         ·exact hf.owlt _ _ cX
      unfold Oper.wp
      have cM:(Instr.loadAt t (a.eval x)).run P w = .ok cv[off] w:=by
       have dS:w.cell? ⟨b,off,none⟩=some cv[off]:=by simp[World.cell?,hh,cO]
       rw[hv]
       simp[Instr.loadAt,Instr.sureAddr,loadVar,C7 hn,ec.2,dS]
      rw[plain _ cM]
      exact hk _ _ G' (db.put nm (yI ho) ⟨cR.ext cJ,fe⟩) cJ (yJ _ _ _)
     ·simp only[ab,ac] at hs
      obtain⟨r,hr,rfl,rfl⟩:=hs
      obtain⟨r',h1,h2,h3⟩:=c0O (P:=P) hf hn hv hb jG hr
      exact wD nm ho hf (plain _ h1) (SR.of_pure h2 h3) hk
    ·simp at hs
   ·simp at hs
  ·simp[cp] at h
 ·simp at hs
theorem b7g (hE:EnvOk E N) (nm:Names vs (vS vs ops)) (ho:ops[j]? = some o) (hf:FI N w G st a vs (vS vs ops)) {t:TypeId} {n:Nat} {x y:Operand} {px py:PX} (cL:o.op = .store t x y) (dU:o.dst=none) (hn:wx P t=some n)
  (hx:cx E vs ops x=some px) (hy:cx E vs ops y=some py) {cf:vZ} (hs:opv cf (.store n (wQ P t) px py) st=some (u,st1)) (hk:wn N w G a st1 u vs ops j o next):o.wp P a w next Q:=by
 simp only[opv] at hs
 split at hs
 ·rename_i s g off v st' ha ec
  rcases AQ hE hx hf ha with⟨_,_,_,b,h,hv,hb⟩|⟨_,h⟩
  ·simp only[PV.lptr.injEq] at h
   obtain⟨rfl,rfl,rfl⟩:=h
   obtain⟨G1,db,dP,ii,eD,dC,cR,ff,_,_,_⟩:=DV hE hy hf ec (.vcell s off)
   split at hs
   ·rename_i g' cs jG
    split at hs
    ·rename_i gM
     subst gM
     simp only[ab,ac] at hs
     obtain⟨cs',dx,rfl,rfl⟩:=hs
     obtain⟨tt,nj,kF,kI,ib,cv,T,hh,hl,hc⟩:=Ha db jG (by rw[ii]; exact hb)
     have eF:n≠0:=by obtain⟨_,_,_,_,h,_⟩:=yt hn; exact h
     have key:∃nc:List Value,(a.eval y).cells.toList=nc∧nc.length=n∧off+n≤cv.size∧(∀c∈nc,c.oneCell'=true)∧cs'.length=cs.length ∧
       ∀ (k : Nat) (c : Value) (z : PV), (cv.toList.take off ++ nc ++ cv.toList.drop (off + n))[k]? = some c → cs'[k]? = some z →
         (cv[k]? = some c∧cs[k]? = some z)∨(VR N w G.fix G.heap c z∧z.flat=true∧∀es,z = .list true es→(k=off∧Room w G1 (.vcell s off) c es)∨c = .slice none 0 0):=by
      unfold wz at dx
      split at dx
      ·rename_i gk
       split at dx
       ·rename_i ws
        split at dx
        ·rename_i cP
         simp only[aa] at dx; subst dx
         obtain⟨ca,kN,hR⟩:=CellsR.of_agg cR
         have hO:OwnNil ca.toList ws:=OwnNil.of_agg (kN▸cR)
         have dS:(a.eval y).cells.toList=ca.toList:=by rw[kN]; rfl
         have cK:ca.toList.length=n:=by have:=hR.1; omega
         refine⟨ca.toList,dS,cK,by omega,?_,by simp; omega,?_⟩
         ·intro c gm
          obtain⟨i,hi⟩:=bb.1 gm
          have cO:i<ws.length:=by have:=(aj.1 hi).1; have:=hR.1; omega
          have h1:=hR.2.2 i c ws[i] hi (aq cO)
          have h2:=h1.oneCell (hR.2.1 _ (ai cO))
          cases c<;>first|rfl|simp[oneCell] at h2
         ·intro k c z dD hz
          rw[aJ] at dD
          have fA:(cv.toList.take off).length=off:=by simp; omega
          have kj:(cs.take off).length=off:=by simp; omega
          by_cases h1:k<off
          ·rw[al (by omega),aP,ah h1] at dD
           rw[al (by omega),aP,ah h1] at hz
           exact .inl ⟨by simpa using dD,hz⟩
          ·rw[ap (by omega),fA] at dD
           rw[ap (by omega),kj] at hz
           by_cases h2:k<off+n
           ·rw[al (by omega)] at dD
            rw[al (by omega)] at hz
            refine .inr ⟨hR.2.2 _ c z dD hz,hR.2.1 z (av hz),?_⟩
            rintro es rfl
            exact .inr (hO _ c es dD hz)
           ·rw[ap (by omega),aT,cK] at dD
            rw[ap (by omega),aT,cP.1] at hz
            rw[show off+n+(k - off - n)=k by omega] at dD hz
            exact .inl ⟨by simpa using dD,hz⟩
        ·simp at dx
       ·simp at dx
      ·rename_i gk
       have nh:=Bj hn (by simpa using gk)
       subst nh
       split at dx
       ·rename_i cP
        simp only[aa] at dx; subst dx
        have h1:=cR.oneCell cP.2
        have dS:(a.eval y).cells.toList=[a.eval y]:=by
         generalize a.eval y=q at h1
         cases q<;>first|rfl|simp[oneCell] at h1
        refine⟨[a.eval y],dS,rfl,by omega,?_,by simp,?_⟩
        ·intro c gm
         simp at gm; subst gm
         generalize a.eval y=q at h1
         cases q<;>first|rfl|simp[oneCell] at h1
        ·intro k c z dD hz
         rw[aJ] at dD
         have fA:(cv.toList.take off).length=off:=by simp; omega
         rw[aI] at hz
         split at hz
         ·rename_i o5
          subst o5
          split at hz
          ·simp at hz; subst hz
           rw[ap (by omega),fA] at dD
           simp at dD; subst dD
           refine .inr ⟨cR,cP.2,?_⟩
           rintro es rfl
           exact .inl ⟨rfl,ff⟩
          ·simp at hz
         ·rename_i o5
          refine .inl ⟨?_,hz⟩
          by_cases h1:k<off
          ·rw[al (by omega),aP,ah h1] at dD
           simpa using dD
          ·rw[ap (by omega),fA,ap (by simp; omega),aT] at dD
           simp only[List.length_singleton] at dD
           rw[show off+1+(k - off - 1)=k by omega] at dD
           simpa using dD
       ·simp at dx
     obtain⟨nc,fJ,cK,gy,mJ,sa,dh⟩:=key
     have cM:(execOp a.eval o).run P w = .ok .skip (w.setRow b (cv.toList.take off++nc++cv.toList.drop (off+n)).toArray):=by
      have dx:=run_storeCells_at P b off T nc 0 cv w hh (by simp; omega) mJ
      simp only[bo,cK] at dx
      have cQ:(a.eval y).cells.size=n:=by rw[← cK,← fJ]; simp
      simp[execOp,cL,Instr.storeAt,hv,Instr.sureAddr,storeVar,yY hn,cQ,fJ,dx]
     unfold Oper.wp
     rw[cM]
     have eX:b<w.heap.size:=db.owlt _ _ kI
     have cU:∀x,x≠b→(w.setRow b (cv.toList.take off++nc++cv.toList.drop (off+n)).toArray).heap[x]? = w.heap[x]? := λx hx=>setRow_other w b x _ hx
     have dF:Ext w G1 (w.setRow b (cv.toList.take off++nc++cv.toList.drop (off+n)).toArray) G1:=by
      refine⟨rfl,rfl,rfl,by simp[World.setRow],?_,?_,λ_ _ h => .inl h,λ_ h => .inr h,λ_ _ h=>h,Fh hh _ ?_,rfl⟩
      rotate_left 2
      ·simp; omega
      ·intro x _ iV
       exact cU x (by rintro rfl; rw[kI] at iV; simp at iV)
      ·intro x o' fl
       refine⟨fl,?_⟩
       have gc:x≠b:=by rintro rfl; exact ib _ fl
       simp only[World.cell?,cU x gc]
     have du:xa (λk=>k = .var s) w G1 (w.setRow b (cv.toList.take off++nc++cv.toList.drop (off+n)).toArray) G1:=by
      refine⟨?_,λ_ _ h=>h⟩
      intro x k gz gp
      refine⟨gz,cU x ?_,λ_ h=>h⟩
      rintro rfl
      rw[kI] at gz
      simp at gz
      exact gp gz.symm
     have jw:FI N (w.setRow b (cv.toList.take off++nc++cv.toList.drop (off+n)).toArray) G1 { st' with vars:=st'.vars.set s (.loc g cs') } a vs (vS vs ops):=by
      refine⟨by simp[db.len],?_,λi t' u' h1 h2=>(db.loc i t' u' h1 h2).keep dF du (by simp) (by simp),db.tv,db.tl,db.defers,db.gen,?_,?_,db.heap.keep dF du (by rintro k hk rfl; simp[Key.isH] at hk),db.hdom⟩
      ·intro i t' u' h1 h2
       simp only[aI] at h2
       split at h2
       ·rename_i hi
        subst hi
        split at h2
        ·simp at h2; subst h2
         have:t'=tt:=by rw[nj] at h1; simpa using h1.symm
         subst this
         refine⟨b,s,rfl,kF,by rw[ii]; exact hb,kI,ib,_,T,setRow_heap w b cv _ T (0,0) hh,?_,?_⟩
         ·simp; omega
         ·intro k c z dD hz
          rcases dh k c z (by simpa using dD) hz with⟨k1,k2⟩|⟨k1,k2,k3⟩
          ·exact(hc k c z k1 k2).keep dF du (by simp)
          ·refine⟨(eD▸dC▸k1:VR N w G1.fix G1.heap c z).ext dF,k2,?_⟩
           split
           ·rename_i es
            rcases k3 es rfl with⟨e1,e2⟩|e
            ·subst e1
             exact e2.keep du (by simp)
            ·subst e; trivial
           ·trivial
        ·simp at h2
       ·rename_i hi
        exact(db.var i t' u' h1 h2).keep dF du (by simp; omega) (by simp)
      ·intro x k hx; simpa[World.setRow] using db.owlt x k hx
      ·intro x o' hx; simpa[World.setRow] using db.fixlt x o' hx
     have fL:a.put o.dst undef=a:=by simp[dU,Act.put]
     have hd:wv vs o.dst = .n:=by simp[dU,wv]
     show next (a.put o.dst undef) _
     rw[fL]
     refine hk _ _ G1 ?_ (dP.trans dF) rfl
     rw[hd]
     exact jw
    ·simp at hs
   ·simp at hs
  ·simp[cp] at h
 ·simp at hs
end
end PI
