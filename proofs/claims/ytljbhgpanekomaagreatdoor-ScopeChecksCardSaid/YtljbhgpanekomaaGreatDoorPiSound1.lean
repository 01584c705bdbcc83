import Derived.Test.YtljbhgpanekomaaGreatDoorPiRel
import Derived.Test.YtljbhgpanekomaaGreatDoorPiComp
import Derived.Deep.AppendSrc
import Derived.Laws.CopyRow
import Derived.Laws.Build
import Derived.Laws.Tables
import Derived.ProofKit
import Derived.Laws.StructEq
set_option linter.unusedSectionVars false
namespace PI
open Go
structure FI (N:Nm) (w:World) (G:GS) (st:St) (a:Act) (vs:List Tmp) (lm:Nat→Option Tmp):Prop where
 len:st.vars.length=vs.length
 var:∀(i:Nat) (t:Tmp) (u:PV),vs[i]? = some t→st.vars[i]? = some u→SR N w G (.var i) (a.eval (.tmp t)) u
 loc:∀(j:Nat) (t:Tmp) (u:PV),lm j=some t→st.locs[j]? = some u→SR N w G (.loc j) (a.eval (.tmp t)) u
 tv:∀(i:Nat) (t:Tmp),vs[i]? = some t→t<a.tmps.size
 tl:∀(j:Nat) (t:Tmp),lm j=some t→t<a.tmps.size
 defers:a.defers=G.df
 gen:∀g b,G.box g=some b→g<st.gen
 owlt:∀b k,G.ow b=some k→b<w.heap.size
 fixlt:∀b o,G.fix b o→b<w.heap.size
 heap:HR N w G st.heap
 hdom:∀n b,G.heap n=some b→n<st.heap.length
structure Names (vs:List Tmp) (lm:Nat→Option Tmp):Prop where
 vnd:∀(i i':Nat) (t:Tmp),vs[i]? = some t→vs[i']? = some t→i=i'
 sep:∀(j:Nat) (t:Tmp) (i:Nat),lm j=some t→vs[i]?≠some t
 lnd:∀(j j':Nat) (t:Tmp),lm j=some t→lm j'=some t→j=j'
def wq (vs:List Tmp) (ops:List Oper) (j:Nat):Option Tmp:=
 match ops[j]? with
 | some o => match o.dst with
   | some t=>if (yt t vs 0).isSome then none else some t
   | none=>none
 | none=>none
structure EnvOk (E:Env) (N:Nm):Prop where
 fn:∀f k,E.inv f=some k→N.fn k=f
 yl:∀f k,E.inv f=some k→N.yl k=none
 pt:∀T i,yt T E.pt 0=some i→N.ty (i+1)=T
 bt:∀t,E.bT=some t→N.bT=t∧∃i,E.P.info? t=some i∧i.zero=some (.agg #[.pointer none,.slice none 0 0])
theorem Gg {w:World} {b:Nat} {cv:Array Value} {T:TypeId} {fz:Nat×Nat} (hh:w.heap[b]? = some (.cells cv T fz)) (NR:Array Value) (hs:NR.size=cv.size):ShapeLe w (w.setRow b NR):=
 .one b (λk _ hk=>setRow_other w b k _ hk) (λs hx=>by
  simp only[World.shape?,hh] at hx
  simp only[World.shape?,setRow_heap w b cv NR T fz hh,hs]
  exact hx) (λs hx=>by rw[M8 hh] at hx; simp at hx)
theorem Qv {N:Nm} {w:World} {fix:Nat→Nat→Prop} {hp:Nat→Option Nat} {v:Value} {p:PV} (h:DZ v=some p):
  VR N w fix hp v p∧p.flat=true:=by
 unfold DZ at h
 split at h<;>simp at h<;>subst h<;>refine⟨?_,rfl⟩<;>constructor
theorem LF {N:Nm} {w:World} {fix:Nat→Nat→Prop} {hp:Nat→Option Nat}:∀{vs:List Value} {ps:List PV},CV vs=some ps →
  vs.length=ps.length∧(∀p∈ps,p.flat=true)∧∀(i:Nat) (v:Value) (p:PV),vs[i]? = some v→ps[i]? = some p→VR N w fix hp v p
 | [],ps,h=>by simp[CV] at h; subst h; simp
 | v :: vs, ps, h => by
   simp only[CV,ai,ab] at h
   obtain⟨p,kC,qs,hq,rfl⟩:=h
   obtain⟨h1,h2,h3⟩:=LF (N:=N) (w:=w) (fix:=fix) (hp:=hp) hq
   have hv:=Qv (N:=N) (w:=w) (fix:=fix) (hp:=hp) kC
   refine⟨by simp[h1],by simpa using⟨hv.2,h2⟩,?_⟩
   intro i x y hx hy
   cases i with
   | zero=>simp at hx hy; subst hx hy; exact hv.1
   | succ i=>exact h3 i x y (by simpa using hx) (by simpa using hy)
theorem EH:∀{vs:List Value} {ps:List PV},CV vs=some ps→∀(i:Nat) (v:Value) (es:List PV),vs[i]? = some v→ps[i]? = some (.list true es)→v = .slice none 0 0
 | [],ps,h,i,v,es,h1,_=>by simp at h1
 | x :: xs, ps, h, i, v, es, h1, h2 => by
   simp only[CV,ai,ab] at h
   obtain⟨p,kC,qs,hq,rfl⟩:=h
   cases i with
   | zero =>
     simp at h1 h2; subst h1 h2
     unfold DZ at kC
     split at kC<;>simp at kC
     rfl
   | succ i=>exact EH hq i v es (by simpa using h1) (by simpa using h2)
theorem Qw {N:Nm} {w:World} {fix:Nat→Nat→Prop} {hp:Nat→Option Nat} {v:Value} {p:PV} (h:D0 v=some p):
  VR N w fix hp v p:=by
 unfold D0 at h
 split at h
 ·rename_i cs
  simp only[ab] at h
  obtain⟨ps,h1,rfl⟩:=h
  obtain⟨a,b,c⟩:=LF (N:=N) (w:=w) (fix:=fix) (hp:=hp) h1
  exact .agg cs ps (by simpa using a) b (λi x es hx hy=>EH h1 i x es (by simpa using hx) hy) (λi x y hx hy=>c i x y (by simpa using hx) hy)
 ·exact(Qv h).1
theorem LG {v:Value} {p:PV} (h:D0 v=some p):(∃es,p = .list true es∧v = .slice none 0 0)∨cp p=some p:=by
 unfold D0 at h
 split at h
 ·simp only[ab] at h
  obtain⟨ps,_,rfl⟩:=h
  exact .inr rfl
 ·unfold DZ at h
  split at h<;>simp at h<;>subst h<;>first|exact .inr rfl|exact .inl ⟨_,rfl,rfl⟩
theorem CB {t:Tmp}:∀{vs:List Tmp} {n i:Nat},yt t vs n=some i→n≤i∧vs[i - n]? = some t
 | [],n,i,h=>by simp[yt] at h
 | x :: xs, n, i, h => by
   simp only[yt] at h
   split at h
   ·simp at h; subst h; subst_vars; simp
   ·obtain⟨h1,h2⟩:=CB h
    refine⟨by omega,?_⟩
    rw[show i - n=(i - (n+1))+1 by omega]
    simpa using h2
theorem Qx {t:Tmp}:∀{ops:List Oper} {n j:Nat},E1 t ops n=some j→n≤j∧∃o,ops[j - n]? = some o∧o.dst=some t
 | [],n,j,h=>by simp[E1] at h
 | o :: os, n, j, h => by
   simp only[E1] at h
   split at h
   ·simp at h; subst h; exact⟨aq _,o,by simp,by assumption⟩
   ·obtain⟨h1,o',h2,h3⟩:=Qx h
    refine⟨by omega,o',?_,h3⟩
    rw[show j - n=(j - (n+1))+1 by omega]
    simpa using h2
def zJ:PX→Key
 | .v i => .var i
 | .l j => .loc j
 | .c _ => .loc 0
section
variable {E:Env} {N:Nm} {w:World} {G:GS} {st:St} {a:Act} {vs:List Tmp} {ops:List Oper}
theorem SR.of_pure {key:Key} {v:Value} {u:PV} (h:VR N w G.fix G.heap v u) (hu:cp u=some u):SR N w G key v u:=by
 unfold SR
 split<;>first|trivial|(simp[cp] at hu; done)|exact h
theorem SR.read {key:Key} {v:Value} {u r:PV} (h:SR N w G key v u) (hr:cp u=some r):VR N w G.fix G.heap v r∧cp r=some r:=by
 unfold SR at h
 split at h
 ·simp[cp] at hr
 ·simp[cp] at hr
 ·simp[cp] at hr
 ·simp[cp] at hr; subst hr; exact⟨h.1.dem,rfl⟩
 ·have:r=dem u∧cp r=some r:=by
   unfold cp at hr
   split at hr<;>simp at hr<;>subst hr<;>(try exact⟨rfl,rfl⟩)
   refine⟨?_,?_⟩
   ·unfold dem; split
    ·rename_i hx; exact absurd rfl (hx _ _)
    ·rfl
   ·unfold cp; split<;>first|rfl|simp_all
  rw[this.1]
  exact⟨h.dem,this.1▸this.2⟩
theorem BZ (hE:EnvOk E N) {x:Operand} {px:PX} {u:PV} (hc:cx E vs ops x=some px) (hf:FI N w G st a vs (wq vs ops)) (hr:raw st px=some u):
  SR N w G (zJ px) (a.eval x) u:=by
 cases x with
 | tmp t =>
   simp only[cx] at hc
   split at hc
   ·rename_i i hi
    simp at hc; subst hc
    obtain⟨_,h2⟩:=CB hi
    exact hf.var i t u (by simpa using h2) hr
   ·rename_i hn
    simp only[ab] at hc
    obtain⟨j,hj,rfl⟩:=hc
    obtain⟨_,o,h2,h3⟩:=Qx hj
    refine hf.loc j t u ?_ hr
    simp only[Nat.sub_zero] at h2
    simp[wq,h2,h3,hn]
 | const v =>
   simp only[cx] at hc
   split at hc
   ·rename_i iP
    simp only[aa] at hc
    subst hc
    simp only[raw,aa] at hr
    subst hr
    have kq:v = .slice none 0 0:=by
     simp only[al] at iP
     have:=iP.2
     unfold Mg at this
     split at this
     ·rfl
     ·simp at this
    subst kq
    exact SR.of_pure .nils' rfl
   simp only[ab] at hc
   obtain⟨p,hp,rfl⟩:=hc
   simp only[raw,aa] at hr
   subst hr
   have hv:=Qw (N:=N) (w:=w) (fix:=G.fix) (hp:=G.heap) hp
   rcases LG hp with⟨es,rfl,rfl⟩|h
   ·exact⟨hv,trivial⟩
   ·exact SR.of_pure hv h
 | global g=>simp[cx] at hc
 | func f =>
   simp only[cx,ab] at hc
   obtain⟨k,hk,rfl⟩:=hc
   simp only[raw,aa] at hr
   subst hr
   refine SR.of_pure ?_ rfl
   have jx:=hE.yl _ _ hk
   have:=hE.fn _ _ hk
   subst this
   exact .func k #[] #[] [] [] jx rfl rfl (by simp) (by simp)
theorem wW (hE:EnvOk E N) {x:Operand} {px:PX} {u:PV} (hc:cx E vs ops x=some px) (hf:FI N w G st a vs (wq vs ops)) (hr:rd st px=some u):
  VR N w G.fix G.heap (a.eval x) u∧cp u=some u:=by
 simp only[rd,ai] at hr
 obtain⟨r,h1,h2⟩:=hr
 exact(BZ hE hc hf h1).read h2
theorem B0 (hE:EnvOk E N) {x:Operand} {px:PX} {n:Int} (hc:cx E vs ops x=some px) (hf:FI N w G st a vs (wq vs ops)) (hr:rdInt st px=some n):
  ∃k,a.eval x = .int k n:=by
 unfold rdInt at hr
 split at hr
 ·rename_i k m hm
  simp at hr; subst hr
  have:=(wW hE hc hf hm).1
  generalize a.eval x=y at this
  cases this
  exact⟨_,rfl⟩
 ·simp at hr
theorem Bf (hE:EnvOk E N) (hf:FI N w G st a vs (wq vs ops)):∀{xs:List Operand} {pxs:List PX} {us:List PV},cxs E vs ops xs=some pxs→rdAll st pxs=some us →
  xs.length=us.length∧∀(i:Nat) (x:Operand) (u:PV),xs[i]? = some x→us[i]? = some u→VR N w G.fix G.heap (a.eval x) u∧cp u=some u
 | [], pxs, us, hc, hr => by
   simp[cxs] at hc; subst hc
   simp[rdAll] at hr; subst hr; simp
 | x :: xs, pxs, us, hc, hr => by
   simp only[cxs,ai,ab] at hc
   obtain⟨p,hp,ps,d9,rfl⟩:=hc
   simp only[rdAll,ai,ab] at hr
   obtain⟨u,hu,us',eT,rfl⟩:=hr
   obtain⟨h1,h2⟩:=Bf hE hf d9 eT
   refine⟨by simp[h1],?_⟩
   intro i y v hy hv
   cases i with
   | zero=>simp at hy hv; subst hy hv; exact wW hE hp hf hu
   | succ i=>exact h2 i y v (by simpa using hy) (by simpa using hv)
theorem Bx (hE:EnvOk E N) {x:Operand} {px:PX} {u:PV} (hc:cx E vs ops x=some px) (hf:FI N w G st a vs (wq vs ops)) (hr:addr st px=some u):
  (∃s g off b,u = .lptr s g off∧a.eval x = .pointer (some ⟨b,off,none⟩)∧G.box g=some b)∨(VR N w G.fix G.heap (a.eval x) u∧cp u=some u):=by
 unfold addr at hr
 split at hr
 ·rename_i i g cs fB
  simp at hr; subst hr
  have:=BZ hE hc hf fB
  simp only[SR,zJ] at this
  obtain⟨b,i',hk,hv,hb,_⟩:=this
  exact .inl ⟨i,g,0,b,rfl,hv,hb⟩
 ·rename_i s g off fB
  simp at hr; subst hr
  have:=BZ hE hc hf fB
  simp only[SR] at this
  obtain⟨b,hv,hb⟩:=this
  exact .inl ⟨s,g,off,b,rfl,hv,hb⟩
 ·rename_i v _ _ fB
  exact .inr ((BZ hE hc hf fB).read hr)
 ·simp at hr
end
def yA (d:PD) (j:Nat):Key:=
 match d with
 | .v i => .var i
 | _ => .loc j
def If (vs:List Tmp) (lm:Nat→Option Tmp) (j:Nat) (d:PD) (dst:Option Tmp):Prop:=
 match d with
 | .v i=>∃t,dst=some t∧vs[i]? = some t
 | .l=>∃t,dst=some t∧lm j=some t
 | .n=>dst=none
theorem Db (a:Act) (d t:Tmp) (v:Value) (hd:d<a.tmps.size):(a.put (some d) v).eval (.tmp t)=if t=d then v else a.eval (.tmp t):=by
 simp only[Act.put,Act.eval,aM,aY]
 by_cases h:t=d
 ·subst h; simp[hd]
 ·simp[h,Ne.symm h]
theorem FI.put {N:Nm} {w:World} {G:GS} {st:St} {a:Act} {vs:List Tmp} {lm:Nat→Option Tmp} {j:Nat} {d:PD} {dst:Option Tmp} {v:Value} {u:PV}
  (h:FI N w G st a vs lm) (nm:Names vs lm) (hd:If vs lm j d dst) (hs:SR N w G (yA d j) v u):FI N w G (put st j d u) (a.put dst v) vs lm:=by
 cases d with
 | n =>
   simp only[If] at hd; subst hd
   exact h
 | v i =>
   obtain⟨t,rfl,ht⟩:=hd
   have cQ:=h.tv i t ht
   refine⟨by simp[PI.put,h.len],?_,?_,?_,?_,h.defers,h.gen,h.owlt,h.fixlt,h.heap,h.hdom⟩
   ·intro i' t' u' h1 h2
    rw[Db _ _ _ _ cQ]
    simp only[PI.put,aJ] at h2
    by_cases hi:i=i'
    ·subst hi
     have:t'=t:=by rw[ht] at h1; simpa using h1.symm
     subst this
     split at h2
     ·split at h2
      ·simp at h2; subst h2; simp only[if_true]; exact hs
      ·simp at h2
     ·exact absurd rfl ‹_›
    ·rw[af hi] at h2
     have c9:t'≠t:=λe=>hi (nm.vnd i i' t ht (e▸h1))
     rw[af c9]
     exact h.var i' t' u' h1 h2
   ·intro j' t' u' h1 h2
    rw[Db _ _ _ _ cQ,af (λe:t'=t=>nm.sep j' t' i h1 (e▸ht))]
    exact h.loc j' t' u' h1 h2
   ·intro i' t' h1; simpa[Act.put] using h.tv i' t' h1
   ·intro j' t' h1; simpa[Act.put] using h.tl j' t' h1
 | l =>
   obtain⟨t,rfl,ht⟩:=hd
   have cQ:=h.tl j t ht
   refine⟨h.len,?_,?_,?_,?_,h.defers,h.gen,h.owlt,h.fixlt,h.heap,h.hdom⟩
   ·intro i' t' u' h1 h2
    rw[Db _ _ _ _ cQ,af (λe:t'=t=>nm.sep j t i' ht (e▸h1))]
    exact h.var i' t' u' h1 h2
   ·intro j' t' u' h1 h2
    rw[Db _ _ _ _ cQ]
    simp only[PI.put,aJ] at h2
    by_cases hj:j=j'
    ·subst hj
     have:t'=t:=by rw[ht] at h1; simpa using h1.symm
     subst this
     split at h2
     ·split at h2
      ·simp at h2; subst h2; simp only[if_true]; exact hs
      ·simp at h2
     ·exact absurd rfl ‹_›
    ·rw[af hj] at h2
     have c9:t'≠t:=λe=>hj (nm.lnd j j' t ht (e▸h1))
     rw[af c9]
     exact h.loc j' t' u' h1 h2
   ·intro i' t' h1; simpa[Act.put] using h.tv i' t' h1
   ·intro j' t' h1; simpa[Act.put] using h.tl j' t' h1
theorem FI.ext {N:Nm} {w w':World} {G G':GS} {st:St} {a:Act} {vs:List Tmp} {lm:Nat→Option Tmp} (h:FI N w G st a vs lm) (e:Ext w G w' G')
  (hk:xO (λ_=>False) w G w' G') (hg:∀g b,G'.box g=some b→g<st.gen) (ho:∀b k,G'.ow b=some k→b<w'.heap.size) (hx:∀b o,G'.fix b o→b<w'.heap.size) (hh:G'.heap=G.heap:=by rfl):
  FI N w' G' st a vs lm:=
 ⟨h.len,λi t u h1 h2=>(h.var i t u h1 h2).keep e hk (λh=>h) (λ_ _ _ h=>h),λj t u h1 h2=>(h.loc j t u h1 h2).keep e hk (λh=>h) (λ_ _ _ h=>h),h.tv,h.tl,(h.defers.trans e.df.symm),hg,ho,hx,h.heap.keep e hk (λ_ _ h=>h),by rw[hh]; exact h.hdom⟩
theorem zK {vs:List Tmp} {ops:List Oper} {j:Nat} {o:Oper} (ho:ops[j]? = some o):If vs (wq vs ops) j (wS vs o.dst) o.dst:=by
 unfold wS
 split
 ·rename_i h; exact h
 ·rename_i t h
  cases hi:yt t vs 0 with
  | some i =>
    obtain⟨_,h2⟩:=CB hi
    exact⟨t,h,by simpa using h2⟩
  | none=>exact⟨t,h,by simp[wq,ho,h,hi]⟩
theorem zL (a:Act) (d:Option Tmp) (v:Value):(a.put d v).tmps.size=a.tmps.size:=by
 cases d<;>simp[Act.put]
theorem wZ {P:Program} {N:Nm} {w:World} {G:GS} {st:St} {a:Act} {vs:List Tmp} {ops:List Oper} {j:Nat} {o:Oper} {v:Value} {u:PV} {next:Act→World→Prop}
  {Q:Exit→Act→World→Prop} (nm:Names vs (wq vs ops)) (ho:ops[j]? = some o) (hf:FI N w G st a vs (wq vs ops)) (cL:(execOp a.eval o).run P w = .ok (.value v) w)
  (hs:SR N w G (yA (wS vs o.dst) j) v u) (hk:∀a' w' G',FI N w' G' (put st j (wS vs o.dst) u) a' vs (wq vs ops)→Ext w G w' G'→a'.tmps.size=a.tmps.size→next a' w'):o.wp P a w next Q:=by
 unfold Oper.wp
 rw[cL]
 exact hk _ _ _ (hf.put nm (zK ho) hs) (Ext.refl _ _) (zL _ _ _)
theorem LH (s:ByteArray):s.toList=s.data.toList:=ByteArray.toList_eq s
section
variable {E:Env} {N:Nm} {w:World} {G:GS} {st:St} {a:Act} {vs:List Tmp} {ops:List Oper} {P:Program}
theorem B4 {t:TypeId} {n:Nat} (h:wT P t=some n):xu P t=false→n=1:=by
 intro ha
 unfold wT at h
 split at h
 ·split at h
  ·simp at h
  ·rename_i hn
   simp only[not_or,not_and,Decidable.not_not] at hn
   simp at h; subst h
   exact hn.2.2 ha
 ·simp at h
theorem zu {t:TypeId} {n:Nat} (h:wT P t=some n):∃i d,P.info? t=some i∧i.size=n∧n≠0∧P.underlying t=some d:=by
 unfold wT at h
 split at h
 ·rename_i i hi
  split at h
  ·simp at h
  ·rename_i hn
   simp at h; subst h
   simp only[not_or] at hn
   obtain⟨io,lL,_⟩:=hn
   cases hu:P.underlying t with
   | none=>simp[hu] at lL
   | some d=>exact⟨i,d,hi,rfl,io,rfl⟩
 ·simp at h
theorem z8 {t:TypeId} {n:Nat} (h:wT P t=some n) (w:World):(Go.sizeOf t).run P w = .ok n w:=by
 obtain⟨i,d,hi,rfl,_,_⟩:=zu h
 simp[Go.sizeOf,typeInfo,hi]
theorem DS {t:TypeId} {n:Nat} (h:wT P t=some n) (w:World):(isAgg t).run P w = .ok (xu P t) w:=by
 obtain⟨i,d,_,_,_,hd⟩:=zu h
 simp only[isAgg,Sem.run_bind,run_underlying hd,Result.andThen_ok,xu,hd]
 cases d<;>rfl
theorem Ai (b off n:Nat):(⟨b,off,none⟩:Addr).add n=⟨b,off+n,none⟩:=Addr.add_lit b off n
theorem E5 {t:TypeId} {n:Nat} (h:wT P t=some n) (b off:Nat) (cs:List Value) (hl:n≤cs.length)
  (hc:∀j v,cs[j]? = some v→w.cell? ⟨b,off+j,none⟩=some v):
  (loadVar t ⟨b,off,none⟩).run P w = .ok (if xu P t then .agg (cs.take n).toArray else cs.headD undef) w:=by
 obtain⟨i,d,hi,hn,eP,hd⟩:=zu h
 have vR:(cs.take n).length=n:=by simp[hl]
 have mj:=run_loadCells_list (P:=P) w ⟨b,off,none⟩ (cs.take n) (λj v hv=>by
  rw[Ai]
  refine hc j v ?_
  rw[aQ] at hv
  split at hv
  ·exact hv
  ·cases hv)
 rw[vR] at mj
 unfold loadVar
 simp only[Sem.run_bind,DS h,Result.andThen_ok,Sem.run_ite]
 by_cases ha:xu P t=true
 ·simp[ha,z8 h,mj]
 ·simp only[cn] at ha
  cases cs with
  | nil=>simp at hl; omega
  | cons c cs =>
    have:=hc 0 c rfl
    simp only[br] at this
    simp[ha,this]
def CellsR (N:Nm) (w:World) (fix:Nat→Nat→Prop) (hp:Nat→Option Nat) (cs:List Value) (ps:List PV):Prop:=
 cs.length=ps.length∧(∀x∈ps,x.flat=true)∧∀(i:Nat) (c:Value) (x:PV),cs[i]? = some c→ps[i]? = some x→VR N w fix hp c x
theorem CellsR.dem {fix:Nat→Nat→Prop} {hp:Nat→Option Nat} {cs:List Value} {ps:List PV} (h:CellsR N w fix hp cs ps):CellsR N w fix hp cs (ps.map dem):=by
 refine⟨by simpa using h.1,?_,?_⟩
 ·intro x hx
  obtain⟨y,hy,rfl⟩:=a8.1 hx
  rw[Di]; exact h.2.1 y hy
 ·intro i c x hc hx
  simp only[aB,ab] at hx
  obtain⟨y,hy,rfl⟩:=hx
  exact(h.2.2 i c y hc hy).dem
theorem CellsR.take {fix:Nat→Nat→Prop} {hp:Nat→Option Nat} {cs:List Value} {ps:List PV} (h:CellsR N w fix hp cs ps) (n:Nat):CellsR N w fix hp (cs.take n) (ps.take n):=by
 refine⟨by simp[h.1],λx hx=>h.2.1 x (List.mem_of_mem_take hx),?_⟩
 intro i c x hc hx
 rw[aQ] at hc hx
 split at hc
 ·rename_i hi; rw[ah hi] at hx; exact h.2.2 i c x hc hx
 ·cases hc
theorem CellsR.drop {fix:Nat→Nat→Prop} {hp:Nat→Option Nat} {cs:List Value} {ps:List PV} (h:CellsR N w fix hp cs ps) (n:Nat):CellsR N w fix hp (cs.drop n) (ps.drop n):=by
 refine⟨by simp[h.1],λx hx=>h.2.1 x (ct hx),?_⟩
 intro i c x hc hx
 rw[aU] at hc hx
 exact h.2.2 _ c x hc hx
theorem CellsR.append {fix:Nat→Nat→Prop} {hp:Nat→Option Nat} {cs ds:List Value} {ps qs:List PV} (h:CellsR N w fix hp cs ps) (k:CellsR N w fix hp ds qs):
  CellsR N w fix hp (cs++ds) (ps++qs):=by
 refine⟨by simp[h.1,k.1],?_,?_⟩
 ·intro x hx
  rcases ax.1 hx with hx|hx
  ·exact h.2.1 x hx
  ·exact k.2.1 x hx
 ·intro i c x hc hx
  by_cases hi:i<cs.length
  ·rw[am hi] at hc
   rw[am (h.1▸hi)] at hx
   exact h.2.2 i c x hc hx
  ·rw[ap (by omega)] at hc
   rw[ap (by have:=h.1; omega),← h.1] at hx
   exact k.2.2 _ c x hc hx
def OwnNil (cs:List Value) (ps:List PV):Prop:=∀(i:Nat) (c:Value) (es:List PV),cs[i]? = some c→ps[i]? = some (.list true es)→c = .slice none 0 0
theorem OwnNil.dem (cs:List Value) (ps:List PV):OwnNil cs (ps.map PI.dem):=by
 intro i c es _ h
 simp only[aB,ab] at h
 obtain⟨q,_,hq⟩:=h
 cases q<;>simp[PI.dem] at hq
theorem OwnNil.take {cs:List Value} {ps:List PV} (h:OwnNil cs ps) (n:Nat):OwnNil (cs.take n) (ps.take n):=by
 intro i c es hc hx
 rw[aQ] at hc hx
 split at hc
 ·rename_i hi; rw[ah hi] at hx; exact h i c es hc hx
 ·cases hc
theorem OwnNil.drop {cs:List Value} {ps:List PV} (h:OwnNil cs ps) (n:Nat):OwnNil (cs.drop n) (ps.drop n):=by
 intro i c es hc hx
 rw[aU] at hc hx
 exact h _ c es hc hx
theorem OwnNil.append {cs ds:List Value} {ps qs:List PV} (hl:cs.length=ps.length) (h:OwnNil cs ps) (k:OwnNil ds qs):OwnNil (cs++ds) (ps++qs):=by
 intro i c es hc hx
 by_cases hi:i<cs.length
 ·rw[am hi] at hc
  rw[am (hl▸hi)] at hx
  exact h i c es hc hx
 ·rw[ap (by omega)] at hc
  rw[ap (by omega),← hl] at hx
  exact k _ c es hc hx
theorem CellsR.agg {fix:Nat→Nat→Prop} {hp:Nat→Option Nat} {cs:List Value} {ps:List PV} (h:CellsR N w fix hp cs ps) (ho:OwnNil cs ps):VR N w fix hp (.agg cs.toArray) (.agg ps):=
 .agg cs.toArray ps (by simpa using h.1) h.2.1 (λi c es hc hp=>ho i c es (by simpa using hc) hp) (λi c p hc hp=>h.2.2 i c p (by simpa using hc) hp)
theorem CellsR.of_agg {fix:Nat→Nat→Prop} {hp:Nat→Option Nat} {v:Value} {ps:List PV} (h:VR N w fix hp v (.agg ps)):∃cs:Array Value,v = .agg cs∧CellsR N w fix hp cs.toList ps:=by
 cases h with
 | agg cs _ cI cS _ cR=>exact⟨cs,rfl,by simpa using cI,cS,λi c p hc hp=>cR i c p (by simpa using hc) hp⟩
theorem OwnNil.of_agg {fix:Nat→Nat→Prop} {hp:Nat→Option Nat} {cs:Array Value} {ps:List PV} (h:VR N w fix hp (.agg cs) (.agg ps)):OwnNil cs.toList ps:=by
 cases h with
 | agg _ _ cI cS eS cR=>exact λi c es hc hp=>eS i c es (by simpa using hc) hp
theorem CellsR.of_cells {fix:Nat→Nat→Prop} {hp:Nat→Option Nat} {v:Value} {p:PV} (h:VR N w fix hp v p) (h0:p.cells≠[]):CellsR N w fix hp v.cells.toList p.cells:=by
 obtain⟨h1,h2,h3⟩:=h.cells h0
 exact⟨by simpa using h1,h2,λi c x hc hx=>h3 i c x (by simpa using hc) hx⟩
theorem Dj {fix:Nat→Nat→Prop} {hp:Nat→Option Nat} {size:Nat} {agg:Bool} {ps:List PV} {off:Nat} {u:PV} {cs:List Value} (h:CellsR N w fix hp cs ps)
  (hl:wD size agg ps off=some u) (hs:size≠0) (h1:agg=false→size=1):
  off+size≤cs.length∧VR N w fix hp (if agg then .agg ((cs.drop off).take size).toArray else(cs.drop off).headD undef) u∧cp u=some u:=by
 unfold wD at hl
 cases agg with
 | true =>
   simp only[if_true] at hl
   split at hl
   ·rename_i el
    simp only[aa] at hl; subst hl
    refine⟨by rw[h.1]; exact el,?_,rfl⟩
    rw[ah rfl]
    exact(((h.drop off).take size).dem).agg (OwnNil.dem _ _)
   ·simp at hl
 | false =>
   have d4:=h1 rfl
   subst d4
   simp only[ay,if_false] at hl
   split at hl
   ·rename_i v hv
    have cO:off<ps.length:=(aj.1 hv).1
    have fT:off<cs.length:=by rw[h.1]; exact cO
    refine⟨by omega,?_⟩
    have cR:=h.2.2 off cs[off] v (an fT) hv
    have hd:(cs.drop off).headD undef=cs[off]:=by rw[aN fT]; rfl
    simp only[ay,if_false,hd]
    unfold cp at hl
    split at hl<;>simp at hl<;>subst hl
    ·exact⟨cR.dem,rfl⟩
    ·refine⟨cR,?_⟩
     unfold cp; split<;>first|rfl|simp_all
   ·simp at hl
theorem SR.lptr {key:Key} {s g off b:Nat} {v:Value} (hv:v = .pointer (some ⟨b,off,none⟩)) (hb:G.box g=some b):SR N w G key v (.lptr s g off):=⟨b,hv,hb⟩
variable {o:Oper} {j:Nat} {next:Act→World→Prop} {Q:Exit→Act→World→Prop} {u:PV} {st1:St}
abbrev wN (N:Nm) (w:World) (G:GS) (a:Act) (st1:St) (u:PV) (vs:List Tmp) (ops:List Oper) (j:Nat) (o:Oper) (next:Act→World→Prop):Prop:=
 ∀a' w' G',FI N w' G' (put st1 j (wS vs o.dst) u) a' vs (wq vs ops)→Ext w G w' G'→a'.tmps.size=a.tmps.size→next a' w'
theorem c26 (hE:EnvOk E N) (nm:Names vs (wq vs ops)) (ho:ops[j]? = some o) (hf:FI N w G st a vs (wq vs ops)) {x:Operand} {p:PX} (hx:(execOp a.eval o).run P w = .ok (.value (a.eval x)) w)
  (hc:cx E vs ops x=some p) (hs:(rd st p).map (·,st)=some (u,st1)) (hk:wN N w G a st1 u vs ops j o next):o.wp P a w next Q:=by
 simp only[ab,ac] at hs
 obtain⟨r,hr,rfl,rfl⟩:=hs
 obtain⟨h1,h2⟩:=wW hE hc hf hr
 exact wZ nm ho hf hx (SR.of_pure h1 h2) hk
theorem c1f (hE:EnvOk E N) (nm:Names vs (wq vs ops)) (ho:ops[j]? = some o) (hf:FI N w G st a vs (wq vs ops)) {c x y:Operand} {pc px py:PX} (cK:o.op = .pick c x y)
  (hc:cx E vs ops c=some pc) (hx:cx E vs ops x=some px) (hy:cx E vs ops y=some py) {cf:wE} (hs:opv cf (.pick pc px py) st=some (u,st1)) (hk:wN N w G a st1 u vs ops j o next):o.wp P a w next Q:=by
 simp only[opv] at hs
 split at hs
 ·rename_i t ht
  simp only[ab,ac] at hs
  obtain⟨r,hr,rfl,rfl⟩:=hs
  have hb:=(wW hE hc hf ht).1
  have lB:a.eval c = .bool t:=by generalize a.eval c=z at hb; cases hb; rfl
  cases t with
  | true =>
    obtain⟨h1,h2⟩:=wW hE hx hf hr
    exact wZ nm ho hf (by simp[execOp,cK,lB,asBool]) (SR.of_pure h1 h2) hk
  | false =>
    obtain⟨h1,h2⟩:=wW hE hy hf hr
    exact wZ nm ho hf (by simp[execOp,cK,lB,asBool]) (SR.of_pure h1 h2) hk
 ·simp at hs
theorem b9f (hE:EnvOk E N) (nm:Names vs (wq vs ops)) (ho:ops[j]? = some o) (hf:FI N w G st a vs (wq vs ops)) {s:TypeId} {x:Operand} {f:Nat} {px:PX} {fs:Array Field} {fd:Field} {n:Nat} (cK:o.op = .fieldAddr s x f)
  (hu:P.underlying s=some (.struct fs)) (iW:fs[f]? = some fd) (hn:wT P fd.type=some n) (hx:cx E vs ops x=some px) {cf:wE} (hs:opv cf (.faddr fd.offset px) st=some (u,st1)) (hk:wN N w G a st1 u vs ops j o next):o.wp P a w next Q:=by
 have eP:n≠0:=by obtain⟨_,_,_,_,h,_⟩:=zu hn; exact h
 have run:∀b off,a.eval x = .pointer (some ⟨b,off,none⟩)→(execOp a.eval o).run P w = .ok (.value (.pointer (some ⟨b,off+fd.offset,none⟩))) w:=by
  intro b off h
  simp[execOp,cK,h,Instr.fieldAt,run_underlying hu,iW,Instr.sureAddr,fieldPlace,z8 hn,eP,Ai]
 simp only[opv] at hs
 split at hs
 ·rename_i cs ha
  simp only[aa,ac] at hs
  obtain⟨rfl,rfl⟩:=hs
  rcases Bx hE hx hf ha with⟨_,_,_,_,h,_⟩|⟨h,_⟩
  ·simp at h
  ·generalize hv:a.eval x=v at h
   cases h with
   | cptr b off _ cv cS hcell cR =>
     refine wZ nm ho hf (run b off hv) (SR.of_pure ?_ rfl) hk
     refine .cptr b (off+fd.offset) _ (λk=>cv (fd.offset+k)) (λy hy=>cS y (ct hy)) ?_ ?_
     ·intro k hk
      have:=hcell (fd.offset+k) (by simp at hk; omega)
      simpa[b8] using this
     ·intro k y hy
      rw[aU] at hy
      exact cR _ _ hy
 ·rename_i s' g off ha
  simp only[aa,ac] at hs
  obtain⟨rfl,rfl⟩:=hs
  rcases Bx hE hx hf ha with⟨_,_,_,b,h,hv,hb⟩|⟨_,h⟩
  ·simp at h
   obtain⟨rfl,rfl,rfl⟩:=h
   exact wZ nm ho hf (run b _ hv) (SR.lptr rfl hb) hk
  ·simp[cp] at h
 ·rename_i n' off ha
  simp only[aa,ac] at hs
  obtain⟨rfl,rfl⟩:=hs
  rcases Bx hE hx hf ha with⟨_,_,_,_,h,_⟩|⟨h,_⟩
  ·simp at h
  ·generalize hv:a.eval x=v at h
   cases h with
   | ptr _ _ b hb=>exact wZ nm ho hf (run b off hv) (SR.of_pure (.ptr _ _ b hb) rfl) hk
 ·simp at hs
theorem b74 (hE:EnvOk E N) (nm:Names vs (wq vs ops)) (ho:ops[j]? = some o) (hf:FI N w G st a vs (wq vs ops)) {t e:TypeId} {x i:Operand} {px pi:PX} {n:Nat} (cK:o.op = .indexAddr t x i)
  (hu:P.underlying t=some (.slice e)) (hn:wT P e=some n) (hx:cx E vs ops x=some px) (hi:cx E vs ops i=some pi) {cf:wE} (hs:opv cf (.iaddrS n px pi) st=some (u,st1)) (hk:wN N w G a st1 u vs ops j o next):o.wp P a w next Q:=by
 simp only[opv] at hs
 split at hs
 ·rename_i own es m fX hm
  split at hs
  ·rename_i nb
   split at hs
   ·rename_i y hy
    split at hs
    ·rename_i oe
     simp only[aa,ac] at hs
     obtain⟨rfl,rfl⟩:=hs
     have h:=(wW hE hx hf fX).1
     obtain⟨k,gk⟩:=B0 hE hi hf hm
     have cO:m.toNat<es.length:=(aj.1 hy).1
     generalize hv:a.eval x=v at h
     cases h with
     | nils=>simp at cO
     | void=>simp at cO
     | list _ b off len cap sz _ cv cI cT cQ cS hcell cR =>
       have eI:y∈es:=aw hy
       have ne:sz=n:=by rw[← cQ y eI]; exact oe
       subst ne
       have cL:(execOp a.eval o).run P w = .ok (.value (.pointer (some ⟨b,off+m.toNat*sz,none⟩))) w:=by
        have h1:m<len:=by omega
        simp[execOp,cK,hv,gk,Instr.indexAt,asIntOf,run_underlying hu,nb,h1,z8 hn,Ai]
       refine wZ nm ho hf cL (SR.of_pure ?_ rfl) hk
       refine .cptr b _ _ (λk=>cv (m.toNat*sz+k)) (cS y eI) ?_ ?_
       ·intro k hk
        rw[oe] at hk
        have hb:m.toNat*sz+k<len*sz:=by
         have:(m.toNat+1)*sz≤len*sz:=bm _ (by omega)
         rw[aP] at this; omega
        have:=hcell _ hb
        simpa[b8] using this
       ·intro k z hz
        exact cR _ _ hy _ _ hz
    ·simp at hs
   ·simp at hs
  ·simp at hs
 ·rename_i r sz agg len m fX hm
  split at hs
  ·rename_i hc
   obtain⟨rfl,nb,cO⟩:=hc
   simp only[aa,ac] at hs
   obtain⟨rfl,rfl⟩:=hs
   have h:=(wW hE hx hf fX).1
   obtain⟨k,gk⟩:=B0 hE hi hf hm
   generalize hv:a.eval x=v at h
   cases h with
   | rowp _ _ _ _ b cap hb cT dV =>
     have cL:(execOp a.eval o).run P w = .ok (.value (.pointer (some ⟨b,0+m.toNat*sz,none⟩))) w:=by
      simp[execOp,cK,hv,gk,Instr.indexAt,asIntOf,run_underlying hu,nb,cO,z8 hn,Ai]
     rw[aK] at cL
     exact wZ nm ho hf cL (SR.of_pure (.ptr _ _ b hb) rfl) hk
  ·simp at hs
 ·simp at hs
theorem b75 (hE:EnvOk E N) (nm:Names vs (wq vs ops)) (ho:ops[j]? = some o) (hf:FI N w G st a vs (wq vs ops)) {t e:TypeId} {x i:Operand} {px pi:PX} {n len:Nat} (cK:o.op = .indexAddr t x i)
  (hu:P.underlying t=some (.array len e)) (hn:wT P e=some n) (hx:cx E vs ops x=some px) (hi:cx E vs ops i=some pi) {cf:wE} (hs:opv cf (.iaddrA len n px pi) st=some (u,st1)) (hk:wN N w G a st1 u vs ops j o next):o.wp P a w next Q:=by
 have run:∀b off m k,a.eval x = .pointer (some ⟨b,off,none⟩)→a.eval i = .int k m→0≤m→m<len→(execOp a.eval o).run P w = .ok (.value (.pointer (some ⟨b,off+m.toNat*n,none⟩))) w:=by
  intro b off m k hv gk h0 h1
  simp[execOp,cK,hv,gk,Instr.indexAt,asIntOf,run_underlying hu,Instr.sureAddr,h0,h1,z8 hn,Ai]
 simp only[opv] at hs
 split at hs
 ·rename_i s g off m ha hm
  split at hs
  ·rename_i hb
   simp only[aa,ac] at hs
   obtain⟨rfl,rfl⟩:=hs
   obtain⟨k,gk⟩:=B0 hE hi hf hm
   rcases Bx hE hx hf ha with⟨_,_,_,b,h,hv,sC⟩|⟨_,h⟩
   ·simp at h
    obtain⟨rfl,rfl,rfl⟩:=h
    exact wZ nm ho hf (run b _ m k hv gk hb.1 hb.2) (SR.lptr rfl sC) hk
   ·simp[cp] at h
  ·simp at hs
 ·rename_i cs m ha hm
  split at hs
  ·rename_i hb
   simp only[aa,ac] at hs
   obtain⟨rfl,rfl⟩:=hs
   obtain⟨k,gk⟩:=B0 hE hi hf hm
   rcases Bx hE hx hf ha with⟨_,_,_,_,h,_⟩|⟨h,_⟩
   ·simp at h
   ·generalize hv:a.eval x=v at h
    cases h with
    | cptr b off _ cv cS hcell cR =>
      refine wZ nm ho hf (run b off m k hv gk hb.1 hb.2) (SR.of_pure ?_ rfl) hk
      refine .cptr b _ _ (λk=>cv (m.toNat*n+k)) (λy hy=>cS y (ct hy)) ?_ ?_
      ·intro k hk
       have:=hcell (m.toNat*n+k) (by simp at hk; omega)
       simpa[b8] using this
      ·intro k y hy
       rw[aU] at hy
       exact cR _ _ hy
  ·simp at hs
 ·simp at hs
theorem LI {t:TypeId} {n:Nat} (hn:wT P t=some n) {v:Value} {cs:List PV} {u:PV} (h:VR N w G.fix G.heap v (.cptr cs))
  (hl:wD n (xu P t) cs 0=some u):∃r,(Instr.loadAt t v).run P w = .ok r w∧VR N w G.fix G.heap r u∧cp u=some u:=by
 cases h with
 | cptr b off _ cv cS hcell cR =>
   have eP:n≠0:=by obtain⟨_,_,_,_,h,_⟩:=zu hn; exact h
   let ds:List Value:=(List.range cs.length).map cv
   have hR:CellsR N w G.fix G.heap ds cs:=by
    refine⟨by simp[ds],cS,?_⟩
    intro i c x hc hx
    have hi:i<cs.length:=(aj.1 hx).1
    simp[ds,hi] at hc
    subst hc
    exact cR i x hx
   obtain⟨h1,h2,h3⟩:=Dj hR hl eP (B4 hn)
   refine⟨_,?_,h2,h3⟩
   have:=E5 (w:=w) hn b off ds (by simpa using h1) (λj v hv=>by
    have hj:j<cs.length:=by have:=(aj.1 hv).1; simpa[ds] using this
    simp[ds,hj] at hv
    subst hv
    exact(hcell j hj).1)
   simpa[Instr.loadAt,Instr.sureAddr] using this
theorem b9g (hE:EnvOk E N) (nm:Names vs (wq vs ops)) (ho:ops[j]? = some o) (hf:FI N w G st a vs (wq vs ops)) {t:TypeId} {x:Operand} {f:Nat} {px:PX} {fs:Array Field} {fd:Field} {n:Nat} (cK:o.op = .field t x f)
  (hu:P.underlying t=some (.struct fs)) (iW:fs[f]? = some fd) (hn:wT P fd.type=some n) (hx:cx E vs ops x=some px) {cf:wE}
  (hs:opv cf (.field fd.offset n (xu P fd.type) px) st=some (u,st1)) (hk:wN N w G a st1 u vs ops j o next):o.wp P a w next Q:=by
 have eP:n≠0:=by obtain⟨_,_,_,_,h,_⟩:=zu hn; exact h
 simp only[opv] at hs
 split at hs
 ·rename_i ps d9
  simp only[ab,ac] at hs
  obtain⟨r,hr,rfl,rfl⟩:=hs
  obtain⟨cs,hv,hR⟩:=CellsR.of_agg (wW hE hx hf d9).1
  obtain⟨h1,h2,h3⟩:=Dj hR hr eP (B4 hn)
  refine wZ nm ho hf ?_ (SR.of_pure h2 h3) hk
  have hx:(Instr.field t (.agg cs) f).run P w = .ok (if xu P fd.type then .agg ((cs.toList.drop fd.offset).take n).toArray else(cs.toList.drop fd.offset).headD undef) w:=by
   simp only[Instr.field,Sem.run_bind,run_underlying hu,Result.andThen_ok,iW,asAgg,Sem.run_pure,part,DS hn,Sem.run_ite,z8 hn]
   by_cases ha:xu P fd.type=true
   ·simp only[ha,if_true]
    congr 2
    apply Array.ext'
    simp
   ·simp only[cn] at ha
    have cO:fd.offset<cs.size:=by simp at h1; omega
    simp[ha,aN (l:=cs.toList) (i:=fd.offset) (by simpa using cO),cO]
  simp[execOp,cK,hv,hx]
 ·simp at hs
theorem b5a (hE:EnvOk E N) (nm:Names vs (wq vs ops)) (ho:ops[j]? = some o) (hf:FI N w G st a vs (wq vs ops)) {t:TypeId} {x i:Operand} {px pi:PX} (cK:o.op = .index t x i)
  (hu:P.underlying t=some .string) (hx:cx E vs ops x=some px) (hi:cx E vs ops i=some pi) {cf:wE} (hs:opv cf (.indexStr px pi) st=some (u,st1)) (hk:wN N w G a st1 u vs ops j o next):o.wp P a w next Q:=by
 simp only[opv] at hs
 split at hs
 ·rename_i s m fX hm
  split at hs
  ·rename_i nb
   split at hs
   ·rename_i y hy
    simp only[aa,ac] at hs
    obtain⟨rfl,rfl⟩:=hs
    have h:=(wW hE hx hf fX).1
    obtain⟨k,gk⟩:=B0 hE hi hf hm
    generalize hv:a.eval x=v at h
    cases h with
    | str s =>
      have ga:s[m.toNat]? = some y:=by
       have cO:m.toNat<s.data.toList.length:=(aj.1 hy).1
       have fT:m.toNat<s.size:=by rw[aV] at cO; exact cO
       rw[getElem?_pos s m.toNat fT]
       rw[an cO] at hy
       simp only[aa] at hy ⊢
       rw[← hy]; rfl
      refine wZ nm ho hf ?_ (SR.of_pure (.int _ _) rfl) hk
      simp only[execOp,cK,hv,gk,Instr.index,asIntOf,Sem.run_bind,Sem.run_pure,run_underlying hu,Result.andThen_ok,nb,if_true,ga]
   ·simp at hs
  ·simp at hs
 ·simp at hs
end
end PI
set_option linter.unusedSimpArgs false
set_option linter.unusedVariables false
namespace PI
open Go
section
variable {E:Env} {N:Nm} {w:World} {G:GS} {st:St} {a:Act} {vs:List Tmp} {ops:List Oper} {P:Program}
variable {o:Oper} {j:Nat} {next:Act→World→Prop} {Q:Exit→Act→World→Prop} {u:PV} {st1:St}
theorem b76 {op:BinOp} {t:TypeId} {k:IntKind} {x y:Int} (h:EM op k x y=some u):∃v,(binOp op t (.int k x) (.int k y)).run P w = .ok v w∧VR N w G.fix G.heap v u∧cp u=some u:=by
 cases op<;>simp only[EM] at h
 case quo=>
  split at h
  ·simp at h
  ·rename_i h0
   simp at h; subst h
   exact⟨_,by simp[binOp,Op.intDiv,h0],.int _ _,rfl⟩
 case rem=>
  split at h
  ·simp at h
  ·rename_i h0
   simp at h; subst h
   exact⟨_,by simp[binOp,Op.intDiv,h0],.int _ _,rfl⟩
 all_goals first
  | (simp at h; done)
  | (simp only [aa] at h; subst h
     first
      | exact⟨_,by simp only[binOp,Op.intArith,ne_eq,bc,if_false]; rfl,.int _ _,rfl⟩
      | exact⟨_,by simp only[binOp,Op.intBits,ne_eq,bc,if_false]; rfl,.int _ _,rfl⟩
      | exact⟨_,by simp only[binOp,Op.intCmp,ne_eq,bc,if_false]; rfl,.bool _,rfl⟩)
theorem b77 {op:BinOp} {t:TypeId} {x y:ByteArray} (h:EO op x.data.toList y.data.toList=some u):
  ∃v,(binOp op t (.string x) (.string y)).run P w = .ok v w∧VR N w G.fix G.heap v u∧cp u=some u:=by
 cases op<;>simp only[EO] at h
 case add=>
  split at h
  ·rename_i hl
   simp only[aa] at h; subst h
   have h1:¬((x.size+y.size:Nat):Int)>IntKind.i64.max:=by
    have hx:x.data.toList.length=x.size:=aV
    have hy:y.data.toList.length=y.size:=aV
    rw[IntKind.max_i64]; omega
   refine⟨.string (x++y),by simp only[binOp,Op.stringOp,af h1]; rfl,?_,rfl⟩
   have:(x++y).data.toList=x.data.toList++y.data.toList:=by simp
   rw[← this]
   exact .str _
  ·simp at h
 all_goals first
  | (simp at h; done)
  | (simp only [aa] at h; subst h
     exact⟨_,by simp only[binOp,Op.stringOp,LH]; rfl,.bool _,rfl⟩)
theorem Qz {op:BinOp} {t:TypeId} {k k':IntKind} {x y:Int} (cK:op = .shl∨op = .shr) (h:BA op (.int k x) (.int k' y)=some u):
  ∃v,(binOp op t (.int k x) (.int k' y)).run P w = .ok v w∧VR N w G.fix G.heap v u∧cp u=some u:=by
 rcases cK with rfl|rfl<;>simp only[BA] at h
 ·split at h
  ·simp at h
  ·rename_i h0
   simp only[aa] at h; subst h
   exact⟨_,by simp only[binOp,Op.shift,af h0]; rfl,.int _ _,rfl⟩
 ·split at h
  ·simp at h
  ·rename_i h0
   simp only[aa] at h; subst h
   exact⟨_,by simp only[binOp,Op.shift,af h0]; rfl,.int _ _,rfl⟩
theorem c1g {op:BinOp} {t:TypeId} {vx vy:Value} {x y:PV} (hx:VR N w G.fix G.heap vx x) (hy:VR N w G.fix G.heap vy y) (h:BA op x y=some u) (ox oy:Operand):
  ∃v,(do eqGuard op t ox oy vx vy; binOp op t vx vy:Sem Value).run P w = .ok v w∧VR N w G.fix G.heap v u∧cp u=some u:=by
 have key:(∃v,(binOp op t vx vy).run P w = .ok v w∧VR N w G.fix G.heap v u∧cp u=some u)∧(eqGuard op t ox oy vx vy).run P w = .ok () w:=by
  unfold BA at h
  split at h
  ·rename_i k m k' m'
   cases hx; cases hy
   refine⟨?_,by cases op<;>simp[eqGuard]⟩
   split at h
   ·exact Qz (.inl rfl) (by simpa[BA] using h)
   ·exact Qz (.inr rfl) (by simpa[BA] using h)
   ·split at h
    ·subst_vars
     exact b76 h
    ·simp at h
  ·rename_i s s'
   cases hx; cases hy
   exact⟨b77 h,by cases op<;>simp[eqGuard]⟩
  ·simp at h
 obtain⟨⟨v,h1,h2,h3⟩,h4⟩:=key
 exact⟨v,by simp[h4,h1],h2,h3⟩
theorem QA (hE:EnvOk E N) (nm:Names vs (wq vs ops)) (ho:ops[j]? = some o) (hf:FI N w G st a vs (wq vs ops)) {op:BinOp} {t t':TypeId} {x y:Operand} {px py:PX} (cK:o.op = .binOp op t x y t')
  (hx:cx E vs ops x=some px) (hy:cx E vs ops y=some py) {cf:wE} (hs:opv cf (.bin op px py) st=some (u,st1)) (hk:wN N w G a st1 u vs ops j o next):o.wp P a w next Q:=by
 simp only[opv] at hs
 split at hs
 ·rename_i p q hp hq
  simp only[ab,ac] at hs
  obtain⟨r,hr,rfl,rfl⟩:=hs
  obtain⟨v,h1,h2,h3⟩:=c1g (t:=t) (P:=P) (wW hE hx hf hp).1 (wW hE hy hf hq).1 hr x y
  refine wZ nm ho hf ?_ (SR.of_pure h2 h3) hk
  simp only[execOp,cK,Sem.run_bind,h1,Result.andThen_ok,Sem.run_pure]
 ·simp at hs
theorem QB {d:Nat} {t:TypeId} {k:EK} {vx vy:Value} {x y:PV} {b:Bool} (hx:VR N w G.fix G.heap vx x) (hy:VR N w G.fix G.heap vy y) (h:AB k x y=some b) (ht:ekT P t=some k):
  (Op.equalIn (d+1) t vx vy).run P w = .ok b w:=by
 unfold ekT at ht
 unfold AB at h
 split at h
 ·cases hx; cases hy
  simp only[aa] at h; subst h
  split at ht<;>simp at ht
  exact run_equalIn_bool' w d t _ _ (by assumption)
 ·cases hx; cases hy
  split at h
  ·subst_vars
   simp only[aa] at h; subst h
   split at ht<;>simp at ht
   exact run_equalIn_int w d t _ _ _ _ (by assumption)
  ·simp at h
 ·cases hx; cases hy
  simp only[aa] at h; subst h
  split at ht<;>simp at ht
  rw[run_equalIn_string w d t _ _ (by assumption),LH,LH]
 ·simp at h
theorem LJ {d:Nat} {cs ds:Array Value} {ps qs:List PV} (hc:CellsR N w G.fix G.heap cs.toList ps) (hd:CellsR N w G.fix G.heap ds.toList qs):∀{fs:List Field} {off:Nat} {ks:List EK} {b:Bool},
  eqFields P fs off=some ks→Ah ks (ps.drop off) (qs.drop off)=some b→(Op.eqFields (d+1) cs ds fs).run P w = .ok b w
 | [], off, ks, b, hk, h => by
   simp[eqFields] at hk; subst hk
   unfold Ah at h
   split at h<;>simp_all [Op.eqFields]
 | f :: fs, off, ks, b, hk, h => by
   simp only[eqFields] at hk
   split at hk
   ·rename_i cP
    obtain⟨h1,h2,h3,h4⟩:=cP
    simp only[ai,ab] at hk
    obtain⟨k,ic,ks',eD,rfl⟩:=hk
    unfold Ah at h
    split at h
    ·rename_i heq _ _; simp at heq
    ·rename_i k' ks'' x xs y ys eW jd pH
     simp only[bx] at eW
     obtain⟨rfl,rfl⟩:=eW
     simp only[ai,ab] at h
     obtain⟨b1,eJ,b2,dI,rfl⟩:=h
     have lV:ps[off]? = some x:=by
      have:=aH List.head? jd; simpa[List.head?_drop] using this
     have ua:qs[off]? = some y:=by
      have:=aH List.head? pH; simpa[List.head?_drop] using this
     have rJ:off<cs.size:=by have:=(aj.1 lV).1; have:=hc.1; simp at this; omega
     have qq:off<ds.size:=by have:=(aj.1 ua).1; have:=hd.1; simp at this; omega
     have jD:∀(zs:Array Value) (hz:off<zs.size),(part f.type zs f.offset).run P w = .ok zs[off] w:=by
      intro zs hz
      simp[part,DS h3,h4,h1,hz]
     have hx:=hc.2.2 off cs[off] x (by simp[rJ]) lV
     have hy:=hd.2.2 off ds[off] y (by simp[qq]) ua
     have sD:ps.drop (off+1)=xs:=by have:=aH List.tail jd; simpa[List.tail_drop] using this
     have sE:qs.drop (off+1)=ys:=by have:=aH List.tail pH; simpa[List.tail_drop] using this
     have ih:=LJ (d:=d) hc hd (fs:=fs) (off:=off+1) eD (by rw[sD,sE]; exact dI)
     simp only[Op.eqFields,h2,ne_eq,cB,if_true,Sem.run_bind,jD cs rJ,jD ds qq,Result.andThen_ok,QB hx hy eJ ic,Sem.run_ite]
     cases b1 with
     | true=>simpa using ih
     | false=>simp
    ·simp at h
   ·simp at hk
theorem c4Q (hE:EnvOk E N) (hP:E.P=P) (nm:Names vs (wq vs ops)) (ho:ops[j]? = some o) (hf:FI N w G st a vs (wq vs ops)) {op:BinOp} {t t':TypeId} {x y:Operand} {px py:PX} {agg:Bool} {ks:List EK} (cK:o.op = .binOp op t x y t')
  (ge:op = .eql∨op = .neq) (ht:eqT P t=some (some (agg,ks))) (hx:cx E vs ops x=some px) (hy:cx E vs ops y=some py) {cf:wE} (hs:opv cf (.eq (op == .neq) agg ks px py) st=some (u,st1))
  (hk:wN N w G a st1 u vs ops j o next):o.wp P a w next Q:=by
 simp only[opv] at hs
 split at hs
 ·rename_i p q hp hq
  simp only[ab,ac] at hs
  obtain⟨b,hb,rfl,rfl⟩:=hs
  have eA:=(wW hE hx hf hp).1
  have ga:=(wW hE hy hf hq).1
  have key:∀vx vy,VR N w G.fix G.heap vx p→VR N w G.fix G.heap vy q→(do eqGuard op t x y vx vy; binOp op t vx vy:Sem Value).run P w = .ok (.bool (if op == .neq then !b else b)) w:=by
   intro vx vy gE sF
   unfold eqT at ht
   split at ht
   ·simp at ht
   ·simp at ht
   ·rename_i hu
    simp only[aa,ac] at ht
    obtain⟨rfl,rfl⟩:=ht
    simp only[peq,ay,if_false] at hb
    have he:=QB (P:=P) (d:=9999) (t:=t) gE sF hb (by simp[ekT,hu])
    have:∃c d,p = .bool c∧q = .bool d:=by
     cases p<;>cases q<;>simp[AB] at hb
     exact⟨_,_,rfl,rfl⟩
    obtain⟨c,d,rfl,rfl⟩:=this
    cases gE; cases sF
    rcases ge with rfl|rfl<;>simp[eqGuard,binOp,Op.equal,Op.maxDepth,he]
   ·rename_i fs hu
    split at ht
    ·rename_i ks' it
     split at ht
     ·rename_i cP
      simp only[aa,ac] at ht
      obtain⟨rfl,rfl⟩:=ht
      simp only[al,bj] at cP
      simp only[peq,if_true] at hb
      split at hb
      ·obtain⟨cs,rfl,hc⟩:=CellsR.of_agg gE
       obtain⟨ds,rfl,hd⟩:=CellsR.of_agg sF
       have kF:P.fieldsOf t=fs:=by simp[Program.fieldsOf,hu]
       have h1:=run_equalIn_struct (P:=P) w 9999 t cs ds (by rw[kF]; exact hu) cP.1
       rw[kF,LJ hc hd it (by simpa using hb)] at h1
       rcases ge with rfl|rfl
       ·simp only[Sem.run_bind,run_eqGuard_agg w _ t x y cs ds cP.2,Result.andThen_ok,run_eql_struct,h1]; rfl
       ·simp only[Sem.run_bind,run_eqGuard_agg w _ t x y cs ds cP.2,Result.andThen_ok,run_neq_struct,h1]; rfl
      ·simp at hb
     ·simp at ht
    ·simp at ht
   ·simp at ht
  refine wZ nm ho hf ?_ (SR.of_pure (.bool _) rfl) hk
  simp only[execOp,cK,Sem.run_bind,key _ _ eA ga,Result.andThen_ok,Sem.run_pure]
 ·simp at hs
theorem c4R (hE:EnvOk E N) (nm:Names vs (wq vs ops)) (ho:ops[j]? = some o) (hf:FI N w G st a vs (wq vs ops)) {op:UnOp} {t:TypeId} {x:Operand} {px:PX} (cK:o.op = .unOp op t x)
  (hx:cx E vs ops x=some px) {cf:wE} (hs:opv cf (.un op px) st=some (u,st1)) (hk:wN N w G a st1 u vs ops j o next):o.wp P a w next Q:=by
 simp only[opv] at hs
 split at hs
 ·rename_i p hp
  simp only[ab,ac] at hs
  obtain⟨r,hr,rfl,rfl⟩:=hs
  have h:=(wW hE hx hf hp).1
  generalize hv:a.eval x=v at h
  unfold unv at hr
  split at hr
  ·cases h
   simp only[aa] at hr; subst hr
   exact wZ nm ho hf (by simp[execOp,cK,hv,Op.unary]) (SR.of_pure (.bool _) rfl) hk
  ·cases h
   simp only[aa] at hr; subst hr
   exact wZ nm ho hf (by simp only[execOp,cK,hv,Op.unary,Op.intArith]; rfl) (SR.of_pure (.int _ _) rfl) hk
  ·simp at hr
 ·simp at hs
theorem b6u (hE:EnvOk E N) (nm:Names vs (wq vs ops)) (ho:ops[j]? = some o) (hf:FI N w G st a vs (wq vs ops)) {s t:TypeId} {k k':IntKind} {x:Operand} {px:PX} (cK:o.op = .convert s t x)
  (hu:P.underlying s=some (.int k')) (eU:P.underlying t=some (.int k)) (hx:cx E vs ops x=some px) {cf:wE} (hs:opv cf (.convInt k px) st=some (u,st1)) (hk:wN N w G a st1 u vs ops j o next):o.wp P a w next Q:=by
 simp only[opv,ab,ac] at hs
 obtain⟨n,hn,rfl,rfl⟩:=hs
 obtain⟨k1,hv⟩:=B0 hE hx hf hn
 refine wZ nm ho hf ?_ (SR.of_pure (.int _ _) rfl) hk
 simp[execOp,cK,hv,convert,run_underlying hu,run_underlying eU,Conv.intToInt]
theorem c1h (hE:EnvOk E N) (nm:Names vs (wq vs ops)) (ho:ops[j]? = some o) (hf:FI N w G st a vs (wq vs ops)) {s t:TypeId} {x:Operand} {px:PX} (cK:o.op = .convert s t x)
  (hu:P.underlying s=some .string) (eU:P.underlying t=some .string) (hx:cx E vs ops x=some px) {cf:wE} (hs:opv cf (.movs px) st=some (u,st1)) (hk:wN N w G a st1 u vs ops j o next):o.wp P a w next Q:=by
 simp only[opv] at hs
 split at hs
 ·rename_i l hp
  simp only[aa,ac] at hs
  obtain⟨rfl,rfl⟩:=hs
  have h:=(wW hE hx hf hp).1
  generalize hv:a.eval x=v at h
  cases h
  exact wZ nm ho hf (by simp[execOp,cK,hv,convert,run_underlying hu,run_underlying eU]) (SR.of_pure (.str _) rfl) hk
 ·simp at hs
theorem b6v (hE:EnvOk E N) (nm:Names vs (wq vs ops)) (ho:ops[j]? = some o) (hf:FI N w G st a vs (wq vs ops)) {i:Nat} {x:Operand} {px:PX} (cK:o.op = .extract x i)
  (hx:cx E vs ops x=some px) {cf:wE} (hs:opv cf (.extract i px) st=some (u,st1)) (hk:wN N w G a st1 u vs ops j o next):o.wp P a w next Q:=by
 simp only[opv] at hs
 split at hs
 ·rename_i ps hp
  simp only[ab,ai,ac] at hs
  obtain⟨r,⟨p,kC,nM⟩,rfl,rfl⟩:=hs
  have h:=(wW hE hx hf hp).1
  generalize hv:a.eval x=v at h
  cases h with
  | tuple cs _ cI cR =>
    have hi:i<cs.size:=by have:=(aj.1 kC).1; omega
    have gz:=cR i cs[i] p (by simp[hi]) kC
    have hd:VR N w G.fix G.heap cs[i] r∧cp r=some r:=by
     unfold cp at nM
     split at nM<;>simp at nM<;>subst nM
     ·exact⟨gz.dem,rfl⟩
     ·refine⟨gz,?_⟩
      unfold cp; split<;>first|rfl|simp_all
    exact wZ nm ho hf (by simp[execOp,cK,hv,Instr.extract,hi]) (SR.of_pure hd.1 hd.2) hk
 ·simp at hs
theorem QC (hE:EnvOk E N) (nm:Names vs (wq vs ops)) (ho:ops[j]? = some o) (hf:FI N w G st a vs (wq vs ops)) {t:TypeId} {ts:Array TypeId} {x:Operand} {px:PX} {str:Bool} (cK:o.op = .call { callee := .builtin .len,args := #[x],argTypes:=ts })
  (h0:ts[0]? = some t) (hu:if str then P.underlying t=some .string else ∃e,P.underlying t=some (.slice e)) (hx:cx E vs ops x=some px) {cf:wE} (hs:opv cf (.len str px) st=some (u,st1)) (hk:wN N w G a st1 u vs ops j o next):o.wp P a w next Q:=by
 simp only[opv] at hs
 split at hs
 ·rename_i s hp
  simp only[aa,ac] at hs
  obtain⟨rfl,rfl⟩:=hs
  have h:=(wW hE hx hf hp).1
  simp only[if_true] at hu
  generalize hv:a.eval x=v at h
  cases h with
  | str s =>
    have hl:s.data.toList.length=s.size:=aV
    refine wZ nm ho hf ?_ (SR.of_pure (.int _ _) rfl) hk
    rw[hl]
    simp only[execOp,cK,resolve,Sem.run_bind,Sem.run_pure,Result.andThen_ok,invoke,builtin,Builtin.len_,h0,List.map_toArray,aG,bA,hv,bI,ci,run_underlying hu,goInt]
 ·rename_i b es hp
  simp only[aa,ac] at hs
  obtain⟨rfl,rfl⟩:=hs
  have h:=(wW hE hx hf hp).1
  simp only[ay,if_false] at hu
  obtain⟨e,eU⟩:=hu
  generalize hv:a.eval x=v at h
  cases h with
  | nils =>
    refine wZ nm ho hf ?_ (SR.of_pure (.int _ _) rfl) hk
    simp[execOp,cK,hv,resolve,invoke,builtin,Builtin.len_,h0,run_underlying eU,goInt]
  | void =>
    refine wZ nm ho hf ?_ (SR.of_pure (.int _ _) rfl) hk
    simp[execOp,cK,hv,resolve,invoke,builtin,Builtin.len_,h0,run_underlying eU,goInt]
  | list _ b off len cap sz _ cv cI =>
    refine wZ nm ho hf ?_ (SR.of_pure (.int _ _) rfl) hk
    simp[execOp,cK,hv,resolve,invoke,builtin,Builtin.len_,h0,run_underlying eU,goInt,cI]
 ·rename_i m sz agg n hp
  simp only[aa,ac] at hs
  obtain⟨rfl,rfl⟩:=hs
  have h:=(wW hE hx hf hp).1
  simp only[ay,if_false] at hu
  obtain⟨e,eU⟩:=hu
  generalize hv:a.eval x=v at h
  cases h with
  | rowp _ _ _ _ b cap hb cT dV =>
    refine wZ nm ho hf ?_ (SR.of_pure (.int _ _) rfl) hk
    simp[execOp,cK,hv,resolve,invoke,builtin,Builtin.len_,h0,run_underlying eU,goInt]
 ·rename_i hp
  simp only[aa,ac] at hs
  obtain⟨rfl,rfl⟩:=hs
  have h:=(wW hE hx hf hp).1
  simp only[ay,if_false] at hu
  obtain⟨e,eU⟩:=hu
  generalize hv:a.eval x=v at h
  cases h with
  | nils' =>
    refine wZ nm ho hf ?_ (SR.of_pure (.int _ _) rfl) hk
    simp[execOp,cK,hv,resolve,invoke,builtin,Builtin.len_,h0,run_underlying eU,goInt]
 ·rename_i hp
  simp only[aa,ac] at hs
  obtain⟨rfl,rfl⟩:=hs
  have h:=(wW hE hx hf hp).1
  simp only[ay,if_false] at hu
  obtain⟨e,eU⟩:=hu
  generalize hv:a.eval x=v at h
  cases h with
  | void' =>
    refine wZ nm ho hf ?_ (SR.of_pure (.int _ _) rfl) hk
    simp[execOp,cK,hv,resolve,invoke,builtin,Builtin.len_,h0,run_underlying eU,goInt]
 ·simp at hs
theorem c27 (hE:EnvOk E N) (nm:Names vs (wq vs ops)) (ho:ops[j]? = some o) (hf:FI N w G st a vs (wq vs ops)) {t e:TypeId} {ts:Array TypeId} {x:Operand} {px:PX}
  (cK:o.op = .call { callee := .builtin .cap,args := #[x],argTypes:=ts }) (h0:ts[0]? = some t) (hu:P.underlying t=some (.slice e)) (hx:cx E vs ops x=some px) {cf:wE} (hs:opv cf (.cap px) st=some (u,st1)) (hk:wN N w G a st1 u vs ops j o next):o.wp P a w next Q:=by
 simp only[opv] at hs
 split at hs
 ·rename_i hp
  simp only[aa,ac] at hs
  obtain⟨rfl,rfl⟩:=hs
  have h:=(wW hE hx hf hp).1
  generalize hv:a.eval x=v at h
  cases h with
  | nils' =>
    refine wZ nm ho hf ?_ (SR.of_pure (.int _ _) rfl) hk
    simp[execOp,cK,hv,resolve,invoke,builtin,Builtin.cap_,h0,run_underlying hu,goInt]
 ·simp at hs
end
section
variable {E:Env} {N:Nm} {w:World} {G:GS} {st:St} {a:Act} {vs:List Tmp} {ops:List Oper} {P:Program}
variable {o:Oper} {j:Nat} {next:Act→World→Prop} {Q:Exit→Act→World→Prop} {u:PV} {st1:St}
theorem Ig {n:Int} {y:Nat} {k:IntKind} (h0:0≤n) (h1:n≤y) (c:BoundsCode):(Instr.sliceBound (.int k n) y c).run P w = .ok n.toNat w:=by
 simp[Instr.sliceBound,asIntOf,h0,h1]
theorem QD (hE:EnvOk E N) (hf:FI N w G st a vs (wq vs ops)) {x:Option Operand} {px:Option PX} {dflt most r:Nat} (hc:cxo E vs ops x=some px) (hr:bound st px dflt most=some r):
  (x=none∧r=dflt)∨∃y k n,x=some y∧a.eval y = .int k n∧0≤n∧n≤most∧r=n.toNat:=by
 cases x with
 | none=>simp[cxo] at hc; subst hc; simp[bound] at hr; exact .inl ⟨rfl,hr.symm⟩
 | some y =>
   simp only[cxo,ab] at hc
   obtain⟨p,hp,rfl⟩:=hc
   simp only[bound] at hr
   split at hr
   ·rename_i n hn
    split at hr
    ·rename_i hb
     simp at hr
     obtain⟨k,hk⟩:=B0 hE hp hf hn
     exact .inr ⟨y,k,n,rfl,hk,hb.1,hb.2,hr.symm⟩
    ·simp at hr
   ·simp at hr
theorem EI (hE:EnvOk E N) (hf:FI N w G st a vs (wq vs ops)) {lo hi:Option Operand} {pl ph:Option PX} {isSlice:Bool} {len cap l h:Nat} (cT:len≤cap)
  (hl:cxo E vs ops lo=some pl) (hh:cxo E vs ops hi=some ph) (h1:bound st ph len len=some h) (h2:bound st pl 0 h=some l):
  (Instr.sliceBounds isSlice len cap (lo.map a.eval) (hi.map a.eval) none).run P w = .ok (l,h,cap) w∧l≤h∧h≤len:=by
 have hH:=QD hE hf hh h1
 have hL:=QD hE hf hl h2
 have kO:h≤len:=by rcases hH with⟨_,rfl⟩|⟨_,_,n,_,_,_,_,rfl⟩<;>omega
 have nO:l≤h:=by rcases hL with⟨_,rfl⟩|⟨_,_,n,_,_,_,_,rfl⟩<;>omega
 refine⟨?_,nO,kO⟩
 rcases hH with⟨rfl,li⟩|⟨y,k,n,rfl,hy,eP,io,li⟩<;>rcases hL with⟨rfl,eG⟩|⟨y',k',n',rfl,ga,pI,lM,eG⟩<;>subst li<;>subst eG
 ·simp[Instr.sliceBounds]
 ·simp[Instr.sliceBounds,ga,Ig pI lM]
 ·simp[Instr.sliceBounds,hy,Ig (P:=P) (w:=w) eP (show n≤(cap:Int) by omega)]
 ·simp[Instr.sliceBounds,hy,ga,Ig (P:=P) (w:=w) eP (show n≤(cap:Int) by omega),Ig (P:=P) (w:=w) pI lM]
theorem b8a (s:ByteArray) (l h:Nat):(s.extract l h).data.toList=(s.data.toList.take h).drop l:=by
 simp[ByteArray.data_extract,List.drop_take]
theorem b8b (hE:EnvOk E N) (nm:Names vs (wq vs ops)) (ho:ops[j]? = some o) (hf:FI N w G st a vs (wq vs ops)) {t:TypeId} {x:Operand} {lo hi:Option Operand} {px:PX} {pl ph:Option PX} {size:Nat} (cK:o.op = .slice t x lo hi none)
  (hu:P.underlying t=some .string) (hx:cx E vs ops x=some px) (hl:cxo E vs ops lo=some pl) (hh:cxo E vs ops hi=some ph) {cf:wE} (hs:opv cf (.slice true size px pl ph) st=some (u,st1))
  (hk:wN N w G a st1 u vs ops j o next):o.wp P a w next Q:=by
 simp only[opv] at hs
 split at hs
 ·rename_i s hp
  simp only[ai,ab,ac] at hs
  obtain⟨h,h1,l,h2,rfl,rfl⟩:=hs
  have dN:=(wW hE hx hf hp).1
  generalize hv:a.eval x=v at dN
  cases dN with
  | str s =>
    have cQ:s.data.toList.length=s.size:=aV
    rw[cQ] at h1
    obtain⟨hb,_,_⟩:=EI (P:=P) (isSlice:=false) hE hf (aq s.size) hl hh h1 h2
    refine wZ nm ho hf (v := .string (s.extract l h)) ?_ (SR.of_pure ?_ rfl) hk
    ·simp[execOp,cK,hv,Instr.sliceAt,Instr.slice,run_underlying hu,hb]
    ·rw[← b8a]; exact .str _
 ·rename_i heq _; simp at heq
 ·rename_i heq _; simp at heq
 ·rename_i heq _; simp at heq
 ·simp at hs
theorem b8c (hE:EnvOk E N) (nm:Names vs (wq vs ops)) (ho:ops[j]? = some o) (hf:FI N w G st a vs (wq vs ops)) {t e:TypeId} {x:Operand} {lo hi:Option Operand} {px:PX} {pl ph:Option PX} {size:Nat} (cK:o.op = .slice t x lo hi none)
  (hu:P.underlying t=some (.slice e)) (hn:wT P e=some size) (hx:cx E vs ops x=some px) (hl:cxo E vs ops lo=some pl) (hh:cxo E vs ops hi=some ph) {cf:wE} (hs:opv cf (.slice false size px pl ph) st=some (u,st1))
  (hk:wN N w G a st1 u vs ops j o next):o.wp P a w next Q:=by
 simp only[opv] at hs
 split at hs
 ·rename_i heq _; simp at heq
 ·rename_i own es _ hp
  split at hs
  ·rename_i gb
   simp only[ai,ab,ac] at hs
   obtain⟨h,h1,l,h2,rfl,rfl⟩:=hs
   have dN:=(wW hE hx hf hp).1
   generalize hv:a.eval x=v at dN
   cases dN with
   | nils =>
     obtain⟨hb,nO,kO⟩:=EI (P:=P) (isSlice:=true) hE hf (aq 0) hl hh h1 h2
     simp at kO; subst kO
     have:l=0:=by omega
     subst this
     refine wZ nm ho hf (v := .slice none 0 0) ?_ (SR.of_pure (.nils false) rfl) hk
     simp[execOp,cK,hv,Instr.sliceAt,Instr.slice,run_underlying hu,hb,z8 hn]
   | void _ ad cap =>
     obtain⟨hb,nO,kO⟩:=EI (P:=P) (isSlice:=true) hE hf (Nat.zero_le cap) hl hh h1 h2
     simp at kO; subst kO
     have:l=0:=by omega
     subst this
     refine wZ nm ho hf (v := .slice (some ad) 0 cap) ?_ (SR.of_pure (.void false ad cap) rfl) hk
     have hz:(if cap=0 then some ad else some ad)=some ad:=by split<;>rfl
     simp[execOp,cK,hv,Instr.sliceAt,Instr.slice,run_underlying hu,hb,z8 hn,Addr.add_zero']
   | list _ b off len cap sz _ cv cI cT cQ cS hcell cR =>
     subst cI
     obtain⟨hb,nO,kO⟩:=EI (P:=P) (isSlice:=true) hE hf cT hl hh h1 h2
     have cL:(execOp a.eval o).run P w = .ok (.value (.slice (some (if cap=l then⟨b,off,none⟩ else⟨b,off+l*size,none⟩)) (h - l) (cap - l))) w:=by
      by_cases hc:cap=l
      ·rw[ah hc]
       simp only[execOp,cK,hv,Instr.sliceAt,Instr.slice,Sem.run_bind,run_underlying hu,Result.andThen_ok,hb,z8 hn,ah hc,Sem.run_pure,co]
      ·rw[af hc]
       simp only[execOp,cK,hv,Instr.sliceAt,Instr.slice,Sem.run_bind,run_underlying hu,Result.andThen_ok,hb,z8 hn,af hc,Sem.run_pure,co,az,Ai]
     refine wZ nm ho hf cL (SR.of_pure ?_ rfl) hk
     have iK:((es.take h).drop l).length=h - l:=by simp; omega
     have xF:∀(i:Nat) (y:PV),((es.take h).drop l)[i]? = some y→es[l+i]? = some y:=by
      intro i y hy
      rw[aU,aQ] at hy
      split at hy
      ·exact hy
      ·cases hy
     have eI:∀y∈(es.take h).drop l,y∈es:=λy hy=>List.mem_of_mem_take (ct hy)
     by_cases hc:cap=l
     ·have he:(es.take h).drop l=[]:=bb.1 (by rw[iK]; omega)
      rw[ah hc,he]
      have:h - l=0:=by omega
      rw[this]
      exact .list false b off 0 _ 0 [] cv rfl (Nat.zero_le _) (by simp) (by simp) (by simp) (by simp)
     ·rw[af hc]
      by_cases hz:h - l=0
      ·have he:(es.take h).drop l=[]:=bb.1 (by rw[iK]; omega)
       rw[he,hz]
       exact .list false b _ 0 _ 0 [] cv rfl (Nat.zero_le _) (by simp) (by simp) (by simp) (by simp)
      ·have ne:sz=size:=by
        cases es with
        | nil=>simp at kO; omega
        | cons y ys =>
          have:=cQ y (by simp)
          simp[xq] at gb
          omega
       subst ne
       refine .list false b _ (h - l) _ sz _ (λk=>cv (l*sz+k)) iK (by omega) (λy hy=>cQ y (eI y hy)) (λy hy=>cS y (eI y hy)) ?_ ?_
       ·intro k hk
        have cO:l*sz+k<es.length*sz:=by
         have h3:(l+(h - l))*sz≤es.length*sz:=bm _ (by omega)
         rw[aP] at h3; omega
        have:=hcell _ cO
        simpa[b8] using this
       ·intro i y hy j' z iD
        have:=cR (l+i) y (xF i y hy) j' z iD
        simpa[aP,b8] using this
  ·simp at hs
 ·rename_i _ hp
  simp only[ai,ab,ac] at hs
  obtain⟨h,h1,l,h2,rfl,rfl⟩:=hs
  have dN:=(wW hE hx hf hp).1
  generalize hv:a.eval x=v at dN
  cases dN with
  | nils' =>
    obtain⟨hb,nO,kO⟩:=EI (P:=P) (isSlice:=true) hE hf (aq 0) hl hh h1 h2
    have:h=0:=by omega
    subst this
    have:l=0:=by omega
    subst this
    refine wZ nm ho hf (v := .slice none 0 0) ?_ (SR.of_pure .nils' rfl) hk
    simp[execOp,cK,hv,Instr.sliceAt,Instr.slice,run_underlying hu,hb,z8 hn]
 ·rename_i n sz agg len _ hp
  split at hs
  ·rename_i cQ
   subst cQ
   simp only[ai,ab,ac] at hs
   obtain⟨h,h1,l,h2,rfl,rfl⟩:=hs
   have dN:=(wW hE hx hf hp).1
   generalize hv:a.eval x=v at dN
   cases dN with
   | rowp _ _ _ _ b cap iB cT dV =>
     obtain⟨T,m,d4,ot⟩:=dV
     obtain⟨hb,nO,kO⟩:=EI (P:=P) (isSlice:=true) hE hf cT hl hh h1 h2
     have cL:(execOp a.eval o).run P w = .ok (.value (.slice (some (if cap=l then⟨b,0,none⟩ else⟨b,0+l*sz,none⟩)) (h - l) (cap - l))) w:=by
      by_cases hc:cap=l
      ·rw[ah hc]
       simp only[execOp,cK,hv,Instr.sliceAt,Instr.slice,Sem.run_bind,run_underlying hu,Result.andThen_ok,hb,z8 hn,ah hc,Sem.run_pure,co]
      ·rw[af hc]
       simp only[execOp,cK,hv,Instr.sliceAt,Instr.slice,Sem.run_bind,run_underlying hu,Result.andThen_ok,hb,z8 hn,af hc,Sem.run_pure,co,az,Ai]
     have vS:h*sz≤cap*sz:=bm _ (by omega)
     by_cases jz:l=0
     ·subst jz
      rw[ah rfl] at hk
      have he:(if cap=0 then(⟨b,0,none⟩:Addr) else⟨b,0+0*sz,none⟩)=⟨b,0,none⟩:=by split<;>simp
      rw[he,Nat.sub_zero,Nat.sub_zero] at cL
      exact wZ nm ho hf cL (SR.of_pure (.rowp _ _ _ _ b cap iB (by omega) ⟨T,m,d4,ot⟩) rfl) hk
     ·rw[af jz] at hk
      have fm:(l+(h - l))*sz≤m:=by rw[show l+(h - l)=h by omega]; omega
      by_cases hc:cap=l
      ·rw[ah hc] at cL
       exact wZ nm ho hf cL (SR.of_pure (.rows _ _ _ _ _ b 0 _ m T iB (by omega) (.inl (by omega)) d4 fm) rfl) hk
      ·rw[af hc] at cL
       exact wZ nm ho hf cL (SR.of_pure (.rows _ _ _ _ _ b _ _ m T iB (by omega) (.inr (by rw[aK])) d4 fm) rfl) hk
  ·simp at hs
 ·simp at hs
theorem QE {mx:Bool}:∀{ps:List PV} {vals:List Value} {p:PV} {v:Value},VR N w G.fix G.heap v p→vals.length=ps.length →
  (∀(i:Nat) (x:Value) (q:PV),vals[i]? = some x→ps[i]? = some q→VR N w G.fix G.heap x q)→cp p=some p→BC mx p ps=some u →
  ∃r,(vals.foldlM (if mx then Builtin.max2 else Builtin.min2) v).run P w = .ok r w∧VR N w G.fix G.heap r u∧cp u=some u
 | [], vals, p, v, hv, hl, _, fK, hm => by
   have:vals=[]:=by simpa using hl
   subst this
   simp[BC] at hm; subst hm
   exact⟨v,by simp,hv,fK⟩
 | q :: ps, vals, p, v, hv, hl, hr, fK, hm => by
   cases vals with
   | nil=>simp at hl
   | cons x vals =>
     unfold BC at hm
     split at hm
     ·simp_all
     ·rename_i k m k' m' r heq
      simp only[bx] at heq
      obtain⟨rfl,rfl⟩:=heq
      split at hm
      ·subst_vars
       have hx:=hr 0 x _ rfl rfl
       cases hv; cases hx
       obtain⟨r,h1,h2,h3⟩:=QE (mx:=mx) (vals:=vals) (VR.int _ (if mx then(if m'>m then m' else m) else(if m'<m then m' else m))) (by simpa using hl)
        (λi y z hy hz=>hr (i+1) y z (by simpa using hy) (by simpa using hz)) rfl hm
       refine⟨r,?_,h2,h3⟩
       cases mx<;>simpa[Builtin.max2,Builtin.min2] using h1
      ·simp at hm
     ·simp at hm
theorem QG (hE:EnvOk E N) (nm:Names vs (wq vs ops)) (ho:ops[j]? = some o) (hf:FI N w G st a vs (wq vs ops)) {mx:Bool} {xs:Array Operand} {ts:Array TypeId} {pxs:List PX}
  (cK:o.op = .call { callee := .builtin (if mx then .max else .min),args:=xs,argTypes:=ts }) (hx:cxs E vs ops xs.toList=some pxs) {cf:wE} (hs:opv cf (.minmax mx pxs) st=some (u,st1))
  (hk:wN N w G a st1 u vs ops j o next):o.wp P a w next Q:=by
 simp only[opv] at hs
 split at hs
 ·rename_i p ps hp
  simp only[ab,ac] at hs
  obtain⟨r,hr,rfl,rfl⟩:=hs
  obtain⟨h1,h2⟩:=Bf hE hf hx hp
  cases jd:xs.toList with
  | nil=>simp[jd] at h1
  | cons y ys =>
    rw[jd] at h1 h2
    have h0:=h2 0 y p rfl rfl
    obtain⟨v,jb,jN,vT⟩:=QE (P:=P) (vals:=ys.map a.eval) h0.1 (by simpa using h1) (by
     intro i x q eA hq
     simp only[aB,ab] at eA
     obtain⟨z,hz,rfl⟩:=eA
     exact(h2 (i+1) z q (by simpa using hz) (by simpa using hq)).1) h0.2 hr
    refine wZ nm ho hf (v:=v) ?_ (SR.of_pure jN vT) hk
    cases mx
    ·simp only[ay,if_false] at cK jb
     simp[execOp,cK,resolve,invoke,builtin,Builtin.min_,jd,jb]
    ·simp only[if_true] at cK jb
     simp[execOp,cK,resolve,invoke,builtin,Builtin.max_,jd,jb]
 ·simp at hs
theorem LK (off:Nat):∀(vc:List Value) (n:Nat) (cs:Array Value) (k:Nat),off+n+vc.length≤cs.size →
  ((vc.zipIdx n).foldl (λ(cs:Array Value) (x:Value×Nat)=>cs.setIfInBounds (off+x.2) x.1) cs)[k]? = if off+n≤k∧k<off+n+vc.length then vc[k - (off+n)]? else cs[k]?
 | [],n,cs,k,_=>by simp; omega
 | v :: vc, n, cs, k, hn => by
   simp only[bi] at hn
   simp only[List.zipIdx_cons,List.foldl_cons]
   rw[LK off vc (n+1) _ k (by simp; omega)]
   simp only[bi]
   by_cases h1:k=off+n
   ·subst h1
    rw[af (by omega),ah (by omega)]
    simp[aY]
    omega
   ·by_cases h2:off+n≤k∧k<off+n+(vc.length+1)
    ·rw[ah (by omega),ah h2]
     rw[show k - (off+n)=(k - (off+(n+1)))+1 by omega]
     simp
    ·rw[af (by omega),af h2]
     simp[aY,Ne.symm h1]
theorem LL (off:Nat) (vc:Array Value) (cs:Array Value) (h:off+vc.size≤cs.size):
  (vc.zipIdx.foldl (λ(cs:Array Value) (x:Value×Nat)=>cs.setIfInBounds (off+x.2) x.1) cs).toList=cs.toList.take off++(vc.toList++cs.toList.drop (off+vc.size)):=by
 apply b9
 intro k
 have hg:=LK off vc.toList 0 cs k (by simpa using h)
 have he:vc.zipIdx.foldl (λ(cs:Array Value) (x:Value×Nat)=>cs.setIfInBounds (off+x.2) x.1) cs=(vc.toList.zipIdx 0).foldl (λ(cs:Array Value) (x:Value×Nat)=>cs.setIfInBounds (off+x.2) x.1) cs:=by
  rw[← Array.foldl_toList]; simp
 rw[he,bP,hg]
 simp only[br,aV]
 by_cases h1:k<off
 ·rw[af (by omega),am (by simp; omega),aQ,ah h1,bP]
 ·rw[ap (by simp; omega)]
  have sG:(cs.toList.take off).length=off:=by simp; omega
  rw[sG]
  by_cases h2:k<off+vc.size
  ·rw[ah ⟨by omega,h2⟩,am (by simp; omega)]
  ·rw[af (by omega),ap (by simp; omega),aU,bP]
   congr 1
   simp; omega
theorem LM (hE:EnvOk E N) (hf:FI N w G st a vs (wq vs ops)) {place:Nat→Option (Nat×Nat)}:∀{parts:List (Nat×Operand)} {ps:List (Nat×Nat×PX)} {qs:List (Nat×Nat×PV)} {zs rs:List PV} {cs:Array Value},
  CW E vs ops place parts=some ps→rdParts st ps=some qs→BB zs qs=some rs→CellsR N w G.fix G.heap cs.toList zs →
  OwnNil cs.toList zs→∃ds,Instr.fill place cs (parts.map λ(i,x)=>(i,a.eval x))=some ds∧CellsR N w G.fix G.heap ds.toList rs∧OwnNil ds.toList rs
 | [], ps, qs, zs, rs, cs, hc, hr, wV, hR, hO => by
   simp[CW] at hc; subst hc
   simp[rdParts] at hr; subst hr
   simp[BB] at wV; subst wV
   exact⟨cs,rfl,hR,hO⟩
 | (i, x) :: parts, ps, qs, zs, rs, cs, hc, hr, wV, hR, hO => by
   simp only[CW,ai] at hc
   obtain⟨p,hp,hc⟩:=hc
   split at hc
   ·simp at hc
   ·rename_i qf
    simp only[ai,ab] at hc
    obtain⟨px,fL,ps',d9,rfl⟩:=hc
    simp only[rdParts,ai,ab] at hr
    obtain⟨v,hv,qs',jW,rfl⟩:=hr
    simp only[BB] at wV
    split at wV
    ·rename_i cP
     have cR:=(wW hE fL hf hv).1
     have dj:=CellsR.of_cells cR (by intro e; rw[e] at cP; simp at cP; omega)
     have cQ:(a.eval x).cells.size=p.2:=by have:=dj.1; simp at this; omega
     have el:p.1+(a.eval x).cells.size≤cs.size:=by have:=hR.1; simp at this; omega
     have ft:CellsR N w G.fix G.heap ((a.eval x).cells.zipIdx.foldl (λ(cs:Array Value) (y:Value×Nat)=>cs.setIfInBounds (p.1+y.2) y.1) cs).toList (zs.take p.1++(v.cells.map dem++zs.drop (p.1+p.2))):=by
      rw[LL _ _ _ el,cQ]
      exact(hR.take _).append (dj.dem.append (hR.drop _))
     have pJ:OwnNil ((a.eval x).cells.zipIdx.foldl (λ(cs:Array Value) (y:Value×Nat)=>cs.setIfInBounds (p.1+y.2) y.1) cs).toList (zs.take p.1++(v.cells.map dem++zs.drop (p.1+p.2))):=by
      rw[LL _ _ _ el,cQ]
      refine(hO.take _).append ?_ ((OwnNil.dem _ _).append ?_ (hO.drop _))
      ·have:=hR.1; simp at this ⊢; omega
      ·have:=dj.1; simpa using this
     obtain⟨ds,h1,h2⟩:=LM hE hf d9 jW wV ft pJ
     refine⟨ds,?_,h2⟩
     simp only[aG,Instr.fill,hp]
     rw[af (by simp[cQ]; omega)]
     exact h1
    ·simp at wV
theorem Ct {fix:Nat→Nat→Prop} {hp:Nat→Option Nat} {t:TypeId} {z:List PV} (h:yE P t=some z):
  ∃i zv,P.info? t=some i∧i.zero=some zv∧i.size≠0∧z.length=i.size∧CellsR N w fix hp zv.cells.toList z∧OwnNil zv.cells.toList z:=by
 unfold yE at h
 split at h
 ·rename_i i hi
  split at h
  ·rename_i zv hz
   simp only[ai] at h
   obtain⟨cs,ea,h⟩:=h
   split at h
   ·rename_i cP
    simp at h; subst h
    obtain⟨h1,h2,h3⟩:=LF (N:=N) (w:=w) (fix:=fix) (hp:=hp) ea
    exact⟨i,zv,hi,hz,cP.2,cP.1,⟨h1,h2,h3⟩,λk c es hc he=>EH ea k c es hc he⟩
   ·simp at h
  ·simp at h
 ·simp at h
theorem b9h (hE:EnvOk E N) (nm:Names vs (wq vs ops)) (ho:ops[j]? = some o) (hf:FI N w G st a vs (wq vs ops)) {t:TypeId} {parts:Array (Nat×Operand)} {fs:Array Field} {places:List (Nat×Nat)} {z:List PV} {ps:List (Nat×Nat×PX)}
  (cK:o.op = .build t parts) (hu:P.underlying t=some (.struct fs)) (hz:yE P t=some z) (gl:fs.toList.mapM (λf=>(P.info? f.type).map λi=>(f.offset,i.size))=some places)
  (hc:CW E vs ops (places.toArray[·]?) parts.toList=some ps) {cf:wE} (hs:opv cf (.build z ps) st=some (u,st1)) (hk:wN N w G a st1 u vs ops j o next):o.wp P a w next Q:=by
 simp only[opv,ab,ai,ac] at hs
 obtain⟨rs,⟨qs,hq,wV⟩,rfl,rfl⟩:=hs
 obtain⟨i,zv,hi,jE,_,_,hR,hO⟩:=Ct (N:=N) (w:=w) (fix:=G.fix) (hp:=G.heap) hz
 obtain⟨ds,h1,h2,h3⟩:=LM hE hf hc hq wV hR hO
 refine wZ nm ho hf (v := .agg ds) ?_ (SR.of_pure (by simpa using h2.agg h3) rfl) hk
 have hb:P.built t (parts.map λ(i,x)=>(i,a.eval x)).toList=some ds:=by
  simp only[Program.built,hi,hu,jE,gl]
  simpa using h1
 simp[execOp,cK,run_build w t _ ds hb]
end
def GS.give (G:GS) (b:Nat) (k:Key):GS:={ G with ow:=λx=>if x=b then some k else G.ow x }
section
variable {E:Env} {N:Nm} {w:World} {G:GS} {st:St} {a:Act} {vs:List Tmp} {ops:List Oper} {P:Program}
variable {o:Oper} {j:Nat} {next:Act→World→Prop} {Q:Exit→Act→World→Prop} {u:PV} {st1:St}
theorem FI.src (hf:FI N w G st a vs (wq vs ops)) {px:PX} {es:List PV} {G':GS} {w':World} (fL:∀p,px≠.c p) (hr:raw st px=some (.list true es))
  (e:Ext w G w' G') (hk:xO (λk=>k=zJ px) w G w' G') (hg:∀g b,G'.box g=some b→g<st.gen) (ho:∀b k,G'.ow b=some k→b<w'.heap.size) (hx:∀b o,G'.fix b o→b<w'.heap.size) (hh:G'.heap=G.heap):
  FI N w' G' (Bz st px (.list false es)) a vs (wq vs ops):=by
 cases px with
 | c p=>exact absurd rfl (fL p)
 | v i =>
   refine⟨by simp[Bz,hf.len],?_,?_,hf.tv,hf.tl,(hf.defers.trans e.df.symm),hg,ho,hx,hf.heap.keep e hk (by intro k hk e; subst e; simp[zJ,Key.isH] at hk),by rw[hh]; exact hf.hdom⟩
   ·intro i' t u h1 h2
    simp only[Bz,aJ] at h2
    split at h2
    ·rename_i hi
     subst hi
     split at h2
     ·simp at h2; subst h2
      exact((hf.var i t _ h1 hr).1.dem).ext e
     ·simp at h2
    ·rename_i hi
     exact(hf.var i' t u h1 h2).keep e hk (by simp[zJ]; omega) (by simp[zJ])
   ·intro i' t u h1 h2
    exact(hf.loc i' t u h1 h2).keep e hk (by simp[zJ]) (by simp[zJ])
 | l i =>
   refine⟨hf.len,?_,?_,hf.tv,hf.tl,(hf.defers.trans e.df.symm),hg,ho,hx,hf.heap.keep e hk (by intro k hk e; subst e; simp[zJ,Key.isH] at hk),by rw[hh]; exact hf.hdom⟩
   ·intro i' t u h1 h2
    exact(hf.var i' t u h1 h2).keep e hk (by simp[zJ]) (by simp[zJ])
   ·intro i' t u h1 h2
    simp only[Bz,aJ] at h2
    split at h2
    ·rename_i hi
     subst hi
     split at h2
     ·simp at h2; subst h2
      exact((hf.loc i t _ h1 hr).1.dem).ext e
     ·simp at h2
    ·rename_i hi
     exact(hf.loc i' t u h1 h2).keep e hk (by simp[zJ]; omega) (by simp[zJ])
theorem Ih (b:Nat) (k:Key) (h:b<w.heap.size→G.ow b≠none):Ext w G w (G.give b k):=by
 refine⟨rfl,rfl,rfl,aq _,λ_ _ _=>rfl,λ_ _ h=>⟨h,rfl⟩,λ_ _ h => .inl h,?_,λ_ _ h=>h,ShapeLe.refl w,rfl⟩
 intro x hx
 simp only[GS.give] at hx
 split at hx
 ·rename_i gA
  subst gA
  by_cases cO:x<w.heap.size
  ·exact .inr (h cO)
  ·exact .inl (by omega)
 ·exact .inr hx
theorem Ii (b:Nat) (k:Key) {K:Key→Prop} (h:∀k',G.ow b=some k'→K k'):xO K w G w (G.give b k):=by
 refine⟨?_,λ_ _ h=>h⟩
 intro x k' hx hn
 refine⟨?_,rfl,λ_ h=>h⟩
 simp only[GS.give]
 split
 ·rename_i gA
  subst gA
  exact absurd (h k' hx) hn
 ·exact hx
theorem Room.give {key key':Key} {v:Value} {es:List PV} (h:Room w G key v es):
  ∃G',(G'=G∨∃b,G.ow b=some key∧G'=G.give b key')∧Room w G' key' v es:=by
 unfold Room at h
 split at h
 ·rename_i a len cap
  rcases h with h|⟨ho,sz,cs,T,h1,h2,h3,h4,h5⟩
  ·exact⟨G,.inl rfl,.inl h⟩
  ·exact⟨G.give a.block key',.inr ⟨_,ho,rfl⟩,.inr ⟨by simp[GS.give],sz,cs,T,h1,h2,h3,h4,h5⟩⟩
 ·rename_i hx
  refine⟨G,.inl rfl,?_⟩
  unfold Room
  split
  ·rename_i a len cap; exact absurd rfl (hx _ _ _)
  ·trivial
def Ij (w:World) (G:GS) (key:Key) (v:Value):PV→Prop
 | .list true es=>Room w G key v es
 | u=>cp u=some u
theorem EJ (hE:EnvOk E N) {x:Operand} {px:PX} (hc:cx E vs ops x=some px) (hf:FI N w G st a vs (wq vs ops)) (ht:tk st px=some (u,st1)) (key:Key):
  ∃ G', FI N w G' st1 a vs (wq vs ops) ∧ Ext w G w G' ∧ G'.box = G.box ∧ G'.fix = G.fix ∧ G'.heap = G.heap ∧ VR N w G.fix G.heap (a.eval x) u ∧
    Ij w G' key (a.eval x) u∧(∀b,G'.ow b=G.ow b∨(G.ow b=some (zJ px)∧G'.ow b=some key))∧st1.gen=st.gen∧st1.heap=st.heap:=by
 unfold tk at ht
 split at ht
 ·rename_i es hr
  simp only[aa,ac] at ht
  obtain⟨rfl,rfl⟩:=ht
  have hs:=BZ hE hc hf hr
  obtain⟨hv,dA⟩:=hs
  by_cases fL:∃p,px = .c p
  ·obtain⟨p,rfl⟩:=fL
   simp only[raw,aa] at hr
   subst hr
   refine⟨G,hf,Ext.refl _ _,rfl,rfl,rfl,hv,?_,λ_ => .inl rfl,rfl,rfl⟩
   cases x with
   | tmp t=>simp only[cx] at hc; split at hc<;>simp at hc
   | const v =>
     simp only[cx] at hc
     split at hc
     ·simp at hc
     simp only[ab] at hc
     obtain⟨q,hq,ub⟩:=hc
     simp at ub; subst ub
     rcases LG hq with⟨es',_,rfl⟩|h
     ·exact True.intro
     ·simp[cp] at h
   | global g=>simp[cx] at hc
   | func f =>
     simp only[cx,ab] at hc
     obtain⟨k,_,hk⟩:=hc
     simp at hk
  ·obtain⟨G',hG,fu⟩:=dA.give (key':=key)
   have hg:G'.box=G.box∧G'.fix=G.fix∧G'.heap=G.heap:=by
    rcases hG with rfl|⟨b,_,rfl⟩<;>exact⟨rfl,rfl,rfl⟩
   have cH:Ext w G w G':=by
    rcases hG with rfl|⟨b,hb,rfl⟩
    ·exact Ext.refl _ _
    ·exact Ih b key (λ_=>by simp[hb])
   have cM:xO (λk=>k=zJ px) w G w G':=by
    rcases hG with rfl|⟨b,hb,rfl⟩
    ·exact⟨λb k h _=>⟨h,rfl,λ_ h=>h⟩,λ_ _ h=>h⟩
    ·exact Ii b key (λk' dh=>by rw[hb] at dh; simpa using dh.symm)
   have how:∀b,G'.ow b=G.ow b∨(G.ow b=some (zJ px)∧G'.ow b=some key):=by
    intro b
    rcases hG with rfl|⟨b',hb,rfl⟩
    ·exact .inl rfl
    ·simp only[GS.give]
     split
     ·subst_vars; exact .inr ⟨hb,rfl⟩
     ·exact .inl rfl
   refine⟨G',?_,cH,hg.1,hg.2.1,hg.2.2,hv,fu,how,?_,?_⟩
   ·refine hf.src (λp hp=>fL ⟨p,hp⟩) hr cH cM (by rw[hg.1]; exact hf.gen) ?_ (by rw[hg.2.1]; exact hf.fixlt) hg.2.2
    intro b k hb
    rcases how b with h|⟨h,_⟩
    ·exact hf.owlt b k (h▸hb)
    ·exact hf.owlt b _ h
   ·cases px<;>rfl
   ·cases px<;>rfl
 ·rename_i v mK hr
  simp only[ab,ac] at ht
  obtain⟨r,eG,rfl,rfl⟩:=ht
  obtain⟨h1,h2⟩:=(BZ hE hc hf hr).read eG
  refine⟨G,hf,Ext.refl _ _,rfl,rfl,rfl,h1,?_,λ_ => .inl rfl,rfl,rfl⟩
  unfold Ij
  split
  ·simp[cp] at h2
  ·exact h2
 ·simp at ht
theorem SR.of_taken {key:Key} {v:Value} {u:PV} (h:VR N w G.fix G.heap v u) (hm:Ij w G key v u):SR N w G key v u:=by
 unfold Ij at hm
 split at hm
 ·exact⟨h,hm⟩
 ·exact SR.of_pure h hm
theorem QH (hE:EnvOk E N) (nm:Names vs (wq vs ops)) (ho:ops[j]? = some o) (hf:FI N w G st a vs (wq vs ops)) {x:Operand} {px:PX} (hx:(execOp a.eval o).run P w = .ok (.value (a.eval x)) w)
  (hc:cx E vs ops x=some px) (hs:tk st px=some (u,st1)) (hk:wN N w G a st1 u vs ops j o next):o.wp P a w next Q:=by
 obtain⟨G',h1,h2,h3,h4,h5,h6,h7,_⟩:=EJ hE hc hf hs (yA (wS vs o.dst) j)
 unfold Oper.wp
 rw[hx]
 refine hk _ _ G' (h1.put nm (zK ho) (SR.of_taken ?_ h7)) h2 (zL _ _ _)
 rw[h4,h5]; exact h6
theorem Dl {w:World} {ob:Obj} {b o:Nat} (h:b<w.heap.size):(w.alloc ob).cell? ⟨b,o,none⟩=w.cell? ⟨b,o,none⟩:=World.cell?_alloc_lt w ob _ h
theorem zt {w:World} {ob:Obj} {b:Nat} (h:b<w.heap.size):(w.alloc ob).heap[b]? = w.heap[b]? := by
 simp only[World.alloc,Array.getElem?_push]
 rw[af (by omega)]
theorem Bg {w:World} {ob:Obj}:(w.alloc ob).heap[w.heap.size]? = some ob:=by unfold World.alloc; simp only[Array.getElem?_push_size]
theorem QI (nm:Names vs (wq vs ops)) (ho:ops[j]? = some o) (hf:FI N w G st a vs (wq vs ops)) {cs:Array Value} {ps:List PV} {T:TypeId} {i:Nat} (hd:wS vs o.dst = .v i)
  (cL:(execOp a.eval o).run P w = .ok (.value (.pointer (some ⟨w.heap.size,0,none⟩))) (w.alloc (.cells cs T)))
  (hR:∀(k:Nat) (c:Value) (x:PV),cs[k]? = some c→ps[k]? = some x→VR N w G.fix G.heap c x∧x.flat=true∧(∀es,x = .list true es→c = .slice none 0 0)) (hl:cs.size=ps.length)
  (hk:wN N w G a { st with gen:=st.gen+1 } (.loc st.gen ps) vs ops j o next):o.wp P a w next Q:=by
 unfold Oper.wp
 rw[cL]
 have vU:G.ow w.heap.size=none:=by
  cases h:G.ow w.heap.size with
  | none=>rfl
  | some k=>have:=hf.owlt _ _ h; omega
 have fJ:∀o,¬G.fix w.heap.size o:=λo h=>by have:=hf.fixlt _ _ h; omega
 let G':GS:={ G with ow:=λx=>if x=w.heap.size then some (.var i) else G.ow x,box:=λg=>if g=st.gen then some w.heap.size else G.box g }
 have cH:Ext w G (w.alloc (.cells cs T)) G':=by
  refine⟨rfl,rfl,rfl,by simp,λb hb _=>zt hb,λb o h=>⟨h,Dl (hf.fixlt _ _ h)⟩,λ_ _ h => .inl h,?_,λ_ _ h=>h,.same λk hk=>zt hk,rfl⟩
  intro b hb
  by_cases cO:b<w.heap.size
  ·refine .inr ?_
   simp only[G'] at hb
   rw[af (by omega)] at hb
   exact hb
  ·exact .inl (by omega)
 have cM:xO (λ_=>False) w G (w.alloc (.cells cs T)) G':=by
  refine⟨?_,?_⟩
  ·intro b k hb _
   have cO:=hf.owlt _ _ hb
   refine⟨?_,zt cO,λ_ h=>h⟩
   simp only[G']
   rw[af (by omega)]; exact hb
  ·intro g b hb
   have:=hf.gen _ _ hb
   simp only[G']
   rw[af (by omega)]; exact hb
 have de:FI N (w.alloc (.cells cs T)) G' { st with gen:=st.gen+1 } a vs (wq vs ops):=by
  refine⟨hf.len,λi t u h1 h2=>(hf.var i t u h1 h2).keep cH cM (λh=>h) (λ_ _ _ h=>h),λj t u h1 h2=>(hf.loc j t u h1 h2).keep cH cM (λh=>h) (λ_ _ _ h=>h),hf.tv,hf.tl,hf.defers,?_,?_,?_,hf.heap.keep cH cM (λ_ _ h=>h),hf.hdom⟩
  ·intro g b hb
   simp only[G'] at hb
   split at hb
   ·simp; omega
   ·have:=hf.gen _ _ hb; simp; omega
  ·intro b k hb
   simp only[G'] at hb
   split at hb
   ·simp; omega
   ·have:=hf.owlt _ _ hb; simp; omega
  ·intro b o h; have:=hf.fixlt _ _ h; simp; omega
 refine hk _ _ G' (de.put nm (zK ho) ?_) cH (zL _ _ _)
 rw[hd]
 refine⟨w.heap.size,i,rfl,rfl,by simp[G'],by simp[G',yA],fJ,cs,T,Bg,hl,?_⟩
 intro k c x hc hx
 obtain⟨h1,h2,h3⟩:=hR k c x hc hx
 refine⟨h1.ext cH,h2,?_⟩
 split
 ·rename_i es
  have:=h3 es rfl
  subst this
  trivial
 ·trivial
theorem QJ {d:PD} (h:CA d=true):∃i,d = .v i:=by
 cases d with
 | v i=>exact⟨i,rfl⟩
 | l=>simp[CA] at h
 | n=>simp[CA] at h
theorem b8e (nm:Names vs (wq vs ops)) (ho:ops[j]? = some o) (hf:FI N w G st a vs (wq vs ops)) {t:TypeId} {z:List PV} (cK:o.op = .alloc t) (hz:yE P t=some z) (hd:CA (wS vs o.dst)=true) {cf:wE}
  (hs:opv cf (.newloc z) st=some (u,st1)) (hk:wN N w G a st1 u vs ops j o next):o.wp P a w next Q:=by
 simp only[opv,aa,ac] at hs
 obtain⟨rfl,rfl⟩:=hs
 obtain⟨i,hi⟩:=QJ hd
 obtain⟨ti,zv,h1,h2,h3,h4,h5,_⟩:=Ct (N:=N) (w:=w) (fix:=G.fix) (hp:=G.heap) hz
 refine QI (cs:=zv.cells) (ps:=z) (T:=t) nm ho hf hi ?_ ?_ ?_ hk
 ·simp[execOp,cK,Instr.alloc,zeroValue,typeInfo,h1,h2,newVar,newRow]
 ·intro k c x hc hx
  refine⟨h5.2.2 k c x (by simpa using hc) hx,h5.2.1 x (aw hx),?_⟩
  rintro es rfl
  unfold yE at hz
  simp only[h1,h2,ai] at hz
  obtain⟨cs',ea,hz⟩:=hz
  split at hz
  ·simp at hz; subst hz
   exact EH ea k c es (by simpa using hc) hx
  ·simp at hz
 ·have:=h5.1; simpa using this
theorem b8f (hE:EnvOk E N) (nm:Names vs (wq vs ops)) (ho:ops[j]? = some o) (hf:FI N w G st a vs (wq vs ops)) {t:TypeId} {n:Nat} {x:Operand} {px:PX} (cK:o.op = .box t x) (hn:wT P t=some n) (hx:cx E vs ops x=some px)
  (hd:CA (wS vs o.dst)=true) {cf:wE} (hs:opv cf (.boxloc n px) st=some (u,st1)) (hk:wN N w G a st1 u vs ops j o next):o.wp P a w next Q:=by
 simp only[opv] at hs
 split at hs
 ·rename_i p hp
  split at hs
  ·rename_i hl
   simp only[aa,ac] at hs
   obtain⟨rfl,rfl⟩:=hs
   obtain⟨i,hi⟩:=QJ hd
   obtain⟨_,_,_,_,eP,_⟩:=zu hn
   have hv:=(wW hE hx hf hp).1
   have dj:=(CellsR.of_cells hv (by intro e; rw[e] at hl; simp at hl; omega)).dem
   refine QI (cs:=(a.eval x).cells) (ps:=p.cells.map dem) (T:=t) nm ho hf hi ?_ ?_ ?_ hk
   ·simp[execOp,cK,Instr.box,newVar,newRow]
   ·intro k c y hc hy
    refine⟨dj.2.2 k c y (by simpa using hc) hy,dj.2.1 y (aw hy),?_⟩
    rintro es rfl
    simp only[aB,ab] at hy
    obtain⟨q,_,hq⟩:=hy
    cases q<;>simp[dem] at hq
   ·have:=dj.1; simpa using this
  ·simp at hs
 ·simp at hs
end
section
variable {E:Env} {N:Nm} {w:World} {G:GS} {st:St} {a:Act} {vs:List Tmp} {ops:List Oper} {P:Program}
variable {o:Oper} {j:Nat} {next:Act→World→Prop} {Q:Exit→Act→World→Prop} {u:PV} {st1:St}
def Gh (N:Nm) (w:World) (fix:Nat→Nat→Prop) (hp:Nat→Option Nat) (size:Nat) (cs:Array Value) (es:List PV):Prop:=
 cs.size=es.length*size∧∀(i:Nat) (e:PV),es[i]? = some e→e.cells.length=size∧(∀x∈e.cells,x.flat=true) ∧
  ∀(k:Nat) (c:Value) (x:PV),cs[i*size+k]? = some c→e.cells[k]? = some x→VR N w fix hp c x
theorem Ik {i n k size:Nat} (hi:i<n) (hk:k<size):i*size+k<n*size:=by
 have:(i+1)*size≤n*size:=bm _ hi
 rw[aP] at this; omega
theorem c1j (v:PV):(Aa v).cells=v.cells.map PI.dem:=by
 cases v<;>rfl
theorem QK (hE:EnvOk E N) (hf:FI N w G st a vs (wq vs ops)) {size:Nat} (fE:size≠0):∀{parts:List (Nat×Operand)} {ps:List (Nat×PX)} {qs:List (Nat×PV)} {zs rs:List PV} {cs:Array Value},
  D1 E vs ops parts=some ps→rdElems st ps=some qs→CJ size zs qs=some rs→Gh N w G.fix G.heap size cs zs →
  ∃ds,Instr.fill (λi=>some (i*size,size)) cs (parts.map λ(i,x)=>(i,a.eval x))=some ds∧Gh N w G.fix G.heap size ds rs∧rs.length=zs.length
 | [], ps, qs, zs, rs, cs, hc, hr, wV, hR => by
   simp[D1] at hc; subst hc
   simp[rdElems] at hr; subst hr
   simp[CJ] at wV; subst wV
   exact⟨cs,rfl,hR,rfl⟩
 | (i, x) :: parts, ps, qs, zs, rs, cs, hc, hr, wV, hR => by
   simp only[D1,ai,ab] at hc
   obtain⟨px,fL,ps',d9,rfl⟩:=hc
   simp only[rdElems,ai,ab] at hr
   obtain⟨v,hv,qs',jW,rfl⟩:=hr
   simp only[CJ] at wV
   split at wV
   ·rename_i cP
    have cR:=(wW hE fL hf hv).1
    have dj:=CellsR.of_cells cR (by intro e; rw[e] at cP; simp at cP; omega)
    have cQ:(a.eval x).cells.size=size:=by have:=dj.1; simp at this; omega
    have el:i*size+(a.eval x).cells.size≤cs.size:=by
     rw[hR.1,cQ]
     have:(i+1)*size≤zs.length*size:=bm _ cP.2
     rw[aP] at this; omega
    have ft:Gh N w G.fix G.heap size ((a.eval x).cells.zipIdx.foldl (λ(cs:Array Value) (y:Value×Nat)=>cs.setIfInBounds (i*size+y.2) y.1) cs) (zs.set i (Aa v)):=by
     have hl:=LL (i*size) (a.eval x).cells cs el
     have xF:∀k,((a.eval x).cells.zipIdx.foldl (λ(cs:Array Value) (y:Value×Nat)=>cs.setIfInBounds (i*size+y.2) y.1) cs)[k]? = if i*size≤k∧k<i*size+size then(a.eval x).cells[k - i*size]? else cs[k]? := by
      intro k
      have hg:=LK (i*size) (a.eval x).cells.toList 0 cs k (by simpa using el)
      have he:(a.eval x).cells.zipIdx.foldl (λ(cs:Array Value) (y:Value×Nat)=>cs.setIfInBounds (i*size+y.2) y.1) cs=((a.eval x).cells.toList.zipIdx 0).foldl (λ(cs:Array Value) (y:Value×Nat)=>cs.setIfInBounds (i*size+y.2) y.1) cs:=by
       rw[← Array.foldl_toList]; simp
      rw[he,hg]
      simp[cQ]
     refine⟨?_,?_⟩
     ·have:=aH List.length hl
      rw[aV,av,av,bG,cz,aV,aV] at this
      rw[bM,← hR.1,this]
      omega
     ·intro i' e' dB
      rw[aJ] at dB
      split at dB
      ·rename_i fG
       subst fG
       rw[ah cP.2] at dB
       simp at dB; subst dB
       rw[c1j]
       refine⟨by rw[aS]; exact cP.1,dj.dem.2.1,?_⟩
       intro k c y hc hy
       have hk:k<size:=by have:=(aj.1 hy).1; rw[aS] at this; omega
       rw[xF,ah ⟨by omega,by omega⟩,show i*size+k - i*size=k by omega] at hc
       exact dj.dem.2.2 k c y (by simpa using hc) hy
      ·rename_i fG
       obtain⟨h1,h2,h3⟩:=hR.2 i' e' dB
       refine⟨h1,h2,?_⟩
       intro k c y hc hy
       have hk:k<size:=by have:=(aj.1 hy).1; omega
       have sH:¬(i*size≤i'*size+k∧i'*size+k<i*size+size):=by
        rintro⟨ha,hb⟩
        rcases Nat.lt_or_gt_of_ne fG with h|h
        ·have:(i+1)*size≤i'*size:=bm _ h
         rw[aP] at this; omega
        ·have:(i'+1)*size≤i*size:=bm _ h
         rw[aP] at this; omega
       rw[xF,af sH] at hc
       exact h3 k c y hc hy
    obtain⟨ds,h1,h2,h3⟩:=QK hE hf fE d9 jW wV ft
    refine⟨ds,?_,h2,by rw[h3,bM]⟩
    simp only[aG,Instr.fill]
    rw[af (by simp[cQ]; omega)]
    exact h1
   ·simp at wV
theorem c28 (nm:Names vs (wq vs ops)) (ho:ops[j]? = some o) (hf:FI N w G st a vs (wq vs ops)) {cs:Array Value} {es:List PV} {T:TypeId} {size:Nat} (hR:Gh N w G.fix G.heap size cs es)
  (cL:(execOp a.eval o).run P w = .ok (.value (.slice (some ⟨w.heap.size,0,none⟩) es.length es.length)) (w.alloc (.cells cs T)))
  (hk:wN N w G a st (.list true es) vs ops j o next):o.wp P a w next Q:=by
 unfold Oper.wp
 rw[cL]
 have fJ:∀o,¬G.fix w.heap.size o:=λo h=>by have:=hf.fixlt _ _ h; omega
 let G':GS:={ G with fix:=λb o=>G.fix b o∨b=w.heap.size }
 have cH:Ext w G (w.alloc (.cells cs T)) G':=by
  refine⟨rfl,rfl,rfl,by simp,λb hb _=>zt hb,λb o h=>⟨.inl h,Dl (hf.fixlt _ _ h)⟩,?_,λ_ h => .inr h,λ_ _ h=>h,.same λk hk=>zt hk,rfl⟩
  rintro b o (h|h)
  ·exact .inl h
  ·exact .inr (.inl (by omega))
 have cM:xO (λ_=>False) w G (w.alloc (.cells cs T)) G':=by
  refine⟨?_,λ_ _ h=>h⟩
  intro b k hb _
  have cO:=hf.owlt _ _ hb
  refine⟨hb,zt cO,?_⟩
  rintro o (h|h)
  ·exact h
  ·omega
 have de:=hf.ext (G':=G') cH cM hf.gen (λb k hb=>by have:=hf.owlt b k hb; simp; omega) (by
  rintro b o (h|h)
  ·have:=hf.fixlt _ _ h; simp; omega
  ·simp; omega)
 refine hk _ _ G' (de.put nm (zK ho) ⟨?_,.inl rfl⟩) cH (zL _ _ _)
 refine .list true w.heap.size 0 es.length es.length size es (λk=>cs.getD k undef) rfl (aq _) ?_ ?_ ?_ ?_
 ·intro e he
  obtain⟨i,hi⟩:=be.1 he
  exact(hR.2 i e hi).1
 ·intro e he
  obtain⟨i,hi⟩:=be.1 he
  exact(hR.2 i e hi).2.1
 ·intro k hk
  rw[← hR.1] at hk
  refine⟨?_,.inr rfl⟩
  rw[aK,World.cell?_alloc_new]
  simp[hk]
 ·intro i e he k x hx
  obtain⟨h1,h2,h3⟩:=hR.2 i e he
  have hk:k<size:=by have:=(aj.1 hx).1; omega
  have hi:i<es.length:=(aj.1 he).1
  have cO:i*size+k<cs.size:=by rw[hR.1]; exact Ik hi hk
  have:=h3 k cs[i*size+k] x (by simp[cO]) hx
  simp only[aM,Array.getElem?_eq_getElem cO,bJ]
  exact this.ext cH
theorem b6x (hE:EnvOk E N) (nm:Names vs (wq vs ops)) (ho:ops[j]? = some o) (hf:FI N w G st a vs (wq vs ops)) {t e:TypeId} {len size:Nat} {parts:Array (Nat×Operand)} {z:List PV} {ps:List (Nat×PX)}
  (cK:o.op = .buildSlice t len parts) (hu:P.underlying t=some (.slice e)) (hn:wT P e=some size) (hz:yE P e=some z) (cI:len*size≤16777216) (hc:D1 E vs ops parts.toList=some ps) {cf:wE}
  (hs:opv cf (.mkslice size (if xu P e then .agg z else z.headD .dead) len ps) st=some (u,st1)) (hk:wN N w G a st1 u vs ops j o next):o.wp P a w next Q:=by
 simp only[opv,ab,ai,ac] at hs
 obtain⟨rs,⟨qs,hq,wV⟩,rfl,rfl⟩:=hs
 obtain⟨ti,zv,h1,h2,h3,h4,h5,_⟩:=Ct (N:=N) (w:=w) (fix:=G.fix) (hp:=G.heap) hz
 obtain⟨ti',d,jZ,vV,fE,hd⟩:=zu hn
 have jB:ti'=ti:=by rw[h1] at jZ; simpa using jZ.symm
 subst jB
 have gB:zv.cells.size=size:=by have:=h5.1; simp at this; omega
 have vW:(if xu P e then PV.agg z else z.headD .dead).cells=z:=by
  split
  ·rfl
  ·rename_i fy
   have d4:=B4 hn (by simpa using fy)
   match z,h4 with
   | [],h=>simp at h; omega
   | [p], _ =>
     have:=h5.2.1 p (by simp)
     cases p<;>first|rfl|simp[PV.flat] at this
   | _::_::_,h=>simp at h; omega
 let cs0:Array Value:=(Array.range (len*size)).map (zv.cells[· % zv.cells.size]!)
 have vX:Gh N w G.fix G.heap size cs0 (List.replicate len (if xu P e then PV.agg z else z.headD .dead)):=by
  refine⟨by simp[cs0],?_⟩
  intro i x hx
  have eA:=cr.symm.trans hx
  split at eA
  ·rename_i hi
   simp only[aa] at eA
   rw[← eA,vW]
   refine⟨by omega,h5.2.1,?_⟩
   intro k c y eH hy
   have hk:k<size:=by have:=(aj.1 hy).1; omega
   have cO:i*size+k<len*size:=Ik hi hk
   have jg:(i*size+k) % size=k:=by
    rw[Nat.add_comm,Nat.mul_comm,Nat.add_mul_mod_self_left]; exact Nat.mod_eq_of_lt hk
   simp only[cs0,bN,Array.getElem?_range,cO,if_true,az,aa,gB,jg] at eH
   have dh:k<zv.cells.size:=by omega
   rw[getElem!_pos zv.cells k dh] at eH
   exact h5.2.2 k c y (by rw[← eH]; simp[dh]) hy
  ·simp at eA
 obtain⟨ds,ml,hR,iK⟩:=QK hE hf fE hc hq wV vX
 have hl:rs.length=len:=by simpa using iK
 refine c28 (cs:=ds) (T:=e) nm ho hf hR ?_ hk
 rw[hl]
 have sI:¬(len*size>2 ^ 24):=by
  have:(2:Nat) ^ 24=16777216:=by decide
  omega
 have gl:(parts.map λ(i,x)=>(i,a.eval x)).toList=parts.toList.map λ(i,x)=>(i,a.eval x):=by simp
 have sJ:(Instr.buildSlice t len (parts.map λ(i,x)=>(i,a.eval x))).run P w = .ok (.slice (some ⟨w.heap.size,0,none⟩) len len) (w.alloc (.cells ds e)):=by
  unfold Instr.buildSlice
  simp only[Sem.run_bind,run_underlying hu,Result.andThen_ok,z8 hn,af sI]
  by_cases h0:len*size=0
  ·have kA:(Array.range (len*size)).map ((#[]:Array Value)[· % (#[]:Array Value).size]!)=cs0:=by simp[h0,cs0]
   simp only[ah h0,Sem.run_bind,Sem.run_pure,Result.andThen_ok,kA,gl,ml]
   simp[newRow]
  ·simp only[af h0,Sem.run_bind,Sem.run_pure,Result.andThen_ok,zeroValue,typeInfo,run_program,h1,h2,gl]
   have:Instr.fill (λi=>some (i*size,size)) ((Array.range (len*size)).map (zv.cells[· % zv.cells.size]!)) (parts.toList.map λ(i,x)=>(i,a.eval x))=some ds:=ml
   rw[this]
   simp[newRow]
 simp[execOp,cK,sJ]
end
section
variable {E:Env} {N:Nm} {w:World} {G:GS} {st:St} {a:Act} {vs:List Tmp} {ops:List Oper} {P:Program}
variable {o:Oper} {j:Nat} {next:Act→World→Prop} {Q:Exit→Act→World→Prop} {u:PV} {st1:St}
theorem Il (hf:FI N w G st a vs (wq vs ops)) {s g b:Nat} {cs:List PV} (hv:st.vars[s]? = some (.loc g cs)) (hb:G.box g=some b):
  ∃ t, vs[s]? = some t ∧ a.eval (.tmp t) = .pointer (some ⟨b, 0, none⟩) ∧ G.ow b = some (.var s) ∧ (∀ o, ¬ G.fix b o) ∧
    ∃cv T,w.heap[b]? = some (.cells cv T (0,0))∧cv.size=cs.length∧∀(k:Nat) (c:Value) (x:PV),cv[k]? = some c→cs[k]? = some x→CR N w G (.vcell s k) c x:=by
 have hs:s<vs.length:=by rw[← hf.len]; exact(aj.1 hv).1
 have h:=hf.var s vs[s] _ (an hs) hv
 obtain⟨b',i,hk,h1,h2,h3,h4,h5⟩:=h
 have hi:i=s:=by simpa using hk.symm
 subst hi
 have:b'=b:=by rw[hb] at h2; simpa using h2.symm
 subst this
 exact⟨vs[i],an hs,h1,h3,h4,h5⟩
theorem IS {b:Nat} {cv:Array Value} {T:TypeId} {cs:List PV} {s:Nat} (hh:w.heap[b]? = some (.cells cv T (0,0))) (hl:cv.size=cs.length)
  (hc:∀(k:Nat) (c:Value) (x:PV),cv[k]? = some c→cs[k]? = some x→CR N w G (.vcell s k) c x):
  CellsR N w G.fix G.heap cv.toList cs∧∀(k:Nat) (v:Value),cv.toList[k]? = some v→w.cell? ⟨b,k,none⟩=some v:=by
 refine⟨⟨by simpa using hl,?_,λi c x h1 h2=>(hc i c x (by simpa using h1) h2).1⟩,?_⟩
 ·intro x hx
  obtain⟨i,hi⟩:=be.1 hx
  have cO:i<cv.size:=by have:=(aj.1 hi).1; omega
  exact(hc i cv[i] x (by simp[cO]) hi).2.1
 ·intro k v hv
  simp only[bP] at hv
  simp[World.cell?,hh,hv]
theorem c29 (hf:FI N w G st a vs (wq vs ops)) {t:TypeId} {n s g off b:Nat} {cs:List PV} {v:Value} (hn:wT P t=some n) (hv:v = .pointer (some ⟨b,off,none⟩)) (hb:G.box g=some b)
  (hs:st.vars[s]? = some (.loc g cs)) (hl:wD n (xu P t) cs off=some u):∃r,(Instr.loadAt t v).run P w = .ok r w∧VR N w G.fix G.heap r u∧cp u=some u:=by
 obtain⟨_,_,_,_,_,cv,T,h1,h2,h3⟩:=Il hf hs hb
 obtain⟨hR,hcell⟩:=IS h1 h2 h3
 have eP:n≠0:=by obtain⟨_,_,_,_,h,_⟩:=zu hn; exact h
 obtain⟨k1,k2,k3⟩:=Dj hR hl eP (B4 hn)
 refine⟨_,?_,k2,k3⟩
 subst hv
 have:=E5 (w:=w) hn b off (cv.toList.drop off) (by simp at k1 ⊢; omega) (λj v hv=>by
  rw[aU] at hv
  exact hcell _ _ hv)
 simpa[Instr.loadAt,Instr.sureAddr] using this
theorem QL (hE:EnvOk E N) (nm:Names vs (wq vs ops)) (ho:ops[j]? = some o) (hf:FI N w G st a vs (wq vs ops)) {t:TypeId} {n:Nat} {x:Operand} {px:PX} {tk:Bool} (cK:o.op = .load t x) (hn:wT P t=some n)
  (hx:cx E vs ops x=some px) {cf:wE} (hs:opv cf (.load n (xu P t) px tk) st=some (u,st1)) (hk:wN N w G a st1 u vs ops j o next):o.wp P a w next Q:=by
 have plain:∀r,(Instr.loadAt t (a.eval x)).run P w = .ok r w→(execOp a.eval o).run P w = .ok (.value r) w:=by
  intro r hr
  simp[execOp,cK,hr]
 simp only[opv] at hs
 split at hs
 ·rename_i cs ha
  simp only[ab,ac] at hs
  obtain⟨r,hr,rfl,rfl⟩:=hs
  rcases Bx hE hx hf ha with⟨_,_,_,_,h,_⟩|⟨h,_⟩
  ·simp at h
  ·obtain⟨r',h1,h2,h3⟩:=LI (P:=P) hn h hr
   exact wZ nm ho hf (plain _ h1) (SR.of_pure h2 h3) hk
 ·rename_i s g off ha
  rcases Bx hE hx hf ha with⟨_,_,_,b,h,hv,hb⟩|⟨_,h⟩
  ·simp only[PV.lptr.injEq] at h
   obtain⟨rfl,rfl,rfl⟩:=h
   split at hs
   ·rename_i g' cs j6
    split at hs
    ·rename_i iu
     subst iu
     split at hs
     ·rename_i es ek hcell
      simp only[aa,ac] at hs
      obtain⟨rfl,rfl⟩:=hs
      simp only[al,bj] at ek
      obtain⟨tt,nP,lc,lj,iI,cv,T,hh,hl,hc⟩:=Il hf j6 hb
      have cO:off<cv.size:=by have:=(aj.1 hcell).1; omega
      obtain⟨cR,_,dA⟩:=hc off cv[off] _ (by simp[cO]) hcell
      obtain⟨G',hG,fu⟩:=Room.give (key':=yA (wS vs o.dst) j) dA
      have iu:G'.box=G.box∧G'.fix=G.fix∧G'.heap=G.heap:=by
       rcases hG with rfl|⟨b,_,rfl⟩<;>exact⟨rfl,rfl,rfl⟩
      have cH:Ext w G w G':=by
       rcases hG with rfl|⟨b,hb,rfl⟩
       ·exact Ext.refl _ _
       ·exact Ih b _ (λ_=>by simp[hb])
      have cM:xO (λk=>k = .vcell s off) w G w G':=by
       rcases hG with rfl|⟨b,hb,rfl⟩
       ·exact⟨λb k h _=>⟨h,rfl,λ_ h=>h⟩,λ_ _ h=>h⟩
       ·exact Ii b _ (λk' dh=>by rw[hb] at dh; simpa using dh.symm)
      have de:FI N w G' { st with vars:=st.vars.set s (.loc g (cs.set off (.list false es))) } a vs (wq vs ops):=by
       refine⟨by simp[hf.len],?_,λi t' u' h1 h2=>(hf.loc i t' u' h1 h2).keep cH cM (by simp) (by simp),hf.tv,hf.tl,(hf.defers.trans cH.df.symm),by rw[iu.1]; exact hf.gen,?_,by rw[iu.2.1]; exact hf.fixlt,hf.heap.keep cH cM (by rintro k hk rfl; simp[Key.isH] at hk),by rw[iu.2.2]; exact hf.hdom⟩
       ·intro i t' u' h1 h2
        simp only[aJ] at h2
        split at h2
        ·rename_i hi
         subst hi
         split at h2
         ·simp at h2; subst h2
          have:t'=tt:=by rw[nP] at h1; simpa using h1.symm
          subst this
          obtain⟨ev,_,_⟩:=cM.1 _ _ lj (by simp)
          refine⟨b,s,rfl,lc,by rw[iu.1]; exact hb,ev,by rw[iu.2.1]; exact iI,cv,T,hh,by simp[hl],?_⟩
          intro k c y dL hy
          rw[aJ] at hy
          split at hy
          ·rename_i eD
           subst eD
           split at hy
           ·simp at hy; subst hy
            have:c=cv[off]:=by simp[cO] at dL; exact dL.symm
            subst this
            refine⟨(cR.dem).ext cH,rfl,trivial⟩
           ·simp at hy
          ·rename_i eD
           exact(hc k c y dL hy).keep cH cM (by simp; omega)
         ·simp at h2
        ·rename_i hi
         exact(hf.var i t' u' h1 h2).keep cH cM (by simp) (by simp; intro i' k jZ e; omega)
       ·intro b' k cW
        rcases hG with rfl|⟨b2,dI,rfl⟩
        ·exact hf.owlt _ _ cW
        ·simp only[GS.give] at cW
         split at cW
         ·subst_vars; exact hf.owlt _ _ dI
         ·exact hf.owlt _ _ cW
      unfold Oper.wp
      have cL:(Instr.loadAt t (a.eval x)).run P w = .ok cv[off] w:=by
       have dm:w.cell? ⟨b,off,none⟩=some cv[off]:=by simp[World.cell?,hh,cO]
       rw[hv]
       simp[Instr.loadAt,Instr.sureAddr,loadVar,DS hn,ek.2,dm]
      rw[plain _ cL]
      exact hk _ _ G' (de.put nm (zK ho) ⟨cR.ext cH,fu⟩) cH (zL _ _ _)
     ·simp only[ab,ac] at hs
      obtain⟨r,hr,rfl,rfl⟩:=hs
      obtain⟨r',h1,h2,h3⟩:=c29 (P:=P) hf hn hv hb j6 hr
      exact wZ nm ho hf (plain _ h1) (SR.of_pure h2 h3) hk
    ·simp at hs
   ·simp at hs
  ·simp[cp] at h
 ·simp at hs
theorem b9i (hE:EnvOk E N) (nm:Names vs (wq vs ops)) (ho:ops[j]? = some o) (hf:FI N w G st a vs (wq vs ops)) {t:TypeId} {n:Nat} {x y:Operand} {px py:PX} (cK:o.op = .store t x y) (dZ:o.dst=none) (hn:wT P t=some n)
  (hx:cx E vs ops x=some px) (hy:cx E vs ops y=some py) {cf:wE} (hs:opv cf (.store n (xu P t) px py) st=some (u,st1)) (hk:wN N w G a st1 u vs ops j o next):o.wp P a w next Q:=by
 simp only[opv] at hs
 split at hs
 ·rename_i s g off v st' ha ek
  rcases Bx hE hx hf ha with⟨_,_,_,b,h,hv,hb⟩|⟨_,h⟩
  ·simp only[PV.lptr.injEq] at h
   obtain⟨rfl,rfl,rfl⟩:=h
   obtain⟨G1,de,dW,iL,eM,dJ,cR,fv,_,_,_⟩:=EJ hE hy hf ek (.vcell s off)
   split at hs
   ·rename_i g' cs j6
    split at hs
    ·rename_i iu
     subst iu
     simp only[ab,ac] at hs
     obtain⟨cs',dz,rfl,rfl⟩:=hs
     obtain⟨tt,nP,lc,lj,iI,cv,T,hh,hl,hc⟩:=Il de j6 (by rw[iL]; exact hb)
     have eP:n≠0:=by obtain⟨_,_,_,_,h,_⟩:=zu hn; exact h
     have key:∃nc:List Value,(a.eval y).cells.toList=nc∧nc.length=n∧off+n≤cv.size∧(∀c∈nc,c.oneCell'=true)∧cs'.length=cs.length ∧
       ∀ (k : Nat) (c : Value) (z : PV), (cv.toList.take off ++ nc ++ cv.toList.drop (off + n))[k]? = some c → cs'[k]? = some z →
         (cv[k]? = some c∧cs[k]? = some z)∨(VR N w G.fix G.heap c z∧z.flat=true∧∀es,z = .list true es→(k=off∧Room w G1 (.vcell s off) c es)∨c = .slice none 0 0):=by
      unfold wM at dz
      split at dz
      ·rename_i gG
       split at dz
       ·rename_i ws
        split at dz
        ·rename_i cP
         simp only[aa] at dz; subst dz
         obtain⟨ca,mE,hR⟩:=CellsR.of_agg cR
         have hO:OwnNil ca.toList ws:=OwnNil.of_agg (mE▸cR)
         have dm:(a.eval y).cells.toList=ca.toList:=by rw[mE]; rfl
         have cI:ca.toList.length=n:=by have:=hR.1; omega
         refine⟨ca.toList,dm,cI,by omega,?_,by simp; omega,?_⟩
         ·intro c gI
          obtain⟨i,hi⟩:=be.1 gI
          have cO:i<ws.length:=by have:=(aj.1 hi).1; have:=hR.1; omega
          have h1:=hR.2.2 i c ws[i] hi (an cO)
          have h2:=h1.oneCell (hR.2.1 _ (ae cO))
          cases c<;>first|rfl|simp[oneCell] at h2
         ·intro k c z dL hz
          rw[aC] at dL
          have fP:(cv.toList.take off).length=off:=by simp; omega
          have kP:(cs.take off).length=off:=by simp; omega
          by_cases h1:k<off
          ·rw[am (by omega),aQ,ah h1] at dL
           rw[am (by omega),aQ,ah h1] at hz
           exact .inl ⟨by simpa using dL,hz⟩
          ·rw[ap (by omega),fP] at dL
           rw[ap (by omega),kP] at hz
           by_cases h2:k<off+n
           ·rw[am (by omega)] at dL
            rw[am (by omega)] at hz
            refine .inr ⟨hR.2.2 _ c z dL hz,hR.2.1 z (aw hz),?_⟩
            rintro es rfl
            exact .inr (hO _ c es dL hz)
           ·rw[ap (by omega),aU,cI] at dL
            rw[ap (by omega),aU,cP.1] at hz
            rw[show off+n+(k - off - n)=k by omega] at dL hz
            exact .inl ⟨by simpa using dL,hz⟩
        ·simp at dz
       ·simp at dz
      ·rename_i gG
       have io:=B4 hn (by simpa using gG)
       subst io
       split at dz
       ·rename_i cP
        simp only[aa] at dz; subst dz
        have h1:=cR.oneCell cP.2
        have dm:(a.eval y).cells.toList=[a.eval y]:=by
         generalize a.eval y=q at h1
         cases q<;>first|rfl|simp[oneCell] at h1
        refine⟨[a.eval y],dm,rfl,by omega,?_,by simp,?_⟩
        ·intro c gI
         simp at gI; subst gI
         generalize a.eval y=q at h1
         cases q<;>first|rfl|simp[oneCell] at h1
        ·intro k c z dL hz
         rw[aC] at dL
         have fP:(cv.toList.take off).length=off:=by simp; omega
         rw[aJ] at hz
         split at hz
         ·rename_i pK
          subst pK
          split at hz
          ·simp at hz; subst hz
           rw[ap (by omega),fP] at dL
           simp at dL; subst dL
           refine .inr ⟨cR,cP.2,?_⟩
           rintro es rfl
           exact .inl ⟨rfl,fv⟩
          ·simp at hz
         ·rename_i pK
          refine .inl ⟨?_,hz⟩
          by_cases h1:k<off
          ·rw[am (by omega),aQ,ah h1] at dL
           simpa using dL
          ·rw[ap (by omega),fP,ap (by simp; omega),aU] at dL
           simp only[List.length_singleton] at dL
           rw[show off+1+(k - off - 1)=k by omega] at dL
           simpa using dL
       ·simp at dz
     obtain⟨nc,gp,cI,gT,kM,sK,dj⟩:=key
     have cL:(execOp a.eval o).run P w = .ok .skip (w.setRow b (cv.toList.take off++nc++cv.toList.drop (off+n)).toArray):=by
      have dz:=run_storeCells_at P b off T nc 0 cv w hh (by simp; omega) kM
      simp only[br,cI] at dz
      have cQ:(a.eval y).cells.size=n:=by rw[← cI,← gp]; simp
      simp[execOp,cK,Instr.storeAt,hv,Instr.sureAddr,storeVar,z8 hn,cQ,gp,dz]
     unfold Oper.wp
     rw[cL]
     have fp:b<w.heap.size:=de.owlt _ _ lj
     have cV:∀x,x≠b→(w.setRow b (cv.toList.take off++nc++cv.toList.drop (off+n)).toArray).heap[x]? = w.heap[x]? := λx hx=>setRow_other w b x _ hx
     have dM:Ext w G1 (w.setRow b (cv.toList.take off++nc++cv.toList.drop (off+n)).toArray) G1:=by
      refine⟨rfl,rfl,rfl,by simp[World.setRow],?_,?_,λ_ _ h => .inl h,λ_ h => .inr h,λ_ _ h=>h,Gg hh _ ?_,rfl⟩
      rotate_left 2
      ·simp; omega
      ·intro x _ jA
       exact cV x (by rintro rfl; rw[lj] at jA; simp at jA)
      ·intro x o' fC
       refine⟨fC,?_⟩
       have gA:x≠b:=by rintro rfl; exact iI _ fC
       simp only[World.cell?,cV x gA]
     have dE:xO (λk=>k = .var s) w G1 (w.setRow b (cv.toList.take off++nc++cv.toList.drop (off+n)).toArray) G1:=by
      refine⟨?_,λ_ _ h=>h⟩
      intro x k gU gJ
      refine⟨gU,cV x ?_,λ_ h=>h⟩
      rintro rfl
      rw[lj] at gU
      simp at gU
      exact gJ gU.symm
     have gO:FI N (w.setRow b (cv.toList.take off++nc++cv.toList.drop (off+n)).toArray) G1 { st' with vars:=st'.vars.set s (.loc g cs') } a vs (wq vs ops):=by
      refine⟨by simp[de.len],?_,λi t' u' h1 h2=>(de.loc i t' u' h1 h2).keep dM dE (by simp) (by simp),de.tv,de.tl,de.defers,de.gen,?_,?_,de.heap.keep dM dE (by rintro k hk rfl; simp[Key.isH] at hk),de.hdom⟩
      ·intro i t' u' h1 h2
       simp only[aJ] at h2
       split at h2
       ·rename_i hi
        subst hi
        split at h2
        ·simp at h2; subst h2
         have:t'=tt:=by rw[nP] at h1; simpa using h1.symm
         subst this
         refine⟨b,s,rfl,lc,by rw[iL]; exact hb,lj,iI,_,T,setRow_heap w b cv _ T (0,0) hh,?_,?_⟩
         ·simp; omega
         ·intro k c z dL hz
          rcases dj k c z (by simpa using dL) hz with⟨k1,k2⟩|⟨k1,k2,k3⟩
          ·exact(hc k c z k1 k2).keep dM dE (by simp)
          ·refine⟨(eM▸dJ▸k1:VR N w G1.fix G1.heap c z).ext dM,k2,?_⟩
           split
           ·rename_i es
            rcases k3 es rfl with⟨e1,e2⟩|e
            ·subst e1
             exact e2.keep dE (by simp)
            ·subst e; trivial
           ·trivial
        ·simp at h2
       ·rename_i hi
        exact(de.var i t' u' h1 h2).keep dM dE (by simp; omega) (by simp)
      ·intro x k hx; simpa[World.setRow] using de.owlt x k hx
      ·intro x o' hx; simpa[World.setRow] using de.fixlt x o' hx
     have gc:a.put o.dst undef=a:=by simp[dZ,Act.put]
     have hd:wS vs o.dst = .n:=by simp[dZ,wS]
     show next (a.put o.dst undef) _
     rw[gc]
     refine hk _ _ G1 ?_ (dW.trans dM) rfl
     rw[hd]
     exact gO
    ·simp at hs
   ·simp at hs
  ·simp[cp] at h
 ·simp at hs
end
end PI
