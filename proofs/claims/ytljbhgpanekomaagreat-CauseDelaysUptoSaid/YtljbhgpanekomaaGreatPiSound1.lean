import Derived.Test.YtljbhgpanekomaaGreatPiRel
import Derived.Test.YtljbhgpanekomaaGreatPiComp
import Derived.Deep.AppendSrc
import Derived.Laws.CopyRow
import Derived.Laws.Build
import Derived.Laws.Tables
import Derived.ProofKit
import Derived.Laws.StructEq
set_option linter.unusedSectionVars false
namespace PI
open Go
structure FI (N:Nm) (w:World) (G:GS) (st:St) (a:Act) (vs:List Tmp) (lm:Nat→Option Tmp):Prop where
 len:st.vars.length=vs.length
 var:∀(i:Nat) (t:Tmp) (u:PV),vs[i]? = some t→st.vars[i]? = some u→SR N w G (.var i) (a.eval (.tmp t)) u
 loc:∀(j:Nat) (t:Tmp) (u:PV),lm j=some t→st.locs[j]? = some u→SR N w G (.loc j) (a.eval (.tmp t)) u
 tv:∀(i:Nat) (t:Tmp),vs[i]? = some t→t<a.tmps.size
 tl:∀(j:Nat) (t:Tmp),lm j=some t→t<a.tmps.size
 defers:a.defers=G.df
 gen:∀g b,G.box g=some b→g<st.gen
 owlt:∀b k,G.ow b=some k→b<w.heap.size
 fixlt:∀b o,G.fix b o→b<w.heap.size
 heap:HR N w G st.heap
 hdom:∀n b,G.heap n=some b→n<st.heap.length
structure Names (vs:List Tmp) (lm:Nat→Option Tmp):Prop where
 vnd:∀(i i':Nat) (t:Tmp),vs[i]? = some t→vs[i']? = some t→i=i'
 sep:∀(j:Nat) (t:Tmp) (i:Nat),lm j=some t→vs[i]?≠some t
 lnd:∀(j j':Nat) (t:Tmp),lm j=some t→lm j'=some t→j=j'
def wh (vs:List Tmp) (ops:List Oper) (j:Nat):Option Tmp:=
 match ops[j]? with
 | some o => match o.dst with
   | some t=>if (xB t vs 0).isSome then none else some t
   | none=>none
 | none=>none
structure EnvOk (E:Env) (N:Nm):Prop where
 fn:∀f k,E.inv f=some k→N.fn k=f
 yl:∀f k,E.inv f=some k→N.yl k=none
 pt:∀T i,xB T E.pt 0=some i→N.ty (i+1)=T
 bt:∀t,E.bT=some t→N.bT=t∧∃i,E.P.info? t=some i∧i.zero=some (.agg #[.pointer none,.slice none 0 0])
theorem Gp {w:World} {b:Nat} {cv:Array Value} {T:TypeId} {fz:Nat×Nat} (hh:w.heap[b]? = some (.cells cv T fz)) (NR:Array Value) (hs:NR.size=cv.size):ShapeLe w (w.setRow b NR):=
 .one b (λk _ hk=>setRow_other w b k _ hk) (λs hx=>by
  simp only[World.shape?,hh] at hx
  simp only[World.shape?,setRow_heap w b cv NR T fz hh,hs]
  exact hx) (λs hx=>by rw[LA hh] at hx; simp at hx)
theorem Q0 {N:Nm} {w:World} {fix:Nat→Nat→Prop} {hp:Nat→Option Nat} {v:Value} {p:PV} (h:Ek v=some p):
  VR N w fix hp v p∧p.flat=true:=by
 unfold Ek at h
 split at h<;>simp at h<;>subst h<;>refine⟨?_,rfl⟩<;>constructor
theorem LJ {N:Nm} {w:World} {fix:Nat→Nat→Prop} {hp:Nat→Option Nat}:∀{vs:List Value} {ps:List PV},C4 vs=some ps →
  vs.length=ps.length∧(∀p∈ps,p.flat=true)∧∀(i:Nat) (v:Value) (p:PV),vs[i]? = some v→ps[i]? = some p→VR N w fix hp v p
 | [],ps,h=>by simp[C4] at h; subst h; simp
 | v :: vs, ps, h => by
   simp only[C4,ae,ab] at h
   obtain⟨p,iF,qs,hq,rfl⟩:=h
   obtain⟨h1,h2,h3⟩:=LJ (N:=N) (w:=w) (fix:=fix) (hp:=hp) hq
   have hv:=Q0 (N:=N) (w:=w) (fix:=fix) (hp:=hp) iF
   refine⟨by simp[h1],by simpa using⟨hv.2,h2⟩,?_⟩
   intro i x y hx hy
   cases i with
   | zero=>simp at hx hy; subst hx hy; exact hv.1
   | succ i=>exact h3 i x y (by simpa using hx) (by simpa using hy)
theorem EG:∀{vs:List Value} {ps:List PV},C4 vs=some ps→∀(i:Nat) (v:Value) (es:List PV),vs[i]? = some v→ps[i]? = some (.list true es)→v = .slice none 0 0
 | [],ps,h,i,v,es,h1,_=>by simp at h1
 | x :: xs, ps, h, i, v, es, h1, h2 => by
   simp only[C4,ae,ab] at h
   obtain⟨p,iF,qs,hq,rfl⟩:=h
   cases i with
   | zero =>
     simp at h1 h2; subst h1 h2
     unfold Ek at iF
     split at iF<;>simp at iF
     rfl
   | succ i=>exact EG hq i v es (by simpa using h1) (by simpa using h2)
theorem Q1 {N:Nm} {w:World} {fix:Nat→Nat→Prop} {hp:Nat→Option Nat} {v:Value} {p:PV} (h:El v=some p):
  VR N w fix hp v p:=by
 unfold El at h
 split at h
 ·rename_i cs
  simp only[ab] at h
  obtain⟨ps,h1,rfl⟩:=h
  obtain⟨a,b,c⟩:=LJ (N:=N) (w:=w) (fix:=fix) (hp:=hp) h1
  exact .agg cs ps (by simpa using a) b (λi x es hx hy=>EG h1 i x es (by simpa using hx) hy) (λi x y hx hy=>c i x y (by simpa using hx) hy)
 ·exact(Q0 h).1
theorem LK {v:Value} {p:PV} (h:El v=some p):(∃es,p = .list true es∧v = .slice none 0 0)∨cp p=some p:=by
 unfold El at h
 split at h
 ·simp only[ab] at h
  obtain⟨ps,_,rfl⟩:=h
  exact .inr rfl
 ·unfold Ek at h
  split at h<;>simp at h<;>subst h<;>first|exact .inr rfl|exact .inl ⟨_,rfl,rfl⟩
theorem Cw {t:Tmp}:∀{vs:List Tmp} {n i:Nat},xB t vs n=some i→n≤i∧vs[i - n]? = some t
 | [],n,i,h=>by simp[xB] at h
 | x :: xs, n, i, h => by
   simp only[xB] at h
   split at h
   ·simp at h; subst h; subst_vars; simp
   ·obtain⟨h1,h2⟩:=Cw h
    refine⟨by omega,?_⟩
    rw[show i - n=(i - (n+1))+1 by omega]
    simpa using h2
theorem LL {t:Tmp}:∀{ops:List Oper} {n j:Nat},Em t ops n=some j→n≤j∧∃o,ops[j - n]? = some o∧o.dst=some t
 | [],n,j,h=>by simp[Em] at h
 | o :: os, n, j, h => by
   simp only[Em] at h
   split at h
   ·simp at h; subst h; exact⟨ao _,o,by simp,by assumption⟩
   ·obtain⟨h1,o',h2,h3⟩:=LL h
    refine⟨by omega,o',?_,h3⟩
    rw[show j - n=(j - (n+1))+1 by omega]
    simpa using h2
def zt:PX→Key
 | .v i => .var i
 | .l j => .loc j
 | .c _ => .loc 0
section
variable {E:Env} {N:Nm} {w:World} {G:GS} {st:St} {a:Act} {vs:List Tmp} {ops:List Oper}
theorem SR.of_pure {key:Key} {v:Value} {u:PV} (h:VR N w G.fix G.heap v u) (hu:cp u=some u):SR N w G key v u:=by
 unfold SR
 split<;>first|trivial|(simp[cp] at hu; done)|exact h
theorem SR.read {key:Key} {v:Value} {u r:PV} (h:SR N w G key v u) (hr:cp u=some r):VR N w G.fix G.heap v r∧cp r=some r:=by
 unfold SR at h
 split at h
 ·simp[cp] at hr
 ·simp[cp] at hr
 ·simp[cp] at hr
 ·simp[cp] at hr
 ·simp[cp] at hr; subst hr; exact⟨h.1.dem,rfl⟩
 ·have:r=dem u∧cp r=some r:=by
   clear h
   cases u<;>simp[cp] at hr<;>subst hr<;>exact⟨rfl,rfl⟩
  rw[this.1]
  exact⟨h.dem,this.1▸this.2⟩
theorem BK (hE:EnvOk E N) {x:Operand} {px:PX} {u:PV} (hc:cx E vs ops x=some px) (hf:FI N w G st a vs (wh vs ops)) (hr:raw st px=some u):
  SR N w G (zt px) (a.eval x) u:=by
 cases x with
 | tmp t =>
   simp only[cx] at hc
   split at hc
   ·rename_i i hi
    simp at hc; subst hc
    obtain⟨_,h2⟩:=Cw hi
    exact hf.var i t u (by simpa using h2) hr
   ·rename_i hn
    simp only[ab] at hc
    obtain⟨j,hj,rfl⟩:=hc
    obtain⟨_,o,h2,h3⟩:=LL hj
    refine hf.loc j t u ?_ hr
    simp only[Nat.sub_zero] at h2
    simp[wh,h2,h3,hn]
 | const v =>
   simp only[cx] at hc
   split at hc
   ·rename_i gI
    simp only[aa] at hc
    subst hc
    simp only[raw,aa] at hr
    subst hr
    have iU:v = .slice none 0 0:=by
     simp only[ak] at gI
     have:=gI.2
     unfold PL at this
     split at this
     ·rfl
     ·simp at this
    subst iU
    exact SR.of_pure .nils' rfl
   simp only[ab] at hc
   obtain⟨p,hp,rfl⟩:=hc
   simp only[raw,aa] at hr
   subst hr
   have hv:=Q1 (N:=N) (w:=w) (fix:=G.fix) (hp:=G.heap) hp
   rcases LK hp with⟨es,rfl,rfl⟩|h
   ·exact⟨hv,trivial⟩
   ·exact SR.of_pure hv h
 | global g=>simp[cx] at hc
 | func f =>
   simp only[cx,ab] at hc
   obtain⟨k,hk,rfl⟩:=hc
   simp only[raw,aa] at hr
   subst hr
   refine SR.of_pure ?_ rfl
   have ja:=hE.yl _ _ hk
   have:=hE.fn _ _ hk
   subst this
   exact .func k #[] #[] [] [] ja rfl rfl (by simp) (by simp)
theorem wL (hE:EnvOk E N) {x:Operand} {px:PX} {u:PV} (hc:cx E vs ops x=some px) (hf:FI N w G st a vs (wh vs ops)) (hr:rd st px=some u):
  VR N w G.fix G.heap (a.eval x) u∧cp u=some u:=by
 simp only[rd,ae] at hr
 obtain⟨r,h1,h2⟩:=hr
 exact(BK hE hc hf h1).read h2
theorem A9 (hE:EnvOk E N) {x:Operand} {px:PX} {n:Int} (hc:cx E vs ops x=some px) (hf:FI N w G st a vs (wh vs ops)) (hr:rdInt st px=some n):
  ∃k,a.eval x = .int k n:=by
 unfold rdInt at hr
 split at hr
 ·rename_i k m hm
  simp at hr; subst hr
  have:=(wL hE hc hf hm).1
  generalize a.eval x=y at this
  cases this
  exact⟨_,rfl⟩
 ·simp at hr
theorem Ap (hE:EnvOk E N) (hf:FI N w G st a vs (wh vs ops)):∀{xs:List Operand} {pxs:List PX} {us:List PV},cxs E vs ops xs=some pxs→rdAll st pxs=some us →
  xs.length=us.length∧∀(i:Nat) (x:Operand) (u:PV),xs[i]? = some x→us[i]? = some u→VR N w G.fix G.heap (a.eval x) u∧cp u=some u
 | [], pxs, us, hc, hr => by
   simp[cxs] at hc; subst hc
   simp[rdAll] at hr; subst hr; simp
 | x :: xs, pxs, us, hc, hr => by
   simp only[cxs,ae,ab] at hc
   obtain⟨p,hp,ps,dT,rfl⟩:=hc
   simp only[rdAll,ae,ab] at hr
   obtain⟨u,hu,us',ev,rfl⟩:=hr
   obtain⟨h1,h2⟩:=Ap hE hf dT ev
   refine⟨by simp[h1],?_⟩
   intro i y v hy hv
   cases i with
   | zero=>simp at hy hv; subst hy hv; exact wL hE hp hf hu
   | succ i=>exact h2 i y v (by simpa using hy) (by simpa using hv)
theorem Bn (hE:EnvOk E N) {x:Operand} {px:PX} {u:PV} (hc:cx E vs ops x=some px) (hf:FI N w G st a vs (wh vs ops)) (hr:addr st px=some u):
  (∃s g off b,u = .lptr s g off∧a.eval x = .pointer (some ⟨b,off,none⟩)∧G.box g=some b)∨(VR N w G.fix G.heap (a.eval x) u∧cp u=some u):=by
 unfold addr at hr
 split at hr
 ·rename_i i g cs fB
  simp at hr; subst hr
  have:=BK hE hc hf fB
  simp only[SR,zt] at this
  obtain⟨b,i',hk,hv,hb,_⟩:=this
  exact .inl ⟨i,g,0,b,rfl,hv,hb⟩
 ·rename_i s g off fB
  simp at hr; subst hr
  have:=BK hE hc hf fB
  simp only[SR] at this
  obtain⟨b,hv,hb⟩:=this
  exact .inl ⟨s,g,off,b,rfl,hv,hb⟩
 ·rename_i v _ _ fB
  exact .inr ((BK hE hc hf fB).read hr)
 ·simp at hr
end
def xU (d:PD) (j:Nat):Key:=
 match d with
 | .v i => .var i
 | _ => .loc j
def Im (vs:List Tmp) (lm:Nat→Option Tmp) (j:Nat) (d:PD) (dst:Option Tmp):Prop:=
 match d with
 | .v i=>∃t,dst=some t∧vs[i]? = some t
 | .l=>∃t,dst=some t∧lm j=some t
 | .n=>dst=none
theorem Dc (a:Act) (d t:Tmp) (v:Value) (hd:d<a.tmps.size):(a.put (some d) v).eval (.tmp t)=if t=d then v else a.eval (.tmp t):=by
 simp only[Act.put,Act.eval,aT,be]
 by_cases h:t=d
 ·subst h; simp[hd]
 ·simp[h,Ne.symm h]
theorem FI.put {N:Nm} {w:World} {G:GS} {st:St} {a:Act} {vs:List Tmp} {lm:Nat→Option Tmp} {j:Nat} {d:PD} {dst:Option Tmp} {v:Value} {u:PV}
  (h:FI N w G st a vs lm) (nm:Names vs lm) (hd:Im vs lm j d dst) (hs:SR N w G (xU d j) v u):FI N w G (put st j d u) (a.put dst v) vs lm:=by
 cases d with
 | n =>
   simp only[Im] at hd; subst hd
   exact h
 | v i =>
   obtain⟨t,rfl,ht⟩:=hd
   have cV:=h.tv i t ht
   refine⟨by simp[PI.put,h.len],?_,?_,?_,?_,h.defers,h.gen,h.owlt,h.fixlt,h.heap,h.hdom⟩
   ·intro i' t' u' h1 h2
    rw[Dc _ _ _ _ cV]
    simp only[PI.put,aO] at h2
    by_cases hi:i=i'
    ·subst hi
     have:t'=t:=by rw[ht] at h1; simpa using h1.symm
     subst this
     split at h2
     ·split at h2
      ·simp at h2; subst h2; simp only[if_true]; exact hs
      ·simp at h2
     ·exact absurd rfl ‹_›
    ·rw[af hi] at h2
     have cZ:t'≠t:=λe=>hi (nm.vnd i i' t ht (e▸h1))
     rw[af cZ]
     exact h.var i' t' u' h1 h2
   ·intro j' t' u' h1 h2
    rw[Dc _ _ _ _ cV,af (λe:t'=t=>nm.sep j' t' i h1 (e▸ht))]
    exact h.loc j' t' u' h1 h2
   ·intro i' t' h1; simpa[Act.put] using h.tv i' t' h1
   ·intro j' t' h1; simpa[Act.put] using h.tl j' t' h1
 | l =>
   obtain⟨t,rfl,ht⟩:=hd
   have cV:=h.tl j t ht
   refine⟨h.len,?_,?_,?_,?_,h.defers,h.gen,h.owlt,h.fixlt,h.heap,h.hdom⟩
   ·intro i' t' u' h1 h2
    rw[Dc _ _ _ _ cV,af (λe:t'=t=>nm.sep j t i' ht (e▸h1))]
    exact h.var i' t' u' h1 h2
   ·intro j' t' u' h1 h2
    rw[Dc _ _ _ _ cV]
    simp only[PI.put,aO] at h2
    by_cases hj:j=j'
    ·subst hj
     have:t'=t:=by rw[ht] at h1; simpa using h1.symm
     subst this
     split at h2
     ·split at h2
      ·simp at h2; subst h2; simp only[if_true]; exact hs
      ·simp at h2
     ·exact absurd rfl ‹_›
    ·rw[af hj] at h2
     have cZ:t'≠t:=λe=>hj (nm.lnd j j' t ht (e▸h1))
     rw[af cZ]
     exact h.loc j' t' u' h1 h2
   ·intro i' t' h1; simpa[Act.put] using h.tv i' t' h1
   ·intro j' t' h1; simpa[Act.put] using h.tl j' t' h1
theorem FI.ext {N:Nm} {w w':World} {G G':GS} {st:St} {a:Act} {vs:List Tmp} {lm:Nat→Option Tmp} (h:FI N w G st a vs lm) (e:Ext w G w' G')
  (hk:xa (λ_=>False) w G w' G') (hg:∀g b,G'.box g=some b→g<st.gen) (ho:∀b k,G'.ow b=some k→b<w'.heap.size) (hx:∀b o,G'.fix b o→b<w'.heap.size) (hh:G'.heap=G.heap:=by rfl):
  FI N w' G' st a vs lm:=
 ⟨h.len,λi t u h1 h2=>(h.var i t u h1 h2).keep e hk (λh=>h) (λ_ _ _ h=>h),λj t u h1 h2=>(h.loc j t u h1 h2).keep e hk (λh=>h) (λ_ _ _ h=>h),h.tv,h.tl,(h.defers.trans e.df.symm),hg,ho,hx,h.heap.keep e hk (λ_ _ h=>h),by rw[hh]; exact h.hdom⟩
theorem yY {vs:List Tmp} {ops:List Oper} {j:Nat} {o:Oper} (ho:ops[j]? = some o):Im vs (wh vs ops) j (wJ vs o.dst) o.dst:=by
 unfold wJ
 split
 ·rename_i h; exact h
 ·rename_i t h
  cases hi:xB t vs 0 with
  | some i =>
    obtain⟨_,h2⟩:=Cw hi
    exact⟨t,h,by simpa using h2⟩
  | none=>exact⟨t,h,by simp[wh,ho,h,hi]⟩
theorem yZ (a:Act) (d:Option Tmp) (v:Value):(a.put d v).tmps.size=a.tmps.size:=by
 cases d<;>simp[Act.put]
theorem wM {P:Program} {N:Nm} {w:World} {G:GS} {st:St} {a:Act} {vs:List Tmp} {ops:List Oper} {j:Nat} {o:Oper} {v:Value} {u:PV} {next:Act→World→Prop}
  {Q:Exit→Act→World→Prop} (nm:Names vs (wh vs ops)) (ho:ops[j]? = some o) (hf:FI N w G st a vs (wh vs ops)) (cQ:(execOp a.eval o).run P w = .ok (.value v) w)
  (hs:SR N w G (xU (wJ vs o.dst) j) v u) (hk:∀a' w' G',FI N w' G' (put st j (wJ vs o.dst) u) a' vs (wh vs ops)→Ext w G w' G'→a'.tmps.size=a.tmps.size→next a' w'):o.wp P a w next Q:=by
 unfold Oper.wp
 rw[cQ]
 exact hk _ _ _ (hf.put nm (yY ho) hs) (Ext.refl _ _) (yZ _ _ _)
theorem LM (s:ByteArray):s.toList=s.data.toList:=ByteArray.toList_eq s
section
variable {E:Env} {N:Nm} {w:World} {G:GS} {st:St} {a:Act} {vs:List Tmp} {ops:List Oper} {P:Program}
theorem BE {t:TypeId} {n:Nat} (h:wI P t=some n):wW P t=false→n=1:=by
 intro ha
 unfold wI at h
 split at h
 ·split at h
  ·simp at h
  ·rename_i hn
   simp only[not_or,not_and,Decidable.not_not] at hn
   simp at h; subst h
   exact hn.2.2 ha
 ·simp at h
theorem yD {t:TypeId} {n:Nat} (h:wI P t=some n):∃i d,P.info? t=some i∧i.size=n∧n≠0∧P.underlying t=some d:=by
 unfold wI at h
 split at h
 ·rename_i i hi
  split at h
  ·simp at h
  ·rename_i hn
   simp at h; subst h
   simp only[not_or] at hn
   obtain⟨nG,vI,_⟩:=hn
   cases hu:P.underlying t with
   | none=>simp[hu] at vI
   | some d=>exact⟨i,d,hi,rfl,nG,rfl⟩
 ·simp at h
theorem zu {t:TypeId} {n:Nat} (h:wI P t=some n) (w:World):(Go.sizeOf t).run P w = .ok n w:=by
 obtain⟨i,d,hi,rfl,_,_⟩:=yD h
 simp[Go.sizeOf,typeInfo,hi]
theorem Dd {t:TypeId} {n:Nat} (h:wI P t=some n) (w:World):(isAgg t).run P w = .ok (wW P t) w:=by
 obtain⟨i,d,_,_,_,hd⟩:=yD h
 simp only[isAgg,Sem.run_bind,run_underlying hd,Result.andThen_ok,wW,hd]
 cases d<;>rfl
theorem zO (b off n:Nat):(⟨b,off,none⟩:Addr).add n=⟨b,off+n,none⟩:=Addr.add_lit b off n
theorem Er {t:TypeId} {n:Nat} (h:wI P t=some n) (b off:Nat) (cs:List Value) (hl:n≤cs.length)
  (hc:∀j v,cs[j]? = some v→w.cell? ⟨b,off+j,none⟩=some v):
  (loadVar t ⟨b,off,none⟩).run P w = .ok (if wW P t then .agg (cs.take n).toArray else cs.headD undef) w:=by
 obtain⟨i,d,hi,hn,eI,hd⟩:=yD h
 have vJ:(cs.take n).length=n:=by simp[hl]
 have lV:=run_loadCells_list (P:=P) w ⟨b,off,none⟩ (cs.take n) (λj v hv=>by
  rw[zO]
  refine hc j v ?_
  rw[aW] at hv
  split at hv
  ·exact hv
  ·cases hv)
 rw[vJ] at lV
 unfold loadVar
 simp only[Sem.run_bind,Dd h,Result.andThen_ok,Sem.run_ite]
 by_cases ha:wW P t=true
 ·simp[ha,zu h,lV]
 ·simp only[Bool.not_eq_true] at ha
  cases cs with
  | nil=>simp at hl; omega
  | cons c cs =>
    have:=hc 0 c rfl
    simp only[bq] at this
    simp[ha,this]
def CellsR (N:Nm) (w:World) (fix:Nat→Nat→Prop) (hp:Nat→Option Nat) (cs:List Value) (ps:List PV):Prop:=
 cs.length=ps.length∧(∀x∈ps,x.flat=true)∧∀(i:Nat) (c:Value) (x:PV),cs[i]? = some c→ps[i]? = some x→VR N w fix hp c x
theorem CellsR.dem {fix:Nat→Nat→Prop} {hp:Nat→Option Nat} {cs:List Value} {ps:List PV} (h:CellsR N w fix hp cs ps):CellsR N w fix hp cs (ps.map dem):=by
 refine⟨by simpa using h.1,?_,?_⟩
 ·intro x hx
  obtain⟨y,hy,rfl⟩:=bc.1 hx
  rw[DJ]; exact h.2.1 y hy
 ·intro i c x hc hx
  simp only[az,ab] at hx
  obtain⟨y,hy,rfl⟩:=hx
  exact(h.2.2 i c y hc hy).dem
theorem CellsR.take {fix:Nat→Nat→Prop} {hp:Nat→Option Nat} {cs:List Value} {ps:List PV} (h:CellsR N w fix hp cs ps) (n:Nat):CellsR N w fix hp (cs.take n) (ps.take n):=by
 refine⟨by simp[h.1],λx hx=>h.2.1 x (List.mem_of_mem_take hx),?_⟩
 intro i c x hc hx
 rw[aW] at hc hx
 split at hc
 ·rename_i hi; rw[ah hi] at hx; exact h.2.2 i c x hc hx
 ·cases hc
theorem CellsR.drop {fix:Nat→Nat→Prop} {hp:Nat→Option Nat} {cs:List Value} {ps:List PV} (h:CellsR N w fix hp cs ps) (n:Nat):CellsR N w fix hp (cs.drop n) (ps.drop n):=by
 refine⟨by simp[h.1],λx hx=>h.2.1 x (cA hx),?_⟩
 intro i c x hc hx
 rw[aX] at hc hx
 exact h.2.2 _ c x hc hx
theorem CellsR.append {fix:Nat→Nat→Prop} {hp:Nat→Option Nat} {cs ds:List Value} {ps qs:List PV} (h:CellsR N w fix hp cs ps) (k:CellsR N w fix hp ds qs):
  CellsR N w fix hp (cs++ds) (ps++qs):=by
 refine⟨by simp[h.1,k.1],?_,?_⟩
 ·intro x hx
  rcases ay.1 hx with hx|hx
  ·exact h.2.1 x hx
  ·exact k.2.1 x hx
 ·intro i c x hc hx
  by_cases hi:i<cs.length
  ·rw[am hi] at hc
   rw[am (h.1▸hi)] at hx
   exact h.2.2 i c x hc hx
  ·rw[ar (by omega)] at hc
   rw[ar (by have:=h.1; omega),← h.1] at hx
   exact k.2.2 _ c x hc hx
def OwnNil (cs:List Value) (ps:List PV):Prop:=∀(i:Nat) (c:Value) (es:List PV),cs[i]? = some c→ps[i]? = some (.list true es)→c = .slice none 0 0
theorem OwnNil.dem (cs:List Value) (ps:List PV):OwnNil cs (ps.map PI.dem):=by
 intro i c es _ h
 simp only[az,ab] at h
 obtain⟨q,_,hq⟩:=h
 cases q<;>simp[PI.dem] at hq
theorem OwnNil.take {cs:List Value} {ps:List PV} (h:OwnNil cs ps) (n:Nat):OwnNil (cs.take n) (ps.take n):=by
 intro i c es hc hx
 rw[aW] at hc hx
 split at hc
 ·rename_i hi; rw[ah hi] at hx; exact h i c es hc hx
 ·cases hc
theorem OwnNil.drop {cs:List Value} {ps:List PV} (h:OwnNil cs ps) (n:Nat):OwnNil (cs.drop n) (ps.drop n):=by
 intro i c es hc hx
 rw[aX] at hc hx
 exact h _ c es hc hx
theorem OwnNil.append {cs ds:List Value} {ps qs:List PV} (hl:cs.length=ps.length) (h:OwnNil cs ps) (k:OwnNil ds qs):OwnNil (cs++ds) (ps++qs):=by
 intro i c es hc hx
 by_cases hi:i<cs.length
 ·rw[am hi] at hc
  rw[am (hl▸hi)] at hx
  exact h i c es hc hx
 ·rw[ar (by omega)] at hc
  rw[ar (by omega),← hl] at hx
  exact k _ c es hc hx
theorem CellsR.agg {fix:Nat→Nat→Prop} {hp:Nat→Option Nat} {cs:List Value} {ps:List PV} (h:CellsR N w fix hp cs ps) (ho:OwnNil cs ps):VR N w fix hp (.agg cs.toArray) (.agg ps):=
 .agg cs.toArray ps (by simpa using h.1) h.2.1 (λi c es hc hp=>ho i c es (by simpa using hc) hp) (λi c p hc hp=>h.2.2 i c p (by simpa using hc) hp)
theorem CellsR.of_agg {fix:Nat→Nat→Prop} {hp:Nat→Option Nat} {v:Value} {ps:List PV} (h:VR N w fix hp v (.agg ps)):∃cs:Array Value,v = .agg cs∧CellsR N w fix hp cs.toList ps:=by
 cases h with
 | agg cs _ cO cU _ cW=>exact⟨cs,rfl,by simpa using cO,cU,λi c p hc hp=>cW i c p (by simpa using hc) hp⟩
theorem OwnNil.of_agg {fix:Nat→Nat→Prop} {hp:Nat→Option Nat} {cs:Array Value} {ps:List PV} (h:VR N w fix hp (.agg cs) (.agg ps)):OwnNil cs.toList ps:=by
 cases h with
 | agg _ _ cO cU ej cW=>exact λi c es hc hp=>ej i c es (by simpa using hc) hp
theorem CellsR.of_cells {fix:Nat→Nat→Prop} {hp:Nat→Option Nat} {v:Value} {p:PV} (h:VR N w fix hp v p) (h0:p.cells≠[]):CellsR N w fix hp v.cells.toList p.cells:=by
 obtain⟨h1,h2,h3⟩:=h.cells h0
 exact⟨by simpa using h1,h2,λi c x hc hx=>h3 i c x (by simpa using hc) hx⟩
theorem C6 {fix:Nat→Nat→Prop} {hp:Nat→Option Nat} {size:Nat} {agg:Bool} {ps:List PV} {off:Nat} {u:PV} {cs:List Value} (h:CellsR N w fix hp cs ps)
  (hl:wq size agg ps off=some u) (hs:size≠0) (h1:agg=false→size=1):
  off+size≤cs.length∧VR N w fix hp (if agg then .agg ((cs.drop off).take size).toArray else(cs.drop off).headD undef) u∧cp u=some u:=by
 unfold wq at hl
 cases agg with
 | true =>
   simp only[if_true] at hl
   split at hl
   ·rename_i ez
    simp only[aa] at hl; subst hl
    refine⟨by rw[h.1]; exact ez,?_,rfl⟩
    rw[ah rfl]
    exact(((h.drop off).take size).dem).agg (OwnNil.dem _ _)
   ·simp at hl
 | false =>
   have ei:=h1 rfl
   subst ei
   simp only[aH,if_false] at hl
   split at hl
   ·rename_i v hv
    have cS:off<ps.length:=(ai.1 hv).1
    have fm:off<cs.length:=by rw[h.1]; exact cS
    refine⟨by omega,?_⟩
    have cW:=h.2.2 off cs[off] v (al fm) hv
    have hd:(cs.drop off).headD undef=cs[off]:=by rw[aZ fm]; rfl
    simp only[aH,if_false,hd]
    unfold cp at hl
    split at hl<;>simp at hl<;>subst hl
    ·exact⟨cW.dem,rfl⟩
    ·refine⟨cW,?_⟩
     clear hv hd
     generalize cs[off]=c at cW
     cases cW<;>first|rfl|simp_all
   ·simp at hl
theorem SR.lptr {key:Key} {s g off b:Nat} {v:Value} (hv:v = .pointer (some ⟨b,off,none⟩)) (hb:G.box g=some b):SR N w G key v (.lptr s g off):=⟨b,hv,hb⟩
variable {o:Oper} {j:Nat} {next:Act→World→Prop} {Q:Exit→Act→World→Prop} {u:PV} {st1:St}
abbrev wy (N:Nm) (w:World) (G:GS) (a:Act) (st1:St) (u:PV) (vs:List Tmp) (ops:List Oper) (j:Nat) (o:Oper) (next:Act→World→Prop):Prop:=
 ∀a' w' G',FI N w' G' (put st1 j (wJ vs o.dst) u) a' vs (wh vs ops)→Ext w G w' G'→a'.tmps.size=a.tmps.size→next a' w'
theorem c2X (hE:EnvOk E N) (nm:Names vs (wh vs ops)) (ho:ops[j]? = some o) (hf:FI N w G st a vs (wh vs ops)) {x:Operand} {p:PX} (hx:(execOp a.eval o).run P w = .ok (.value (a.eval x)) w)
  (hc:cx E vs ops x=some p) (hs:(rd st p).map (·,st)=some (u,st1)) (hk:wy N w G a st1 u vs ops j o next):o.wp P a w next Q:=by
 simp only[ab,ac] at hs
 obtain⟨r,hr,rfl,rfl⟩:=hs
 obtain⟨h1,h2⟩:=wL hE hc hf hr
 exact wM nm ho hf hx (SR.of_pure h1 h2) hk
theorem c03 (hE:EnvOk E N) (nm:Names vs (wh vs ops)) (ho:ops[j]? = some o) (hf:FI N w G st a vs (wh vs ops)) {c x y:Operand} {pc px py:PX} (cP:o.op = .pick c x y)
  (hc:cx E vs ops c=some pc) (hx:cx E vs ops x=some px) (hy:cx E vs ops y=some py) {cf:wm} (hs:opv cf (.pick pc px py) st=some (u,st1)) (hk:wy N w G a st1 u vs ops j o next):o.wp P a w next Q:=by
 simp only[opv] at hs
 split at hs
 ·rename_i t ht
  simp only[ab,ac] at hs
  obtain⟨r,hr,rfl,rfl⟩:=hs
  have hb:=(wL hE hc hf ht).1
  have mj:a.eval c = .bool t:=by generalize a.eval c=z at hb; cases hb; rfl
  cases t with
  | true =>
    obtain⟨h1,h2⟩:=wL hE hx hf hr
    exact wM nm ho hf (by simp[execOp,cP,mj,asBool]) (SR.of_pure h1 h2) hk
  | false =>
    obtain⟨h1,h2⟩:=wL hE hy hf hr
    exact wM nm ho hf (by simp[execOp,cP,mj,asBool]) (SR.of_pure h1 h2) hk
 ·simp at hs
theorem b81 (hE:EnvOk E N) (nm:Names vs (wh vs ops)) (ho:ops[j]? = some o) (hf:FI N w G st a vs (wh vs ops)) {s:TypeId} {x:Operand} {f:Nat} {px:PX} {fs:Array Field} {fd:Field} {n:Nat} (cP:o.op = .fieldAddr s x f)
  (hu:P.underlying s=some (.struct fs)) (iO:fs[f]? = some fd) (hn:wI P fd.type=some n) (hx:cx E vs ops x=some px) {cf:wm} (hs:opv cf (.faddr fd.offset px) st=some (u,st1)) (hk:wy N w G a st1 u vs ops j o next):o.wp P a w next Q:=by
 have eI:n≠0:=by obtain⟨_,_,_,_,h,_⟩:=yD hn; exact h
 have run:∀b off,a.eval x = .pointer (some ⟨b,off,none⟩)→(execOp a.eval o).run P w = .ok (.value (.pointer (some ⟨b,off+fd.offset,none⟩))) w:=by
  intro b off h
  simp[execOp,cP,h,Instr.fieldAt,run_underlying hu,iO,Instr.sureAddr,fieldPlace,zu hn,eI,zO]
 simp only[opv] at hs
 split at hs
 ·rename_i cs ha
  simp only[aa,ac] at hs
  obtain⟨rfl,rfl⟩:=hs
  rcases Bn hE hx hf ha with⟨_,_,_,_,h,_⟩|⟨h,_⟩
  ·simp at h
  ·generalize hv:a.eval x=v at h
   cases h with
   | cptr b off _ cv cU hcell cW =>
     refine wM nm ho hf (run b off hv) (SR.of_pure ?_ rfl) hk
     refine .cptr b (off+fd.offset) _ (λk=>cv (fd.offset+k)) (λy hy=>cU y (cA hy)) ?_ ?_
     ·intro k hk
      have:=hcell (fd.offset+k) (by simp at hk; omega)
      simpa[cm] using this
     ·intro k y hy
      rw[aX] at hy
      exact cW _ _ hy
 ·rename_i s' g off ha
  simp only[aa,ac] at hs
  obtain⟨rfl,rfl⟩:=hs
  rcases Bn hE hx hf ha with⟨_,_,_,b,h,hv,hb⟩|⟨_,h⟩
  ·simp at h
   obtain⟨rfl,rfl,rfl⟩:=h
   exact wM nm ho hf (run b _ hv) (SR.lptr rfl hb) hk
  ·simp[cp] at h
 ·rename_i n' off ha
  simp only[aa,ac] at hs
  obtain⟨rfl,rfl⟩:=hs
  rcases Bn hE hx hf ha with⟨_,_,_,_,h,_⟩|⟨h,_⟩
  ·simp at h
  ·generalize hv:a.eval x=v at h
   cases h with
   | ptr _ _ b hb=>exact wM nm ho hf (run b off hv) (SR.of_pure (.ptr _ _ b hb) rfl) hk
 ·simp at hs
theorem b7w (hE:EnvOk E N) (nm:Names vs (wh vs ops)) (ho:ops[j]? = some o) (hf:FI N w G st a vs (wh vs ops)) {t e:TypeId} {x i:Operand} {px pi:PX} {n:Nat} (cP:o.op = .indexAddr t x i)
  (hu:P.underlying t=some (.slice e)) (hn:wI P e=some n) (hx:cx E vs ops x=some px) (hi:cx E vs ops i=some pi) {cf:wm} (hs:opv cf (.iaddrS n px pi) st=some (u,st1)) (hk:wy N w G a st1 u vs ops j o next):o.wp P a w next Q:=by
 simp only[opv] at hs
 split at hs
 ·rename_i own es m fA hm
  split at hs
  ·rename_i lB
   split at hs
   ·rename_i y hy
    split at hs
    ·rename_i oP
     simp only[aa,ac] at hs
     obtain⟨rfl,rfl⟩:=hs
     have h:=(wL hE hx hf fA).1
     obtain⟨k,fT⟩:=A9 hE hi hf hm
     have cS:m.toNat<es.length:=(ai.1 hy).1
     generalize hv:a.eval x=v at h
     cases h with
     | nils=>simp at cS
     | void=>simp at cS
     | list _ b off len cap sz _ cv cO cX cV cU hcell cW =>
       have eS:y∈es:=av hy
       have mU:sz=n:=by rw[← cV y eS]; exact oP
       subst mU
       have cQ:(execOp a.eval o).run P w = .ok (.value (.pointer (some ⟨b,off+m.toNat*sz,none⟩))) w:=by
        have h1:m<len:=by omega
        simp[execOp,cP,hv,fT,Instr.indexAt,asIntOf,run_underlying hu,lB,h1,zu hn,zO]
       refine wM nm ho hf cQ (SR.of_pure ?_ rfl) hk
       refine .cptr b _ _ (λk=>cv (m.toNat*sz+k)) (cU y eS) ?_ ?_
       ·intro k hk
        rw[oP] at hk
        have hb:m.toNat*sz+k<len*sz:=by
         have:(m.toNat+1)*sz≤len*sz:=bo _ (by omega)
         rw[aQ] at this; omega
        have:=hcell _ hb
        simpa[cm] using this
       ·intro k z hz
        exact cW _ _ hy _ _ hz
    ·simp at hs
   ·simp at hs
  ·simp at hs
 ·rename_i r sz agg len m fA hm
  split at hs
  ·rename_i hc
   obtain⟨rfl,lB,cS⟩:=hc
   simp only[aa,ac] at hs
   obtain⟨rfl,rfl⟩:=hs
   have h:=(wL hE hx hf fA).1
   obtain⟨k,fT⟩:=A9 hE hi hf hm
   generalize hv:a.eval x=v at h
   cases h with
   | rowp _ _ _ _ b cap hb cX dY =>
     have cQ:(execOp a.eval o).run P w = .ok (.value (.pointer (some ⟨b,0+m.toNat*sz,none⟩))) w:=by
      simp[execOp,cP,hv,fT,Instr.indexAt,asIntOf,run_underlying hu,lB,cS,zu hn,zO]
     rw[aM] at cQ
     exact wM nm ho hf cQ (SR.of_pure (.ptr _ _ b hb) rfl) hk
  ·simp at hs
 ·rename_i r sz agg off len m fA hm
  split at hs
  ·rename_i hc
   obtain⟨rfl,lB,cS⟩:=hc
   simp only[aa,ac] at hs
   obtain⟨rfl,rfl⟩:=hs
   have h:=(wL hE hx hf fA).1
   obtain⟨k,fT⟩:=A9 hE hi hf hm
   generalize hv:a.eval x=v at h
   cases h with
   | rows _ _ _ _ _ b o' cap m' T hb cX p9 dY jL =>
     have eN:o'=off*sz:=p9.resolve_left (by omega)
     have cQ:(execOp a.eval o).run P w = .ok (.value (.pointer (some ⟨b,o'+m.toNat*sz,none⟩))) w:=by
      simp[execOp,cP,hv,fT,Instr.indexAt,asIntOf,run_underlying hu,lB,cS,zu hn,zO]
     rw[eN,← aQ] at cQ
     exact wM nm ho hf cQ (SR.of_pure (.ptr _ _ b hb) rfl) hk
  ·simp at hs
 ·simp at hs
theorem b7x (hE:EnvOk E N) (nm:Names vs (wh vs ops)) (ho:ops[j]? = some o) (hf:FI N w G st a vs (wh vs ops)) {t e:TypeId} {x i:Operand} {px pi:PX} {n len:Nat} (cP:o.op = .indexAddr t x i)
  (hu:P.underlying t=some (.array len e)) (hn:wI P e=some n) (hx:cx E vs ops x=some px) (hi:cx E vs ops i=some pi) {cf:wm} (hs:opv cf (.iaddrA len n px pi) st=some (u,st1)) (hk:wy N w G a st1 u vs ops j o next):o.wp P a w next Q:=by
 have run:∀b off m k,a.eval x = .pointer (some ⟨b,off,none⟩)→a.eval i = .int k m→0≤m→m<len→(execOp a.eval o).run P w = .ok (.value (.pointer (some ⟨b,off+m.toNat*n,none⟩))) w:=by
  intro b off m k hv fT h0 h1
  simp[execOp,cP,hv,fT,Instr.indexAt,asIntOf,run_underlying hu,Instr.sureAddr,h0,h1,zu hn,zO]
 simp only[opv] at hs
 split at hs
 ·rename_i s g off m ha hm
  split at hs
  ·rename_i hb
   simp only[aa,ac] at hs
   obtain⟨rfl,rfl⟩:=hs
   obtain⟨k,fT⟩:=A9 hE hi hf hm
   rcases Bn hE hx hf ha with⟨_,_,_,b,h,hv,sg⟩|⟨_,h⟩
   ·simp at h
    obtain⟨rfl,rfl,rfl⟩:=h
    exact wM nm ho hf (run b _ m k hv fT hb.1 hb.2) (SR.lptr rfl sg) hk
   ·simp[cp] at h
  ·simp at hs
 ·rename_i cs m ha hm
  split at hs
  ·rename_i hb
   simp only[aa,ac] at hs
   obtain⟨rfl,rfl⟩:=hs
   obtain⟨k,fT⟩:=A9 hE hi hf hm
   rcases Bn hE hx hf ha with⟨_,_,_,_,h,_⟩|⟨h,_⟩
   ·simp at h
   ·generalize hv:a.eval x=v at h
    cases h with
    | cptr b off _ cv cU hcell cW =>
      refine wM nm ho hf (run b off m k hv fT hb.1 hb.2) (SR.of_pure ?_ rfl) hk
      refine .cptr b _ _ (λk=>cv (m.toNat*n+k)) (λy hy=>cU y (cA hy)) ?_ ?_
      ·intro k hk
       have:=hcell (m.toNat*n+k) (by simp at hk; omega)
       simpa[cm] using this
      ·intro k y hy
       rw[aX] at hy
       exact cW _ _ hy
  ·simp at hs
 ·simp at hs
theorem LN {t:TypeId} {n:Nat} (hn:wI P t=some n) {v:Value} {cs:List PV} {u:PV} (h:VR N w G.fix G.heap v (.cptr cs))
  (hl:wq n (wW P t) cs 0=some u):∃r,(Instr.loadAt t v).run P w = .ok r w∧VR N w G.fix G.heap r u∧cp u=some u:=by
 cases h with
 | cptr b off _ cv cU hcell cW =>
   have eI:n≠0:=by obtain⟨_,_,_,_,h,_⟩:=yD hn; exact h
   let ds:List Value:=(List.range cs.length).map cv
   have hR:CellsR N w G.fix G.heap ds cs:=by
    refine⟨by simp[ds],cU,?_⟩
    intro i c x hc hx
    have hi:i<cs.length:=(ai.1 hx).1
    simp[ds,hi] at hc
    subst hc
    exact cW i x hx
   obtain⟨h1,h2,h3⟩:=C6 hR hl eI (BE hn)
   refine⟨_,?_,h2,h3⟩
   have:=Er (w:=w) hn b off ds (by simpa using h1) (λj v hv=>by
    have hj:j<cs.length:=by have:=(ai.1 hv).1; simpa[ds] using this
    simp[ds,hj] at hv
    subst hv
    exact(hcell j hj).1)
   simpa[Instr.loadAt,Instr.sureAddr] using this
theorem b82 (hE:EnvOk E N) (nm:Names vs (wh vs ops)) (ho:ops[j]? = some o) (hf:FI N w G st a vs (wh vs ops)) {t:TypeId} {x:Operand} {f:Nat} {px:PX} {fs:Array Field} {fd:Field} {n:Nat} (cP:o.op = .field t x f)
  (hu:P.underlying t=some (.struct fs)) (iO:fs[f]? = some fd) (hn:wI P fd.type=some n) (hx:cx E vs ops x=some px) {cf:wm}
  (hs:opv cf (.field fd.offset n (wW P fd.type) px) st=some (u,st1)) (hk:wy N w G a st1 u vs ops j o next):o.wp P a w next Q:=by
 have eI:n≠0:=by obtain⟨_,_,_,_,h,_⟩:=yD hn; exact h
 simp only[opv] at hs
 split at hs
 ·rename_i ps dT
  simp only[ab,ac] at hs
  obtain⟨r,hr,rfl,rfl⟩:=hs
  obtain⟨cs,hv,hR⟩:=CellsR.of_agg (wL hE hx hf dT).1
  obtain⟨h1,h2,h3⟩:=C6 hR hr eI (BE hn)
  refine wM nm ho hf ?_ (SR.of_pure h2 h3) hk
  have hx:(Instr.field t (.agg cs) f).run P w = .ok (if wW P fd.type then .agg ((cs.toList.drop fd.offset).take n).toArray else(cs.toList.drop fd.offset).headD undef) w:=by
   simp only[Instr.field,Sem.run_bind,run_underlying hu,Result.andThen_ok,iO,asAgg,Sem.run_pure,part,Dd hn,Sem.run_ite,zu hn]
   by_cases ha:wW P fd.type=true
   ·simp only[ha,if_true]
    congr 2
    apply Array.ext'
    simp
   ·simp only[Bool.not_eq_true] at ha
    have cS:fd.offset<cs.size:=by simp at h1; omega
    simp[ha,aZ (l:=cs.toList) (i:=fd.offset) (by simpa using cS),cS]
  simp[execOp,cP,hv,hx]
 ·simp at hs
theorem b4A (hE:EnvOk E N) (nm:Names vs (wh vs ops)) (ho:ops[j]? = some o) (hf:FI N w G st a vs (wh vs ops)) {t:TypeId} {x i:Operand} {px pi:PX} (cP:o.op = .index t x i)
  (hu:P.underlying t=some .string) (hx:cx E vs ops x=some px) (hi:cx E vs ops i=some pi) {cf:wm} (hs:opv cf (.indexStr px pi) st=some (u,st1)) (hk:wy N w G a st1 u vs ops j o next):o.wp P a w next Q:=by
 simp only[opv] at hs
 split at hs
 ·rename_i s m fA hm
  split at hs
  ·rename_i lB
   split at hs
   ·rename_i y hy
    simp only[aa,ac] at hs
    obtain⟨rfl,rfl⟩:=hs
    have h:=(wL hE hx hf fA).1
    obtain⟨k,fT⟩:=A9 hE hi hf hm
    generalize hv:a.eval x=v at h
    cases h with
    | str s =>
      have fJ:s[m.toNat]? = some y:=by
       have cS:m.toNat<s.data.toList.length:=(ai.1 hy).1
       have fm:m.toNat<s.size:=by rw[bb] at cS; exact cS
       rw[getElem?_pos s m.toNat fm]
       rw[al cS] at hy
       simp only[aa] at hy ⊢
       rw[← hy]; rfl
      refine wM nm ho hf ?_ (SR.of_pure (.int _ _) rfl) hk
      simp only[execOp,cP,hv,fT,Instr.index,asIntOf,Sem.run_bind,Sem.run_pure,run_underlying hu,Result.andThen_ok,lB,if_true,fJ]
   ·simp at hs
  ·simp at hs
 ·simp at hs
end
end PI
set_option linter.unusedSimpArgs false
set_option linter.unusedVariables false
namespace PI
open Go
section
variable {E:Env} {N:Nm} {w:World} {G:GS} {st:St} {a:Act} {vs:List Tmp} {ops:List Oper} {P:Program}
variable {o:Oper} {j:Nat} {next:Act→World→Prop} {Q:Exit→Act→World→Prop} {u:PV} {st1:St}
theorem b7y {op:BinOp} {t:TypeId} {k:IntKind} {x y:Int} (h:EQ op k x y=some u):∃v,(binOp op t (.int k x) (.int k y)).run P w = .ok v w∧VR N w G.fix G.heap v u∧cp u=some u:=by
 cases op<;>simp only[EQ] at h
 case quo=>
  split at h
  ·simp at h
  ·rename_i h0
   simp at h; subst h
   exact⟨_,by simp[binOp,Op.intDiv,h0],.int _ _,rfl⟩
 case rem=>
  split at h
  ·simp at h
  ·rename_i h0
   simp at h; subst h
   exact⟨_,by simp[binOp,Op.intDiv,h0],.int _ _,rfl⟩
 all_goals first
  | (simp at h; done)
  | (simp only [aa] at h; subst h
     first
      | exact⟨_,by simp only[binOp,Op.intArith,ne_eq,bA,if_false]; rfl,.int _ _,rfl⟩
      | exact⟨_,by simp only[binOp,Op.intBits,ne_eq,bA,if_false]; rfl,.int _ _,rfl⟩
      | exact⟨_,by simp only[binOp,Op.intCmp,ne_eq,bA,if_false]; rfl,.bool _,rfl⟩)
theorem b7z {op:BinOp} {t:TypeId} {x y:ByteArray} (h:ER op x.data.toList y.data.toList=some u):
  ∃v,(binOp op t (.string x) (.string y)).run P w = .ok v w∧VR N w G.fix G.heap v u∧cp u=some u:=by
 cases op<;>simp only[ER] at h
 case add=>
  split at h
  ·rename_i hl
   simp only[aa] at h; subst h
   have h1:¬((x.size+y.size:Nat):Int)>IntKind.i64.max:=by
    have hx:x.data.toList.length=x.size:=bb
    have hy:y.data.toList.length=y.size:=bb
    rw[IntKind.max_i64]; omega
   refine⟨.string (x++y),by simp only[binOp,Op.stringOp,af h1]; rfl,?_,rfl⟩
   have:(x++y).data.toList=x.data.toList++y.data.toList:=by simp
   rw[← this]
   exact .str _
  ·simp at h
 all_goals first
  | (simp at h; done)
  | (simp only [aa] at h; subst h
     exact⟨_,by simp only[binOp,Op.stringOp,LM]; rfl,.bool _,rfl⟩)
theorem Q3 {op:BinOp} {t:TypeId} {k k':IntKind} {x y:Int} (cP:op = .shl∨op = .shr) (h:Bq op (.int k x) (.int k' y)=some u):
  ∃v,(binOp op t (.int k x) (.int k' y)).run P w = .ok v w∧VR N w G.fix G.heap v u∧cp u=some u:=by
 rcases cP with rfl|rfl<;>simp only[Bq] at h
 ·split at h
  ·simp at h
  ·rename_i h0
   simp only[aa] at h; subst h
   exact⟨_,by simp only[binOp,Op.shift,af h0]; rfl,.int _ _,rfl⟩
 ·split at h
  ·simp at h
  ·rename_i h0
   simp only[aa] at h; subst h
   exact⟨_,by simp only[binOp,Op.shift,af h0]; rfl,.int _ _,rfl⟩
theorem c04 {op:BinOp} {t:TypeId} {vx vy:Value} {x y:PV} (hx:VR N w G.fix G.heap vx x) (hy:VR N w G.fix G.heap vy y) (h:Bq op x y=some u) (ox oy:Operand):
  ∃v,(do eqGuard op t ox oy vx vy; binOp op t vx vy:Sem Value).run P w = .ok v w∧VR N w G.fix G.heap v u∧cp u=some u:=by
 have key:(∃v,(binOp op t vx vy).run P w = .ok v w∧VR N w G.fix G.heap v u∧cp u=some u)∧(eqGuard op t ox oy vx vy).run P w = .ok () w:=by
  unfold Bq at h
  split at h
  ·rename_i k m k' m'
   cases hx; cases hy
   refine⟨?_,by cases op<;>simp[eqGuard]⟩
   split at h
   ·exact Q3 (.inl rfl) (by simpa[Bq] using h)
   ·exact Q3 (.inr rfl) (by simpa[Bq] using h)
   ·split at h
    ·subst_vars
     exact b7y h
    ·simp at h
  ·rename_i s s'
   cases hx; cases hy
   exact⟨b7z h,by cases op<;>simp[eqGuard]⟩
  ·simp at h
 obtain⟨⟨v,h1,h2,h3⟩,h4⟩:=key
 exact⟨v,by simp[h4,h1],h2,h3⟩
theorem Q4 (hE:EnvOk E N) (nm:Names vs (wh vs ops)) (ho:ops[j]? = some o) (hf:FI N w G st a vs (wh vs ops)) {op:BinOp} {t t':TypeId} {x y:Operand} {px py:PX} (cP:o.op = .binOp op t x y t')
  (hx:cx E vs ops x=some px) (hy:cx E vs ops y=some py) {cf:wm} (hs:opv cf (.bin op px py) st=some (u,st1)) (hk:wy N w G a st1 u vs ops j o next):o.wp P a w next Q:=by
 simp only[opv] at hs
 split at hs
 ·rename_i p q hp hq
  simp only[ab,ac] at hs
  obtain⟨r,hr,rfl,rfl⟩:=hs
  obtain⟨v,h1,h2,h3⟩:=c04 (t:=t) (P:=P) (wL hE hx hf hp).1 (wL hE hy hf hq).1 hr x y
  refine wM nm ho hf ?_ (SR.of_pure h2 h3) hk
  simp only[execOp,cP,Sem.run_bind,h1,Result.andThen_ok,Sem.run_pure]
 ·simp at hs
theorem Q5 {d:Nat} {t:TypeId} {k:EK} {vx vy:Value} {x y:PV} {b:Bool} (hx:VR N w G.fix G.heap vx x) (hy:VR N w G.fix G.heap vy y) (h:zi k x y=some b) (ht:ekT P t=some k):
  (Op.equalIn (d+1) t vx vy).run P w = .ok b w:=by
 unfold ekT at ht
 unfold zi at h
 split at h
 ·cases hx; cases hy
  simp only[aa] at h; subst h
  split at ht<;>simp at ht
  exact run_equalIn_bool' w d t _ _ (by assumption)
 ·cases hx; cases hy
  split at h
  ·subst_vars
   simp only[aa] at h; subst h
   split at ht<;>simp at ht
   exact run_equalIn_int w d t _ _ _ _ (by assumption)
  ·simp at h
 ·cases hx; cases hy
  simp only[aa] at h; subst h
  split at ht<;>simp at ht
  rw[run_equalIn_string w d t _ _ (by assumption),LM,LM]
 ·simp at h
theorem LO {d:Nat} {cs ds:Array Value} {ps qs:List PV} (hc:CellsR N w G.fix G.heap cs.toList ps) (hd:CellsR N w G.fix G.heap ds.toList qs):∀{fs:List Field} {off:Nat} {ks:List EK} {b:Bool},
  eqFields P fs off=some ks→yO ks (ps.drop off) (qs.drop off)=some b→(Op.eqFields (d+1) cs ds fs).run P w = .ok b w
 | [], off, ks, b, hk, h => by
   simp[eqFields] at hk; subst hk
   unfold yO at h
   split at h<;>simp_all [Op.eqFields]
 | f :: fs, off, ks, b, hk, h => by
   simp only[eqFields] at hk
   split at hk
   ·rename_i cT
    obtain⟨h1,h2,h3,h4⟩:=cT
    simp only[ae,ab] at hk
    obtain⟨k,fX,ks',ey,rfl⟩:=hk
    unfold yO at h
    split at h
    ·rename_i heq _ _; simp at heq
    ·rename_i k' ks'' x xs y ys eZ iV pd
     simp only[bw] at eZ
     obtain⟨rfl,rfl⟩:=eZ
     simp only[ae,ab] at h
     obtain⟨b1,fe,b2,dO,rfl⟩:=h
     have lS:ps[off]? = some x:=by
      have:=aF List.head? iV; simpa[List.head?_drop] using this
     have tT:qs[off]? = some y:=by
      have:=aF List.head? pd; simpa[List.head?_drop] using this
     have mg:off<cs.size:=by have:=(ai.1 lS).1; have:=hc.1; simp at this; omega
     have qV:off<ds.size:=by have:=(ai.1 tT).1; have:=hd.1; simp at this; omega
     have jl:∀(zs:Array Value) (hz:off<zs.size),(part f.type zs f.offset).run P w = .ok zs[off] w:=by
      intro zs hz
      simp[part,Dd h3,h4,h1,hz]
     have hx:=hc.2.2 off cs[off] x (by simp[mg]) lS
     have hy:=hd.2.2 off ds[off] y (by simp[qV]) tT
     have sh:ps.drop (off+1)=xs:=by have:=aF List.tail iV; simpa[List.tail_drop] using this
     have si:qs.drop (off+1)=ys:=by have:=aF List.tail pd; simpa[List.tail_drop] using this
     have ih:=LO (d:=d) hc hd (fs:=fs) (off:=off+1) ey (by rw[sh,si]; exact dO)
     simp only[Op.eqFields,h2,ne_eq,cy,if_true,Sem.run_bind,jl cs mg,jl ds qV,Result.andThen_ok,Q5 hx hy fe fX,Sem.run_ite]
     cases b1 with
     | true=>simpa using ih
     | false=>simp
    ·simp at h
   ·simp at hk
theorem c49 (hE:EnvOk E N) (hP:E.P=P) (nm:Names vs (wh vs ops)) (ho:ops[j]? = some o) (hf:FI N w G st a vs (wh vs ops)) {op:BinOp} {t t':TypeId} {x y:Operand} {px py:PX} {agg:Bool} {ks:List EK} (cP:o.op = .binOp op t x y t')
  (ge:op = .eql∨op = .neq) (ht:eqT P t=some (some (agg,ks))) (hx:cx E vs ops x=some px) (hy:cx E vs ops y=some py) {cf:wm} (hs:opv cf (.eq (op == .neq) agg ks px py) st=some (u,st1))
  (hk:wy N w G a st1 u vs ops j o next):o.wp P a w next Q:=by
 simp only[opv] at hs
 split at hs
 ·rename_i p q hp hq
  simp only[ab,ac] at hs
  obtain⟨b,hb,rfl,rfl⟩:=hs
  have eB:=(wL hE hx hf hp).1
  have fJ:=(wL hE hy hf hq).1
  have key:∀vx vy,VR N w G.fix G.heap vx p→VR N w G.fix G.heap vy q→(do eqGuard op t x y vx vy; binOp op t vx vy:Sem Value).run P w = .ok (.bool (if op == .neq then !b else b)) w:=by
   intro vx vy gD sj
   unfold eqT at ht
   split at ht
   ·simp at ht
   ·simp at ht
   ·rename_i hu
    simp only[aa,ac] at ht
    obtain⟨rfl,rfl⟩:=ht
    simp only[peq,aH,if_false] at hb
    have he:=Q5 (P:=P) (d:=9999) (t:=t) gD sj hb (by simp[ekT,hu])
    have:∃c d,p = .bool c∧q = .bool d:=by
     cases p<;>cases q<;>simp[zi] at hb
     exact⟨_,_,rfl,rfl⟩
    obtain⟨c,d,rfl,rfl⟩:=this
    cases gD; cases sj
    rcases ge with rfl|rfl<;>simp[eqGuard,binOp,Op.equal,Op.maxDepth,he]
   ·rename_i fs hu
    split at ht
    ·rename_i ks' hX
     split at ht
     ·rename_i cT
      simp only[aa,ac] at ht
      obtain⟨rfl,rfl⟩:=ht
      simp only[ak,bC] at cT
      simp only[peq,if_true] at hb
      split at hb
      ·obtain⟨cs,rfl,hc⟩:=CellsR.of_agg gD
       obtain⟨ds,rfl,hd⟩:=CellsR.of_agg sj
       have pe:P.fieldsOf t=fs:=by simp[Program.fieldsOf,hu]
       have h1:=run_equalIn_struct (P:=P) w 9999 t cs ds (by rw[pe]; exact hu) cT.1
       rw[pe,LO hc hd hX (by simpa using hb)] at h1
       rcases ge with rfl|rfl
       ·simp only[Sem.run_bind,run_eqGuard_agg w _ t x y cs ds cT.2,Result.andThen_ok,run_eql_struct,h1]; rfl
       ·simp only[Sem.run_bind,run_eqGuard_agg w _ t x y cs ds cT.2,Result.andThen_ok,run_neq_struct,h1]; rfl
      ·simp at hb
     ·simp at ht
    ·simp at ht
   ·simp at ht
  refine wM nm ho hf ?_ (SR.of_pure (.bool _) rfl) hk
  simp only[execOp,cP,Sem.run_bind,key _ _ eB fJ,Result.andThen_ok,Sem.run_pure]
 ·simp at hs
theorem VR.cp_dem3 {N:Nm} {w:World} {fix:Nat→Nat→Prop} {hp:Nat→Option Nat} {v:Value} {p:PV} (h:VR N w fix hp v p):cp (PI.dem p)=some (PI.dem p):=by
 cases h<;>rfl
theorem c5a (hE:EnvOk E N) (nm:Names vs (wh vs ops)) (ho:ops[j]? = some o) (hf:FI N w G st a vs (wh vs ops)) {op:UnOp} {t:TypeId} {x:Operand} {px:PX} (cP:o.op = .unOp op t x)
  (hx:cx E vs ops x=some px) {cf:wm} (hs:opv cf (.un op px) st=some (u,st1)) (hk:wy N w G a st1 u vs ops j o next):o.wp P a w next Q:=by
 simp only[opv] at hs
 split at hs
 ·rename_i p hp
  simp only[ab,ac] at hs
  obtain⟨r,hr,rfl,rfl⟩:=hs
  have h:=(wL hE hx hf hp).1
  generalize hv:a.eval x=v at h
  unfold unv at hr
  split at hr
  ·cases h
   simp only[aa] at hr; subst hr
   exact wM nm ho hf (by simp[execOp,cP,hv,Op.unary]) (SR.of_pure (.bool _) rfl) hk
  ·cases h
   simp only[aa] at hr; subst hr
   exact wM nm ho hf (by simp only[execOp,cP,hv,Op.unary,Op.intArith]; rfl) (SR.of_pure (.int _ _) rfl) hk
  ·simp at hr
 ·simp at hs
theorem b5Y (hE:EnvOk E N) (nm:Names vs (wh vs ops)) (ho:ops[j]? = some o) (hf:FI N w G st a vs (wh vs ops)) {s t:TypeId} {k k':IntKind} {x:Operand} {px:PX} (cP:o.op = .convert s t x)
  (hu:P.underlying s=some (.int k')) (eR:P.underlying t=some (.int k)) (hx:cx E vs ops x=some px) {cf:wm} (hs:opv cf (.convInt k px) st=some (u,st1)) (hk:wy N w G a st1 u vs ops j o next):o.wp P a w next Q:=by
 simp only[opv,ab,ac] at hs
 obtain⟨n,hn,rfl,rfl⟩:=hs
 obtain⟨k1,hv⟩:=A9 hE hx hf hn
 refine wM nm ho hf ?_ (SR.of_pure (.int _ _) rfl) hk
 simp[execOp,cP,hv,convert,run_underlying hu,run_underlying eR,Conv.intToInt]
theorem c05 (hE:EnvOk E N) (nm:Names vs (wh vs ops)) (ho:ops[j]? = some o) (hf:FI N w G st a vs (wh vs ops)) {t:TypeId} {d:TypeDesc} {i:Nat} {x:Operand} {px:PX} (cP:o.op = .makeInterface t x)
  (hu:P.underlying t=some d) (hd:∀m,d≠.interface m) (hi:xB t E.pt 0=some i) (hx:cx E vs ops x=some px) {cf:wm} (hs:opv cf (.ifc true (i+1) px) st=some (u,st1)) (hk:wy N w G a st1 u vs ops j o next):o.wp P a w next Q:=by
 simp only[opv] at hs
 split at hs
 ·rename_i v _ hp
  simp only[aa,ac] at hs
  obtain⟨rfl,rfl⟩:=hs
  have h:=(wL hE hx hf hp).1
  have ht:=hE.pt t i hi
  refine wM (v := .iface t (a.eval x)) nm ho hf ?_ (SR.of_pure ?_ rfl) hk
  ·have:(Instr.makeInterface t (a.eval x)).run P w = .ok (.iface t (a.eval x)) w:=by
    simp only[Instr.makeInterface,Sem.run_bind,run_underlying hu,Result.andThen_ok]
    cases d<;>first|exact absurd rfl (hd _)|rfl
   simp[execOp,cP,this]
  ·rw[← ht]; exact .iface _ _ _ h
 ·rename_i e _; simp at e
 ·simp at hs
theorem c06 (hE:EnvOk E N) (nm:Names vs (wh vs ops)) (ho:ops[j]? = some o) (hf:FI N w G st a vs (wh vs ops)) {t t':TypeId} {d:TypeDesc} {i:Nat} {x:Operand} {px:PX} (cP:o.op = .typeAssert x t' t false)
  (hu:P.underlying t=some d) (hd:∀m,d≠.interface m) (hi:xB t E.pt 0=some i) (hx:cx E vs ops x=some px) {cf:wm} (hs:opv cf (.ifc false (i+1) px) st=some (u,st1)) (hk:wy N w G a st1 u vs ops j o next):o.wp P a w next Q:=by
 simp only[opv] at hs
 split at hs
 ·rename_i e _; simp at e
 ·rename_i n v _ hp
  split at hs
  ·rename_i hn
   simp only[aa,ac] at hs
   obtain⟨rfl,rfl⟩:=hs
   have h:=(wL hE hx hf hp).1
   have ht:=hE.pt t i hi
   generalize hv:a.eval x=z at h
   cases h with
   | iface _ v0 _ h =>
     subst hn
     refine wM (v:=v0) nm ho hf ?_ (SR.of_pure h.dem h.cp_dem3) hk
     have:(Instr.typeAssert (.iface (N.ty (i+1)) v0) t' t false).run P w = .ok v0 w:=by
      rw[ht]
      simp only[Instr.typeAssert,Sem.run_bind,run_underlying hu,Result.andThen_ok]
      cases d<;>first|exact absurd rfl (hd _)|simp
     simp[execOp,cP,hv,this]
  ·simp at hs
 ·simp at hs
theorem c07 (hE:EnvOk E N) (nm:Names vs (wh vs ops)) (ho:ops[j]? = some o) (hf:FI N w G st a vs (wh vs ops)) {s t:TypeId} {x:Operand} {px:PX} (cP:o.op = .convert s t x)
  (hu:P.underlying s=some .string) (eR:P.underlying t=some .string) (hx:cx E vs ops x=some px) {cf:wm} (hs:opv cf (.movs px) st=some (u,st1)) (hk:wy N w G a st1 u vs ops j o next):o.wp P a w next Q:=by
 simp only[opv] at hs
 split at hs
 ·rename_i l hp
  simp only[aa,ac] at hs
  obtain⟨rfl,rfl⟩:=hs
  have h:=(wL hE hx hf hp).1
  generalize hv:a.eval x=v at h
  cases h
  exact wM nm ho hf (by simp[execOp,cP,hv,convert,run_underlying hu,run_underlying eR]) (SR.of_pure (.str _) rfl) hk
 ·simp at hs
theorem b5Z (hE:EnvOk E N) (nm:Names vs (wh vs ops)) (ho:ops[j]? = some o) (hf:FI N w G st a vs (wh vs ops)) {i:Nat} {x:Operand} {px:PX} (cP:o.op = .extract x i)
  (hx:cx E vs ops x=some px) {cf:wm} (hs:opv cf (.extract i px) st=some (u,st1)) (hk:wy N w G a st1 u vs ops j o next):o.wp P a w next Q:=by
 simp only[opv] at hs
 split at hs
 ·rename_i ps hp
  simp only[ab,ae,ac] at hs
  obtain⟨r,⟨p,iF,qd⟩,rfl,rfl⟩:=hs
  have h:=(wL hE hx hf hp).1
  generalize hv:a.eval x=v at h
  cases h with
  | tuple cs _ cO cW =>
    have hi:i<cs.size:=by have:=(ai.1 iF).1; omega
    have fC:=cW i cs[i] p (by simp[hi]) iF
    have hd:VR N w G.fix G.heap cs[i] r∧cp r=some r:=by
     unfold cp at qd
     split at qd<;>simp at qd<;>subst qd
     ·exact⟨fC.dem,rfl⟩
     ·refine⟨fC,?_⟩
      clear iF
      generalize cs[i]=c at fC
      cases fC<;>first|rfl|simp_all
    exact wM nm ho hf (by simp[execOp,cP,hv,Instr.extract,hi]) (SR.of_pure hd.1 hd.2) hk
 ·simp at hs
theorem Q6 (hE:EnvOk E N) (nm:Names vs (wh vs ops)) (ho:ops[j]? = some o) (hf:FI N w G st a vs (wh vs ops)) {t:TypeId} {ts:Array TypeId} {x:Operand} {px:PX} {str:Bool} (cP:o.op = .call { callee := .builtin .len,args := #[x],argTypes:=ts })
  (h0:ts[0]? = some t) (hu:if str then P.underlying t=some .string else ∃e,P.underlying t=some (.slice e)) (hx:cx E vs ops x=some px) {cf:wm} (hs:opv cf (.len str px) st=some (u,st1)) (hk:wy N w G a st1 u vs ops j o next):o.wp P a w next Q:=by
 simp only[opv] at hs
 split at hs
 ·rename_i s hp
  simp only[aa,ac] at hs
  obtain⟨rfl,rfl⟩:=hs
  have h:=(wL hE hx hf hp).1
  simp only[if_true] at hu
  generalize hv:a.eval x=v at h
  cases h with
  | str s =>
    have hl:s.data.toList.length=s.size:=bb
    refine wM nm ho hf ?_ (SR.of_pure (.int _ _) rfl) hk
    rw[hl]
    simp only[execOp,cP,resolve,Sem.run_bind,Sem.run_pure,Result.andThen_ok,invoke,builtin,Builtin.len_,h0,List.map_toArray,ax,ba,hv,bN,bZ,run_underlying hu,goInt]
 ·rename_i b es hp
  simp only[aa,ac] at hs
  obtain⟨rfl,rfl⟩:=hs
  have h:=(wL hE hx hf hp).1
  simp only[aH,if_false] at hu
  obtain⟨e,eR⟩:=hu
  generalize hv:a.eval x=v at h
  cases h with
  | nils =>
    refine wM nm ho hf ?_ (SR.of_pure (.int _ _) rfl) hk
    simp[execOp,cP,hv,resolve,invoke,builtin,Builtin.len_,h0,run_underlying eR,goInt]
  | void =>
    refine wM nm ho hf ?_ (SR.of_pure (.int _ _) rfl) hk
    simp[execOp,cP,hv,resolve,invoke,builtin,Builtin.len_,h0,run_underlying eR,goInt]
  | list _ b off len cap sz _ cv cO =>
    refine wM nm ho hf ?_ (SR.of_pure (.int _ _) rfl) hk
    simp[execOp,cP,hv,resolve,invoke,builtin,Builtin.len_,h0,run_underlying eR,goInt,cO]
 ·rename_i m sz agg n hp
  simp only[aa,ac] at hs
  obtain⟨rfl,rfl⟩:=hs
  have h:=(wL hE hx hf hp).1
  simp only[aH,if_false] at hu
  obtain⟨e,eR⟩:=hu
  generalize hv:a.eval x=v at h
  cases h with
  | rowp _ _ _ _ b cap hb cX dY =>
    refine wM nm ho hf ?_ (SR.of_pure (.int _ _) rfl) hk
    simp[execOp,cP,hv,resolve,invoke,builtin,Builtin.len_,h0,run_underlying eR,goInt]
 ·rename_i m sz agg off n hp
  simp only[aa,ac] at hs
  obtain⟨rfl,rfl⟩:=hs
  have h:=(wL hE hx hf hp).1
  simp only[aH,if_false] at hu
  obtain⟨e,eR⟩:=hu
  generalize hv:a.eval x=v at h
  cases h with
  | rows _ _ _ _ _ b o' cap m' T hb cX p9 dY jL =>
    refine wM nm ho hf ?_ (SR.of_pure (.int _ _) rfl) hk
    simp[execOp,cP,hv,resolve,invoke,builtin,Builtin.len_,h0,run_underlying eR,goInt]
 ·rename_i hp
  simp only[aa,ac] at hs
  obtain⟨rfl,rfl⟩:=hs
  have h:=(wL hE hx hf hp).1
  simp only[aH,if_false] at hu
  obtain⟨e,eR⟩:=hu
  generalize hv:a.eval x=v at h
  cases h with
  | nils' =>
    refine wM nm ho hf ?_ (SR.of_pure (.int _ _) rfl) hk
    simp[execOp,cP,hv,resolve,invoke,builtin,Builtin.len_,h0,run_underlying eR,goInt]
 ·rename_i hp
  simp only[aa,ac] at hs
  obtain⟨rfl,rfl⟩:=hs
  have h:=(wL hE hx hf hp).1
  simp only[aH,if_false] at hu
  obtain⟨e,eR⟩:=hu
  generalize hv:a.eval x=v at h
  cases h with
  | void' =>
    refine wM nm ho hf ?_ (SR.of_pure (.int _ _) rfl) hk
    simp[execOp,cP,hv,resolve,invoke,builtin,Builtin.len_,h0,run_underlying eR,goInt]
 ·simp at hs
theorem c2Y (hE:EnvOk E N) (nm:Names vs (wh vs ops)) (ho:ops[j]? = some o) (hf:FI N w G st a vs (wh vs ops)) {t e:TypeId} {ts:Array TypeId} {x:Operand} {px:PX}
  (cP:o.op = .call { callee := .builtin .cap,args := #[x],argTypes:=ts }) (h0:ts[0]? = some t) (hu:P.underlying t=some (.slice e)) (hx:cx E vs ops x=some px) {cf:wm} (hs:opv cf (.cap px) st=some (u,st1)) (hk:wy N w G a st1 u vs ops j o next):o.wp P a w next Q:=by
 simp only[opv] at hs
 split at hs
 ·rename_i hp
  simp only[aa,ac] at hs
  obtain⟨rfl,rfl⟩:=hs
  have h:=(wL hE hx hf hp).1
  generalize hv:a.eval x=v at h
  cases h with
  | nils' =>
    refine wM nm ho hf ?_ (SR.of_pure (.int _ _) rfl) hk
    simp[execOp,cP,hv,resolve,invoke,builtin,Builtin.cap_,h0,run_underlying hu,goInt]
 ·simp at hs
end
section
variable {E:Env} {N:Nm} {w:World} {G:GS} {st:St} {a:Act} {vs:List Tmp} {ops:List Oper} {P:Program}
variable {o:Oper} {j:Nat} {next:Act→World→Prop} {Q:Exit→Act→World→Prop} {u:PV} {st1:St}
theorem Io {n:Int} {y:Nat} {k:IntKind} (h0:0≤n) (h1:n≤y) (c:BoundsCode):(Instr.sliceBound (.int k n) y c).run P w = .ok n.toNat w:=by
 simp[Instr.sliceBound,asIntOf,h0,h1]
theorem Q7 (hE:EnvOk E N) (hf:FI N w G st a vs (wh vs ops)) {x:Option Operand} {px:Option PX} {dflt most r:Nat} (hc:cxo E vs ops x=some px) (hr:bound st px dflt most=some r):
  (x=none∧r=dflt)∨∃y k n,x=some y∧a.eval y = .int k n∧0≤n∧n≤most∧r=n.toNat:=by
 cases x with
 | none=>simp[cxo] at hc; subst hc; simp[bound] at hr; exact .inl ⟨rfl,hr.symm⟩
 | some y =>
   simp only[cxo,ab] at hc
   obtain⟨p,hp,rfl⟩:=hc
   simp only[bound] at hr
   split at hr
   ·rename_i n hn
    split at hr
    ·rename_i hb
     simp at hr
     obtain⟨k,hk⟩:=A9 hE hp hf hn
     exact .inr ⟨y,k,n,rfl,hk,hb.1,hb.2,hr.symm⟩
    ·simp at hr
   ·simp at hr
theorem EI (hE:EnvOk E N) (hf:FI N w G st a vs (wh vs ops)) {lo hi:Option Operand} {pl ph:Option PX} {isSlice:Bool} {len cap l h:Nat} (cX:len≤cap)
  (hl:cxo E vs ops lo=some pl) (hh:cxo E vs ops hi=some ph) (h1:bound st ph len len=some h) (h2:bound st pl 0 h=some l):
  (Instr.sliceBounds isSlice len cap (lo.map a.eval) (hi.map a.eval) none).run P w = .ok (l,h,cap) w∧l≤h∧h≤len:=by
 have hH:=Q7 hE hf hh h1
 have hL:=Q7 hE hf hl h2
 have ju:h≤len:=by rcases hH with⟨_,rfl⟩|⟨_,_,n,_,_,_,_,rfl⟩<;>omega
 have nH:l≤h:=by rcases hL with⟨_,rfl⟩|⟨_,_,n,_,_,_,_,rfl⟩<;>omega
 refine⟨?_,nH,ju⟩
 rcases hH with⟨rfl,qN⟩|⟨y,k,n,rfl,hy,eI,nG,qN⟩<;>rcases hL with⟨rfl,eY⟩|⟨y',k',n',rfl,fJ,pg,pj,eY⟩<;>subst qN<;>subst eY
 ·simp[Instr.sliceBounds]
 ·simp[Instr.sliceBounds,fJ,Io pg pj]
 ·simp[Instr.sliceBounds,hy,Io (P:=P) (w:=w) eI (show n≤(cap:Int) by omega)]
 ·simp[Instr.sliceBounds,hy,fJ,Io (P:=P) (w:=w) eI (show n≤(cap:Int) by omega),Io (P:=P) (w:=w) pg pj]
theorem b7C (s:ByteArray) (l h:Nat):(s.extract l h).data.toList=(s.data.toList.take h).drop l:=by
 simp[ByteArray.data_extract,List.drop_take]
theorem b7D (hE:EnvOk E N) (nm:Names vs (wh vs ops)) (ho:ops[j]? = some o) (hf:FI N w G st a vs (wh vs ops)) {t:TypeId} {x:Operand} {lo hi:Option Operand} {px:PX} {pl ph:Option PX} {size:Nat} (cP:o.op = .slice t x lo hi none)
  (hu:P.underlying t=some .string) (hx:cx E vs ops x=some px) (hl:cxo E vs ops lo=some pl) (hh:cxo E vs ops hi=some ph) {cf:wm} (hs:opv cf (.slice true size px pl ph) st=some (u,st1))
  (hk:wy N w G a st1 u vs ops j o next):o.wp P a w next Q:=by
 simp only[opv] at hs
 split at hs
 ·rename_i s hp
  simp only[ae,ab,ac] at hs
  obtain⟨h,h1,l,h2,rfl,rfl⟩:=hs
  have dS:=(wL hE hx hf hp).1
  generalize hv:a.eval x=v at dS
  cases dS with
  | str s =>
    have cV:s.data.toList.length=s.size:=bb
    rw[cV] at h1
    obtain⟨hb,_,_⟩:=EI (P:=P) (isSlice:=false) hE hf (ao s.size) hl hh h1 h2
    refine wM nm ho hf (v := .string (s.extract l h)) ?_ (SR.of_pure ?_ rfl) hk
    ·simp[execOp,cP,hv,Instr.sliceAt,Instr.slice,run_underlying hu,hb]
    ·rw[← b7C]; exact .str _
 ·rename_i heq _; simp at heq
 ·rename_i heq _; simp at heq
 ·rename_i heq _; simp at heq
 ·simp at hs
theorem b7E (hE:EnvOk E N) (nm:Names vs (wh vs ops)) (ho:ops[j]? = some o) (hf:FI N w G st a vs (wh vs ops)) {t e:TypeId} {x:Operand} {lo hi:Option Operand} {px:PX} {pl ph:Option PX} {size:Nat} (cP:o.op = .slice t x lo hi none)
  (hu:P.underlying t=some (.slice e)) (hn:wI P e=some size) (hx:cx E vs ops x=some px) (hl:cxo E vs ops lo=some pl) (hh:cxo E vs ops hi=some ph) {cf:wm} (hs:opv cf (.slice false size px pl ph) st=some (u,st1))
  (hk:wy N w G a st1 u vs ops j o next):o.wp P a w next Q:=by
 simp only[opv] at hs
 split at hs
 ·rename_i heq _; simp at heq
 ·rename_i own es _ hp
  split at hs
  ·rename_i je
   simp only[ae,ab,ac] at hs
   obtain⟨h,h1,l,h2,rfl,rfl⟩:=hs
   have dS:=(wL hE hx hf hp).1
   generalize hv:a.eval x=v at dS
   cases dS with
   | nils =>
     obtain⟨hb,nH,ju⟩:=EI (P:=P) (isSlice:=true) hE hf (ao 0) hl hh h1 h2
     simp at ju; subst ju
     have:l=0:=by omega
     subst this
     refine wM nm ho hf (v := .slice none 0 0) ?_ (SR.of_pure (.nils false) rfl) hk
     simp[execOp,cP,hv,Instr.sliceAt,Instr.slice,run_underlying hu,hb,zu hn]
   | void _ ad cap =>
     obtain⟨hb,nH,ju⟩:=EI (P:=P) (isSlice:=true) hE hf (Nat.zero_le cap) hl hh h1 h2
     simp at ju; subst ju
     have:l=0:=by omega
     subst this
     refine wM nm ho hf (v := .slice (some ad) 0 cap) ?_ (SR.of_pure (.void false ad cap) rfl) hk
     have hz:(if cap=0 then some ad else some ad)=some ad:=by split<;>rfl
     simp[execOp,cP,hv,Instr.sliceAt,Instr.slice,run_underlying hu,hb,zu hn,Addr.add_zero']
   | list _ b off len cap sz _ cv cO cX cV cU hcell cW =>
     subst cO
     obtain⟨hb,nH,ju⟩:=EI (P:=P) (isSlice:=true) hE hf cX hl hh h1 h2
     have cQ:(execOp a.eval o).run P w = .ok (.value (.slice (some (if cap=l then⟨b,off,none⟩ else⟨b,off+l*size,none⟩)) (h - l) (cap - l))) w:=by
      by_cases hc:cap=l
      ·rw[ah hc]
       simp only[execOp,cP,hv,Instr.sliceAt,Instr.slice,Sem.run_bind,run_underlying hu,Result.andThen_ok,hb,zu hn,ah hc,Sem.run_pure,cd]
      ·rw[af hc]
       simp only[execOp,cP,hv,Instr.sliceAt,Instr.slice,Sem.run_bind,run_underlying hu,Result.andThen_ok,hb,zu hn,af hc,Sem.run_pure,cd,aB,zO]
     refine wM nm ho hf cQ (SR.of_pure ?_ rfl) hk
     have iy:((es.take h).drop l).length=h - l:=by simp; omega
     have wR:∀(i:Nat) (y:PV),((es.take h).drop l)[i]? = some y→es[l+i]? = some y:=by
      intro i y hy
      rw[aX,aW] at hy
      split at hy
      ·exact hy
      ·cases hy
     have eS:∀y∈(es.take h).drop l,y∈es:=λy hy=>List.mem_of_mem_take (cA hy)
     by_cases hc:cap=l
     ·have he:(es.take h).drop l=[]:=bu.1 (by rw[iy]; omega)
      rw[ah hc,he]
      have:h - l=0:=by omega
      rw[this]
      exact .list false b off 0 _ 0 [] cv rfl (Nat.zero_le _) (by simp) (by simp) (by simp) (by simp)
     ·rw[af hc]
      by_cases hz:h - l=0
      ·have he:(es.take h).drop l=[]:=bu.1 (by rw[iy]; omega)
       rw[he,hz]
       exact .list false b _ 0 _ 0 [] cv rfl (Nat.zero_le _) (by simp) (by simp) (by simp) (by simp)
      ·have mU:sz=size:=by
        cases es with
        | nil=>simp at ju; omega
        | cons y ys =>
          have:=cV y (by simp)
          simp[w6] at je
          omega
       subst mU
       refine .list false b _ (h - l) _ sz _ (λk=>cv (l*sz+k)) iy (by omega) (λy hy=>cV y (eS y hy)) (λy hy=>cU y (eS y hy)) ?_ ?_
       ·intro k hk
        have cS:l*sz+k<es.length*sz:=by
         have h3:(l+(h - l))*sz≤es.length*sz:=bo _ (by omega)
         rw[aQ] at h3; omega
        have:=hcell _ cS
        simpa[cm] using this
       ·intro i y hy j' z ir
        have:=cW (l+i) y (wR i y hy) j' z ir
        simpa[aQ,cm] using this
  ·simp at hs
 ·rename_i _ hp
  simp only[ae,ab,ac] at hs
  obtain⟨h,h1,l,h2,rfl,rfl⟩:=hs
  have dS:=(wL hE hx hf hp).1
  generalize hv:a.eval x=v at dS
  cases dS with
  | nils' =>
    obtain⟨hb,nH,ju⟩:=EI (P:=P) (isSlice:=true) hE hf (ao 0) hl hh h1 h2
    have:h=0:=by omega
    subst this
    have:l=0:=by omega
    subst this
    refine wM nm ho hf (v := .slice none 0 0) ?_ (SR.of_pure .nils' rfl) hk
    simp[execOp,cP,hv,Instr.sliceAt,Instr.slice,run_underlying hu,hb,zu hn]
 ·rename_i n sz agg len _ hp
  split at hs
  ·rename_i cV
   subst cV
   simp only[ae,ab,ac] at hs
   obtain⟨h,h1,l,h2,rfl,rfl⟩:=hs
   have dS:=(wL hE hx hf hp).1
   generalize hv:a.eval x=v at dS
   cases dS with
   | rowp _ _ _ _ b cap ij cX dY =>
     obtain⟨T,m,ei,jS⟩:=dY
     obtain⟨hb,nH,ju⟩:=EI (P:=P) (isSlice:=true) hE hf cX hl hh h1 h2
     have cQ:(execOp a.eval o).run P w = .ok (.value (.slice (some (if cap=l then⟨b,0,none⟩ else⟨b,0+l*sz,none⟩)) (h - l) (cap - l))) w:=by
      by_cases hc:cap=l
      ·rw[ah hc]
       simp only[execOp,cP,hv,Instr.sliceAt,Instr.slice,Sem.run_bind,run_underlying hu,Result.andThen_ok,hb,zu hn,ah hc,Sem.run_pure,cd]
      ·rw[af hc]
       simp only[execOp,cP,hv,Instr.sliceAt,Instr.slice,Sem.run_bind,run_underlying hu,Result.andThen_ok,hb,zu hn,af hc,Sem.run_pure,cd,aB,zO]
     have vK:h*sz≤cap*sz:=bo _ (by omega)
     by_cases jb:l=0
     ·subst jb
      rw[ah rfl] at hk
      have he:(if cap=0 then(⟨b,0,none⟩:Addr) else⟨b,0+0*sz,none⟩)=⟨b,0,none⟩:=by split<;>simp
      rw[he,Nat.sub_zero,Nat.sub_zero] at cQ
      exact wM nm ho hf cQ (SR.of_pure (.rowp _ _ _ _ b cap ij (by omega) ⟨T,m,ei,jS⟩) rfl) hk
     ·rw[af jb] at hk
      have ft:(l+(h - l))*sz≤m:=by rw[show l+(h - l)=h by omega]; omega
      by_cases hc:cap=l
      ·rw[ah hc] at cQ
       exact wM nm ho hf cQ (SR.of_pure (.rows _ _ _ _ _ b 0 _ m T ij (by omega) (.inl (by omega)) ei ft) rfl) hk
      ·rw[af hc] at cQ
       exact wM nm ho hf cQ (SR.of_pure (.rows _ _ _ _ _ b _ _ m T ij (by omega) (.inr (by rw[aM])) ei ft) rfl) hk
  ·simp at hs
 ·simp at hs
theorem Q8 {mx:Bool}:∀{ps:List PV} {vals:List Value} {p:PV} {v:Value},VR N w G.fix G.heap v p→vals.length=ps.length →
  (∀(i:Nat) (x:Value) (q:PV),vals[i]? = some x→ps[i]? = some q→VR N w G.fix G.heap x q)→cp p=some p→CC mx p ps=some u →
  ∃r,(vals.foldlM (if mx then Builtin.max2 else Builtin.min2) v).run P w = .ok r w∧VR N w G.fix G.heap r u∧cp u=some u
 | [], vals, p, v, hv, hl, _, fN, hm => by
   have:vals=[]:=by simpa using hl
   subst this
   simp[CC] at hm; subst hm
   exact⟨v,by simp,hv,fN⟩
 | q :: ps, vals, p, v, hv, hl, hr, fN, hm => by
   cases vals with
   | nil=>simp at hl
   | cons x vals =>
     unfold CC at hm
     split at hm
     ·simp_all
     ·rename_i k m k' m' r heq
      simp only[bw] at heq
      obtain⟨rfl,rfl⟩:=heq
      split at hm
      ·subst_vars
       have hx:=hr 0 x _ rfl rfl
       cases hv; cases hx
       obtain⟨r,h1,h2,h3⟩:=Q8 (mx:=mx) (vals:=vals) (VR.int _ (if mx then(if m'>m then m' else m) else(if m'<m then m' else m))) (by simpa using hl)
        (λi y z hy hz=>hr (i+1) y z (by simpa using hy) (by simpa using hz)) rfl hm
       refine⟨r,?_,h2,h3⟩
       cases mx<;>simpa[Builtin.max2,Builtin.min2] using h1
      ·simp at hm
     ·simp at hm
theorem Q9 (hE:EnvOk E N) (nm:Names vs (wh vs ops)) (ho:ops[j]? = some o) (hf:FI N w G st a vs (wh vs ops)) {mx:Bool} {xs:Array Operand} {ts:Array TypeId} {pxs:List PX}
  (cP:o.op = .call { callee := .builtin (if mx then .max else .min),args:=xs,argTypes:=ts }) (hx:cxs E vs ops xs.toList=some pxs) {cf:wm} (hs:opv cf (.minmax mx pxs) st=some (u,st1))
  (hk:wy N w G a st1 u vs ops j o next):o.wp P a w next Q:=by
 simp only[opv] at hs
 split at hs
 ·rename_i p ps hp
  simp only[ab,ac] at hs
  obtain⟨r,hr,rfl,rfl⟩:=hs
  obtain⟨h1,h2⟩:=Ap hE hf hx hp
  cases iV:xs.toList with
  | nil=>simp[iV] at h1
  | cons y ys =>
    rw[iV] at h1 h2
    have h0:=h2 0 y p rfl rfl
    obtain⟨v,gB,gJ,vL⟩:=Q8 (P:=P) (vals:=ys.map a.eval) h0.1 (by simpa using h1) (by
     intro i x q eB hq
     simp only[az,ab] at eB
     obtain⟨z,hz,rfl⟩:=eB
     exact(h2 (i+1) z q (by simpa using hz) (by simpa using hq)).1) h0.2 hr
    refine wM nm ho hf (v:=v) ?_ (SR.of_pure gJ vL) hk
    cases mx
    ·simp only[aH,if_false] at cP gB
     simp[execOp,cP,resolve,invoke,builtin,Builtin.min_,iV,gB]
    ·simp only[if_true] at cP gB
     simp[execOp,cP,resolve,invoke,builtin,Builtin.max_,iV,gB]
 ·simp at hs
theorem LP (off:Nat):∀(vc:List Value) (n:Nat) (cs:Array Value) (k:Nat),off+n+vc.length≤cs.size →
  ((vc.zipIdx n).foldl (λ(cs:Array Value) (x:Value×Nat)=>cs.setIfInBounds (off+x.2) x.1) cs)[k]? = if off+n≤k∧k<off+n+vc.length then vc[k - (off+n)]? else cs[k]?
 | [],n,cs,k,_=>by simp; omega
 | v :: vc, n, cs, k, hn => by
   simp only[aI] at hn
   simp only[List.zipIdx_cons,List.foldl_cons]
   rw[LP off vc (n+1) _ k (by simp; omega)]
   simp only[aI]
   by_cases h1:k=off+n
   ·subst h1
    rw[af (by omega),ah (by omega)]
    simp[be]
    omega
   ·by_cases h2:off+n≤k∧k<off+n+(vc.length+1)
    ·rw[ah (by omega),ah h2]
     rw[show k - (off+n)=(k - (off+(n+1)))+1 by omega]
     simp
    ·rw[af (by omega),af h2]
     simp[be,Ne.symm h1]
theorem LQ (off:Nat) (vc:Array Value) (cs:Array Value) (h:off+vc.size≤cs.size):
  (vc.zipIdx.foldl (λ(cs:Array Value) (x:Value×Nat)=>cs.setIfInBounds (off+x.2) x.1) cs).toList=cs.toList.take off++(vc.toList++cs.toList.drop (off+vc.size)):=by
 apply bL
 intro k
 have hg:=LP off vc.toList 0 cs k (by simpa using h)
 have he:vc.zipIdx.foldl (λ(cs:Array Value) (x:Value×Nat)=>cs.setIfInBounds (off+x.2) x.1) cs=(vc.toList.zipIdx 0).foldl (λ(cs:Array Value) (x:Value×Nat)=>cs.setIfInBounds (off+x.2) x.1) cs:=by
  rw[← Array.foldl_toList]; simp
 rw[he,bI,hg]
 simp only[bq,bb]
 by_cases h1:k<off
 ·rw[af (by omega),am (by simp; omega),aW,ah h1,bI]
 ·rw[ar (by simp; omega)]
  have sk:(cs.toList.take off).length=off:=by simp; omega
  rw[sk]
  by_cases h2:k<off+vc.size
  ·rw[ah ⟨by omega,h2⟩,am (by simp; omega)]
  ·rw[af (by omega),ar (by simp; omega),aX,bI]
   congr 1
   simp; omega
theorem LR (hE:EnvOk E N) (hf:FI N w G st a vs (wh vs ops)) {place:Nat→Option (Nat×Nat)}:∀{parts:List (Nat×Operand)} {ps:List (Nat×Nat×PX)} {qs:List (Nat×Nat×PV)} {zs rs:List PV} {cs:Array Value},
  Ca E vs ops place parts=some ps→rdParts st ps=some qs→Ag zs qs=some rs→CellsR N w G.fix G.heap cs.toList zs →
  OwnNil cs.toList zs→∃ds,Instr.fill place cs (parts.map λ(i,x)=>(i,a.eval x))=some ds∧CellsR N w G.fix G.heap ds.toList rs∧OwnNil ds.toList rs
 | [], ps, qs, zs, rs, cs, hc, hr, wG, hR, hO => by
   simp[Ca] at hc; subst hc
   simp[rdParts] at hr; subst hr
   simp[Ag] at wG; subst wG
   exact⟨cs,rfl,hR,hO⟩
 | (i, x) :: parts, ps, qs, zs, rs, cs, hc, hr, wG, hR, hO => by
   simp only[Ca,ae] at hc
   obtain⟨p,hp,hc⟩:=hc
   split at hc
   ·simp at hc
   ·rename_i p8
    simp only[ae,ab] at hc
    obtain⟨px,fF,ps',dT,rfl⟩:=hc
    simp only[rdParts,ae,ab] at hr
    obtain⟨v,hv,qs',jJ,rfl⟩:=hr
    simp only[Ag] at wG
    split at wG
    ·rename_i cT
     have cW:=(wL hE fF hf hv).1
     have dp:=CellsR.of_cells cW (by intro e; rw[e] at cT; simp at cT; omega)
     have cV:(a.eval x).cells.size=p.2:=by have:=dp.1; simp at this; omega
     have ez:p.1+(a.eval x).cells.size≤cs.size:=by have:=hR.1; simp at this; omega
     have fp:CellsR N w G.fix G.heap ((a.eval x).cells.zipIdx.foldl (λ(cs:Array Value) (y:Value×Nat)=>cs.setIfInBounds (p.1+y.2) y.1) cs).toList (zs.take p.1++(v.cells.map dem++zs.drop (p.1+p.2))):=by
      rw[LQ _ _ _ ez,cV]
      exact(hR.take _).append (dp.dem.append (hR.drop _))
     have pn:OwnNil ((a.eval x).cells.zipIdx.foldl (λ(cs:Array Value) (y:Value×Nat)=>cs.setIfInBounds (p.1+y.2) y.1) cs).toList (zs.take p.1++(v.cells.map dem++zs.drop (p.1+p.2))):=by
      rw[LQ _ _ _ ez,cV]
      refine(hO.take _).append ?_ ((OwnNil.dem _ _).append ?_ (hO.drop _))
      ·have:=hR.1; simp at this ⊢; omega
      ·have:=dp.1; simpa using this
     obtain⟨ds,h1,h2⟩:=LR hE hf dT jJ wG fp pn
     refine⟨ds,?_,h2⟩
     simp only[ax,Instr.fill,hp]
     rw[af (by simp[cV]; omega)]
     exact h1
    ·simp at wG
theorem BL {fix:Nat→Nat→Prop} {hp:Nat→Option Nat} {t:TypeId} {z:List PV} (h:xE P t=some z):
  ∃i zv,P.info? t=some i∧i.zero=some zv∧i.size≠0∧z.length=i.size∧CellsR N w fix hp zv.cells.toList z∧OwnNil zv.cells.toList z:=by
 unfold xE at h
 split at h
 ·rename_i i hi
  split at h
  ·rename_i zv hz
   simp only[ae] at h
   obtain⟨cs,dW,h⟩:=h
   split at h
   ·rename_i cT
    simp at h; subst h
    obtain⟨h1,h2,h3⟩:=LJ (N:=N) (w:=w) (fix:=fix) (hp:=hp) dW
    exact⟨i,zv,hi,hz,cT.2,cT.1,⟨h1,h2,h3⟩,λk c es hc he=>EG dW k c es hc he⟩
   ·simp at h
  ·simp at h
 ·simp at h
theorem Ra (hE:EnvOk E N) (nm:Names vs (wh vs ops)) (ho:ops[j]? = some o) (hf:FI N w G st a vs (wh vs ops)) {t:TypeId} {parts:Array (Nat×Operand)} {fs:Array Field} {places:List (Nat×Nat)} {z:List PV} {ps:List (Nat×Nat×PX)}
  (cP:o.op = .build t parts) (hu:P.underlying t=some (.struct fs)) (hz:xE P t=some z) (eA:fs.toList.mapM (λf=>(P.info? f.type).map λi=>(f.offset,i.size))=some places)
  (hc:Ca E vs ops (places.toArray[·]?) parts.toList=some ps) {cf:wm} (hs:opv cf (.build z ps) st=some (u,st1)) (hk:wy N w G a st1 u vs ops j o next):o.wp P a w next Q:=by
 simp only[opv,ab,ae,ac] at hs
 obtain⟨rs,⟨qs,hq,wG⟩,rfl,rfl⟩:=hs
 obtain⟨i,zv,hi,iG,_,_,hR,hO⟩:=BL (N:=N) (w:=w) (fix:=G.fix) (hp:=G.heap) hz
 obtain⟨ds,h1,h2,h3⟩:=LR hE hf hc hq wG hR hO
 refine wM nm ho hf (v := .agg ds) ?_ (SR.of_pure (by simpa using h2.agg h3) rfl) hk
 have hb:P.built t (parts.map λ(i,x)=>(i,a.eval x)).toList=some ds:=by
  simp only[Program.built,hi,hu,iG,eA]
  simpa using h1
 simp[execOp,cP,run_build w t _ ds hb]
end
def GS.give (G:GS) (b:Nat) (k:Key):GS:={ G with ow:=λx=>if x=b then some k else G.ow x }
section
variable {E:Env} {N:Nm} {w:World} {G:GS} {st:St} {a:Act} {vs:List Tmp} {ops:List Oper} {P:Program}
variable {o:Oper} {j:Nat} {next:Act→World→Prop} {Q:Exit→Act→World→Prop} {u:PV} {st1:St}
theorem FI.src (hf:FI N w G st a vs (wh vs ops)) {px:PX} {es:List PV} {G':GS} {w':World} (fF:∀p,px≠.c p) (hr:raw st px=some (.list true es))
  (e:Ext w G w' G') (hk:xa (λk=>k=zt px) w G w' G') (hg:∀g b,G'.box g=some b→g<st.gen) (ho:∀b k,G'.ow b=some k→b<w'.heap.size) (hx:∀b o,G'.fix b o→b<w'.heap.size) (hh:G'.heap=G.heap):
  FI N w' G' (Bp st px (.list false es)) a vs (wh vs ops):=by
 cases px with
 | c p=>exact absurd rfl (fF p)
 | v i =>
   refine⟨by simp[Bp,hf.len],?_,?_,hf.tv,hf.tl,(hf.defers.trans e.df.symm),hg,ho,hx,hf.heap.keep e hk (by intro k hk e; subst e; simp[zt,Key.isH] at hk),by rw[hh]; exact hf.hdom⟩
   ·intro i' t u h1 h2
    simp only[Bp,aO] at h2
    split at h2
    ·rename_i hi
     subst hi
     split at h2
     ·simp at h2; subst h2
      exact((hf.var i t _ h1 hr).1.dem).ext e
     ·simp at h2
    ·rename_i hi
     exact(hf.var i' t u h1 h2).keep e hk (by simp[zt]; omega) (by simp[zt])
   ·intro i' t u h1 h2
    exact(hf.loc i' t u h1 h2).keep e hk (by simp[zt]) (by simp[zt])
 | l i =>
   refine⟨hf.len,?_,?_,hf.tv,hf.tl,(hf.defers.trans e.df.symm),hg,ho,hx,hf.heap.keep e hk (by intro k hk e; subst e; simp[zt,Key.isH] at hk),by rw[hh]; exact hf.hdom⟩
   ·intro i' t u h1 h2
    exact(hf.var i' t u h1 h2).keep e hk (by simp[zt]) (by simp[zt])
   ·intro i' t u h1 h2
    simp only[Bp,aO] at h2
    split at h2
    ·rename_i hi
     subst hi
     split at h2
     ·simp at h2; subst h2
      exact((hf.loc i t _ h1 hr).1.dem).ext e
     ·simp at h2
    ·rename_i hi
     exact(hf.loc i' t u h1 h2).keep e hk (by simp[zt]; omega) (by simp[zt])
theorem Ip (b:Nat) (k:Key) (h:b<w.heap.size→G.ow b≠none):Ext w G w (G.give b k):=by
 refine⟨rfl,rfl,rfl,ao _,λ_ _ _=>rfl,λ_ _ h=>⟨h,rfl⟩,λ_ _ h => .inl h,?_,λ_ _ h=>h,ShapeLe.refl w,rfl⟩
 intro x hx
 simp only[GS.give] at hx
 split at hx
 ·rename_i gc
  subst gc
  by_cases cS:x<w.heap.size
  ·exact .inr (h cS)
  ·exact .inl (by omega)
 ·exact .inr hx
theorem Iq (b:Nat) (k:Key) {K:Key→Prop} (h:∀k',G.ow b=some k'→K k'):xa K w G w (G.give b k):=by
 refine⟨?_,λ_ _ h=>h⟩
 intro x k' hx hn
 refine⟨?_,rfl,λ_ h=>h⟩
 simp only[GS.give]
 split
 ·rename_i gc
  subst gc
  exact absurd (h k' hx) hn
 ·exact hx
theorem Room.give {key key':Key} {v:Value} {es:List PV} (h:Room w G key v es):
  ∃G',(G'=G∨∃b,G.ow b=some key∧G'=G.give b key')∧Room w G' key' v es:=by
 unfold Room at h
 split at h
 ·rename_i a len cap
  rcases h with h|⟨ho,sz,cs,T,h1,h2,h3,h4,h5⟩
  ·exact⟨G,.inl rfl,.inl h⟩
  ·exact⟨G.give a.block key',.inr ⟨_,ho,rfl⟩,.inr ⟨by simp[GS.give],sz,cs,T,h1,h2,h3,h4,h5⟩⟩
 ·rename_i hx
  refine⟨G,.inl rfl,?_⟩
  unfold Room
  split
  ·rename_i a len cap; exact absurd rfl (hx _ _ _)
  ·trivial
def Ir (w:World) (G:GS) (key:Key) (v:Value):PV→Prop
 | .list true es=>Room w G key v es
 | u=>cp u=some u
theorem EJ (hE:EnvOk E N) {x:Operand} {px:PX} (hc:cx E vs ops x=some px) (hf:FI N w G st a vs (wh vs ops)) (ht:tk st px=some (u,st1)) (key:Key):
  ∃ G', FI N w G' st1 a vs (wh vs ops) ∧ Ext w G w G' ∧ G'.box = G.box ∧ G'.fix = G.fix ∧ G'.heap = G.heap ∧ VR N w G.fix G.heap (a.eval x) u ∧
    Ir w G' key (a.eval x) u∧(∀b,G'.ow b=G.ow b∨(G.ow b=some (zt px)∧G'.ow b=some key))∧st1.gen=st.gen∧st1.heap=st.heap:=by
 unfold tk at ht
 split at ht
 ·rename_i es hr
  simp only[aa,ac] at ht
  obtain⟨rfl,rfl⟩:=ht
  have hs:=BK hE hc hf hr
  obtain⟨hv,dA⟩:=hs
  by_cases fF:∃p,px = .c p
  ·obtain⟨p,rfl⟩:=fF
   simp only[raw,aa] at hr
   subst hr
   refine⟨G,hf,Ext.refl _ _,rfl,rfl,rfl,hv,?_,λ_ => .inl rfl,rfl,rfl⟩
   cases x with
   | tmp t=>simp only[cx] at hc; split at hc<;>simp at hc
   | const v =>
     simp only[cx] at hc
     split at hc
     ·simp at hc
     simp only[ab] at hc
     obtain⟨q,hq,tU⟩:=hc
     simp at tU; subst tU
     rcases LK hq with⟨es',_,rfl⟩|h
     ·exact True.intro
     ·simp[cp] at h
   | global g=>simp[cx] at hc
   | func f =>
     simp only[cx,ab] at hc
     obtain⟨k,_,hk⟩:=hc
     simp at hk
  ·obtain⟨G',hG,fv⟩:=dA.give (key':=key)
   have hg:G'.box=G.box∧G'.fix=G.fix∧G'.heap=G.heap:=by
    rcases hG with rfl|⟨b,_,rfl⟩<;>exact⟨rfl,rfl,rfl⟩
   have cN:Ext w G w G':=by
    rcases hG with rfl|⟨b,hb,rfl⟩
    ·exact Ext.refl _ _
    ·exact Ip b key (λ_=>by simp[hb])
   have cR:xa (λk=>k=zt px) w G w G':=by
    rcases hG with rfl|⟨b,hb,rfl⟩
    ·exact⟨λb k h _=>⟨h,rfl,λ_ h=>h⟩,λ_ _ h=>h⟩
    ·exact Iq b key (λk' dh=>by rw[hb] at dh; simpa using dh.symm)
   have how:∀b,G'.ow b=G.ow b∨(G.ow b=some (zt px)∧G'.ow b=some key):=by
    intro b
    rcases hG with rfl|⟨b',hb,rfl⟩
    ·exact .inl rfl
    ·simp only[GS.give]
     split
     ·subst_vars; exact .inr ⟨hb,rfl⟩
     ·exact .inl rfl
   refine⟨G',?_,cN,hg.1,hg.2.1,hg.2.2,hv,fv,how,?_,?_⟩
   ·refine hf.src (λp hp=>fF ⟨p,hp⟩) hr cN cR (by rw[hg.1]; exact hf.gen) ?_ (by rw[hg.2.1]; exact hf.fixlt) hg.2.2
    intro b k hb
    rcases how b with h|⟨h,_⟩
    ·exact hf.owlt b k (h▸hb)
    ·exact hf.owlt b _ h
   ·cases px<;>rfl
   ·cases px<;>rfl
 ·rename_i v mN hr
  simp only[ab,ac] at ht
  obtain⟨r,eY,rfl,rfl⟩:=ht
  obtain⟨h1,h2⟩:=(BK hE hc hf hr).read eY
  refine⟨G,hf,Ext.refl _ _,rfl,rfl,rfl,h1,?_,λ_ => .inl rfl,rfl,rfl⟩
  unfold Ir
  split
  ·simp[cp] at h2
  ·exact h2
 ·simp at ht
theorem SR.of_taken {key:Key} {v:Value} {u:PV} (h:VR N w G.fix G.heap v u) (hm:Ir w G key v u):SR N w G key v u:=by
 unfold Ir at hm
 split at hm
 ·exact⟨h,hm⟩
 ·exact SR.of_pure h hm
theorem Rb (hE:EnvOk E N) (nm:Names vs (wh vs ops)) (ho:ops[j]? = some o) (hf:FI N w G st a vs (wh vs ops)) {x:Operand} {px:PX} (hx:(execOp a.eval o).run P w = .ok (.value (a.eval x)) w)
  (hc:cx E vs ops x=some px) (hs:tk st px=some (u,st1)) (hk:wy N w G a st1 u vs ops j o next):o.wp P a w next Q:=by
 obtain⟨G',h1,h2,h3,h4,h5,h6,h7,_⟩:=EJ hE hc hf hs (xU (wJ vs o.dst) j)
 unfold Oper.wp
 rw[hx]
 refine hk _ _ G' (h1.put nm (yY ho) (SR.of_taken ?_ h7)) h2 (yZ _ _ _)
 rw[h4,h5]; exact h6
theorem C7 {w:World} {ob:Obj} {b o:Nat} (h:b<w.heap.size):(w.alloc ob).cell? ⟨b,o,none⟩=w.cell? ⟨b,o,none⟩:=World.cell?_alloc_lt w ob _ h
theorem yC {w:World} {ob:Obj} {b:Nat} (h:b<w.heap.size):(w.alloc ob).heap[b]? = w.heap[b]? := by
 simp only[World.alloc,Array.getElem?_push]
 rw[af (by omega)]
theorem AV {w:World} {ob:Obj}:(w.alloc ob).heap[w.heap.size]? = some ob:=by unfold World.alloc; simp only[Array.getElem?_push_size]
theorem Rc (nm:Names vs (wh vs ops)) (ho:ops[j]? = some o) (hf:FI N w G st a vs (wh vs ops)) {cs:Array Value} {ps:List PV} {T:TypeId} {i:Nat} (hd:wJ vs o.dst = .v i)
  (cQ:(execOp a.eval o).run P w = .ok (.value (.pointer (some ⟨w.heap.size,0,none⟩))) (w.alloc (.cells cs T)))
  (hR:∀(k:Nat) (c:Value) (x:PV),cs[k]? = some c→ps[k]? = some x→VR N w G.fix G.heap c x∧x.flat=true∧(∀es,x = .list true es→c = .slice none 0 0)) (hl:cs.size=ps.length)
  (hk:wy N w G a { st with gen:=st.gen+1 } (.loc st.gen ps) vs ops j o next):o.wp P a w next Q:=by
 unfold Oper.wp
 rw[cQ]
 have vM:G.ow w.heap.size=none:=by
  cases h:G.ow w.heap.size with
  | none=>rfl
  | some k=>have:=hf.owlt _ _ h; omega
 have fM:∀o,¬G.fix w.heap.size o:=λo h=>by have:=hf.fixlt _ _ h; omega
 let G':GS:={ G with ow:=λx=>if x=w.heap.size then some (.var i) else G.ow x,box:=λg=>if g=st.gen then some w.heap.size else G.box g }
 have cN:Ext w G (w.alloc (.cells cs T)) G':=by
  refine⟨rfl,rfl,rfl,by simp,λb hb _=>yC hb,λb o h=>⟨h,C7 (hf.fixlt _ _ h)⟩,λ_ _ h => .inl h,?_,λ_ _ h=>h,.same λk hk=>yC hk,rfl⟩
  intro b hb
  by_cases cS:b<w.heap.size
  ·refine .inr ?_
   simp only[G'] at hb
   rw[af (by omega)] at hb
   exact hb
  ·exact .inl (by omega)
 have cR:xa (λ_=>False) w G (w.alloc (.cells cs T)) G':=by
  refine⟨?_,?_⟩
  ·intro b k hb _
   have cS:=hf.owlt _ _ hb
   refine⟨?_,yC cS,λ_ h=>h⟩
   simp only[G']
   rw[af (by omega)]; exact hb
  ·intro g b hb
   have:=hf.gen _ _ hb
   simp only[G']
   rw[af (by omega)]; exact hb
 have dj:FI N (w.alloc (.cells cs T)) G' { st with gen:=st.gen+1 } a vs (wh vs ops):=by
  refine⟨hf.len,λi t u h1 h2=>(hf.var i t u h1 h2).keep cN cR (λh=>h) (λ_ _ _ h=>h),λj t u h1 h2=>(hf.loc j t u h1 h2).keep cN cR (λh=>h) (λ_ _ _ h=>h),hf.tv,hf.tl,hf.defers,?_,?_,?_,hf.heap.keep cN cR (λ_ _ h=>h),hf.hdom⟩
  ·intro g b hb
   simp only[G'] at hb
   split at hb
   ·simp; omega
   ·have:=hf.gen _ _ hb; simp; omega
  ·intro b k hb
   simp only[G'] at hb
   split at hb
   ·simp; omega
   ·have:=hf.owlt _ _ hb; simp; omega
  ·intro b o h; have:=hf.fixlt _ _ h; simp; omega
 refine hk _ _ G' (dj.put nm (yY ho) ?_) cN (yZ _ _ _)
 rw[hd]
 refine⟨w.heap.size,i,rfl,rfl,by simp[G'],by simp[G',xU],fM,cs,T,AV,hl,?_⟩
 intro k c x hc hx
 obtain⟨h1,h2,h3⟩:=hR k c x hc hx
 refine⟨h1.ext cN,h2,?_⟩
 split
 ·rename_i es
  have:=h3 es rfl
  subst this
  trivial
 ·trivial
theorem Rd {d:PD} (h:isVar d=true):∃i,d = .v i:=by
 cases d with
 | v i=>exact⟨i,rfl⟩
 | l=>simp[isVar] at h
 | n=>simp[isVar] at h
theorem b7G (nm:Names vs (wh vs ops)) (ho:ops[j]? = some o) (hf:FI N w G st a vs (wh vs ops)) {t:TypeId} {z:List PV} (cP:o.op = .alloc t) (hz:xE P t=some z) (hd:isVar (wJ vs o.dst)=true) {cf:wm}
  (hs:opv cf (.newloc z) st=some (u,st1)) (hk:wy N w G a st1 u vs ops j o next):o.wp P a w next Q:=by
 simp only[opv,aa,ac] at hs
 obtain⟨rfl,rfl⟩:=hs
 obtain⟨i,hi⟩:=Rd hd
 obtain⟨ti,zv,h1,h2,h3,h4,h5,_⟩:=BL (N:=N) (w:=w) (fix:=G.fix) (hp:=G.heap) hz
 refine Rc (cs:=zv.cells) (ps:=z) (T:=t) nm ho hf hi ?_ ?_ ?_ hk
 ·simp[execOp,cP,Instr.alloc,zeroValue,typeInfo,h1,h2,newVar,newRow]
 ·intro k c x hc hx
  refine⟨h5.2.2 k c x (by simpa using hc) hx,h5.2.1 x (av hx),?_⟩
  rintro es rfl
  unfold xE at hz
  simp only[h1,h2,ae] at hz
  obtain⟨cs',dW,hz⟩:=hz
  split at hz
  ·simp at hz; subst hz
   exact EG dW k c es (by simpa using hc) hx
  ·simp at hz
 ·have:=h5.1; simpa using this
theorem b7H (hE:EnvOk E N) (nm:Names vs (wh vs ops)) (ho:ops[j]? = some o) (hf:FI N w G st a vs (wh vs ops)) {t:TypeId} {n:Nat} {x:Operand} {px:PX} (cP:o.op = .box t x) (hn:wI P t=some n) (hx:cx E vs ops x=some px)
  (hd:isVar (wJ vs o.dst)=true) {cf:wm} (hs:opv cf (.boxloc n px) st=some (u,st1)) (hk:wy N w G a st1 u vs ops j o next):o.wp P a w next Q:=by
 simp only[opv] at hs
 split at hs
 ·rename_i p hp
  split at hs
  ·rename_i hl
   simp only[aa,ac] at hs
   obtain⟨rfl,rfl⟩:=hs
   obtain⟨i,hi⟩:=Rd hd
   obtain⟨_,_,_,_,eI,_⟩:=yD hn
   have hv:=(wL hE hx hf hp).1
   have dp:=(CellsR.of_cells hv (by intro e; rw[e] at hl; simp at hl; omega)).dem
   refine Rc (cs:=(a.eval x).cells) (ps:=p.cells.map dem) (T:=t) nm ho hf hi ?_ ?_ ?_ hk
   ·simp[execOp,cP,Instr.box,newVar,newRow]
   ·intro k c y hc hy
    refine⟨dp.2.2 k c y (by simpa using hc) hy,dp.2.1 y (av hy),?_⟩
    rintro es rfl
    simp only[az,ab] at hy
    obtain⟨q,_,hq⟩:=hy
    cases q<;>simp[dem] at hq
   ·have:=dp.1; simpa using this
  ·simp at hs
 ·simp at hs
end
section
variable {E:Env} {N:Nm} {w:World} {G:GS} {st:St} {a:Act} {vs:List Tmp} {ops:List Oper} {P:Program}
variable {o:Oper} {j:Nat} {next:Act→World→Prop} {Q:Exit→Act→World→Prop} {u:PV} {st1:St}
def EL (N:Nm) (w:World) (fix:Nat→Nat→Prop) (hp:Nat→Option Nat) (size:Nat) (cs:Array Value) (es:List PV):Prop:=
 cs.size=es.length*size∧∀(i:Nat) (e:PV),es[i]? = some e→e.cells.length=size∧(∀x∈e.cells,x.flat=true) ∧
  ∀(k:Nat) (c:Value) (x:PV),cs[i*size+k]? = some c→e.cells[k]? = some x→VR N w fix hp c x
theorem Is {i n k size:Nat} (hi:i<n) (hk:k<size):i*size+k<n*size:=by
 have:(i+1)*size≤n*size:=bo _ hi
 rw[aQ] at this; omega
theorem c08 (v:PV):(zj v).cells=v.cells.map PI.dem:=by
 cases v<;>rfl
theorem Re (hE:EnvOk E N) (hf:FI N w G st a vs (wh vs ops)) {size:Nat} (fK:size≠0):∀{parts:List (Nat×Operand)} {ps:List (Nat×PX)} {qs:List (Nat×PV)} {zs rs:List PV} {cs:Array Value},
  Cz E vs ops parts=some ps→rdElems st ps=some qs→AH size zs qs=some rs→EL N w G.fix G.heap size cs zs →
  ∃ds,Instr.fill (λi=>some (i*size,size)) cs (parts.map λ(i,x)=>(i,a.eval x))=some ds∧EL N w G.fix G.heap size ds rs∧rs.length=zs.length
 | [], ps, qs, zs, rs, cs, hc, hr, wG, hR => by
   simp[Cz] at hc; subst hc
   simp[rdElems] at hr; subst hr
   simp[AH] at wG; subst wG
   exact⟨cs,rfl,hR,rfl⟩
 | (i, x) :: parts, ps, qs, zs, rs, cs, hc, hr, wG, hR => by
   simp only[Cz,ae,ab] at hc
   obtain⟨px,fF,ps',dT,rfl⟩:=hc
   simp only[rdElems,ae,ab] at hr
   obtain⟨v,hv,qs',jJ,rfl⟩:=hr
   simp only[AH] at wG
   split at wG
   ·rename_i cT
    have cW:=(wL hE fF hf hv).1
    have dp:=CellsR.of_cells cW (by intro e; rw[e] at cT; simp at cT; omega)
    have cV:(a.eval x).cells.size=size:=by have:=dp.1; simp at this; omega
    have ez:i*size+(a.eval x).cells.size≤cs.size:=by
     rw[hR.1,cV]
     have:(i+1)*size≤zs.length*size:=bo _ cT.2
     rw[aQ] at this; omega
    have fp:EL N w G.fix G.heap size ((a.eval x).cells.zipIdx.foldl (λ(cs:Array Value) (y:Value×Nat)=>cs.setIfInBounds (i*size+y.2) y.1) cs) (zs.set i (zj v)):=by
     have hl:=LQ (i*size) (a.eval x).cells cs ez
     have wR:∀k,((a.eval x).cells.zipIdx.foldl (λ(cs:Array Value) (y:Value×Nat)=>cs.setIfInBounds (i*size+y.2) y.1) cs)[k]? = if i*size≤k∧k<i*size+size then(a.eval x).cells[k - i*size]? else cs[k]? := by
      intro k
      have hg:=LP (i*size) (a.eval x).cells.toList 0 cs k (by simpa using ez)
      have he:(a.eval x).cells.zipIdx.foldl (λ(cs:Array Value) (y:Value×Nat)=>cs.setIfInBounds (i*size+y.2) y.1) cs=((a.eval x).cells.toList.zipIdx 0).foldl (λ(cs:Array Value) (y:Value×Nat)=>cs.setIfInBounds (i*size+y.2) y.1) cs:=by
       rw[← Array.foldl_toList]; simp
      rw[he,hg]
      simp[cV]
     refine⟨?_,?_⟩
     ·have:=aF List.length hl
      rw[bb,ap,ap,bk,cg,bb,bb] at this
      rw[bp,← hR.1,this]
      omega
     ·intro i' e' dx
      rw[aO] at dx
      split at dx
      ·rename_i jE
       subst jE
       rw[ah cT.2] at dx
       simp at dx; subst dx
       rw[c08]
       refine⟨by rw[aA]; exact cT.1,dp.dem.2.1,?_⟩
       intro k c y hc hy
       have hk:k<size:=by have:=(ai.1 hy).1; rw[aA] at this; omega
       rw[wR,ah ⟨by omega,by omega⟩,show i*size+k - i*size=k by omega] at hc
       exact dp.dem.2.2 k c y (by simpa using hc) hy
      ·rename_i jE
       obtain⟨h1,h2,h3⟩:=hR.2 i' e' dx
       refine⟨h1,h2,?_⟩
       intro k c y hc hy
       have hk:k<size:=by have:=(ai.1 hy).1; omega
       have sl:¬(i*size≤i'*size+k∧i'*size+k<i*size+size):=by
        rintro⟨ha,hb⟩
        rcases Nat.lt_or_gt_of_ne jE with h|h
        ·have:(i+1)*size≤i'*size:=bo _ h
         rw[aQ] at this; omega
        ·have:(i'+1)*size≤i*size:=bo _ h
         rw[aQ] at this; omega
       rw[wR,af sl] at hc
       exact h3 k c y hc hy
    obtain⟨ds,h1,h2,h3⟩:=Re hE hf fK dT jJ wG fp
    refine⟨ds,?_,h2,by rw[h3,bp]⟩
    simp only[ax,Instr.fill]
    rw[af (by simp[cV]; omega)]
    exact h1
   ·simp at wG
theorem c2Z (nm:Names vs (wh vs ops)) (ho:ops[j]? = some o) (hf:FI N w G st a vs (wh vs ops)) {cs:Array Value} {es:List PV} {T:TypeId} {size:Nat} (hR:EL N w G.fix G.heap size cs es)
  (cQ:(execOp a.eval o).run P w = .ok (.value (.slice (some ⟨w.heap.size,0,none⟩) es.length es.length)) (w.alloc (.cells cs T)))
  (hk:wy N w G a st (.list true es) vs ops j o next):o.wp P a w next Q:=by
 unfold Oper.wp
 rw[cQ]
 have fM:∀o,¬G.fix w.heap.size o:=λo h=>by have:=hf.fixlt _ _ h; omega
 let G':GS:={ G with fix:=λb o=>G.fix b o∨b=w.heap.size }
 have cN:Ext w G (w.alloc (.cells cs T)) G':=by
  refine⟨rfl,rfl,rfl,by simp,λb hb _=>yC hb,λb o h=>⟨.inl h,C7 (hf.fixlt _ _ h)⟩,?_,λ_ h => .inr h,λ_ _ h=>h,.same λk hk=>yC hk,rfl⟩
  rintro b o (h|h)
  ·exact .inl h
  ·exact .inr (.inl (by omega))
 have cR:xa (λ_=>False) w G (w.alloc (.cells cs T)) G':=by
  refine⟨?_,λ_ _ h=>h⟩
  intro b k hb _
  have cS:=hf.owlt _ _ hb
  refine⟨hb,yC cS,?_⟩
  rintro o (h|h)
  ·exact h
  ·omega
 have dj:=hf.ext (G':=G') cN cR hf.gen (λb k hb=>by have:=hf.owlt b k hb; simp; omega) (by
  rintro b o (h|h)
  ·have:=hf.fixlt _ _ h; simp; omega
  ·simp; omega)
 refine hk _ _ G' (dj.put nm (yY ho) ⟨?_,.inl rfl⟩) cN (yZ _ _ _)
 refine .list true w.heap.size 0 es.length es.length size es (λk=>cs.getD k undef) rfl (ao _) ?_ ?_ ?_ ?_
 ·intro e he
  obtain⟨i,hi⟩:=bi.1 he
  exact(hR.2 i e hi).1
 ·intro e he
  obtain⟨i,hi⟩:=bi.1 he
  exact(hR.2 i e hi).2.1
 ·intro k hk
  rw[← hR.1] at hk
  refine⟨?_,.inr rfl⟩
  rw[aM,World.cell?_alloc_new]
  simp[hk]
 ·intro i e he k x hx
  obtain⟨h1,h2,h3⟩:=hR.2 i e he
  have hk:k<size:=by have:=(ai.1 hx).1; omega
  have hi:i<es.length:=(ai.1 he).1
  have cS:i*size+k<cs.size:=by rw[hR.1]; exact Is hi hk
  have:=h3 k cs[i*size+k] x (by simp[cS]) hx
  simp only[aT,cM cS,bO]
  exact this.ext cN
theorem Rf (hE:EnvOk E N) (hf:FI N w G st a vs (wh vs ops)) {t e:TypeId} {len size:Nat} {parts:Array (Nat×Operand)} {z:List PV} {ps:List (Nat×PX)} {qs:List (Nat×PV)} {rs:List PV}
  (cP:o.op = .buildSlice t len parts) (hu:P.underlying t=some (.slice e)) (hn:wI P e=some size) (hz:xE P e=some z) (cO:len*size≤16777216) (hc:Cz E vs ops parts.toList=some ps)
  (hq:rdElems st ps=some qs) (wG:AH size (List.replicate len (if wW P e then .agg z else z.headD .dead)) qs=some rs):
  ∃ds,EL N w G.fix G.heap size ds rs∧(execOp a.eval o).run P w = .ok (.value (.slice (some ⟨w.heap.size,0,none⟩) rs.length rs.length)) (w.alloc (.cells ds e)):=by
 obtain⟨ti,zv,h1,h2,h3,h4,h5,_⟩:=BL (N:=N) (w:=w) (fix:=G.fix) (hp:=G.heap) hz
 obtain⟨ti',d,ii,vN,fK,hd⟩:=yD hn
 have kN:ti'=ti:=by rw[h1] at ii; simpa using ii.symm
 subst kN
 have gC:zv.cells.size=size:=by have:=h5.1; simp at this; omega
 have vO:(if wW P e then PV.agg z else z.headD .dead).cells=z:=by
  split
  ·rfl
  ·rename_i fy
   have ei:=BE hn (by simpa using fy)
   match z,h4 with
   | [],h=>simp at h; omega
   | [p], _ =>
     have:=h5.2.1 p (by simp)
     cases p<;>first|rfl|simp[PV.flat] at this
   | _::_::_,h=>simp at h; omega
 let cs0:Array Value:=(Array.range (len*size)).map (zv.cells[· % zv.cells.size]!)
 have vP:EL N w G.fix G.heap size cs0 (List.replicate len (if wW P e then PV.agg z else z.headD .dead)):=by
  refine⟨by simp[cs0],?_⟩
  intro i x hx
  have eB:=cE.symm.trans hx
  split at eB
  ·rename_i hi
   simp only[aa] at eB
   rw[← eB,vO]
   refine⟨by omega,h5.2.1,?_⟩
   intro k c y eL hy
   have hk:k<size:=by have:=(ai.1 hy).1; omega
   have cS:i*size+k<len*size:=Is hi hk
   have ix:(i*size+k) % size=k:=by
    rw[Nat.add_comm,cw,Nat.add_mul_mod_self_left]; exact Nat.mod_eq_of_lt hk
   simp only[cs0,bU,Array.getElem?_range,cS,if_true,aB,aa,gC,ix] at eL
   have dh:k<zv.cells.size:=by omega
   rw[getElem!_pos zv.cells k dh] at eL
   exact h5.2.2 k c y (by rw[← eL]; simp[dh]) hy
  ·simp at eB
 obtain⟨ds,lW,hR,iy⟩:=Re hE hf fK hc hq wG vP
 have hl:rs.length=len:=by simpa using iy
 refine⟨ds,hR,?_⟩
 rw[hl]
 have sn:¬(len*size>2 ^ 24):=by
  have:(2:Nat) ^ 24=16777216:=by decide
  omega
 have eA:(parts.map λ(i,x)=>(i,a.eval x)).toList=parts.toList.map λ(i,x)=>(i,a.eval x):=by simp
 have so:(Instr.buildSlice t len (parts.map λ(i,x)=>(i,a.eval x))).run P w = .ok (.slice (some ⟨w.heap.size,0,none⟩) len len) (w.alloc (.cells ds e)):=by
  unfold Instr.buildSlice
  simp only[Sem.run_bind,run_underlying hu,Result.andThen_ok,zu hn,af sn]
  by_cases h0:len*size=0
  ·have kw:(Array.range (len*size)).map ((#[]:Array Value)[· % (#[]:Array Value).size]!)=cs0:=by simp[h0,cs0]
   simp only[ah h0,Sem.run_bind,Sem.run_pure,Result.andThen_ok,kw,eA,lW]
   simp[newRow]
  ·simp only[af h0,Sem.run_bind,Sem.run_pure,Result.andThen_ok,zeroValue,typeInfo,run_program,h1,h2,eA]
   have:Instr.fill (λi=>some (i*size,size)) ((Array.range (len*size)).map (zv.cells[· % zv.cells.size]!)) (parts.toList.map λ(i,x)=>(i,a.eval x))=some ds:=lW
   rw[this]
   simp[newRow]
 simp[execOp,cP,so]
theorem b51 (hE:EnvOk E N) (nm:Names vs (wh vs ops)) (ho:ops[j]? = some o) (hf:FI N w G st a vs (wh vs ops)) {t e:TypeId} {len size:Nat} {parts:Array (Nat×Operand)} {z:List PV} {ps:List (Nat×PX)}
  (cP:o.op = .buildSlice t len parts) (hu:P.underlying t=some (.slice e)) (hn:wI P e=some size) (hz:xE P e=some z) (cO:len*size≤16777216) (hc:Cz E vs ops parts.toList=some ps) {cf:wm}
  (hs:opv cf (.mkslice size (if wW P e then .agg z else z.headD .dead) len ps) st=some (u,st1)) (hk:wy N w G a st1 u vs ops j o next):o.wp P a w next Q:=by
 simp only[opv,ab,ae,ac] at hs
 obtain⟨rs,⟨qs,hq,wG⟩,rfl,rfl⟩:=hs
 obtain⟨ds,hR,cQ⟩:=Rf hE hf cP hu hn hz cO hc hq wG
 exact c2Z nm ho hf hR cQ hk
end
section
variable {E:Env} {N:Nm} {w:World} {G:GS} {st:St} {a:Act} {vs:List Tmp} {ops:List Oper} {P:Program}
variable {o:Oper} {j:Nat} {next:Act→World→Prop} {Q:Exit→Act→World→Prop} {u:PV} {st1:St}
theorem It (hf:FI N w G st a vs (wh vs ops)) {s g b:Nat} {cs:List PV} (hv:st.vars[s]? = some (.loc g cs)) (hb:G.box g=some b):
  ∃ t, vs[s]? = some t ∧ a.eval (.tmp t) = .pointer (some ⟨b, 0, none⟩) ∧ G.ow b = some (.var s) ∧ (∀ o, ¬ G.fix b o) ∧
    ∃cv T,w.heap[b]? = some (.cells cv T (0,0))∧cv.size=cs.length∧∀(k:Nat) (c:Value) (x:PV),cv[k]? = some c→cs[k]? = some x→CR N w G (.vcell s k) c x:=by
 have hs:s<vs.length:=by rw[← hf.len]; exact(ai.1 hv).1
 have h:=hf.var s vs[s] _ (al hs) hv
 obtain⟨b',i,hk,h1,h2,h3,h4,h5⟩:=h
 have hi:i=s:=by simpa using hk.symm
 subst hi
 have:b'=b:=by rw[hb] at h2; simpa using h2.symm
 subst this
 exact⟨vs[i],al hs,h1,h3,h4,h5⟩
theorem K0 {b:Nat} {cv:Array Value} {T:TypeId} {cs:List PV} {s:Nat} (hh:w.heap[b]? = some (.cells cv T (0,0))) (hl:cv.size=cs.length)
  (hc:∀(k:Nat) (c:Value) (x:PV),cv[k]? = some c→cs[k]? = some x→CR N w G (.vcell s k) c x):
  CellsR N w G.fix G.heap cv.toList cs∧∀(k:Nat) (v:Value),cv.toList[k]? = some v→w.cell? ⟨b,k,none⟩=some v:=by
 refine⟨⟨by simpa using hl,?_,λi c x h1 h2=>(hc i c x (by simpa using h1) h2).1⟩,?_⟩
 ·intro x hx
  obtain⟨i,hi⟩:=bi.1 hx
  have cS:i<cv.size:=by have:=(ai.1 hi).1; omega
  exact(hc i cv[i] x (by simp[cS]) hi).2.1
 ·intro k v hv
  simp only[bI] at hv
  simp[World.cell?,hh,hv]
theorem c20 (hf:FI N w G st a vs (wh vs ops)) {t:TypeId} {n s g off b:Nat} {cs:List PV} {v:Value} (hn:wI P t=some n) (hv:v = .pointer (some ⟨b,off,none⟩)) (hb:G.box g=some b)
  (hs:st.vars[s]? = some (.loc g cs)) (hl:wq n (wW P t) cs off=some u):∃r,(Instr.loadAt t v).run P w = .ok r w∧VR N w G.fix G.heap r u∧cp u=some u:=by
 obtain⟨_,_,_,_,_,cv,T,h1,h2,h3⟩:=It hf hs hb
 obtain⟨hR,hcell⟩:=K0 h1 h2 h3
 have eI:n≠0:=by obtain⟨_,_,_,_,h,_⟩:=yD hn; exact h
 obtain⟨k1,k2,k3⟩:=C6 hR hl eI (BE hn)
 refine⟨_,?_,k2,k3⟩
 subst hv
 have:=Er (w:=w) hn b off (cv.toList.drop off) (by simp at k1 ⊢; omega) (λj v hv=>by
  rw[aX] at hv
  exact hcell _ _ hv)
 simpa[Instr.loadAt,Instr.sureAddr] using this
theorem Rg (hE:EnvOk E N) (nm:Names vs (wh vs ops)) (ho:ops[j]? = some o) (hf:FI N w G st a vs (wh vs ops)) {t:TypeId} {n:Nat} {x:Operand} {px:PX} {tk:Bool} (cP:o.op = .load t x) (hn:wI P t=some n)
  (hx:cx E vs ops x=some px) {cf:wm} (hs:opv cf (.load n (wW P t) px tk) st=some (u,st1)) (hk:wy N w G a st1 u vs ops j o next):o.wp P a w next Q:=by
 have plain:∀r,(Instr.loadAt t (a.eval x)).run P w = .ok r w→(execOp a.eval o).run P w = .ok (.value r) w:=by
  intro r hr
  simp[execOp,cP,hr]
 simp only[opv] at hs
 split at hs
 ·rename_i cs ha
  simp only[ab,ac] at hs
  obtain⟨r,hr,rfl,rfl⟩:=hs
  rcases Bn hE hx hf ha with⟨_,_,_,_,h,_⟩|⟨h,_⟩
  ·simp at h
  ·obtain⟨r',h1,h2,h3⟩:=LN (P:=P) hn h hr
   exact wM nm ho hf (plain _ h1) (SR.of_pure h2 h3) hk
 ·rename_i s g off ha
  rcases Bn hE hx hf ha with⟨_,_,_,b,h,hv,hb⟩|⟨_,h⟩
  ·simp only[PV.lptr.injEq] at h
   obtain⟨rfl,rfl,rfl⟩:=h
   split at hs
   ·rename_i g' cs jI
    split at hs
    ·rename_i ib
     subst ib
     split at hs
     ·rename_i es ec hcell
      simp only[aa,ac] at hs
      obtain⟨rfl,rfl⟩:=hs
      simp only[ak,bC] at ec
      obtain⟨tt,nI,kL,kU,ip,cv,T,hh,hl,hc⟩:=It hf jI hb
      have cS:off<cv.size:=by have:=(ai.1 hcell).1; omega
      obtain⟨cW,_,dA⟩:=hc off cv[off] _ (by simp[cS]) hcell
      obtain⟨G',hG,fv⟩:=Room.give (key':=xU (wJ vs o.dst) j) dA
      have ib:G'.box=G.box∧G'.fix=G.fix∧G'.heap=G.heap:=by
       rcases hG with rfl|⟨b,_,rfl⟩<;>exact⟨rfl,rfl,rfl⟩
      have cN:Ext w G w G':=by
       rcases hG with rfl|⟨b,hb,rfl⟩
       ·exact Ext.refl _ _
       ·exact Ip b _ (λ_=>by simp[hb])
      have cR:xa (λk=>k = .vcell s off) w G w G':=by
       rcases hG with rfl|⟨b,hb,rfl⟩
       ·exact⟨λb k h _=>⟨h,rfl,λ_ h=>h⟩,λ_ _ h=>h⟩
       ·exact Iq b _ (λk' dh=>by rw[hb] at dh; simpa using dh.symm)
      have dj:FI N w G' { st with vars:=st.vars.set s (.loc g (cs.set off (.list false es))) } a vs (wh vs ops):=by
       refine⟨by simp[hf.len],?_,λi t' u' h1 h2=>(hf.loc i t' u' h1 h2).keep cN cR (by simp) (by simp),hf.tv,hf.tl,(hf.defers.trans cN.df.symm),by rw[ib.1]; exact hf.gen,?_,by rw[ib.2.1]; exact hf.fixlt,hf.heap.keep cN cR (by rintro k hk rfl; simp[Key.isH] at hk),by rw[ib.2.2]; exact hf.hdom⟩
       ·intro i t' u' h1 h2
        simp only[aO] at h2
        split at h2
        ·rename_i hi
         subst hi
         split at h2
         ·simp at h2; subst h2
          have:t'=tt:=by rw[nI] at h1; simpa using h1.symm
          subst this
          obtain⟨ep,_,_⟩:=cR.1 _ _ kU (by simp)
          refine⟨b,s,rfl,kL,by rw[ib.1]; exact hb,ep,by rw[ib.2.1]; exact ip,cv,T,hh,by simp[hl],?_⟩
          intro k c y dM hy
          rw[aO] at hy
          split at hy
          ·rename_i ey
           subst ey
           split at hy
           ·simp at hy; subst hy
            have:c=cv[off]:=by simp[cS] at dM; exact dM.symm
            subst this
            refine⟨(cW.dem).ext cN,rfl,trivial⟩
           ·simp at hy
          ·rename_i ey
           exact(hc k c y dM hy).keep cN cR (by simp; omega)
         ·simp at h2
        ·rename_i hi
         exact(hf.var i t' u' h1 h2).keep cN cR (by simp) (by simp; intro i' k ii e; omega)
       ·intro b' k da
        rcases hG with rfl|⟨b2,dO,rfl⟩
        ·exact hf.owlt _ _ da
        ·simp only[GS.give] at da
         split at da
         ·subst_vars; exact hf.owlt _ _ dO
         ·exact hf.owlt _ _ da
      unfold Oper.wp
      have cQ:(Instr.loadAt t (a.eval x)).run P w = .ok cv[off] w:=by
       have dt:w.cell? ⟨b,off,none⟩=some cv[off]:=by simp[World.cell?,hh,cS]
       rw[hv]
       simp[Instr.loadAt,Instr.sureAddr,loadVar,Dd hn,ec.2,dt]
      rw[plain _ cQ]
      exact hk _ _ G' (dj.put nm (yY ho) ⟨cW.ext cN,fv⟩) cN (yZ _ _ _)
     ·simp only[ab,ac] at hs
      obtain⟨r,hr,rfl,rfl⟩:=hs
      obtain⟨r',h1,h2,h3⟩:=c20 (P:=P) hf hn hv hb jI hr
      exact wM nm ho hf (plain _ h1) (SR.of_pure h2 h3) hk
    ·simp at hs
   ·simp at hs
  ·simp[cp] at h
 ·simp at hs
theorem b83 (hE:EnvOk E N) (nm:Names vs (wh vs ops)) (ho:ops[j]? = some o) (hf:FI N w G st a vs (wh vs ops)) {t:TypeId} {n:Nat} {x y:Operand} {px py:PX} (cP:o.op = .store t x y) (ea:o.dst=none) (hn:wI P t=some n)
  (hx:cx E vs ops x=some px) (hy:cx E vs ops y=some py) {cf:wm} (hs:opv cf (.store n (wW P t) px py) st=some (u,st1)) (hk:wy N w G a st1 u vs ops j o next):o.wp P a w next Q:=by
 simp only[opv] at hs
 split at hs
 ·rename_i s g off v st' ha ec
  rcases Bn hE hx hf ha with⟨_,_,_,b,h,hv,hb⟩|⟨_,h⟩
  ·simp only[PV.lptr.injEq] at h
   obtain⟨rfl,rfl,rfl⟩:=h
   obtain⟨G1,dj,d7,iz,eT,dP,cW,fw,_,_,_⟩:=EJ hE hy hf ec (.vcell s off)
   split at hs
   ·rename_i g' cs jI
    split at hs
    ·rename_i ib
     subst ib
     simp only[ab,ac] at hs
     obtain⟨cs',dC,rfl,rfl⟩:=hs
     obtain⟨tt,nI,kL,kU,ip,cv,T,hh,hl,hc⟩:=It dj jI (by rw[iz]; exact hb)
     have eI:n≠0:=by obtain⟨_,_,_,_,h,_⟩:=yD hn; exact h
     have key:∃nc:List Value,(a.eval y).cells.toList=nc∧nc.length=n∧off+n≤cv.size∧(∀c∈nc,c.oneCell'=true)∧cs'.length=cs.length ∧
       ∀ (k : Nat) (c : Value) (z : PV), (cv.toList.take off ++ nc ++ cv.toList.drop (off + n))[k]? = some c → cs'[k]? = some z →
         (cv[k]? = some c∧cs[k]? = some z)∨(VR N w G.fix G.heap c z∧z.flat=true∧∀es,z = .list true es→(k=off∧Room w G1 (.vcell s off) c es)∨c = .slice none 0 0):=by
      unfold wO at dC
      split at dC
      ·rename_i gP
       split at dC
       ·rename_i ws
        split at dC
        ·rename_i cT
         simp only[aa] at dC; subst dC
         obtain⟨ca,mJ,hR⟩:=CellsR.of_agg cW
         have hO:OwnNil ca.toList ws:=OwnNil.of_agg (mJ▸cW)
         have dt:(a.eval y).cells.toList=ca.toList:=by rw[mJ]; rfl
         have cO:ca.toList.length=n:=by have:=hR.1; omega
         refine⟨ca.toList,dt,cO,by omega,?_,by simp; omega,?_⟩
         ·intro c gg
          obtain⟨i,hi⟩:=bi.1 gg
          have cS:i<ws.length:=by have:=(ai.1 hi).1; have:=hR.1; omega
          have h1:=hR.2.2 i c ws[i] hi (al cS)
          have h2:=h1.oneCell (hR.2.1 _ (aj cS))
          cases c<;>first|rfl|simp[oneCell] at h2
         ·intro k c z dM hz
          rw[aJ] at dM
          have fR:(cv.toList.take off).length=off:=by simp; omega
          have kz:(cs.take off).length=off:=by simp; omega
          by_cases h1:k<off
          ·rw[am (by omega),aW,ah h1] at dM
           rw[am (by omega),aW,ah h1] at hz
           exact .inl ⟨by simpa using dM,hz⟩
          ·rw[ar (by omega),fR] at dM
           rw[ar (by omega),kz] at hz
           by_cases h2:k<off+n
           ·rw[am (by omega)] at dM
            rw[am (by omega)] at hz
            refine .inr ⟨hR.2.2 _ c z dM hz,hR.2.1 z (av hz),?_⟩
            rintro es rfl
            exact .inr (hO _ c es dM hz)
           ·rw[ar (by omega),aX,cO] at dM
            rw[ar (by omega),aX,cT.1] at hz
            rw[show off+n+(k - off - n)=k by omega] at dM hz
            exact .inl ⟨by simpa using dM,hz⟩
        ·simp at dC
       ·simp at dC
      ·rename_i gP
       have nG:=BE hn (by simpa using gP)
       subst nG
       split at dC
       ·rename_i cT
        simp only[aa] at dC; subst dC
        have h1:=cW.oneCell cT.2
        have dt:(a.eval y).cells.toList=[a.eval y]:=by
         generalize a.eval y=q at h1
         cases q<;>first|rfl|simp[oneCell] at h1
        refine⟨[a.eval y],dt,rfl,by omega,?_,by simp,?_⟩
        ·intro c gg
         simp at gg; subst gg
         generalize a.eval y=q at h1
         cases q<;>first|rfl|simp[oneCell] at h1
        ·intro k c z dM hz
         rw[aJ] at dM
         have fR:(cv.toList.take off).length=off:=by simp; omega
         rw[aO] at hz
         split at hz
         ·rename_i pp
          subst pp
          split at hz
          ·simp at hz; subst hz
           rw[ar (by omega),fR] at dM
           simp at dM; subst dM
           refine .inr ⟨cW,cT.2,?_⟩
           rintro es rfl
           exact .inl ⟨rfl,fw⟩
          ·simp at hz
         ·rename_i pp
          refine .inl ⟨?_,hz⟩
          by_cases h1:k<off
          ·rw[am (by omega),aW,ah h1] at dM
           simpa using dM
          ·rw[ar (by omega),fR,ar (by simp; omega),aX] at dM
           simp only[cI] at dM
           rw[show off+1+(k - off - 1)=k by omega] at dM
           simpa using dM
       ·simp at dC
     obtain⟨nc,gx,cO,gQ,mV,su,dp⟩:=key
     have cQ:(execOp a.eval o).run P w = .ok .skip (w.setRow b (cv.toList.take off++nc++cv.toList.drop (off+n)).toArray):=by
      have dC:=run_storeCells_at P b off T nc 0 cv w hh (by simp; omega) mV
      simp only[bq,cO] at dC
      have cV:(a.eval y).cells.size=n:=by rw[← cO,← gx]; simp
      simp[execOp,cP,Instr.storeAt,hv,Instr.sureAddr,storeVar,zu hn,cV,gx,dC]
     unfold Oper.wp
     rw[cQ]
     have eE:b<w.heap.size:=dj.owlt _ _ kU
     have cY:∀x,x≠b→(w.setRow b (cv.toList.take off++nc++cv.toList.drop (off+n)).toArray).heap[x]? = w.heap[x]? := λx hx=>setRow_other w b x _ hx
     have dR:Ext w G1 (w.setRow b (cv.toList.take off++nc++cv.toList.drop (off+n)).toArray) G1:=by
      refine⟨rfl,rfl,rfl,by simp[World.setRow],?_,?_,λ_ _ h => .inl h,λ_ h => .inr h,λ_ _ h=>h,Gp hh _ ?_,rfl⟩
      rotate_left 2
      ·simp; omega
      ·intro x _ jk
       exact cY x (by rintro rfl; rw[kU] at jk; simp at jk)
      ·intro x o' fG
       refine⟨fG,?_⟩
       have gc:x≠b:=by rintro rfl; exact ip _ fG
       simp only[World.cell?,cY x gc]
     have dG:xa (λk=>k = .var s) w G1 (w.setRow b (cv.toList.take off++nc++cv.toList.drop (off+n)).toArray) G1:=by
      refine⟨?_,λ_ _ h=>h⟩
      intro x k gR gH
      refine⟨gR,cY x ?_,λ_ h=>h⟩
      rintro rfl
      rw[kU] at gR
      simp at gR
      exact gH gR.symm
     have iL:FI N (w.setRow b (cv.toList.take off++nc++cv.toList.drop (off+n)).toArray) G1 { st' with vars:=st'.vars.set s (.loc g cs') } a vs (wh vs ops):=by
      refine⟨by simp[dj.len],?_,λi t' u' h1 h2=>(dj.loc i t' u' h1 h2).keep dR dG (by simp) (by simp),dj.tv,dj.tl,dj.defers,dj.gen,?_,?_,dj.heap.keep dR dG (by rintro k hk rfl; simp[Key.isH] at hk),dj.hdom⟩
      ·intro i t' u' h1 h2
       simp only[aO] at h2
       split at h2
       ·rename_i hi
        subst hi
        split at h2
        ·simp at h2; subst h2
         have:t'=tt:=by rw[nI] at h1; simpa using h1.symm
         subst this
         refine⟨b,s,rfl,kL,by rw[iz]; exact hb,kU,ip,_,T,setRow_heap w b cv _ T (0,0) hh,?_,?_⟩
         ·simp; omega
         ·intro k c z dM hz
          rcases dp k c z (by simpa using dM) hz with⟨k1,k2⟩|⟨k1,k2,k3⟩
          ·exact(hc k c z k1 k2).keep dR dG (by simp)
          ·refine⟨(eT▸dP▸k1:VR N w G1.fix G1.heap c z).ext dR,k2,?_⟩
           split
           ·rename_i es
            rcases k3 es rfl with⟨e1,e2⟩|e
            ·subst e1
             exact e2.keep dG (by simp)
            ·subst e; trivial
           ·trivial
        ·simp at h2
       ·rename_i hi
        exact(dj.var i t' u' h1 h2).keep dR dG (by simp; omega) (by simp)
      ·intro x k hx; simpa[World.setRow] using dj.owlt x k hx
      ·intro x o' hx; simpa[World.setRow] using dj.fixlt x o' hx
     have f0:a.put o.dst undef=a:=by simp[ea,Act.put]
     have hd:wJ vs o.dst = .n:=by simp[ea,wJ]
     show next (a.put o.dst undef) _
     rw[f0]
     refine hk _ _ G1 ?_ (d7.trans dR) rfl
     rw[hd]
     exact iL
    ·simp at hs
   ·simp at hs
  ·simp[cp] at h
 ·simp at hs
end
end PI
