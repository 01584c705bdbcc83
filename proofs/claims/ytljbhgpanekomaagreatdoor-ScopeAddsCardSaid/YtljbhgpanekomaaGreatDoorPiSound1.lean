import Derived.Test.YtljbhgpanekomaaGreatDoorPiRel
import Derived.Test.YtljbhgpanekomaaGreatDoorPiComp
import Derived.Deep.AppendSrc
import Derived.Laws.CopyRow
import Derived.Laws.Build
import Derived.Laws.Tables
import Derived.ProofKit
import Derived.Laws.StructEq
set_option linter.unusedSectionVars false
namespace PI
open Go
structure FI (N:Nm) (w:World) (G:GS) (st:St) (a:Act) (vs:List Tmp) (lm:Nat→Option Tmp):Prop where
 len:st.vars.length=vs.length
 var:∀(i:Nat) (t:Tmp) (u:PV),vs[i]? = some t→st.vars[i]? = some u→SR N w G (.var i) (a.eval (.tmp t)) u
 loc:∀(j:Nat) (t:Tmp) (u:PV),lm j=some t→st.locs[j]? = some u→SR N w G (.loc j) (a.eval (.tmp t)) u
 tv:∀(i:Nat) (t:Tmp),vs[i]? = some t→t<a.tmps.size
 tl:∀(j:Nat) (t:Tmp),lm j=some t→t<a.tmps.size
 defers:a.defers=G.df
 gen:∀g b,G.box g=some b→g<st.gen
 owlt:∀b k,G.ow b=some k→b<w.heap.size
 fixlt:∀b o,G.fix b o→b<w.heap.size
 heap:HR N w G st.heap
 hdom:∀n b,G.heap n=some b→n<st.heap.length
structure Names (vs:List Tmp) (lm:Nat→Option Tmp):Prop where
 vnd:∀(i i':Nat) (t:Tmp),vs[i]? = some t→vs[i']? = some t→i=i'
 sep:∀(j:Nat) (t:Tmp) (i:Nat),lm j=some t→vs[i]?≠some t
 lnd:∀(j j':Nat) (t:Tmp),lm j=some t→lm j'=some t→j=j'
def wk (vs:List Tmp) (ops:List Oper) (j:Nat):Option Tmp:=
 match ops[j]? with
 | some o => match o.dst with
   | some t=>if (x5 t vs 0).isSome then none else some t
   | none=>none
 | none=>none
structure EnvOk (E:Env) (N:Nm):Prop where
 fn:∀f k,E.inv f=some k→N.fn k=f
 yl:∀f k,E.inv f=some k→N.yl k=none
 pt:∀T i,x5 T E.pt 0=some i→N.ty (i+1)=T
 bt:∀t,E.bT=some t→N.bT=t∧∃i,E.P.info? t=some i∧i.zero=some (.agg #[.pointer none,.slice none 0 0])
theorem FL {w:World} {b:Nat} {cv:Array Value} {T:TypeId} {fz:Nat×Nat} (hh:w.heap[b]? = some (.cells cv T fz)) (NR:Array Value) (hs:NR.size=cv.size):ShapeLe w (w.setRow b NR):=
 .one b (λk _ hk=>setRow_other w b k _ hk) (λs hx=>by
  simp only[World.shape?,hh] at hx
  simp only[World.shape?,setRow_heap w b cv NR T fz hh,hs]
  exact hx) (λs hx=>by rw[Me hh] at hx; simp at hx)
theorem Pv {N:Nm} {w:World} {fix:Nat→Nat→Prop} {hp:Nat→Option Nat} {v:Value} {p:PV} (h:DC v=some p):
  VR N w fix hp v p∧p.flat=true:=by
 unfold DC at h
 split at h<;>simp at h<;>subst h<;>refine⟨?_,rfl⟩<;>constructor
theorem KH {N:Nm} {w:World} {fix:Nat→Nat→Prop} {hp:Nat→Option Nat}:∀{vs:List Value} {ps:List PV},CE vs=some ps →
  vs.length=ps.length∧(∀p∈ps,p.flat=true)∧∀(i:Nat) (v:Value) (p:PV),vs[i]? = some v→ps[i]? = some p→VR N w fix hp v p
 | [],ps,h=>by simp[CE] at h; subst h; simp
 | v :: vs, ps, h => by
   simp only[CE,ae,ab] at h
   obtain⟨p,kq,qs,hq,rfl⟩:=h
   obtain⟨h1,h2,h3⟩:=KH (N:=N) (w:=w) (fix:=fix) (hp:=hp) hq
   have hv:=Pv (N:=N) (w:=w) (fix:=fix) (hp:=hp) kq
   refine⟨by simp[h1],by simpa using⟨hv.2,h2⟩,?_⟩
   intro i x y hx hy
   cases i with
   | zero=>simp at hx hy; subst hx hy; exact hv.1
   | succ i=>exact h3 i x y (by simpa using hx) (by simpa using hy)
theorem Eo:∀{vs:List Value} {ps:List PV},CE vs=some ps→∀(i:Nat) (v:Value) (es:List PV),vs[i]? = some v→ps[i]? = some (.list true es)→v = .slice none 0 0
 | [],ps,h,i,v,es,h1,_=>by simp at h1
 | x :: xs, ps, h, i, v, es, h1, h2 => by
   simp only[CE,ae,ab] at h
   obtain⟨p,kq,qs,hq,rfl⟩:=h
   cases i with
   | zero =>
     simp at h1 h2; subst h1 h2
     unfold DC at kq
     split at kq<;>simp at kq
     rfl
   | succ i=>exact Eo hq i v es (by simpa using h1) (by simpa using h2)
theorem Pw {N:Nm} {w:World} {fix:Nat→Nat→Prop} {hp:Nat→Option Nat} {v:Value} {p:PV} (h:DD v=some p):
  VR N w fix hp v p:=by
 unfold DD at h
 split at h
 ·rename_i cs
  simp only[ab] at h
  obtain⟨ps,h1,rfl⟩:=h
  obtain⟨a,b,c⟩:=KH (N:=N) (w:=w) (fix:=fix) (hp:=hp) h1
  exact .agg cs ps (by simpa using a) b (λi x es hx hy=>Eo h1 i x es (by simpa using hx) hy) (λi x y hx hy=>c i x y (by simpa using hx) hy)
 ·exact(Pv h).1
theorem KI {v:Value} {p:PV} (h:DD v=some p):(∃es,p = .list true es∧v = .slice none 0 0)∨cp p=some p:=by
 unfold DD at h
 split at h
 ·simp only[ab] at h
  obtain⟨ps,_,rfl⟩:=h
  exact .inr rfl
 ·unfold DC at h
  split at h<;>simp at h<;>subst h<;>first|exact .inr rfl|exact .inl ⟨_,rfl,rfl⟩
theorem Cd {t:Tmp}:∀{vs:List Tmp} {n i:Nat},x5 t vs n=some i→n≤i∧vs[i - n]? = some t
 | [],n,i,h=>by simp[x5] at h
 | x :: xs, n, i, h => by
   simp only[x5] at h
   split at h
   ·simp at h; subst h; subst_vars; simp
   ·obtain⟨h1,h2⟩:=Cd h
    refine⟨by omega,?_⟩
    rw[show i - n=(i - (n+1))+1 by omega]
    simpa using h2
theorem Px {t:Tmp}:∀{ops:List Oper} {n j:Nat},EF t ops n=some j→n≤j∧∃o,ops[j - n]? = some o∧o.dst=some t
 | [],n,j,h=>by simp[EF] at h
 | o :: os, n, j, h => by
   simp only[EF] at h
   split at h
   ·simp at h; subst h; exact⟨ao _,o,by simp,by assumption⟩
   ·obtain⟨h1,o',h2,h3⟩:=Px h
    refine⟨by omega,o',?_,h3⟩
    rw[show j - n=(j - (n+1))+1 by omega]
    simpa using h2
def zi:PX→Key
 | .v i => .var i
 | .l j => .loc j
 | .c _ => .loc 0
section
variable {E:Env} {N:Nm} {w:World} {G:GS} {st:St} {a:Act} {vs:List Tmp} {ops:List Oper}
theorem SR.of_pure {key:Key} {v:Value} {u:PV} (h:VR N w G.fix G.heap v u) (hu:cp u=some u):SR N w G key v u:=by
 unfold SR
 split<;>first|trivial|(simp[cp] at hu; done)|exact h
theorem SR.read {key:Key} {v:Value} {u r:PV} (h:SR N w G key v u) (hr:cp u=some r):VR N w G.fix G.heap v r∧cp r=some r:=by
 unfold SR at h
 split at h
 ·simp[cp] at hr
 ·simp[cp] at hr
 ·simp[cp] at hr
 ·simp[cp] at hr; subst hr; exact⟨h.1.dem,rfl⟩
 ·have:r=dem u∧cp r=some r:=by
   unfold cp at hr
   split at hr<;>simp at hr<;>subst hr<;>(try exact⟨rfl,rfl⟩)
   refine⟨?_,?_⟩
   ·unfold dem; split
    ·rename_i hx; exact absurd rfl (hx _ _)
    ·rfl
   ·unfold cp; split<;>first|rfl|simp_all
  rw[this.1]
  exact⟨h.dem,this.1▸this.2⟩
theorem BB (hE:EnvOk E N) {x:Operand} {px:PX} {u:PV} (hc:cx E vs ops x=some px) (hf:FI N w G st a vs (wk vs ops)) (hr:raw st px=some u):
  SR N w G (zi px) (a.eval x) u:=by
 cases x with
 | tmp t =>
   simp only[cx] at hc
   split at hc
   ·rename_i i hi
    simp at hc; subst hc
    obtain⟨_,h2⟩:=Cd hi
    exact hf.var i t u (by simpa using h2) hr
   ·rename_i hn
    simp only[ab] at hc
    obtain⟨j,hj,rfl⟩:=hc
    obtain⟨_,o,h2,h3⟩:=Px hj
    refine hf.loc j t u ?_ hr
    simp only[Nat.sub_zero] at h2
    simp[wk,h2,h3,hn]
 | const v =>
   simp only[cx] at hc
   split at hc
   ·rename_i jN
    simp only[aa] at hc
    subst hc
    simp only[raw,aa] at hr
    subst hr
    have j8:v = .slice none 0 0:=by
     simp only[al] at jN
     have:=jN.2
     unfold Lo at this
     split at this
     ·rfl
     ·simp at this
    subst j8
    exact SR.of_pure .nils' rfl
   simp only[ab] at hc
   obtain⟨p,hp,rfl⟩:=hc
   simp only[raw,aa] at hr
   subst hr
   have hv:=Pw (N:=N) (w:=w) (fix:=G.fix) (hp:=G.heap) hp
   rcases KI hp with⟨es,rfl,rfl⟩|h
   ·exact⟨hv,trivial⟩
   ·exact SR.of_pure hv h
 | global g=>simp[cx] at hc
 | func f =>
   simp only[cx,ab] at hc
   obtain⟨k,hk,rfl⟩:=hc
   simp only[raw,aa] at hr
   subst hr
   refine SR.of_pure ?_ rfl
   have i7:=hE.yl _ _ hk
   have:=hE.fn _ _ hk
   subst this
   exact .func k #[] #[] [] [] i7 rfl rfl (by simp) (by simp)
theorem wU (hE:EnvOk E N) {x:Operand} {px:PX} {u:PV} (hc:cx E vs ops x=some px) (hf:FI N w G st a vs (wk vs ops)) (hr:rd st px=some u):
  VR N w G.fix G.heap (a.eval x) u∧cp u=some u:=by
 simp only[rd,ae] at hr
 obtain⟨r,h1,h2⟩:=hr
 exact(BB hE hc hf h1).read h2
theorem BC (hE:EnvOk E N) {x:Operand} {px:PX} {n:Int} (hc:cx E vs ops x=some px) (hf:FI N w G st a vs (wk vs ops)) (hr:rdInt st px=some n):
  ∃k,a.eval x = .int k n:=by
 unfold rdInt at hr
 split at hr
 ·rename_i k m hm
  simp at hr; subst hr
  have:=(wU hE hc hf hm).1
  generalize a.eval x=y at this
  cases this
  exact⟨_,rfl⟩
 ·simp at hr
theorem AG (hE:EnvOk E N) (hf:FI N w G st a vs (wk vs ops)):∀{xs:List Operand} {pxs:List PX} {us:List PV},cxs E vs ops xs=some pxs→rdAll st pxs=some us →
  xs.length=us.length∧∀(i:Nat) (x:Operand) (u:PV),xs[i]? = some x→us[i]? = some u→VR N w G.fix G.heap (a.eval x) u∧cp u=some u
 | [], pxs, us, hc, hr => by
   simp[cxs] at hc; subst hc
   simp[rdAll] at hr; subst hr; simp
 | x :: xs, pxs, us, hc, hr => by
   simp only[cxs,ae,ab] at hc
   obtain⟨p,hp,ps,ea,rfl⟩:=hc
   simp only[rdAll,ae,ab] at hr
   obtain⟨u,hu,us',eG,rfl⟩:=hr
   obtain⟨h1,h2⟩:=AG hE hf ea eG
   refine⟨by simp[h1],?_⟩
   intro i y v hy hv
   cases i with
   | zero=>simp at hy hv; subst hy hv; exact wU hE hp hf hu
   | succ i=>exact h2 i y v (by simpa using hy) (by simpa using hv)
theorem Bb (hE:EnvOk E N) {x:Operand} {px:PX} {u:PV} (hc:cx E vs ops x=some px) (hf:FI N w G st a vs (wk vs ops)) (hr:addr st px=some u):
  (∃s g off b,u = .lptr s g off∧a.eval x = .pointer (some ⟨b,off,none⟩)∧G.box g=some b)∨(VR N w G.fix G.heap (a.eval x) u∧cp u=some u):=by
 unfold addr at hr
 split at hr
 ·rename_i i g cs fm
  simp at hr; subst hr
  have:=BB hE hc hf fm
  simp only[SR,zi] at this
  obtain⟨b,i',hk,hv,hb,_⟩:=this
  exact .inl ⟨i,g,0,b,rfl,hv,hb⟩
 ·rename_i s g off fm
  simp at hr; subst hr
  have:=BB hE hc hf fm
  simp only[SR] at this
  obtain⟨b,hv,hb⟩:=this
  exact .inl ⟨s,g,off,b,rfl,hv,hb⟩
 ·rename_i v _ _ fm
  exact .inr ((BB hE hc hf fm).read hr)
 ·simp at hr
end
def x9 (d:PD) (j:Nat):Key:=
 match d with
 | .v i => .var i
 | _ => .loc j
def HE (vs:List Tmp) (lm:Nat→Option Tmp) (j:Nat) (d:PD) (dst:Option Tmp):Prop:=
 match d with
 | .v i=>∃t,dst=some t∧vs[i]? = some t
 | .l=>∃t,dst=some t∧lm j=some t
 | .n=>dst=none
theorem CX (a:Act) (d t:Tmp) (v:Value) (hd:d<a.tmps.size):(a.put (some d) v).eval (.tmp t)=if t=d then v else a.eval (.tmp t):=by
 simp only[Act.put,Act.eval,aM,bb]
 by_cases h:t=d
 ·subst h; simp[hd]
 ·simp[h,Ne.symm h]
theorem FI.put {N:Nm} {w:World} {G:GS} {st:St} {a:Act} {vs:List Tmp} {lm:Nat→Option Tmp} {j:Nat} {d:PD} {dst:Option Tmp} {v:Value} {u:PV}
  (h:FI N w G st a vs lm) (nm:Names vs lm) (hd:HE vs lm j d dst) (hs:SR N w G (x9 d j) v u):FI N w G (put st j d u) (a.put dst v) vs lm:=by
 cases d with
 | n =>
   simp only[HE] at hd; subst hd
   exact h
 | v i =>
   obtain⟨t,rfl,ht⟩:=hd
   have cS:=h.tv i t ht
   refine⟨by simp[PI.put,h.len],?_,?_,?_,?_,h.defers,h.gen,h.owlt,h.fixlt,h.heap,h.hdom⟩
   ·intro i' t' u' h1 h2
    rw[CX _ _ _ _ cS]
    simp only[PI.put,aL] at h2
    by_cases hi:i=i'
    ·subst hi
     have:t'=t:=by rw[ht] at h1; simpa using h1.symm
     subst this
     split at h2
     ·split at h2
      ·simp at h2; subst h2; simp only[if_true]; exact hs
      ·simp at h2
     ·exact absurd rfl ‹_›
    ·rw[af hi] at h2
     have da:t'≠t:=λe=>hi (nm.vnd i i' t ht (e▸h1))
     rw[af da]
     exact h.var i' t' u' h1 h2
   ·intro j' t' u' h1 h2
    rw[CX _ _ _ _ cS,af (λe:t'=t=>nm.sep j' t' i h1 (e▸ht))]
    exact h.loc j' t' u' h1 h2
   ·intro i' t' h1; simpa[Act.put] using h.tv i' t' h1
   ·intro j' t' h1; simpa[Act.put] using h.tl j' t' h1
 | l =>
   obtain⟨t,rfl,ht⟩:=hd
   have cS:=h.tl j t ht
   refine⟨h.len,?_,?_,?_,?_,h.defers,h.gen,h.owlt,h.fixlt,h.heap,h.hdom⟩
   ·intro i' t' u' h1 h2
    rw[CX _ _ _ _ cS,af (λe:t'=t=>nm.sep j t i' ht (e▸h1))]
    exact h.var i' t' u' h1 h2
   ·intro j' t' u' h1 h2
    rw[CX _ _ _ _ cS]
    simp only[PI.put,aL] at h2
    by_cases hj:j=j'
    ·subst hj
     have:t'=t:=by rw[ht] at h1; simpa using h1.symm
     subst this
     split at h2
     ·split at h2
      ·simp at h2; subst h2; simp only[if_true]; exact hs
      ·simp at h2
     ·exact absurd rfl ‹_›
    ·rw[af hj] at h2
     have da:t'≠t:=λe=>hj (nm.lnd j j' t ht (e▸h1))
     rw[af da]
     exact h.loc j' t' u' h1 h2
   ·intro i' t' h1; simpa[Act.put] using h.tv i' t' h1
   ·intro j' t' h1; simpa[Act.put] using h.tl j' t' h1
theorem FI.ext {N:Nm} {w w':World} {G G':GS} {st:St} {a:Act} {vs:List Tmp} {lm:Nat→Option Tmp} (h:FI N w G st a vs lm) (e:Ext w G w' G')
  (hk:xq (λ_=>False) w G w' G') (hg:∀g b,G'.box g=some b→g<st.gen) (ho:∀b k,G'.ow b=some k→b<w'.heap.size) (hx:∀b o,G'.fix b o→b<w'.heap.size) (hh:G'.heap=G.heap:=by rfl):
  FI N w' G' st a vs lm:=
 ⟨h.len,λi t u h1 h2=>(h.var i t u h1 h2).keep e hk (λh=>h) (λ_ _ _ h=>h),λj t u h1 h2=>(h.loc j t u h1 h2).keep e hk (λh=>h) (λ_ _ _ h=>h),h.tv,h.tl,(h.defers.trans e.df.symm),hg,ho,hx,h.heap.keep e hk (λ_ _ h=>h),by rw[hh]; exact h.hdom⟩
theorem yV {vs:List Tmp} {ops:List Oper} {j:Nat} {o:Oper} (ho:ops[j]? = some o):HE vs (wk vs ops) j (wO vs o.dst) o.dst:=by
 unfold wO
 split
 ·rename_i h; exact h
 ·rename_i t h
  cases hi:x5 t vs 0 with
  | some i =>
    obtain⟨_,h2⟩:=Cd hi
    exact⟨t,h,by simpa using h2⟩
  | none=>exact⟨t,h,by simp[wk,ho,h,hi]⟩
theorem yW (a:Act) (d:Option Tmp) (v:Value):(a.put d v).tmps.size=a.tmps.size:=by
 cases d<;>simp[Act.put]
theorem wW {P:Program} {N:Nm} {w:World} {G:GS} {st:St} {a:Act} {vs:List Tmp} {ops:List Oper} {j:Nat} {o:Oper} {v:Value} {u:PV} {next:Act→World→Prop}
  {Q:Exit→Act→World→Prop} (nm:Names vs (wk vs ops)) (ho:ops[j]? = some o) (hf:FI N w G st a vs (wk vs ops)) (cO:(execOp a.eval o).run P w = .ok (.value v) w)
  (hs:SR N w G (x9 (wO vs o.dst) j) v u) (hk:∀a' w' G',FI N w' G' (put st j (wO vs o.dst) u) a' vs (wk vs ops)→Ext w G w' G'→a'.tmps.size=a.tmps.size→next a' w'):o.wp P a w next Q:=by
 unfold Oper.wp
 rw[cO]
 exact hk _ _ _ (hf.put nm (yV ho) hs) (Ext.refl _ _) (yW _ _ _)
theorem KJ (s:ByteArray):s.toList=s.data.toList:=ByteArray.toList_eq s
section
variable {E:Env} {N:Nm} {w:World} {G:GS} {st:St} {a:Act} {vs:List Tmp} {ops:List Oper} {P:Program}
theorem BL {t:TypeId} {n:Nat} (h:wP P t=some n):xi P t=false→n=1:=by
 intro ha
 unfold wP at h
 split at h
 ·split at h
  ·simp at h
  ·rename_i hn
   simp only[not_or,not_and,Decidable.not_not] at hn
   simp at h; subst h
   exact hn.2.2 ha
 ·simp at h
theorem yO {t:TypeId} {n:Nat} (h:wP P t=some n):∃i d,P.info? t=some i∧i.size=n∧n≠0∧P.underlying t=some d:=by
 unfold wP at h
 split at h
 ·rename_i i hi
  split at h
  ·simp at h
  ·rename_i hn
   simp at h; subst h
   simp only[not_or] at hn
   obtain⟨nJ,nz,_⟩:=hn
   cases hu:P.underlying t with
   | none=>simp[hu] at nz
   | some d=>exact⟨i,d,hi,rfl,nJ,rfl⟩
 ·simp at h
theorem zx {t:TypeId} {n:Nat} (h:wP P t=some n) (w:World):(Go.sizeOf t).run P w = .ok n w:=by
 obtain⟨i,d,hi,rfl,_,_⟩:=yO h
 simp[Go.sizeOf,typeInfo,hi]
theorem Dw {t:TypeId} {n:Nat} (h:wP P t=some n) (w:World):(isAgg t).run P w = .ok (xi P t) w:=by
 obtain⟨i,d,_,_,_,hd⟩:=yO h
 simp only[isAgg,Sem.run_bind,run_underlying hd,Result.andThen_ok,xi,hd]
 cases d<;>rfl
theorem zF (b off n:Nat):(⟨b,off,none⟩:Addr).add n=⟨b,off+n,none⟩:=Addr.add_lit b off n
theorem EJ {t:TypeId} {n:Nat} (h:wP P t=some n) (b off:Nat) (cs:List Value) (hl:n≤cs.length)
  (hc:∀j v,cs[j]? = some v→w.cell? ⟨b,off+j,none⟩=some v):
  (loadVar t ⟨b,off,none⟩).run P w = .ok (if xi P t then .agg (cs.take n).toArray else cs.headD undef) w:=by
 obtain⟨i,d,hi,hn,eN,hd⟩:=yO h
 have oL:(cs.take n).length=n:=by simp[hl]
 have lY:=run_loadCells_list (P:=P) w ⟨b,off,none⟩ (cs.take n) (λj v hv=>by
  rw[zF]
  refine hc j v ?_
  rw[aS] at hv
  split at hv
  ·exact hv
  ·cases hv)
 rw[oL] at lY
 unfold loadVar
 simp only[Sem.run_bind,Dw h,Result.andThen_ok,Sem.run_ite]
 by_cases ha:xi P t=true
 ·simp[ha,zx h,lY]
 ·simp only[Bool.not_eq_true] at ha
  cases cs with
  | nil=>simp at hl; omega
  | cons c cs =>
    have:=hc 0 c rfl
    simp only[bp] at this
    simp[ha,this]
def CellsR (N:Nm) (w:World) (fix:Nat→Nat→Prop) (hp:Nat→Option Nat) (cs:List Value) (ps:List PV):Prop:=
 cs.length=ps.length∧(∀x∈ps,x.flat=true)∧∀(i:Nat) (c:Value) (x:PV),cs[i]? = some c→ps[i]? = some x→VR N w fix hp c x
theorem CellsR.dem {fix:Nat→Nat→Prop} {hp:Nat→Option Nat} {cs:List Value} {ps:List PV} (h:CellsR N w fix hp cs ps):CellsR N w fix hp cs (ps.map dem):=by
 refine⟨by simpa using h.1,?_,?_⟩
 ·intro x hx
  obtain⟨y,hy,rfl⟩:=bl.1 hx
  rw[C8]; exact h.2.1 y hy
 ·intro i c x hc hx
  simp only[aF,ab] at hx
  obtain⟨y,hy,rfl⟩:=hx
  exact(h.2.2 i c y hc hy).dem
theorem CellsR.take {fix:Nat→Nat→Prop} {hp:Nat→Option Nat} {cs:List Value} {ps:List PV} (h:CellsR N w fix hp cs ps) (n:Nat):CellsR N w fix hp (cs.take n) (ps.take n):=by
 refine⟨by simp[h.1],λx hx=>h.2.1 x (List.mem_of_mem_take hx),?_⟩
 intro i c x hc hx
 rw[aS] at hc hx
 split at hc
 ·rename_i hi; rw[ah hi] at hx; exact h.2.2 i c x hc hx
 ·cases hc
theorem CellsR.drop {fix:Nat→Nat→Prop} {hp:Nat→Option Nat} {cs:List Value} {ps:List PV} (h:CellsR N w fix hp cs ps) (n:Nat):CellsR N w fix hp (cs.drop n) (ps.drop n):=by
 refine⟨by simp[h.1],λx hx=>h.2.1 x (cu hx),?_⟩
 intro i c x hc hx
 rw[aW] at hc hx
 exact h.2.2 _ c x hc hx
theorem CellsR.append {fix:Nat→Nat→Prop} {hp:Nat→Option Nat} {cs ds:List Value} {ps qs:List PV} (h:CellsR N w fix hp cs ps) (k:CellsR N w fix hp ds qs):
  CellsR N w fix hp (cs++ds) (ps++qs):=by
 refine⟨by simp[h.1,k.1],?_,?_⟩
 ·intro x hx
  rcases ak.1 hx with hx|hx
  ·exact h.2.1 x hx
  ·exact k.2.1 x hx
 ·intro i c x hc hx
  by_cases hi:i<cs.length
  ·rw[am hi] at hc
   rw[am (h.1▸hi)] at hx
   exact h.2.2 i c x hc hx
  ·rw[ar (by omega)] at hc
   rw[ar (by have:=h.1; omega),← h.1] at hx
   exact k.2.2 _ c x hc hx
def OwnNil (cs:List Value) (ps:List PV):Prop:=∀(i:Nat) (c:Value) (es:List PV),cs[i]? = some c→ps[i]? = some (.list true es)→c = .slice none 0 0
theorem OwnNil.dem (cs:List Value) (ps:List PV):OwnNil cs (ps.map PI.dem):=by
 intro i c es _ h
 simp only[aF,ab] at h
 obtain⟨q,_,hq⟩:=h
 cases q<;>simp[PI.dem] at hq
theorem OwnNil.take {cs:List Value} {ps:List PV} (h:OwnNil cs ps) (n:Nat):OwnNil (cs.take n) (ps.take n):=by
 intro i c es hc hx
 rw[aS] at hc hx
 split at hc
 ·rename_i hi; rw[ah hi] at hx; exact h i c es hc hx
 ·cases hc
theorem OwnNil.drop {cs:List Value} {ps:List PV} (h:OwnNil cs ps) (n:Nat):OwnNil (cs.drop n) (ps.drop n):=by
 intro i c es hc hx
 rw[aW] at hc hx
 exact h _ c es hc hx
theorem OwnNil.append {cs ds:List Value} {ps qs:List PV} (hl:cs.length=ps.length) (h:OwnNil cs ps) (k:OwnNil ds qs):OwnNil (cs++ds) (ps++qs):=by
 intro i c es hc hx
 by_cases hi:i<cs.length
 ·rw[am hi] at hc
  rw[am (hl▸hi)] at hx
  exact h i c es hc hx
 ·rw[ar (by omega)] at hc
  rw[ar (by omega),← hl] at hx
  exact k _ c es hc hx
theorem CellsR.agg {fix:Nat→Nat→Prop} {hp:Nat→Option Nat} {cs:List Value} {ps:List PV} (h:CellsR N w fix hp cs ps) (ho:OwnNil cs ps):VR N w fix hp (.agg cs.toArray) (.agg ps):=
 .agg cs.toArray ps (by simpa using h.1) h.2.1 (λi c es hc hp=>ho i c es (by simpa using hc) hp) (λi c p hc hp=>h.2.2 i c p (by simpa using hc) hp)
theorem CellsR.of_agg {fix:Nat→Nat→Prop} {hp:Nat→Option Nat} {v:Value} {ps:List PV} (h:VR N w fix hp v (.agg ps)):∃cs:Array Value,v = .agg cs∧CellsR N w fix hp cs.toList ps:=by
 cases h with
 | agg cs _ cM cU _ cT=>exact⟨cs,rfl,by simpa using cM,cU,λi c p hc hp=>cT i c p (by simpa using hc) hp⟩
theorem OwnNil.of_agg {fix:Nat→Nat→Prop} {hp:Nat→Option Nat} {cs:Array Value} {ps:List PV} (h:VR N w fix hp (.agg cs) (.agg ps)):OwnNil cs.toList ps:=by
 cases h with
 | agg _ _ cM cU eE cT=>exact λi c es hc hp=>eE i c es (by simpa using hc) hp
theorem CellsR.of_cells {fix:Nat→Nat→Prop} {hp:Nat→Option Nat} {v:Value} {p:PV} (h:VR N w fix hp v p) (h0:p.cells≠[]):CellsR N w fix hp v.cells.toList p.cells:=by
 obtain⟨h1,h2,h3⟩:=h.cells h0
 exact⟨by simpa using h1,h2,λi c x hc hx=>h3 i c x (by simpa using hc) hx⟩
theorem C3 {fix:Nat→Nat→Prop} {hp:Nat→Option Nat} {size:Nat} {agg:Bool} {ps:List PV} {off:Nat} {u:PV} {cs:List Value} (h:CellsR N w fix hp cs ps)
  (hl:wz size agg ps off=some u) (hs:size≠0) (h1:agg=false→size=1):
  off+size≤cs.length∧VR N w fix hp (if agg then .agg ((cs.drop off).take size).toArray else(cs.drop off).headD undef) u∧cp u=some u:=by
 unfold wz at hl
 cases agg with
 | true =>
   simp only[if_true] at hl
   split at hl
   ·rename_i em
    simp only[aa] at hl; subst hl
    refine⟨by rw[h.1]; exact em,?_,rfl⟩
    rw[ah rfl]
    exact(((h.drop off).take size).dem).agg (OwnNil.dem _ _)
   ·simp at hl
 | false =>
   have eb:=h1 rfl
   subst eb
   simp only[aH,if_false] at hl
   split at hl
   ·rename_i v hv
    have cQ:off<ps.length:=(aj.1 hv).1
    have fD:off<cs.length:=by rw[h.1]; exact cQ
    refine⟨by omega,?_⟩
    have cT:=h.2.2 off cs[off] v (av fD) hv
    have hd:(cs.drop off).headD undef=cs[off]:=by rw[aU fD]; rfl
    simp only[aH,if_false,hd]
    unfold cp at hl
    split at hl<;>simp at hl<;>subst hl
    ·exact⟨cT.dem,rfl⟩
    ·refine⟨cT,?_⟩
     unfold cp; split<;>first|rfl|simp_all
   ·simp at hl
theorem SR.lptr {key:Key} {s g off b:Nat} {v:Value} (hv:v = .pointer (some ⟨b,off,none⟩)) (hb:G.box g=some b):SR N w G key v (.lptr s g off):=⟨b,hv,hb⟩
variable {o:Oper} {j:Nat} {next:Act→World→Prop} {Q:Exit→Act→World→Prop} {u:PV} {st1:St}
abbrev wG (N:Nm) (w:World) (G:GS) (a:Act) (st1:St) (u:PV) (vs:List Tmp) (ops:List Oper) (j:Nat) (o:Oper) (next:Act→World→Prop):Prop:=
 ∀a' w' G',FI N w' G' (put st1 j (wO vs o.dst) u) a' vs (wk vs ops)→Ext w G w' G'→a'.tmps.size=a.tmps.size→next a' w'
theorem c1f (hE:EnvOk E N) (nm:Names vs (wk vs ops)) (ho:ops[j]? = some o) (hf:FI N w G st a vs (wk vs ops)) {x:Operand} {p:PX} (hx:(execOp a.eval o).run P w = .ok (.value (a.eval x)) w)
  (hc:cx E vs ops x=some p) (hs:(rd st p).map (·,st)=some (u,st1)) (hk:wG N w G a st1 u vs ops j o next):o.wp P a w next Q:=by
 simp only[ab,ac] at hs
 obtain⟨r,hr,rfl,rfl⟩:=hs
 obtain⟨h1,h2⟩:=wU hE hc hf hr
 exact wW nm ho hf hx (SR.of_pure h1 h2) hk
theorem b9B (hE:EnvOk E N) (nm:Names vs (wk vs ops)) (ho:ops[j]? = some o) (hf:FI N w G st a vs (wk vs ops)) {c x y:Operand} {pc px py:PX} (cN:o.op = .pick c x y)
  (hc:cx E vs ops c=some pc) (hx:cx E vs ops x=some px) (hy:cx E vs ops y=some py) {cf:wu} (hs:opv cf (.pick pc px py) st=some (u,st1)) (hk:wG N w G a st1 u vs ops j o next):o.wp P a w next Q:=by
 simp only[opv] at hs
 split at hs
 ·rename_i t ht
  simp only[ab,ac] at hs
  obtain⟨r,hr,rfl,rfl⟩:=hs
  have hb:=(wU hE hc hf ht).1
  have ll:a.eval c = .bool t:=by generalize a.eval c=z at hb; cases hb; rfl
  cases t with
  | true =>
    obtain⟨h1,h2⟩:=wU hE hx hf hr
    exact wW nm ho hf (by simp[execOp,cN,ll,asBool]) (SR.of_pure h1 h2) hk
  | false =>
    obtain⟨h1,h2⟩:=wU hE hy hf hr
    exact wW nm ho hf (by simp[execOp,cN,ll,asBool]) (SR.of_pure h1 h2) hk
 ·simp at hs
theorem b7E (hE:EnvOk E N) (nm:Names vs (wk vs ops)) (ho:ops[j]? = some o) (hf:FI N w G st a vs (wk vs ops)) {s:TypeId} {x:Operand} {f:Nat} {px:PX} {fs:Array Field} {fd:Field} {n:Nat} (cN:o.op = .fieldAddr s x f)
  (hu:P.underlying s=some (.struct fs)) (iC:fs[f]? = some fd) (hn:wP P fd.type=some n) (hx:cx E vs ops x=some px) {cf:wu} (hs:opv cf (.faddr fd.offset px) st=some (u,st1)) (hk:wG N w G a st1 u vs ops j o next):o.wp P a w next Q:=by
 have eN:n≠0:=by obtain⟨_,_,_,_,h,_⟩:=yO hn; exact h
 have run:∀b off,a.eval x = .pointer (some ⟨b,off,none⟩)→(execOp a.eval o).run P w = .ok (.value (.pointer (some ⟨b,off+fd.offset,none⟩))) w:=by
  intro b off h
  simp[execOp,cN,h,Instr.fieldAt,run_underlying hu,iC,Instr.sureAddr,fieldPlace,zx hn,eN,zF]
 simp only[opv] at hs
 split at hs
 ·rename_i cs ha
  simp only[aa,ac] at hs
  obtain⟨rfl,rfl⟩:=hs
  rcases Bb hE hx hf ha with⟨_,_,_,_,h,_⟩|⟨h,_⟩
  ·simp at h
  ·generalize hv:a.eval x=v at h
   cases h with
   | cptr b off _ cv cU hcell cT =>
     refine wW nm ho hf (run b off hv) (SR.of_pure ?_ rfl) hk
     refine .cptr b (off+fd.offset) _ (λk=>cv (fd.offset+k)) (λy hy=>cU y (cu hy)) ?_ ?_
     ·intro k hk
      have:=hcell (fd.offset+k) (by simp at hk; omega)
      simpa[b9] using this
     ·intro k y hy
      rw[aW] at hy
      exact cT _ _ hy
 ·rename_i s' g off ha
  simp only[aa,ac] at hs
  obtain⟨rfl,rfl⟩:=hs
  rcases Bb hE hx hf ha with⟨_,_,_,b,h,hv,hb⟩|⟨_,h⟩
  ·simp at h
   obtain⟨rfl,rfl,rfl⟩:=h
   exact wW nm ho hf (run b _ hv) (SR.lptr rfl hb) hk
  ·simp[cp] at h
 ·rename_i n' off ha
  simp only[aa,ac] at hs
  obtain⟨rfl,rfl⟩:=hs
  rcases Bb hE hx hf ha with⟨_,_,_,_,h,_⟩|⟨h,_⟩
  ·simp at h
  ·generalize hv:a.eval x=v at h
   cases h with
   | ptr _ _ b hb=>exact wW nm ho hf (run b off hv) (SR.of_pure (.ptr _ _ b hb) rfl) hk
 ·simp at hs
theorem b6o (hE:EnvOk E N) (nm:Names vs (wk vs ops)) (ho:ops[j]? = some o) (hf:FI N w G st a vs (wk vs ops)) {t e:TypeId} {x i:Operand} {px pi:PX} {n:Nat} (cN:o.op = .indexAddr t x i)
  (hu:P.underlying t=some (.slice e)) (hn:wP P e=some n) (hx:cx E vs ops x=some px) (hi:cx E vs ops i=some pi) {cf:wu} (hs:opv cf (.iaddrS n px pi) st=some (u,st1)) (hk:wG N w G a st1 u vs ops j o next):o.wp P a w next Q:=by
 simp only[opv] at hs
 split at hs
 ·rename_i own es m fH hm
  split at hs
  ·rename_i mZ
   split at hs
   ·rename_i y hy
    split at hs
    ·rename_i nW
     simp only[aa,ac] at hs
     obtain⟨rfl,rfl⟩:=hs
     have h:=(wU hE hx hf fH).1
     obtain⟨k,fT⟩:=BC hE hi hf hm
     have cQ:m.toNat<es.length:=(aj.1 hy).1
     generalize hv:a.eval x=v at h
     cases h with
     | nils=>simp at cQ
     | void=>simp at cQ
     | list _ b off len cap sz _ cv cM cV cS cU hcell cT =>
       have dX:y∈es:=ax hy
       have m5:sz=n:=by rw[← cS y dX]; exact nW
       subst m5
       have cO:(execOp a.eval o).run P w = .ok (.value (.pointer (some ⟨b,off+m.toNat*sz,none⟩))) w:=by
        have h1:m<len:=by omega
        simp[execOp,cN,hv,fT,Instr.indexAt,asIntOf,run_underlying hu,mZ,h1,zx hn,zF]
       refine wW nm ho hf cO (SR.of_pure ?_ rfl) hk
       refine .cptr b _ _ (λk=>cv (m.toNat*sz+k)) (cU y dX) ?_ ?_
       ·intro k hk
        rw[nW] at hk
        have hb:m.toNat*sz+k<len*sz:=by
         have:(m.toNat+1)*sz≤len*sz:=bk _ (by omega)
         rw[aQ] at this; omega
        have:=hcell _ hb
        simpa[b9] using this
       ·intro k z hz
        exact cT _ _ hy _ _ hz
    ·simp at hs
   ·simp at hs
  ·simp at hs
 ·rename_i r sz agg len m fH hm
  split at hs
  ·rename_i hc
   obtain⟨rfl,mZ,cQ⟩:=hc
   simp only[aa,ac] at hs
   obtain⟨rfl,rfl⟩:=hs
   have h:=(wU hE hx hf fH).1
   obtain⟨k,fT⟩:=BC hE hi hf hm
   generalize hv:a.eval x=v at h
   cases h with
   | rowp _ _ _ _ b cap hb cV d8 =>
     have cO:(execOp a.eval o).run P w = .ok (.value (.pointer (some ⟨b,0+m.toNat*sz,none⟩))) w:=by
      simp[execOp,cN,hv,fT,Instr.indexAt,asIntOf,run_underlying hu,mZ,cQ,zx hn,zF]
     rw[aR] at cO
     exact wW nm ho hf cO (SR.of_pure (.ptr _ _ b hb) rfl) hk
  ·simp at hs
 ·simp at hs
theorem b6p (hE:EnvOk E N) (nm:Names vs (wk vs ops)) (ho:ops[j]? = some o) (hf:FI N w G st a vs (wk vs ops)) {t e:TypeId} {x i:Operand} {px pi:PX} {n len:Nat} (cN:o.op = .indexAddr t x i)
  (hu:P.underlying t=some (.array len e)) (hn:wP P e=some n) (hx:cx E vs ops x=some px) (hi:cx E vs ops i=some pi) {cf:wu} (hs:opv cf (.iaddrA len n px pi) st=some (u,st1)) (hk:wG N w G a st1 u vs ops j o next):o.wp P a w next Q:=by
 have run:∀b off m k,a.eval x = .pointer (some ⟨b,off,none⟩)→a.eval i = .int k m→0≤m→m<len→(execOp a.eval o).run P w = .ok (.value (.pointer (some ⟨b,off+m.toNat*n,none⟩))) w:=by
  intro b off m k hv fT h0 h1
  simp[execOp,cN,hv,fT,Instr.indexAt,asIntOf,run_underlying hu,Instr.sureAddr,h0,h1,zx hn,zF]
 simp only[opv] at hs
 split at hs
 ·rename_i s g off m ha hm
  split at hs
  ·rename_i hb
   simp only[aa,ac] at hs
   obtain⟨rfl,rfl⟩:=hs
   obtain⟨k,fT⟩:=BC hE hi hf hm
   rcases Bb hE hx hf ha with⟨_,_,_,b,h,hv,sy⟩|⟨_,h⟩
   ·simp at h
    obtain⟨rfl,rfl,rfl⟩:=h
    exact wW nm ho hf (run b _ m k hv fT hb.1 hb.2) (SR.lptr rfl sy) hk
   ·simp[cp] at h
  ·simp at hs
 ·rename_i cs m ha hm
  split at hs
  ·rename_i hb
   simp only[aa,ac] at hs
   obtain⟨rfl,rfl⟩:=hs
   obtain⟨k,fT⟩:=BC hE hi hf hm
   rcases Bb hE hx hf ha with⟨_,_,_,_,h,_⟩|⟨h,_⟩
   ·simp at h
   ·generalize hv:a.eval x=v at h
    cases h with
    | cptr b off _ cv cU hcell cT =>
      refine wW nm ho hf (run b off m k hv fT hb.1 hb.2) (SR.of_pure ?_ rfl) hk
      refine .cptr b _ _ (λk=>cv (m.toNat*n+k)) (λy hy=>cU y (cu hy)) ?_ ?_
      ·intro k hk
       have:=hcell (m.toNat*n+k) (by simp at hk; omega)
       simpa[b9] using this
      ·intro k y hy
       rw[aW] at hy
       exact cT _ _ hy
  ·simp at hs
 ·simp at hs
theorem KK {t:TypeId} {n:Nat} (hn:wP P t=some n) {v:Value} {cs:List PV} {u:PV} (h:VR N w G.fix G.heap v (.cptr cs))
  (hl:wz n (xi P t) cs 0=some u):∃r,(Instr.loadAt t v).run P w = .ok r w∧VR N w G.fix G.heap r u∧cp u=some u:=by
 cases h with
 | cptr b off _ cv cU hcell cT =>
   have eN:n≠0:=by obtain⟨_,_,_,_,h,_⟩:=yO hn; exact h
   let ds:List Value:=(List.range cs.length).map cv
   have hR:CellsR N w G.fix G.heap ds cs:=by
    refine⟨by simp[ds],cU,?_⟩
    intro i c x hc hx
    have hi:i<cs.length:=(aj.1 hx).1
    simp[ds,hi] at hc
    subst hc
    exact cT i x hx
   obtain⟨h1,h2,h3⟩:=C3 hR hl eN (BL hn)
   refine⟨_,?_,h2,h3⟩
   have:=EJ (w:=w) hn b off ds (by simpa using h1) (λj v hv=>by
    have hj:j<cs.length:=by have:=(aj.1 hv).1; simpa[ds] using this
    simp[ds,hj] at hv
    subst hv
    exact(hcell j hj).1)
   simpa[Instr.loadAt,Instr.sureAddr] using this
theorem b7F (hE:EnvOk E N) (nm:Names vs (wk vs ops)) (ho:ops[j]? = some o) (hf:FI N w G st a vs (wk vs ops)) {t:TypeId} {x:Operand} {f:Nat} {px:PX} {fs:Array Field} {fd:Field} {n:Nat} (cN:o.op = .field t x f)
  (hu:P.underlying t=some (.struct fs)) (iC:fs[f]? = some fd) (hn:wP P fd.type=some n) (hx:cx E vs ops x=some px) {cf:wu}
  (hs:opv cf (.field fd.offset n (xi P fd.type) px) st=some (u,st1)) (hk:wG N w G a st1 u vs ops j o next):o.wp P a w next Q:=by
 have eN:n≠0:=by obtain⟨_,_,_,_,h,_⟩:=yO hn; exact h
 simp only[opv] at hs
 split at hs
 ·rename_i ps ea
  simp only[ab,ac] at hs
  obtain⟨r,hr,rfl,rfl⟩:=hs
  obtain⟨cs,hv,hR⟩:=CellsR.of_agg (wU hE hx hf ea).1
  obtain⟨h1,h2,h3⟩:=C3 hR hr eN (BL hn)
  refine wW nm ho hf ?_ (SR.of_pure h2 h3) hk
  have hx:(Instr.field t (.agg cs) f).run P w = .ok (if xi P fd.type then .agg ((cs.toList.drop fd.offset).take n).toArray else(cs.toList.drop fd.offset).headD undef) w:=by
   simp only[Instr.field,Sem.run_bind,run_underlying hu,Result.andThen_ok,iC,asAgg,Sem.run_pure,part,Dw hn,Sem.run_ite,zx hn]
   by_cases ha:xi P fd.type=true
   ·simp only[ha,if_true]
    congr 2
    apply Array.ext'
    simp
   ·simp only[Bool.not_eq_true] at ha
    have cQ:fd.offset<cs.size:=by simp at h1; omega
    simp[ha,aU (l:=cs.toList) (i:=fd.offset) (by simpa using cQ),cQ]
  simp[execOp,cN,hv,hx]
 ·simp at hs
theorem b3n (hE:EnvOk E N) (nm:Names vs (wk vs ops)) (ho:ops[j]? = some o) (hf:FI N w G st a vs (wk vs ops)) {t:TypeId} {x i:Operand} {px pi:PX} (cN:o.op = .index t x i)
  (hu:P.underlying t=some .string) (hx:cx E vs ops x=some px) (hi:cx E vs ops i=some pi) {cf:wu} (hs:opv cf (.indexStr px pi) st=some (u,st1)) (hk:wG N w G a st1 u vs ops j o next):o.wp P a w next Q:=by
 simp only[opv] at hs
 split at hs
 ·rename_i s m fH hm
  split at hs
  ·rename_i mZ
   split at hs
   ·rename_i y hy
    simp only[aa,ac] at hs
    obtain⟨rfl,rfl⟩:=hs
    have h:=(wU hE hx hf fH).1
    obtain⟨k,fT⟩:=BC hE hi hf hm
    generalize hv:a.eval x=v at h
    cases h with
    | str s =>
      have fN:s[m.toNat]? = some y:=by
       have cQ:m.toNat<s.data.toList.length:=(aj.1 hy).1
       have fD:m.toNat<s.size:=by rw[aX] at cQ; exact cQ
       rw[getElem?_pos s m.toNat fD]
       rw[av cQ] at hy
       simp only[aa] at hy ⊢
       rw[← hy]; rfl
      refine wW nm ho hf ?_ (SR.of_pure (.int _ _) rfl) hk
      simp only[execOp,cN,hv,fT,Instr.index,asIntOf,Sem.run_bind,Sem.run_pure,run_underlying hu,Result.andThen_ok,mZ,if_true,fN]
   ·simp at hs
  ·simp at hs
 ·simp at hs
end
end PI
set_option linter.unusedSimpArgs false
set_option linter.unusedVariables false
namespace PI
open Go
section
variable {E:Env} {N:Nm} {w:World} {G:GS} {st:St} {a:Act} {vs:List Tmp} {ops:List Oper} {P:Program}
variable {o:Oper} {j:Nat} {next:Act→World→Prop} {Q:Exit→Act→World→Prop} {u:PV} {st1:St}
theorem b6q {op:BinOp} {t:TypeId} {k:IntKind} {x y:Int} (h:Es op k x y=some u):∃v,(binOp op t (.int k x) (.int k y)).run P w = .ok v w∧VR N w G.fix G.heap v u∧cp u=some u:=by
 cases op<;>simp only[Es] at h
 case quo=>
  split at h
  ·simp at h
  ·rename_i h0
   simp at h; subst h
   exact⟨_,by simp[binOp,Op.intDiv,h0],.int _ _,rfl⟩
 case rem=>
  split at h
  ·simp at h
  ·rename_i h0
   simp at h; subst h
   exact⟨_,by simp[binOp,Op.intDiv,h0],.int _ _,rfl⟩
 all_goals first
  | (simp at h; done)
  | (simp only [aa] at h; subst h
     first
      | exact⟨_,by simp only[binOp,Op.intArith,ne_eq,bi,if_false]; rfl,.int _ _,rfl⟩
      | exact⟨_,by simp only[binOp,Op.intBits,ne_eq,bi,if_false]; rfl,.int _ _,rfl⟩
      | exact⟨_,by simp only[binOp,Op.intCmp,ne_eq,bi,if_false]; rfl,.bool _,rfl⟩)
theorem b6r {op:BinOp} {t:TypeId} {x y:ByteArray} (h:Et op x.data.toList y.data.toList=some u):
  ∃v,(binOp op t (.string x) (.string y)).run P w = .ok v w∧VR N w G.fix G.heap v u∧cp u=some u:=by
 cases op<;>simp only[Et] at h
 case add=>
  split at h
  ·rename_i hl
   simp only[aa] at h; subst h
   have h1:¬((x.size+y.size:Nat):Int)>IntKind.i64.max:=by
    have hx:x.data.toList.length=x.size:=aX
    have hy:y.data.toList.length=y.size:=aX
    rw[IntKind.max_i64]; omega
   refine⟨.string (x++y),by simp only[binOp,Op.stringOp,af h1]; rfl,?_,rfl⟩
   have:(x++y).data.toList=x.data.toList++y.data.toList:=by simp
   rw[← this]
   exact .str _
  ·simp at h
 all_goals first
  | (simp at h; done)
  | (simp only [aa] at h; subst h
     exact⟨_,by simp only[binOp,Op.stringOp,KJ]; rfl,.bool _,rfl⟩)
theorem Pz {op:BinOp} {t:TypeId} {k k':IntKind} {x y:Int} (cN:op = .shl∨op = .shr) (h:Be op (.int k x) (.int k' y)=some u):
  ∃v,(binOp op t (.int k x) (.int k' y)).run P w = .ok v w∧VR N w G.fix G.heap v u∧cp u=some u:=by
 rcases cN with rfl|rfl<;>simp only[Be] at h
 ·split at h
  ·simp at h
  ·rename_i h0
   simp only[aa] at h; subst h
   exact⟨_,by simp only[binOp,Op.shift,af h0]; rfl,.int _ _,rfl⟩
 ·split at h
  ·simp at h
  ·rename_i h0
   simp only[aa] at h; subst h
   exact⟨_,by simp only[binOp,Op.shift,af h0]; rfl,.int _ _,rfl⟩
theorem b9C {op:BinOp} {t:TypeId} {vx vy:Value} {x y:PV} (hx:VR N w G.fix G.heap vx x) (hy:VR N w G.fix G.heap vy y) (h:Be op x y=some u) (ox oy:Operand):
  ∃v,(do eqGuard op t ox oy vx vy; binOp op t vx vy:Sem Value).run P w = .ok v w∧VR N w G.fix G.heap v u∧cp u=some u:=by
 have key:(∃v,(binOp op t vx vy).run P w = .ok v w∧VR N w G.fix G.heap v u∧cp u=some u)∧(eqGuard op t ox oy vx vy).run P w = .ok () w:=by
  unfold Be at h
  split at h
  ·rename_i k m k' m'
   cases hx; cases hy
   refine⟨?_,by cases op<;>simp[eqGuard]⟩
   split at h
   ·exact Pz (.inl rfl) (by simpa[Be] using h)
   ·exact Pz (.inr rfl) (by simpa[Be] using h)
   ·split at h
    ·subst_vars
     exact b6q h
    ·simp at h
  ·rename_i s s'
   cases hx; cases hy
   exact⟨b6r h,by cases op<;>simp[eqGuard]⟩
  ·simp at h
 obtain⟨⟨v,h1,h2,h3⟩,h4⟩:=key
 exact⟨v,by simp[h4,h1],h2,h3⟩
theorem PA (hE:EnvOk E N) (nm:Names vs (wk vs ops)) (ho:ops[j]? = some o) (hf:FI N w G st a vs (wk vs ops)) {op:BinOp} {t t':TypeId} {x y:Operand} {px py:PX} (cN:o.op = .binOp op t x y t')
  (hx:cx E vs ops x=some px) (hy:cx E vs ops y=some py) {cf:wu} (hs:opv cf (.bin op px py) st=some (u,st1)) (hk:wG N w G a st1 u vs ops j o next):o.wp P a w next Q:=by
 simp only[opv] at hs
 split at hs
 ·rename_i p q hp hq
  simp only[ab,ac] at hs
  obtain⟨r,hr,rfl,rfl⟩:=hs
  obtain⟨v,h1,h2,h3⟩:=b9C (t:=t) (P:=P) (wU hE hx hf hp).1 (wU hE hy hf hq).1 hr x y
  refine wW nm ho hf ?_ (SR.of_pure h2 h3) hk
  simp only[execOp,cN,Sem.run_bind,h1,Result.andThen_ok,Sem.run_pure]
 ·simp at hs
theorem PB {d:Nat} {t:TypeId} {k:EK} {vx vy:Value} {x y:PV} {b:Bool} (hx:VR N w G.fix G.heap vx x) (hy:VR N w G.fix G.heap vy y) (h:Ac k x y=some b) (ht:ekT P t=some k):
  (Op.equalIn (d+1) t vx vy).run P w = .ok b w:=by
 unfold ekT at ht
 unfold Ac at h
 split at h
 ·cases hx; cases hy
  simp only[aa] at h; subst h
  split at ht<;>simp at ht
  exact run_equalIn_bool' w d t _ _ (by assumption)
 ·cases hx; cases hy
  split at h
  ·subst_vars
   simp only[aa] at h; subst h
   split at ht<;>simp at ht
   exact run_equalIn_int w d t _ _ _ _ (by assumption)
  ·simp at h
 ·cases hx; cases hy
  simp only[aa] at h; subst h
  split at ht<;>simp at ht
  rw[run_equalIn_string w d t _ _ (by assumption),KJ,KJ]
 ·simp at h
theorem KL {d:Nat} {cs ds:Array Value} {ps qs:List PV} (hc:CellsR N w G.fix G.heap cs.toList ps) (hd:CellsR N w G.fix G.heap ds.toList qs):∀{fs:List Field} {off:Nat} {ks:List EK} {b:Bool},
  eqFields P fs off=some ks→zD ks (ps.drop off) (qs.drop off)=some b→(Op.eqFields (d+1) cs ds fs).run P w = .ok b w
 | [], off, ks, b, hk, h => by
   simp[eqFields] at hk; subst hk
   unfold zD at h
   split at h<;>simp_all [Op.eqFields]
 | f :: fs, off, ks, b, hk, h => by
   simp only[eqFields] at hk
   split at hk
   ·rename_i cR
    obtain⟨h1,h2,h3,h4⟩:=cR
    simp only[ae,ab] at hk
    obtain⟨k,gQ,ks',dY,rfl⟩:=hk
    unfold zD at h
    split at h
    ·rename_i heq _ _; simp at heq
    ·rename_i k' ks'' x xs y ys eT iL pF
     simp only[bx] at eT
     obtain⟨rfl,rfl⟩:=eT
     simp only[ae,ab] at h
     obtain⟨b1,eC,b2,dy,rfl⟩:=h
     have lM:ps[off]? = some x:=by
      have:=aE List.head? iL; simpa[List.head?_drop] using this
     have tX:qs[off]? = some y:=by
      have:=aE List.head? pF; simpa[List.head?_drop] using this
     have je:off<cs.size:=by have:=(aj.1 lM).1; have:=hc.1; simp at this; omega
     have sa:off<ds.size:=by have:=(aj.1 tX).1; have:=hd.1; simp at this; omega
     have jk:∀(zs:Array Value) (hz:off<zs.size),(part f.type zs f.offset).run P w = .ok zs[off] w:=by
      intro zs hz
      simp[part,Dw h3,h4,h1,hz]
     have hx:=hc.2.2 off cs[off] x (by simp[je]) lM
     have hy:=hd.2.2 off ds[off] y (by simp[sa]) tX
     have sA:ps.drop (off+1)=xs:=by have:=aE List.tail iL; simpa[List.tail_drop] using this
     have sB:qs.drop (off+1)=ys:=by have:=aE List.tail pF; simpa[List.tail_drop] using this
     have ih:=KL (d:=d) hc hd (fs:=fs) (off:=off+1) dY (by rw[sA,sB]; exact dy)
     simp only[Op.eqFields,h2,ne_eq,cm,if_true,Sem.run_bind,jk cs je,jk ds sa,Result.andThen_ok,PB hx hy eC gQ,Sem.run_ite]
     cases b1 with
     | true=>simpa using ih
     | false=>simp
    ·simp at h
   ·simp at hk
theorem c3e (hE:EnvOk E N) (hP:E.P=P) (nm:Names vs (wk vs ops)) (ho:ops[j]? = some o) (hf:FI N w G st a vs (wk vs ops)) {op:BinOp} {t t':TypeId} {x y:Operand} {px py:PX} {agg:Bool} {ks:List EK} (cN:o.op = .binOp op t x y t')
  (fQ:op = .eql∨op = .neq) (ht:eqT P t=some (some (agg,ks))) (hx:cx E vs ops x=some px) (hy:cx E vs ops y=some py) {cf:wu} (hs:opv cf (.eq (op == .neq) agg ks px py) st=some (u,st1))
  (hk:wG N w G a st1 u vs ops j o next):o.wp P a w next Q:=by
 simp only[opv] at hs
 split at hs
 ·rename_i p q hp hq
  simp only[ab,ac] at hs
  obtain⟨b,hb,rfl,rfl⟩:=hs
  have eA:=(wU hE hx hf hp).1
  have fN:=(wU hE hy hf hq).1
  have key:∀vx vy,VR N w G.fix G.heap vx p→VR N w G.fix G.heap vy q→(do eqGuard op t x y vx vy; binOp op t vx vy:Sem Value).run P w = .ok (.bool (if op == .neq then !b else b)) w:=by
   intro vx vy gp sC
   unfold eqT at ht
   split at ht
   ·simp at ht
   ·simp at ht
   ·rename_i hu
    simp only[aa,ac] at ht
    obtain⟨rfl,rfl⟩:=ht
    simp only[peq,aH,if_false] at hb
    have he:=PB (P:=P) (d:=9999) (t:=t) gp sC hb (by simp[ekT,hu])
    have:∃c d,p = .bool c∧q = .bool d:=by
     cases p<;>cases q<;>simp[Ac] at hb
     exact⟨_,_,rfl,rfl⟩
    obtain⟨c,d,rfl,rfl⟩:=this
    cases gp; cases sC
    rcases fQ with rfl|rfl<;>simp[eqGuard,binOp,Op.equal,Op.maxDepth,he]
   ·rename_i fs hu
    split at ht
    ·rename_i ks' gU
     split at ht
     ·rename_i cR
      simp only[aa,ac] at ht
      obtain⟨rfl,rfl⟩:=ht
      simp only[al,bz] at cR
      simp only[peq,if_true] at hb
      split at hb
      ·obtain⟨cs,rfl,hc⟩:=CellsR.of_agg gp
       obtain⟨ds,rfl,hd⟩:=CellsR.of_agg sC
       have nA:P.fieldsOf t=fs:=by simp[Program.fieldsOf,hu]
       have h1:=run_equalIn_struct (P:=P) w 9999 t cs ds (by rw[nA]; exact hu) cR.1
       rw[nA,KL hc hd gU (by simpa using hb)] at h1
       rcases fQ with rfl|rfl
       ·simp only[Sem.run_bind,run_eqGuard_agg w _ t x y cs ds cR.2,Result.andThen_ok,run_eql_struct,h1]; rfl
       ·simp only[Sem.run_bind,run_eqGuard_agg w _ t x y cs ds cR.2,Result.andThen_ok,run_neq_struct,h1]; rfl
      ·simp at hb
     ·simp at ht
    ·simp at ht
   ·simp at ht
  refine wW nm ho hf ?_ (SR.of_pure (.bool _) rfl) hk
  simp only[execOp,cN,Sem.run_bind,key _ _ eA fN,Result.andThen_ok,Sem.run_pure]
 ·simp at hs
theorem c3f (hE:EnvOk E N) (nm:Names vs (wk vs ops)) (ho:ops[j]? = some o) (hf:FI N w G st a vs (wk vs ops)) {op:UnOp} {t:TypeId} {x:Operand} {px:PX} (cN:o.op = .unOp op t x)
  (hx:cx E vs ops x=some px) {cf:wu} (hs:opv cf (.un op px) st=some (u,st1)) (hk:wG N w G a st1 u vs ops j o next):o.wp P a w next Q:=by
 simp only[opv] at hs
 split at hs
 ·rename_i p hp
  simp only[ab,ac] at hs
  obtain⟨r,hr,rfl,rfl⟩:=hs
  have h:=(wU hE hx hf hp).1
  generalize hv:a.eval x=v at h
  unfold unv at hr
  split at hr
  ·cases h
   simp only[aa] at hr; subst hr
   exact wW nm ho hf (by simp[execOp,cN,hv,Op.unary]) (SR.of_pure (.bool _) rfl) hk
  ·cases h
   simp only[aa] at hr; subst hr
   exact wW nm ho hf (by simp only[execOp,cN,hv,Op.unary,Op.intArith]; rfl) (SR.of_pure (.int _ _) rfl) hk
  ·simp at hr
 ·simp at hs
theorem b4N (hE:EnvOk E N) (nm:Names vs (wk vs ops)) (ho:ops[j]? = some o) (hf:FI N w G st a vs (wk vs ops)) {s t:TypeId} {k k':IntKind} {x:Operand} {px:PX} (cN:o.op = .convert s t x)
  (hu:P.underlying s=some (.int k')) (eH:P.underlying t=some (.int k)) (hx:cx E vs ops x=some px) {cf:wu} (hs:opv cf (.convInt k px) st=some (u,st1)) (hk:wG N w G a st1 u vs ops j o next):o.wp P a w next Q:=by
 simp only[opv,ab,ac] at hs
 obtain⟨n,hn,rfl,rfl⟩:=hs
 obtain⟨k1,hv⟩:=BC hE hx hf hn
 refine wW nm ho hf ?_ (SR.of_pure (.int _ _) rfl) hk
 simp[execOp,cN,hv,convert,run_underlying hu,run_underlying eH,Conv.intToInt]
theorem b9D (hE:EnvOk E N) (nm:Names vs (wk vs ops)) (ho:ops[j]? = some o) (hf:FI N w G st a vs (wk vs ops)) {s t:TypeId} {x:Operand} {px:PX} (cN:o.op = .convert s t x)
  (hu:P.underlying s=some .string) (eH:P.underlying t=some .string) (hx:cx E vs ops x=some px) {cf:wu} (hs:opv cf (.movs px) st=some (u,st1)) (hk:wG N w G a st1 u vs ops j o next):o.wp P a w next Q:=by
 simp only[opv] at hs
 split at hs
 ·rename_i l hp
  simp only[aa,ac] at hs
  obtain⟨rfl,rfl⟩:=hs
  have h:=(wU hE hx hf hp).1
  generalize hv:a.eval x=v at h
  cases h
  exact wW nm ho hf (by simp[execOp,cN,hv,convert,run_underlying hu,run_underlying eH]) (SR.of_pure (.str _) rfl) hk
 ·simp at hs
theorem b4O (hE:EnvOk E N) (nm:Names vs (wk vs ops)) (ho:ops[j]? = some o) (hf:FI N w G st a vs (wk vs ops)) {i:Nat} {x:Operand} {px:PX} (cN:o.op = .extract x i)
  (hx:cx E vs ops x=some px) {cf:wu} (hs:opv cf (.extract i px) st=some (u,st1)) (hk:wG N w G a st1 u vs ops j o next):o.wp P a w next Q:=by
 simp only[opv] at hs
 split at hs
 ·rename_i ps hp
  simp only[ab,ae,ac] at hs
  obtain⟨r,⟨p,kq,mT⟩,rfl,rfl⟩:=hs
  have h:=(wU hE hx hf hp).1
  generalize hv:a.eval x=v at h
  cases h with
  | tuple cs _ cM cT =>
    have hi:i<cs.size:=by have:=(aj.1 kq).1; omega
    have fE:=cT i cs[i] p (by simp[hi]) kq
    have hd:VR N w G.fix G.heap cs[i] r∧cp r=some r:=by
     unfold cp at mT
     split at mT<;>simp at mT<;>subst mT
     ·exact⟨fE.dem,rfl⟩
     ·refine⟨fE,?_⟩
      unfold cp; split<;>first|rfl|simp_all
    exact wW nm ho hf (by simp[execOp,cN,hv,Instr.extract,hi]) (SR.of_pure hd.1 hd.2) hk
 ·simp at hs
theorem PE (hE:EnvOk E N) (nm:Names vs (wk vs ops)) (ho:ops[j]? = some o) (hf:FI N w G st a vs (wk vs ops)) {t:TypeId} {ts:Array TypeId} {x:Operand} {px:PX} {str:Bool} (cN:o.op = .call { callee := .builtin .len,args := #[x],argTypes:=ts })
  (h0:ts[0]? = some t) (hu:if str then P.underlying t=some .string else ∃e,P.underlying t=some (.slice e)) (hx:cx E vs ops x=some px) {cf:wu} (hs:opv cf (.len str px) st=some (u,st1)) (hk:wG N w G a st1 u vs ops j o next):o.wp P a w next Q:=by
 simp only[opv] at hs
 split at hs
 ·rename_i s hp
  simp only[aa,ac] at hs
  obtain⟨rfl,rfl⟩:=hs
  have h:=(wU hE hx hf hp).1
  simp only[if_true] at hu
  generalize hv:a.eval x=v at h
  cases h with
  | str s =>
    have hl:s.data.toList.length=s.size:=aX
    refine wW nm ho hf ?_ (SR.of_pure (.int _ _) rfl) hk
    rw[hl]
    simp only[execOp,cN,resolve,Sem.run_bind,Sem.run_pure,Result.andThen_ok,invoke,builtin,Builtin.len_,h0,List.map_toArray,aC,bw,hv,bD,bZ,run_underlying hu,goInt]
 ·rename_i b es hp
  simp only[aa,ac] at hs
  obtain⟨rfl,rfl⟩:=hs
  have h:=(wU hE hx hf hp).1
  simp only[aH,if_false] at hu
  obtain⟨e,eH⟩:=hu
  generalize hv:a.eval x=v at h
  cases h with
  | nils =>
    refine wW nm ho hf ?_ (SR.of_pure (.int _ _) rfl) hk
    simp[execOp,cN,hv,resolve,invoke,builtin,Builtin.len_,h0,run_underlying eH,goInt]
  | void =>
    refine wW nm ho hf ?_ (SR.of_pure (.int _ _) rfl) hk
    simp[execOp,cN,hv,resolve,invoke,builtin,Builtin.len_,h0,run_underlying eH,goInt]
  | list _ b off len cap sz _ cv cM =>
    refine wW nm ho hf ?_ (SR.of_pure (.int _ _) rfl) hk
    simp[execOp,cN,hv,resolve,invoke,builtin,Builtin.len_,h0,run_underlying eH,goInt,cM]
 ·rename_i m sz agg n hp
  simp only[aa,ac] at hs
  obtain⟨rfl,rfl⟩:=hs
  have h:=(wU hE hx hf hp).1
  simp only[aH,if_false] at hu
  obtain⟨e,eH⟩:=hu
  generalize hv:a.eval x=v at h
  cases h with
  | rowp _ _ _ _ b cap hb cV d8 =>
    refine wW nm ho hf ?_ (SR.of_pure (.int _ _) rfl) hk
    simp[execOp,cN,hv,resolve,invoke,builtin,Builtin.len_,h0,run_underlying eH,goInt]
 ·rename_i hp
  simp only[aa,ac] at hs
  obtain⟨rfl,rfl⟩:=hs
  have h:=(wU hE hx hf hp).1
  simp only[aH,if_false] at hu
  obtain⟨e,eH⟩:=hu
  generalize hv:a.eval x=v at h
  cases h with
  | nils' =>
    refine wW nm ho hf ?_ (SR.of_pure (.int _ _) rfl) hk
    simp[execOp,cN,hv,resolve,invoke,builtin,Builtin.len_,h0,run_underlying eH,goInt]
 ·rename_i hp
  simp only[aa,ac] at hs
  obtain⟨rfl,rfl⟩:=hs
  have h:=(wU hE hx hf hp).1
  simp only[aH,if_false] at hu
  obtain⟨e,eH⟩:=hu
  generalize hv:a.eval x=v at h
  cases h with
  | void' =>
    refine wW nm ho hf ?_ (SR.of_pure (.int _ _) rfl) hk
    simp[execOp,cN,hv,resolve,invoke,builtin,Builtin.len_,h0,run_underlying eH,goInt]
 ·simp at hs
theorem c1g (hE:EnvOk E N) (nm:Names vs (wk vs ops)) (ho:ops[j]? = some o) (hf:FI N w G st a vs (wk vs ops)) {t e:TypeId} {ts:Array TypeId} {x:Operand} {px:PX}
  (cN:o.op = .call { callee := .builtin .cap,args := #[x],argTypes:=ts }) (h0:ts[0]? = some t) (hu:P.underlying t=some (.slice e)) (hx:cx E vs ops x=some px) {cf:wu} (hs:opv cf (.cap px) st=some (u,st1)) (hk:wG N w G a st1 u vs ops j o next):o.wp P a w next Q:=by
 simp only[opv] at hs
 split at hs
 ·rename_i hp
  simp only[aa,ac] at hs
  obtain⟨rfl,rfl⟩:=hs
  have h:=(wU hE hx hf hp).1
  generalize hv:a.eval x=v at h
  cases h with
  | nils' =>
    refine wW nm ho hf ?_ (SR.of_pure (.int _ _) rfl) hk
    simp[execOp,cN,hv,resolve,invoke,builtin,Builtin.cap_,h0,run_underlying hu,goInt]
 ·simp at hs
end
section
variable {E:Env} {N:Nm} {w:World} {G:GS} {st:St} {a:Act} {vs:List Tmp} {ops:List Oper} {P:Program}
variable {o:Oper} {j:Nat} {next:Act→World→Prop} {Q:Exit→Act→World→Prop} {u:PV} {st1:St}
theorem HF {n:Int} {y:Nat} {k:IntKind} (h0:0≤n) (h1:n≤y) (c:BoundsCode):(Instr.sliceBound (.int k n) y c).run P w = .ok n.toNat w:=by
 simp[Instr.sliceBound,asIntOf,h0,h1]
theorem PG (hE:EnvOk E N) (hf:FI N w G st a vs (wk vs ops)) {x:Option Operand} {px:Option PX} {dflt most r:Nat} (hc:cxo E vs ops x=some px) (hr:bound st px dflt most=some r):
  (x=none∧r=dflt)∨∃y k n,x=some y∧a.eval y = .int k n∧0≤n∧n≤most∧r=n.toNat:=by
 cases x with
 | none=>simp[cxo] at hc; subst hc; simp[bound] at hr; exact .inl ⟨rfl,hr.symm⟩
 | some y =>
   simp only[cxo,ab] at hc
   obtain⟨p,hp,rfl⟩:=hc
   simp only[bound] at hr
   split at hr
   ·rename_i n hn
    split at hr
    ·rename_i hb
     simp at hr
     obtain⟨k,hk⟩:=BC hE hp hf hn
     exact .inr ⟨y,k,n,rfl,hk,hb.1,hb.2,hr.symm⟩
    ·simp at hr
   ·simp at hr
theorem Ep (hE:EnvOk E N) (hf:FI N w G st a vs (wk vs ops)) {lo hi:Option Operand} {pl ph:Option PX} {isSlice:Bool} {len cap l h:Nat} (cV:len≤cap)
  (hl:cxo E vs ops lo=some pl) (hh:cxo E vs ops hi=some ph) (h1:bound st ph len len=some h) (h2:bound st pl 0 h=some l):
  (Instr.sliceBounds isSlice len cap (lo.map a.eval) (hi.map a.eval) none).run P w = .ok (l,h,cap) w∧l≤h∧h≤len:=by
 have hH:=PG hE hf hh h1
 have hL:=PG hE hf hl h2
 have kE:h≤len:=by rcases hH with⟨_,rfl⟩|⟨_,_,n,_,_,_,_,rfl⟩<;>omega
 have nK:l≤h:=by rcases hL with⟨_,rfl⟩|⟨_,_,n,_,_,_,_,rfl⟩<;>omega
 refine⟨?_,nK,kE⟩
 rcases hH with⟨rfl,tY⟩|⟨y,k,n,rfl,hy,eN,nJ,tY⟩<;>rcases hL with⟨rfl,el⟩|⟨y',k',n',rfl,fN,pG,pH,el⟩<;>subst tY<;>subst el
 ·simp[Instr.sliceBounds]
 ·simp[Instr.sliceBounds,fN,HF pG pH]
 ·simp[Instr.sliceBounds,hy,HF (P:=P) (w:=w) eN (show n≤(cap:Int) by omega)]
 ·simp[Instr.sliceBounds,hy,fN,HF (P:=P) (w:=w) eN (show n≤(cap:Int) by omega),HF (P:=P) (w:=w) pG pH]
theorem b6u (s:ByteArray) (l h:Nat):(s.extract l h).data.toList=(s.data.toList.take h).drop l:=by
 simp[ByteArray.data_extract,List.drop_take]
theorem b6v (hE:EnvOk E N) (nm:Names vs (wk vs ops)) (ho:ops[j]? = some o) (hf:FI N w G st a vs (wk vs ops)) {t:TypeId} {x:Operand} {lo hi:Option Operand} {px:PX} {pl ph:Option PX} {size:Nat} (cN:o.op = .slice t x lo hi none)
  (hu:P.underlying t=some .string) (hx:cx E vs ops x=some px) (hl:cxo E vs ops lo=some pl) (hh:cxo E vs ops hi=some ph) {cf:wu} (hs:opv cf (.slice true size px pl ph) st=some (u,st1))
  (hk:wG N w G a st1 u vs ops j o next):o.wp P a w next Q:=by
 simp only[opv] at hs
 split at hs
 ·rename_i s hp
  simp only[ae,ab,ac] at hs
  obtain⟨h,h1,l,h2,rfl,rfl⟩:=hs
  have dI:=(wU hE hx hf hp).1
  generalize hv:a.eval x=v at dI
  cases dI with
  | str s =>
    have cS:s.data.toList.length=s.size:=aX
    rw[cS] at h1
    obtain⟨hb,_,_⟩:=Ep (P:=P) (isSlice:=false) hE hf (ao s.size) hl hh h1 h2
    refine wW nm ho hf (v := .string (s.extract l h)) ?_ (SR.of_pure ?_ rfl) hk
    ·simp[execOp,cN,hv,Instr.sliceAt,Instr.slice,run_underlying hu,hb]
    ·rw[← b6u]; exact .str _
 ·rename_i heq _; simp at heq
 ·rename_i heq _; simp at heq
 ·rename_i heq _; simp at heq
 ·simp at hs
theorem b6w (hE:EnvOk E N) (nm:Names vs (wk vs ops)) (ho:ops[j]? = some o) (hf:FI N w G st a vs (wk vs ops)) {t e:TypeId} {x:Operand} {lo hi:Option Operand} {px:PX} {pl ph:Option PX} {size:Nat} (cN:o.op = .slice t x lo hi none)
  (hu:P.underlying t=some (.slice e)) (hn:wP P e=some size) (hx:cx E vs ops x=some px) (hl:cxo E vs ops lo=some pl) (hh:cxo E vs ops hi=some ph) {cf:wu} (hs:opv cf (.slice false size px pl ph) st=some (u,st1))
  (hk:wG N w G a st1 u vs ops j o next):o.wp P a w next Q:=by
 simp only[opv] at hs
 split at hs
 ·rename_i heq _; simp at heq
 ·rename_i own es _ hp
  split at hs
  ·rename_i ji
   simp only[ae,ab,ac] at hs
   obtain⟨h,h1,l,h2,rfl,rfl⟩:=hs
   have dI:=(wU hE hx hf hp).1
   generalize hv:a.eval x=v at dI
   cases dI with
   | nils =>
     obtain⟨hb,nK,kE⟩:=Ep (P:=P) (isSlice:=true) hE hf (ao 0) hl hh h1 h2
     simp at kE; subst kE
     have:l=0:=by omega
     subst this
     refine wW nm ho hf (v := .slice none 0 0) ?_ (SR.of_pure (.nils false) rfl) hk
     simp[execOp,cN,hv,Instr.sliceAt,Instr.slice,run_underlying hu,hb,zx hn]
   | void _ ad cap =>
     obtain⟨hb,nK,kE⟩:=Ep (P:=P) (isSlice:=true) hE hf (Nat.zero_le cap) hl hh h1 h2
     simp at kE; subst kE
     have:l=0:=by omega
     subst this
     refine wW nm ho hf (v := .slice (some ad) 0 cap) ?_ (SR.of_pure (.void false ad cap) rfl) hk
     have hz:(if cap=0 then some ad else some ad)=some ad:=by split<;>rfl
     simp[execOp,cN,hv,Instr.sliceAt,Instr.slice,run_underlying hu,hb,zx hn,Addr.add_zero']
   | list _ b off len cap sz _ cv cM cV cS cU hcell cT =>
     subst cM
     obtain⟨hb,nK,kE⟩:=Ep (P:=P) (isSlice:=true) hE hf cV hl hh h1 h2
     have cO:(execOp a.eval o).run P w = .ok (.value (.slice (some (if cap=l then⟨b,off,none⟩ else⟨b,off+l*size,none⟩)) (h - l) (cap - l))) w:=by
      by_cases hc:cap=l
      ·rw[ah hc]
       simp only[execOp,cN,hv,Instr.sliceAt,Instr.slice,Sem.run_bind,run_underlying hu,Result.andThen_ok,hb,zx hn,ah hc,Sem.run_pure,cq]
      ·rw[af hc]
       simp only[execOp,cN,hv,Instr.sliceAt,Instr.slice,Sem.run_bind,run_underlying hu,Result.andThen_ok,hb,zx hn,af hc,Sem.run_pure,cq,aA,zF]
     refine wW nm ho hf cO (SR.of_pure ?_ rfl) hk
     have io:((es.take h).drop l).length=h - l:=by simp; omega
     have xh:∀(i:Nat) (y:PV),((es.take h).drop l)[i]? = some y→es[l+i]? = some y:=by
      intro i y hy
      rw[aW,aS] at hy
      split at hy
      ·exact hy
      ·cases hy
     have dX:∀y∈(es.take h).drop l,y∈es:=λy hy=>List.mem_of_mem_take (cu hy)
     by_cases hc:cap=l
     ·have he:(es.take h).drop l=[]:=bj.1 (by rw[io]; omega)
      rw[ah hc,he]
      have:h - l=0:=by omega
      rw[this]
      exact .list false b off 0 _ 0 [] cv rfl (Nat.zero_le _) (by simp) (by simp) (by simp) (by simp)
     ·rw[af hc]
      by_cases hz:h - l=0
      ·have he:(es.take h).drop l=[]:=bj.1 (by rw[io]; omega)
       rw[he,hz]
       exact .list false b _ 0 _ 0 [] cv rfl (Nat.zero_le _) (by simp) (by simp) (by simp) (by simp)
      ·have m5:sz=size:=by
        cases es with
        | nil=>simp at kE; omega
        | cons y ys =>
          have:=cS y (by simp)
          simp[xf] at ji
          omega
       subst m5
       refine .list false b _ (h - l) _ sz _ (λk=>cv (l*sz+k)) io (by omega) (λy hy=>cS y (dX y hy)) (λy hy=>cU y (dX y hy)) ?_ ?_
       ·intro k hk
        have cQ:l*sz+k<es.length*sz:=by
         have h3:(l+(h - l))*sz≤es.length*sz:=bk _ (by omega)
         rw[aQ] at h3; omega
        have:=hcell _ cQ
        simpa[b9] using this
       ·intro i y hy j' z hZ
        have:=cT (l+i) y (xh i y hy) j' z hZ
        simpa[aQ,b9] using this
  ·simp at hs
 ·rename_i _ hp
  simp only[ae,ab,ac] at hs
  obtain⟨h,h1,l,h2,rfl,rfl⟩:=hs
  have dI:=(wU hE hx hf hp).1
  generalize hv:a.eval x=v at dI
  cases dI with
  | nils' =>
    obtain⟨hb,nK,kE⟩:=Ep (P:=P) (isSlice:=true) hE hf (ao 0) hl hh h1 h2
    have:h=0:=by omega
    subst this
    have:l=0:=by omega
    subst this
    refine wW nm ho hf (v := .slice none 0 0) ?_ (SR.of_pure .nils' rfl) hk
    simp[execOp,cN,hv,Instr.sliceAt,Instr.slice,run_underlying hu,hb,zx hn]
 ·rename_i n sz agg len _ hp
  split at hs
  ·rename_i cS
   subst cS
   simp only[ae,ab,ac] at hs
   obtain⟨h,h1,l,h2,rfl,rfl⟩:=hs
   have dI:=(wU hE hx hf hp).1
   generalize hv:a.eval x=v at dI
   cases dI with
   | rowp _ _ _ _ b cap fI cV d8 =>
     obtain⟨T,m,eb,oj⟩:=d8
     obtain⟨hb,nK,kE⟩:=Ep (P:=P) (isSlice:=true) hE hf cV hl hh h1 h2
     have cO:(execOp a.eval o).run P w = .ok (.value (.slice (some (if cap=l then⟨b,0,none⟩ else⟨b,0+l*sz,none⟩)) (h - l) (cap - l))) w:=by
      by_cases hc:cap=l
      ·rw[ah hc]
       simp only[execOp,cN,hv,Instr.sliceAt,Instr.slice,Sem.run_bind,run_underlying hu,Result.andThen_ok,hb,zx hn,ah hc,Sem.run_pure,cq]
      ·rw[af hc]
       simp only[execOp,cN,hv,Instr.sliceAt,Instr.slice,Sem.run_bind,run_underlying hu,Result.andThen_ok,hb,zx hn,af hc,Sem.run_pure,cq,aA,zF]
     have vM:h*sz≤cap*sz:=bk _ (by omega)
     by_cases fL:l=0
     ·subst fL
      rw[ah rfl] at hk
      have he:(if cap=0 then(⟨b,0,none⟩:Addr) else⟨b,0+0*sz,none⟩)=⟨b,0,none⟩:=by split<;>simp
      rw[he,Nat.sub_zero,Nat.sub_zero] at cO
      exact wW nm ho hf cO (SR.of_pure (.rowp _ _ _ _ b cap fI (by omega) ⟨T,m,eb,oj⟩) rfl) hk
     ·rw[af fL] at hk
      have eZ:(l+(h - l))*sz≤m:=by rw[show l+(h - l)=h by omega]; omega
      by_cases hc:cap=l
      ·rw[ah hc] at cO
       exact wW nm ho hf cO (SR.of_pure (.rows _ _ _ _ _ b 0 _ m T fI (by omega) (.inl (by omega)) eb eZ) rfl) hk
      ·rw[af hc] at cO
       exact wW nm ho hf cO (SR.of_pure (.rows _ _ _ _ _ b _ _ m T fI (by omega) (.inr (by rw[aR])) eb eZ) rfl) hk
  ·simp at hs
 ·simp at hs
theorem PH {mx:Bool}:∀{ps:List PV} {vals:List Value} {p:PV} {v:Value},VR N w G.fix G.heap v p→vals.length=ps.length →
  (∀(i:Nat) (x:Value) (q:PV),vals[i]? = some x→ps[i]? = some q→VR N w G.fix G.heap x q)→cp p=some p→BE mx p ps=some u →
  ∃r,(vals.foldlM (if mx then Builtin.max2 else Builtin.min2) v).run P w = .ok r w∧VR N w G.fix G.heap r u∧cp u=some u
 | [], vals, p, v, hv, hl, _, fu, hm => by
   have:vals=[]:=by simpa using hl
   subst this
   simp[BE] at hm; subst hm
   exact⟨v,by simp,hv,fu⟩
 | q :: ps, vals, p, v, hv, hl, hr, fu, hm => by
   cases vals with
   | nil=>simp at hl
   | cons x vals =>
     unfold BE at hm
     split at hm
     ·simp_all
     ·rename_i k m k' m' r heq
      simp only[bx] at heq
      obtain⟨rfl,rfl⟩:=heq
      split at hm
      ·subst_vars
       have hx:=hr 0 x _ rfl rfl
       cases hv; cases hx
       obtain⟨r,h1,h2,h3⟩:=PH (mx:=mx) (vals:=vals) (VR.int _ (if mx then(if m'>m then m' else m) else(if m'<m then m' else m))) (by simpa using hl)
        (λi y z hy hz=>hr (i+1) y z (by simpa using hy) (by simpa using hz)) rfl hm
       refine⟨r,?_,h2,h3⟩
       cases mx<;>simpa[Builtin.max2,Builtin.min2] using h1
      ·simp at hm
     ·simp at hm
theorem PJ (hE:EnvOk E N) (nm:Names vs (wk vs ops)) (ho:ops[j]? = some o) (hf:FI N w G st a vs (wk vs ops)) {mx:Bool} {xs:Array Operand} {ts:Array TypeId} {pxs:List PX}
  (cN:o.op = .call { callee := .builtin (if mx then .max else .min),args:=xs,argTypes:=ts }) (hx:cxs E vs ops xs.toList=some pxs) {cf:wu} (hs:opv cf (.minmax mx pxs) st=some (u,st1))
  (hk:wG N w G a st1 u vs ops j o next):o.wp P a w next Q:=by
 simp only[opv] at hs
 split at hs
 ·rename_i p ps hp
  simp only[ab,ac] at hs
  obtain⟨r,hr,rfl,rfl⟩:=hs
  obtain⟨h1,h2⟩:=AG hE hf hx hp
  cases iL:xs.toList with
  | nil=>simp[iL] at h1
  | cons y ys =>
    rw[iL] at h1 h2
    have h0:=h2 0 y p rfl rfl
    obtain⟨v,iJ,jv,vN⟩:=PH (P:=P) (vals:=ys.map a.eval) h0.1 (by simpa using h1) (by
     intro i x q eA hq
     simp only[aF,ab] at eA
     obtain⟨z,hz,rfl⟩:=eA
     exact(h2 (i+1) z q (by simpa using hz) (by simpa using hq)).1) h0.2 hr
    refine wW nm ho hf (v:=v) ?_ (SR.of_pure jv vN) hk
    cases mx
    ·simp only[aH,if_false] at cN iJ
     simp[execOp,cN,resolve,invoke,builtin,Builtin.min_,iL,iJ]
    ·simp only[if_true] at cN iJ
     simp[execOp,cN,resolve,invoke,builtin,Builtin.max_,iL,iJ]
 ·simp at hs
theorem KM (off:Nat):∀(vc:List Value) (n:Nat) (cs:Array Value) (k:Nat),off+n+vc.length≤cs.size →
  ((vc.zipIdx n).foldl (λ(cs:Array Value) (x:Value×Nat)=>cs.setIfInBounds (off+x.2) x.1) cs)[k]? = if off+n≤k∧k<off+n+vc.length then vc[k - (off+n)]? else cs[k]?
 | [],n,cs,k,_=>by simp; omega
 | v :: vc, n, cs, k, hn => by
   simp only[aP] at hn
   simp only[List.zipIdx_cons,List.foldl_cons]
   rw[KM off vc (n+1) _ k (by simp; omega)]
   simp only[aP]
   by_cases h1:k=off+n
   ·subst h1
    rw[af (by omega),ah (by omega)]
    simp[bb]
    omega
   ·by_cases h2:off+n≤k∧k<off+n+(vc.length+1)
    ·rw[ah (by omega),ah h2]
     rw[show k - (off+n)=(k - (off+(n+1)))+1 by omega]
     simp
    ·rw[af (by omega),af h2]
     simp[bb,Ne.symm h1]
theorem KO (off:Nat) (vc:Array Value) (cs:Array Value) (h:off+vc.size≤cs.size):
  (vc.zipIdx.foldl (λ(cs:Array Value) (x:Value×Nat)=>cs.setIfInBounds (off+x.2) x.1) cs).toList=cs.toList.take off++(vc.toList++cs.toList.drop (off+vc.size)):=by
 apply cg
 intro k
 have hg:=KM off vc.toList 0 cs k (by simpa using h)
 have he:vc.zipIdx.foldl (λ(cs:Array Value) (x:Value×Nat)=>cs.setIfInBounds (off+x.2) x.1) cs=(vc.toList.zipIdx 0).foldl (λ(cs:Array Value) (x:Value×Nat)=>cs.setIfInBounds (off+x.2) x.1) cs:=by
  rw[← Array.foldl_toList]; simp
 rw[he,bR,hg]
 simp only[bp,aX]
 by_cases h1:k<off
 ·rw[af (by omega),am (by simp; omega),aS,ah h1,bR]
 ·rw[ar (by simp; omega)]
  have sD:(cs.toList.take off).length=off:=by simp; omega
  rw[sD]
  by_cases h2:k<off+vc.size
  ·rw[ah ⟨by omega,h2⟩,am (by simp; omega)]
  ·rw[af (by omega),ar (by simp; omega),aW,bR]
   congr 1
   simp; omega
theorem KP (hE:EnvOk E N) (hf:FI N w G st a vs (wk vs ops)) {place:Nat→Option (Nat×Nat)}:∀{parts:List (Nat×Operand)} {ps:List (Nat×Nat×PX)} {qs:List (Nat×Nat×PV)} {zs rs:List PV} {cs:Array Value},
  CF E vs ops place parts=some ps→rdParts st ps=some qs→Bf zs qs=some rs→CellsR N w G.fix G.heap cs.toList zs →
  OwnNil cs.toList zs→∃ds,Instr.fill place cs (parts.map λ(i,x)=>(i,a.eval x))=some ds∧CellsR N w G.fix G.heap ds.toList rs∧OwnNil ds.toList rs
 | [], ps, qs, zs, rs, cs, hc, hr, wT, hR, hO => by
   simp[CF] at hc; subst hc
   simp[rdParts] at hr; subst hr
   simp[Bf] at wT; subst wT
   exact⟨cs,rfl,hR,hO⟩
 | (i, x) :: parts, ps, qs, zs, rs, cs, hc, hr, wT, hR, hO => by
   simp only[CF,ae] at hc
   obtain⟨p,hp,hc⟩:=hc
   split at hc
   ·simp at hc
   ·rename_i p9
    simp only[ae,ab] at hc
    obtain⟨px,fv,ps',ea,rfl⟩:=hc
    simp only[rdParts,ae,ab] at hr
    obtain⟨v,hv,qs',jL,rfl⟩:=hr
    simp only[Bf] at wT
    split at wT
    ·rename_i cR
     have cT:=(wU hE fv hf hv).1
     have dj:=CellsR.of_cells cT (by intro e; rw[e] at cR; simp at cR; omega)
     have cS:(a.eval x).cells.size=p.2:=by have:=dj.1; simp at this; omega
     have em:p.1+(a.eval x).cells.size≤cs.size:=by have:=hR.1; simp at this; omega
     have ev:CellsR N w G.fix G.heap ((a.eval x).cells.zipIdx.foldl (λ(cs:Array Value) (y:Value×Nat)=>cs.setIfInBounds (p.1+y.2) y.1) cs).toList (zs.take p.1++(v.cells.map dem++zs.drop (p.1+p.2))):=by
      rw[KO _ _ _ em,cS]
      exact(hR.take _).append (dj.dem.append (hR.drop _))
     have pI:OwnNil ((a.eval x).cells.zipIdx.foldl (λ(cs:Array Value) (y:Value×Nat)=>cs.setIfInBounds (p.1+y.2) y.1) cs).toList (zs.take p.1++(v.cells.map dem++zs.drop (p.1+p.2))):=by
      rw[KO _ _ _ em,cS]
      refine(hO.take _).append ?_ ((OwnNil.dem _ _).append ?_ (hO.drop _))
      ·have:=hR.1; simp at this ⊢; omega
      ·have:=dj.1; simpa using this
     obtain⟨ds,h1,h2⟩:=KP hE hf ea jL wT ev pI
     refine⟨ds,?_,h2⟩
     simp only[aC,Instr.fill,hp]
     rw[af (by simp[cS]; omega)]
     exact h1
    ·simp at wT
theorem B7 {fix:Nat→Nat→Prop} {hp:Nat→Option Nat} {t:TypeId} {z:List PV} (h:yf P t=some z):
  ∃i zv,P.info? t=some i∧i.zero=some zv∧i.size≠0∧z.length=i.size∧CellsR N w fix hp zv.cells.toList z∧OwnNil zv.cells.toList z:=by
 unfold yf at h
 split at h
 ·rename_i i hi
  split at h
  ·rename_i zv hz
   simp only[ae] at h
   obtain⟨cs,d9,h⟩:=h
   split at h
   ·rename_i cR
    simp at h; subst h
    obtain⟨h1,h2,h3⟩:=KH (N:=N) (w:=w) (fix:=fix) (hp:=hp) d9
    exact⟨i,zv,hi,hz,cR.2,cR.1,⟨h1,h2,h3⟩,λk c es hc he=>Eo d9 k c es hc he⟩
   ·simp at h
  ·simp at h
 ·simp at h
theorem b7G (hE:EnvOk E N) (nm:Names vs (wk vs ops)) (ho:ops[j]? = some o) (hf:FI N w G st a vs (wk vs ops)) {t:TypeId} {parts:Array (Nat×Operand)} {fs:Array Field} {places:List (Nat×Nat)} {z:List PV} {ps:List (Nat×Nat×PX)}
  (cN:o.op = .build t parts) (hu:P.underlying t=some (.struct fs)) (hz:yf P t=some z) (fW:fs.toList.mapM (λf=>(P.info? f.type).map λi=>(f.offset,i.size))=some places)
  (hc:CF E vs ops (places.toArray[·]?) parts.toList=some ps) {cf:wu} (hs:opv cf (.build z ps) st=some (u,st1)) (hk:wG N w G a st1 u vs ops j o next):o.wp P a w next Q:=by
 simp only[opv,ab,ae,ac] at hs
 obtain⟨rs,⟨qs,hq,wT⟩,rfl,rfl⟩:=hs
 obtain⟨i,zv,hi,jl,_,_,hR,hO⟩:=B7 (N:=N) (w:=w) (fix:=G.fix) (hp:=G.heap) hz
 obtain⟨ds,h1,h2,h3⟩:=KP hE hf hc hq wT hR hO
 refine wW nm ho hf (v := .agg ds) ?_ (SR.of_pure (by simpa using h2.agg h3) rfl) hk
 have hb:P.built t (parts.map λ(i,x)=>(i,a.eval x)).toList=some ds:=by
  simp only[Program.built,hi,hu,jl,fW]
  simpa using h1
 simp[execOp,cN,run_build w t _ ds hb]
end
def GS.give (G:GS) (b:Nat) (k:Key):GS:={ G with ow:=λx=>if x=b then some k else G.ow x }
section
variable {E:Env} {N:Nm} {w:World} {G:GS} {st:St} {a:Act} {vs:List Tmp} {ops:List Oper} {P:Program}
variable {o:Oper} {j:Nat} {next:Act→World→Prop} {Q:Exit→Act→World→Prop} {u:PV} {st1:St}
theorem FI.src (hf:FI N w G st a vs (wk vs ops)) {px:PX} {es:List PV} {G':GS} {w':World} (fv:∀p,px≠.c p) (hr:raw st px=some (.list true es))
  (e:Ext w G w' G') (hk:xq (λk=>k=zi px) w G w' G') (hg:∀g b,G'.box g=some b→g<st.gen) (ho:∀b k,G'.ow b=some k→b<w'.heap.size) (hx:∀b o,G'.fix b o→b<w'.heap.size) (hh:G'.heap=G.heap):
  FI N w' G' (Bd st px (.list false es)) a vs (wk vs ops):=by
 cases px with
 | c p=>exact absurd rfl (fv p)
 | v i =>
   refine⟨by simp[Bd,hf.len],?_,?_,hf.tv,hf.tl,(hf.defers.trans e.df.symm),hg,ho,hx,hf.heap.keep e hk (by intro k hk e; subst e; simp[zi,Key.isH] at hk),by rw[hh]; exact hf.hdom⟩
   ·intro i' t u h1 h2
    simp only[Bd,aL] at h2
    split at h2
    ·rename_i hi
     subst hi
     split at h2
     ·simp at h2; subst h2
      exact((hf.var i t _ h1 hr).1.dem).ext e
     ·simp at h2
    ·rename_i hi
     exact(hf.var i' t u h1 h2).keep e hk (by simp[zi]; omega) (by simp[zi])
   ·intro i' t u h1 h2
    exact(hf.loc i' t u h1 h2).keep e hk (by simp[zi]) (by simp[zi])
 | l i =>
   refine⟨hf.len,?_,?_,hf.tv,hf.tl,(hf.defers.trans e.df.symm),hg,ho,hx,hf.heap.keep e hk (by intro k hk e; subst e; simp[zi,Key.isH] at hk),by rw[hh]; exact hf.hdom⟩
   ·intro i' t u h1 h2
    exact(hf.var i' t u h1 h2).keep e hk (by simp[zi]) (by simp[zi])
   ·intro i' t u h1 h2
    simp only[Bd,aL] at h2
    split at h2
    ·rename_i hi
     subst hi
     split at h2
     ·simp at h2; subst h2
      exact((hf.loc i t _ h1 hr).1.dem).ext e
     ·simp at h2
    ·rename_i hi
     exact(hf.loc i' t u h1 h2).keep e hk (by simp[zi]; omega) (by simp[zi])
theorem HG (b:Nat) (k:Key) (h:b<w.heap.size→G.ow b≠none):Ext w G w (G.give b k):=by
 refine⟨rfl,rfl,rfl,ao _,λ_ _ _=>rfl,λ_ _ h=>⟨h,rfl⟩,λ_ _ h => .inl h,?_,λ_ _ h=>h,ShapeLe.refl w,rfl⟩
 intro x hx
 simp only[GS.give] at hx
 split at hx
 ·rename_i gl
  subst gl
  by_cases cQ:x<w.heap.size
  ·exact .inr (h cQ)
  ·exact .inl (by omega)
 ·exact .inr hx
theorem HH (b:Nat) (k:Key) {K:Key→Prop} (h:∀k',G.ow b=some k'→K k'):xq K w G w (G.give b k):=by
 refine⟨?_,λ_ _ h=>h⟩
 intro x k' hx hn
 refine⟨?_,rfl,λ_ h=>h⟩
 simp only[GS.give]
 split
 ·rename_i gl
  subst gl
  exact absurd (h k' hx) hn
 ·exact hx
theorem Room.give {key key':Key} {v:Value} {es:List PV} (h:Room w G key v es):
  ∃G',(G'=G∨∃b,G.ow b=some key∧G'=G.give b key')∧Room w G' key' v es:=by
 unfold Room at h
 split at h
 ·rename_i a len cap
  rcases h with h|⟨ho,sz,cs,T,h1,h2,h3,h4,h5⟩
  ·exact⟨G,.inl rfl,.inl h⟩
  ·exact⟨G.give a.block key',.inr ⟨_,ho,rfl⟩,.inr ⟨by simp[GS.give],sz,cs,T,h1,h2,h3,h4,h5⟩⟩
 ·rename_i hx
  refine⟨G,.inl rfl,?_⟩
  unfold Room
  split
  ·rename_i a len cap; exact absurd rfl (hx _ _ _)
  ·trivial
def HI (w:World) (G:GS) (key:Key) (v:Value):PV→Prop
 | .list true es=>Room w G key v es
 | u=>cp u=some u
theorem Eq (hE:EnvOk E N) {x:Operand} {px:PX} (hc:cx E vs ops x=some px) (hf:FI N w G st a vs (wk vs ops)) (ht:tk st px=some (u,st1)) (key:Key):
  ∃ G', FI N w G' st1 a vs (wk vs ops) ∧ Ext w G w G' ∧ G'.box = G.box ∧ G'.fix = G.fix ∧ G'.heap = G.heap ∧ VR N w G.fix G.heap (a.eval x) u ∧
    HI w G' key (a.eval x) u∧(∀b,G'.ow b=G.ow b∨(G.ow b=some (zi px)∧G'.ow b=some key))∧st1.gen=st.gen∧st1.heap=st.heap:=by
 unfold tk at ht
 split at ht
 ·rename_i es hr
  simp only[aa,ac] at ht
  obtain⟨rfl,rfl⟩:=ht
  have hs:=BB hE hc hf hr
  obtain⟨hv,dr⟩:=hs
  by_cases fv:∃p,px = .c p
  ·obtain⟨p,rfl⟩:=fv
   simp only[raw,aa] at hr
   subst hr
   refine⟨G,hf,Ext.refl _ _,rfl,rfl,rfl,hv,?_,λ_ => .inl rfl,rfl,rfl⟩
   cases x with
   | tmp t=>simp only[cx] at hc; split at hc<;>simp at hc
   | const v =>
     simp only[cx] at hc
     split at hc
     ·simp at hc
     simp only[ab] at hc
     obtain⟨q,hq,lV⟩:=hc
     simp at lV; subst lV
     rcases KI hq with⟨es',_,rfl⟩|h
     ·exact True.intro
     ·simp[cp] at h
   | global g=>simp[cx] at hc
   | func f =>
     simp only[cx,ab] at hc
     obtain⟨k,_,hk⟩:=hc
     simp at hk
  ·obtain⟨G',hG,fg⟩:=dr.give (key':=key)
   have hg:G'.box=G.box∧G'.fix=G.fix∧G'.heap=G.heap:=by
    rcases hG with rfl|⟨b,_,rfl⟩<;>exact⟨rfl,rfl,rfl⟩
   have cL:Ext w G w G':=by
    rcases hG with rfl|⟨b,hb,rfl⟩
    ·exact Ext.refl _ _
    ·exact HG b key (λ_=>by simp[hb])
   have cP:xq (λk=>k=zi px) w G w G':=by
    rcases hG with rfl|⟨b,hb,rfl⟩
    ·exact⟨λb k h _=>⟨h,rfl,λ_ h=>h⟩,λ_ _ h=>h⟩
    ·exact HH b key (λk' dh=>by rw[hb] at dh; simpa using dh.symm)
   have how:∀b,G'.ow b=G.ow b∨(G.ow b=some (zi px)∧G'.ow b=some key):=by
    intro b
    rcases hG with rfl|⟨b',hb,rfl⟩
    ·exact .inl rfl
    ·simp only[GS.give]
     split
     ·subst_vars; exact .inr ⟨hb,rfl⟩
     ·exact .inl rfl
   refine⟨G',?_,cL,hg.1,hg.2.1,hg.2.2,hv,fg,how,?_,?_⟩
   ·refine hf.src (λp hp=>fv ⟨p,hp⟩) hr cL cP (by rw[hg.1]; exact hf.gen) ?_ (by rw[hg.2.1]; exact hf.fixlt) hg.2.2
    intro b k hb
    rcases how b with h|⟨h,_⟩
    ·exact hf.owlt b k (h▸hb)
    ·exact hf.owlt b _ h
   ·cases px<;>rfl
   ·cases px<;>rfl
 ·rename_i v mu hr
  simp only[ab,ac] at ht
  obtain⟨r,el,rfl,rfl⟩:=ht
  obtain⟨h1,h2⟩:=(BB hE hc hf hr).read el
  refine⟨G,hf,Ext.refl _ _,rfl,rfl,rfl,h1,?_,λ_ => .inl rfl,rfl,rfl⟩
  unfold HI
  split
  ·simp[cp] at h2
  ·exact h2
 ·simp at ht
theorem SR.of_taken {key:Key} {v:Value} {u:PV} (h:VR N w G.fix G.heap v u) (hm:HI w G key v u):SR N w G key v u:=by
 unfold HI at hm
 split at hm
 ·exact⟨h,hm⟩
 ·exact SR.of_pure h hm
theorem PK (hE:EnvOk E N) (nm:Names vs (wk vs ops)) (ho:ops[j]? = some o) (hf:FI N w G st a vs (wk vs ops)) {x:Operand} {px:PX} (hx:(execOp a.eval o).run P w = .ok (.value (a.eval x)) w)
  (hc:cx E vs ops x=some px) (hs:tk st px=some (u,st1)) (hk:wG N w G a st1 u vs ops j o next):o.wp P a w next Q:=by
 obtain⟨G',h1,h2,h3,h4,h5,h6,h7,_⟩:=Eq hE hc hf hs (x9 (wO vs o.dst) j)
 unfold Oper.wp
 rw[hx]
 refine hk _ _ G' (h1.put nm (yV ho) (SR.of_taken ?_ h7)) h2 (yW _ _ _)
 rw[h4,h5]; exact h6
theorem C5 {w:World} {ob:Obj} {b o:Nat} (h:b<w.heap.size):(w.alloc ob).cell? ⟨b,o,none⟩=w.cell? ⟨b,o,none⟩:=World.cell?_alloc_lt w ob _ h
theorem yN {w:World} {ob:Obj} {b:Nat} (h:b<w.heap.size):(w.alloc ob).heap[b]? = w.heap[b]? := by
 simp only[World.alloc,Array.getElem?_push]
 rw[af (by omega)]
theorem AU {w:World} {ob:Obj}:(w.alloc ob).heap[w.heap.size]? = some ob:=by unfold World.alloc; simp only[Array.getElem?_push_size]
theorem PL (nm:Names vs (wk vs ops)) (ho:ops[j]? = some o) (hf:FI N w G st a vs (wk vs ops)) {cs:Array Value} {ps:List PV} {T:TypeId} {i:Nat} (hd:wO vs o.dst = .v i)
  (cO:(execOp a.eval o).run P w = .ok (.value (.pointer (some ⟨w.heap.size,0,none⟩))) (w.alloc (.cells cs T)))
  (hR:∀(k:Nat) (c:Value) (x:PV),cs[k]? = some c→ps[k]? = some x→VR N w G.fix G.heap c x∧x.flat=true∧(∀es,x = .list true es→c = .slice none 0 0)) (hl:cs.size=ps.length)
  (hk:wG N w G a { st with gen:=st.gen+1 } (.loc st.gen ps) vs ops j o next):o.wp P a w next Q:=by
 unfold Oper.wp
 rw[cO]
 have vO:G.ow w.heap.size=none:=by
  cases h:G.ow w.heap.size with
  | none=>rfl
  | some k=>have:=hf.owlt _ _ h; omega
 have ft:∀o,¬G.fix w.heap.size o:=λo h=>by have:=hf.fixlt _ _ h; omega
 let G':GS:={ G with ow:=λx=>if x=w.heap.size then some (.var i) else G.ow x,box:=λg=>if g=st.gen then some w.heap.size else G.box g }
 have cL:Ext w G (w.alloc (.cells cs T)) G':=by
  refine⟨rfl,rfl,rfl,by simp,λb hb _=>yN hb,λb o h=>⟨h,C5 (hf.fixlt _ _ h)⟩,λ_ _ h => .inl h,?_,λ_ _ h=>h,.same λk hk=>yN hk,rfl⟩
  intro b hb
  by_cases cQ:b<w.heap.size
  ·refine .inr ?_
   simp only[G'] at hb
   rw[af (by omega)] at hb
   exact hb
  ·exact .inl (by omega)
 have cP:xq (λ_=>False) w G (w.alloc (.cells cs T)) G':=by
  refine⟨?_,?_⟩
  ·intro b k hb _
   have cQ:=hf.owlt _ _ hb
   refine⟨?_,yN cQ,λ_ h=>h⟩
   simp only[G']
   rw[af (by omega)]; exact hb
  ·intro g b hb
   have:=hf.gen _ _ hb
   simp only[G']
   rw[af (by omega)]; exact hb
 have de:FI N (w.alloc (.cells cs T)) G' { st with gen:=st.gen+1 } a vs (wk vs ops):=by
  refine⟨hf.len,λi t u h1 h2=>(hf.var i t u h1 h2).keep cL cP (λh=>h) (λ_ _ _ h=>h),λj t u h1 h2=>(hf.loc j t u h1 h2).keep cL cP (λh=>h) (λ_ _ _ h=>h),hf.tv,hf.tl,hf.defers,?_,?_,?_,hf.heap.keep cL cP (λ_ _ h=>h),hf.hdom⟩
  ·intro g b hb
   simp only[G'] at hb
   split at hb
   ·simp; omega
   ·have:=hf.gen _ _ hb; simp; omega
  ·intro b k hb
   simp only[G'] at hb
   split at hb
   ·simp; omega
   ·have:=hf.owlt _ _ hb; simp; omega
  ·intro b o h; have:=hf.fixlt _ _ h; simp; omega
 refine hk _ _ G' (de.put nm (yV ho) ?_) cL (yW _ _ _)
 rw[hd]
 refine⟨w.heap.size,i,rfl,rfl,by simp[G'],by simp[G',x9],ft,cs,T,AU,hl,?_⟩
 intro k c x hc hx
 obtain⟨h1,h2,h3⟩:=hR k c x hc hx
 refine⟨h1.ext cL,h2,?_⟩
 split
 ·rename_i es
  have:=h3 es rfl
  subst this
  trivial
 ·trivial
theorem PM {d:PD} (h:Cc d=true):∃i,d = .v i:=by
 cases d with
 | v i=>exact⟨i,rfl⟩
 | l=>simp[Cc] at h
 | n=>simp[Cc] at h
theorem b6y (nm:Names vs (wk vs ops)) (ho:ops[j]? = some o) (hf:FI N w G st a vs (wk vs ops)) {t:TypeId} {z:List PV} (cN:o.op = .alloc t) (hz:yf P t=some z) (hd:Cc (wO vs o.dst)=true) {cf:wu}
  (hs:opv cf (.newloc z) st=some (u,st1)) (hk:wG N w G a st1 u vs ops j o next):o.wp P a w next Q:=by
 simp only[opv,aa,ac] at hs
 obtain⟨rfl,rfl⟩:=hs
 obtain⟨i,hi⟩:=PM hd
 obtain⟨ti,zv,h1,h2,h3,h4,h5,_⟩:=B7 (N:=N) (w:=w) (fix:=G.fix) (hp:=G.heap) hz
 refine PL (cs:=zv.cells) (ps:=z) (T:=t) nm ho hf hi ?_ ?_ ?_ hk
 ·simp[execOp,cN,Instr.alloc,zeroValue,typeInfo,h1,h2,newVar,newRow]
 ·intro k c x hc hx
  refine⟨h5.2.2 k c x (by simpa using hc) hx,h5.2.1 x (ax hx),?_⟩
  rintro es rfl
  unfold yf at hz
  simp only[h1,h2,ae] at hz
  obtain⟨cs',d9,hz⟩:=hz
  split at hz
  ·simp at hz; subst hz
   exact Eo d9 k c es (by simpa using hc) hx
  ·simp at hz
 ·have:=h5.1; simpa using this
theorem b6z (hE:EnvOk E N) (nm:Names vs (wk vs ops)) (ho:ops[j]? = some o) (hf:FI N w G st a vs (wk vs ops)) {t:TypeId} {n:Nat} {x:Operand} {px:PX} (cN:o.op = .box t x) (hn:wP P t=some n) (hx:cx E vs ops x=some px)
  (hd:Cc (wO vs o.dst)=true) {cf:wu} (hs:opv cf (.boxloc n px) st=some (u,st1)) (hk:wG N w G a st1 u vs ops j o next):o.wp P a w next Q:=by
 simp only[opv] at hs
 split at hs
 ·rename_i p hp
  split at hs
  ·rename_i hl
   simp only[aa,ac] at hs
   obtain⟨rfl,rfl⟩:=hs
   obtain⟨i,hi⟩:=PM hd
   obtain⟨_,_,_,_,eN,_⟩:=yO hn
   have hv:=(wU hE hx hf hp).1
   have dj:=(CellsR.of_cells hv (by intro e; rw[e] at hl; simp at hl; omega)).dem
   refine PL (cs:=(a.eval x).cells) (ps:=p.cells.map dem) (T:=t) nm ho hf hi ?_ ?_ ?_ hk
   ·simp[execOp,cN,Instr.box,newVar,newRow]
   ·intro k c y hc hy
    refine⟨dj.2.2 k c y (by simpa using hc) hy,dj.2.1 y (ax hy),?_⟩
    rintro es rfl
    simp only[aF,ab] at hy
    obtain⟨q,_,hq⟩:=hy
    cases q<;>simp[dem] at hq
   ·have:=dj.1; simpa using this
  ·simp at hs
 ·simp at hs
end
section
variable {E:Env} {N:Nm} {w:World} {G:GS} {st:St} {a:Act} {vs:List Tmp} {ops:List Oper} {P:Program}
variable {o:Oper} {j:Nat} {next:Act→World→Prop} {Q:Exit→Act→World→Prop} {u:PV} {st1:St}
def FM (N:Nm) (w:World) (fix:Nat→Nat→Prop) (hp:Nat→Option Nat) (size:Nat) (cs:Array Value) (es:List PV):Prop:=
 cs.size=es.length*size∧∀(i:Nat) (e:PV),es[i]? = some e→e.cells.length=size∧(∀x∈e.cells,x.flat=true) ∧
  ∀(k:Nat) (c:Value) (x:PV),cs[i*size+k]? = some c→e.cells[k]? = some x→VR N w fix hp c x
theorem HJ {i n k size:Nat} (hi:i<n) (hk:k<size):i*size+k<n*size:=by
 have:(i+1)*size≤n*size:=bk _ hi
 rw[aQ] at this; omega
theorem b9E (v:PV):(zy v).cells=v.cells.map PI.dem:=by
 cases v<;>rfl
theorem PN (hE:EnvOk E N) (hf:FI N w G st a vs (wk vs ops)) {size:Nat} (fx:size≠0):∀{parts:List (Nat×Operand)} {ps:List (Nat×PX)} {qs:List (Nat×PV)} {zs rs:List PV} {cs:Array Value},
  DE E vs ops parts=some ps→rdElems st ps=some qs→Cs size zs qs=some rs→FM N w G.fix G.heap size cs zs →
  ∃ds,Instr.fill (λi=>some (i*size,size)) cs (parts.map λ(i,x)=>(i,a.eval x))=some ds∧FM N w G.fix G.heap size ds rs∧rs.length=zs.length
 | [], ps, qs, zs, rs, cs, hc, hr, wT, hR => by
   simp[DE] at hc; subst hc
   simp[rdElems] at hr; subst hr
   simp[Cs] at wT; subst wT
   exact⟨cs,rfl,hR,rfl⟩
 | (i, x) :: parts, ps, qs, zs, rs, cs, hc, hr, wT, hR => by
   simp only[DE,ae,ab] at hc
   obtain⟨px,fv,ps',ea,rfl⟩:=hc
   simp only[rdElems,ae,ab] at hr
   obtain⟨v,hv,qs',jL,rfl⟩:=hr
   simp only[Cs] at wT
   split at wT
   ·rename_i cR
    have cT:=(wU hE fv hf hv).1
    have dj:=CellsR.of_cells cT (by intro e; rw[e] at cR; simp at cR; omega)
    have cS:(a.eval x).cells.size=size:=by have:=dj.1; simp at this; omega
    have em:i*size+(a.eval x).cells.size≤cs.size:=by
     rw[hR.1,cS]
     have:(i+1)*size≤zs.length*size:=bk _ cR.2
     rw[aQ] at this; omega
    have ev:FM N w G.fix G.heap size ((a.eval x).cells.zipIdx.foldl (λ(cs:Array Value) (y:Value×Nat)=>cs.setIfInBounds (i*size+y.2) y.1) cs) (zs.set i (zy v)):=by
     have hl:=KO (i*size) (a.eval x).cells cs em
     have xh:∀k,((a.eval x).cells.zipIdx.foldl (λ(cs:Array Value) (y:Value×Nat)=>cs.setIfInBounds (i*size+y.2) y.1) cs)[k]? = if i*size≤k∧k<i*size+size then(a.eval x).cells[k - i*size]? else cs[k]? := by
      intro k
      have hg:=KM (i*size) (a.eval x).cells.toList 0 cs k (by simpa using em)
      have he:(a.eval x).cells.zipIdx.foldl (λ(cs:Array Value) (y:Value×Nat)=>cs.setIfInBounds (i*size+y.2) y.1) cs=((a.eval x).cells.toList.zipIdx 0).foldl (λ(cs:Array Value) (y:Value×Nat)=>cs.setIfInBounds (i*size+y.2) y.1) cs:=by
       rw[← Array.foldl_toList]; simp
      rw[he,hg]
      simp[cS]
     refine⟨?_,?_⟩
     ·have:=aE List.length hl
      rw[aX,ap,ap,bP,cB,aX,aX] at this
      rw[bM,← hR.1,this]
      omega
     ·intro i' e' dx
      rw[aL] at dx
      split at dx
      ·rename_i jw
       subst jw
       rw[ah cR.2] at dx
       simp at dx; subst dx
       rw[b9E]
       refine⟨by rw[aN]; exact cR.1,dj.dem.2.1,?_⟩
       intro k c y hc hy
       have hk:k<size:=by have:=(aj.1 hy).1; rw[aN] at this; omega
       rw[xh,ah ⟨by omega,by omega⟩,show i*size+k - i*size=k by omega] at hc
       exact dj.dem.2.2 k c y (by simpa using hc) hy
      ·rename_i jw
       obtain⟨h1,h2,h3⟩:=hR.2 i' e' dx
       refine⟨h1,h2,?_⟩
       intro k c y hc hy
       have hk:k<size:=by have:=(aj.1 hy).1; omega
       have mO:¬(i*size≤i'*size+k∧i'*size+k<i*size+size):=by
        rintro⟨ha,hb⟩
        rcases Nat.lt_or_gt_of_ne jw with h|h
        ·have:(i+1)*size≤i'*size:=bk _ h
         rw[aQ] at this; omega
        ·have:(i'+1)*size≤i*size:=bk _ h
         rw[aQ] at this; omega
       rw[xh,af mO] at hc
       exact h3 k c y hc hy
    obtain⟨ds,h1,h2,h3⟩:=PN hE hf fx ea jL wT ev
    refine⟨ds,?_,h2,by rw[h3,bM]⟩
    simp only[aC,Instr.fill]
    rw[af (by simp[cS]; omega)]
    exact h1
   ·simp at wT
theorem c1h (nm:Names vs (wk vs ops)) (ho:ops[j]? = some o) (hf:FI N w G st a vs (wk vs ops)) {cs:Array Value} {es:List PV} {T:TypeId} {size:Nat} (hR:FM N w G.fix G.heap size cs es)
  (cO:(execOp a.eval o).run P w = .ok (.value (.slice (some ⟨w.heap.size,0,none⟩) es.length es.length)) (w.alloc (.cells cs T)))
  (hk:wG N w G a st (.list true es) vs ops j o next):o.wp P a w next Q:=by
 unfold Oper.wp
 rw[cO]
 have ft:∀o,¬G.fix w.heap.size o:=λo h=>by have:=hf.fixlt _ _ h; omega
 let G':GS:={ G with fix:=λb o=>G.fix b o∨b=w.heap.size }
 have cL:Ext w G (w.alloc (.cells cs T)) G':=by
  refine⟨rfl,rfl,rfl,by simp,λb hb _=>yN hb,λb o h=>⟨.inl h,C5 (hf.fixlt _ _ h)⟩,?_,λ_ h => .inr h,λ_ _ h=>h,.same λk hk=>yN hk,rfl⟩
  rintro b o (h|h)
  ·exact .inl h
  ·exact .inr (.inl (by omega))
 have cP:xq (λ_=>False) w G (w.alloc (.cells cs T)) G':=by
  refine⟨?_,λ_ _ h=>h⟩
  intro b k hb _
  have cQ:=hf.owlt _ _ hb
  refine⟨hb,yN cQ,?_⟩
  rintro o (h|h)
  ·exact h
  ·omega
 have de:=hf.ext (G':=G') cL cP hf.gen (λb k hb=>by have:=hf.owlt b k hb; simp; omega) (by
  rintro b o (h|h)
  ·have:=hf.fixlt _ _ h; simp; omega
  ·simp; omega)
 refine hk _ _ G' (de.put nm (yV ho) ⟨?_,.inl rfl⟩) cL (yW _ _ _)
 refine .list true w.heap.size 0 es.length es.length size es (λk=>cs.getD k undef) rfl (ao _) ?_ ?_ ?_ ?_
 ·intro e he
  obtain⟨i,hi⟩:=bh.1 he
  exact(hR.2 i e hi).1
 ·intro e he
  obtain⟨i,hi⟩:=bh.1 he
  exact(hR.2 i e hi).2.1
 ·intro k hk
  rw[← hR.1] at hk
  refine⟨?_,.inr rfl⟩
  rw[aR,World.cell?_alloc_new]
  simp[hk]
 ·intro i e he k x hx
  obtain⟨h1,h2,h3⟩:=hR.2 i e he
  have hk:k<size:=by have:=(aj.1 hx).1; omega
  have hi:i<es.length:=(aj.1 he).1
  have cQ:i*size+k<cs.size:=by rw[hR.1]; exact HJ hi hk
  have:=h3 k cs[i*size+k] x (by simp[cQ]) hx
  simp only[aM,Array.getElem?_eq_getElem cQ,bI]
  exact this.ext cL
theorem b4Q (hE:EnvOk E N) (nm:Names vs (wk vs ops)) (ho:ops[j]? = some o) (hf:FI N w G st a vs (wk vs ops)) {t e:TypeId} {len size:Nat} {parts:Array (Nat×Operand)} {z:List PV} {ps:List (Nat×PX)}
  (cN:o.op = .buildSlice t len parts) (hu:P.underlying t=some (.slice e)) (hn:wP P e=some size) (hz:yf P e=some z) (cM:len*size≤16777216) (hc:DE E vs ops parts.toList=some ps) {cf:wu}
  (hs:opv cf (.mkslice size (if xi P e then .agg z else z.headD .dead) len ps) st=some (u,st1)) (hk:wG N w G a st1 u vs ops j o next):o.wp P a w next Q:=by
 simp only[opv,ab,ae,ac] at hs
 obtain⟨rs,⟨qs,hq,wT⟩,rfl,rfl⟩:=hs
 obtain⟨ti,zv,h1,h2,h3,h4,h5,_⟩:=B7 (N:=N) (w:=w) (fix:=G.fix) (hp:=G.heap) hz
 obtain⟨ti',d,it,vP,fx,hd⟩:=yO hn
 have lP:ti'=ti:=by rw[h1] at it; simpa using it.symm
 subst lP
 have gm:zv.cells.size=size:=by have:=h5.1; simp at this; omega
 have vQ:(if xi P e then PV.agg z else z.headD .dead).cells=z:=by
  split
  ·rfl
  ·rename_i fl
   have eb:=BL hn (by simpa using fl)
   match z,h4 with
   | [],h=>simp at h; omega
   | [p], _ =>
     have:=h5.2.1 p (by simp)
     cases p<;>first|rfl|simp[PV.flat] at this
   | _::_::_,h=>simp at h; omega
 let cs0:Array Value:=(Array.range (len*size)).map (zv.cells[· % zv.cells.size]!)
 have vR:FM N w G.fix G.heap size cs0 (List.replicate len (if xi P e then PV.agg z else z.headD .dead)):=by
  refine⟨by simp[cs0],?_⟩
  intro i x hx
  have eA:=ct.symm.trans hx
  split at eA
  ·rename_i hi
   simp only[aa] at eA
   rw[← eA,vQ]
   refine⟨by omega,h5.2.1,?_⟩
   intro k c y eF hy
   have hk:k<size:=by have:=(aj.1 hy).1; omega
   have cQ:i*size+k<len*size:=HJ hi hk
   have iO:(i*size+k) % size=k:=by
    rw[Nat.add_comm,Nat.mul_comm,Nat.add_mul_mod_self_left]; exact Nat.mod_eq_of_lt hk
   simp only[cs0,bQ,Array.getElem?_range,cQ,if_true,aA,aa,gm,iO] at eF
   have dh:k<zv.cells.size:=by omega
   rw[getElem!_pos zv.cells k dh] at eF
   exact h5.2.2 k c y (by rw[← eF]; simp[dh]) hy
  ·simp at eA
 obtain⟨ds,lZ,hR,io⟩:=PN hE hf fx hc hq wT vR
 have hl:rs.length=len:=by simpa using io
 refine c1h (cs:=ds) (T:=e) nm ho hf hR ?_ hk
 rw[hl]
 have sE:¬(len*size>2 ^ 24):=by
  have:(2:Nat) ^ 24=16777216:=by decide
  omega
 have fW:(parts.map λ(i,x)=>(i,a.eval x)).toList=parts.toList.map λ(i,x)=>(i,a.eval x):=by simp
 have sF:(Instr.buildSlice t len (parts.map λ(i,x)=>(i,a.eval x))).run P w = .ok (.slice (some ⟨w.heap.size,0,none⟩) len len) (w.alloc (.cells ds e)):=by
  unfold Instr.buildSlice
  simp only[Sem.run_bind,run_underlying hu,Result.andThen_ok,zx hn,af sE]
  by_cases h0:len*size=0
  ·have ke:(Array.range (len*size)).map ((#[]:Array Value)[· % (#[]:Array Value).size]!)=cs0:=by simp[h0,cs0]
   simp only[ah h0,Sem.run_bind,Sem.run_pure,Result.andThen_ok,ke,fW,lZ]
   simp[newRow]
  ·simp only[af h0,Sem.run_bind,Sem.run_pure,Result.andThen_ok,zeroValue,typeInfo,run_program,h1,h2,fW]
   have:Instr.fill (λi=>some (i*size,size)) ((Array.range (len*size)).map (zv.cells[· % zv.cells.size]!)) (parts.toList.map λ(i,x)=>(i,a.eval x))=some ds:=lZ
   rw[this]
   simp[newRow]
 simp[execOp,cN,sF]
end
section
variable {E:Env} {N:Nm} {w:World} {G:GS} {st:St} {a:Act} {vs:List Tmp} {ops:List Oper} {P:Program}
variable {o:Oper} {j:Nat} {next:Act→World→Prop} {Q:Exit→Act→World→Prop} {u:PV} {st1:St}
theorem HL (hf:FI N w G st a vs (wk vs ops)) {s g b:Nat} {cs:List PV} (hv:st.vars[s]? = some (.loc g cs)) (hb:G.box g=some b):
  ∃ t, vs[s]? = some t ∧ a.eval (.tmp t) = .pointer (some ⟨b, 0, none⟩) ∧ G.ow b = some (.var s) ∧ (∀ o, ¬ G.fix b o) ∧
    ∃cv T,w.heap[b]? = some (.cells cv T (0,0))∧cv.size=cs.length∧∀(k:Nat) (c:Value) (x:PV),cv[k]? = some c→cs[k]? = some x→CR N w G (.vcell s k) c x:=by
 have hs:s<vs.length:=by rw[← hf.len]; exact(aj.1 hv).1
 have h:=hf.var s vs[s] _ (av hs) hv
 obtain⟨b',i,hk,h1,h2,h3,h4,h5⟩:=h
 have hi:i=s:=by simpa using hk.symm
 subst hi
 have:b'=b:=by rw[hb] at h2; simpa using h2.symm
 subst this
 exact⟨vs[i],av hs,h1,h3,h4,h5⟩
theorem Io {b:Nat} {cv:Array Value} {T:TypeId} {cs:List PV} {s:Nat} (hh:w.heap[b]? = some (.cells cv T (0,0))) (hl:cv.size=cs.length)
  (hc:∀(k:Nat) (c:Value) (x:PV),cv[k]? = some c→cs[k]? = some x→CR N w G (.vcell s k) c x):
  CellsR N w G.fix G.heap cv.toList cs∧∀(k:Nat) (v:Value),cv.toList[k]? = some v→w.cell? ⟨b,k,none⟩=some v:=by
 refine⟨⟨by simpa using hl,?_,λi c x h1 h2=>(hc i c x (by simpa using h1) h2).1⟩,?_⟩
 ·intro x hx
  obtain⟨i,hi⟩:=bh.1 hx
  have cQ:i<cv.size:=by have:=(aj.1 hi).1; omega
  exact(hc i cv[i] x (by simp[cQ]) hi).2.1
 ·intro k v hv
  simp only[bR] at hv
  simp[World.cell?,hh,hv]
theorem c1j (hf:FI N w G st a vs (wk vs ops)) {t:TypeId} {n s g off b:Nat} {cs:List PV} {v:Value} (hn:wP P t=some n) (hv:v = .pointer (some ⟨b,off,none⟩)) (hb:G.box g=some b)
  (hs:st.vars[s]? = some (.loc g cs)) (hl:wz n (xi P t) cs off=some u):∃r,(Instr.loadAt t v).run P w = .ok r w∧VR N w G.fix G.heap r u∧cp u=some u:=by
 obtain⟨_,_,_,_,_,cv,T,h1,h2,h3⟩:=HL hf hs hb
 obtain⟨hR,hcell⟩:=Io h1 h2 h3
 have eN:n≠0:=by obtain⟨_,_,_,_,h,_⟩:=yO hn; exact h
 obtain⟨k1,k2,k3⟩:=C3 hR hl eN (BL hn)
 refine⟨_,?_,k2,k3⟩
 subst hv
 have:=EJ (w:=w) hn b off (cv.toList.drop off) (by simp at k1 ⊢; omega) (λj v hv=>by
  rw[aW] at hv
  exact hcell _ _ hv)
 simpa[Instr.loadAt,Instr.sureAddr] using this
theorem PP (hE:EnvOk E N) (nm:Names vs (wk vs ops)) (ho:ops[j]? = some o) (hf:FI N w G st a vs (wk vs ops)) {t:TypeId} {n:Nat} {x:Operand} {px:PX} {tk:Bool} (cN:o.op = .load t x) (hn:wP P t=some n)
  (hx:cx E vs ops x=some px) {cf:wu} (hs:opv cf (.load n (xi P t) px tk) st=some (u,st1)) (hk:wG N w G a st1 u vs ops j o next):o.wp P a w next Q:=by
 have plain:∀r,(Instr.loadAt t (a.eval x)).run P w = .ok r w→(execOp a.eval o).run P w = .ok (.value r) w:=by
  intro r hr
  simp[execOp,cN,hr]
 simp only[opv] at hs
 split at hs
 ·rename_i cs ha
  simp only[ab,ac] at hs
  obtain⟨r,hr,rfl,rfl⟩:=hs
  rcases Bb hE hx hf ha with⟨_,_,_,_,h,_⟩|⟨h,_⟩
  ·simp at h
  ·obtain⟨r',h1,h2,h3⟩:=KK (P:=P) hn h hr
   exact wW nm ho hf (plain _ h1) (SR.of_pure h2 h3) hk
 ·rename_i s g off ha
  rcases Bb hE hx hf ha with⟨_,_,_,b,h,hv,hb⟩|⟨_,h⟩
  ·simp only[PV.lptr.injEq] at h
   obtain⟨rfl,rfl,rfl⟩:=h
   split at hs
   ·rename_i g' cs jP
    split at hs
    ·rename_i gV
     subst gV
     split at hs
     ·rename_i es ej hcell
      simp only[aa,ac] at hs
      obtain⟨rfl,rfl⟩:=hs
      simp only[al,bz] at ej
      obtain⟨tt,nL,kR,kU,il,cv,T,hh,hl,hc⟩:=HL hf jP hb
      have cQ:off<cv.size:=by have:=(aj.1 hcell).1; omega
      obtain⟨cT,_,dr⟩:=hc off cv[off] _ (by simp[cQ]) hcell
      obtain⟨G',hG,fg⟩:=Room.give (key':=x9 (wO vs o.dst) j) dr
      have gV:G'.box=G.box∧G'.fix=G.fix∧G'.heap=G.heap:=by
       rcases hG with rfl|⟨b,_,rfl⟩<;>exact⟨rfl,rfl,rfl⟩
      have cL:Ext w G w G':=by
       rcases hG with rfl|⟨b,hb,rfl⟩
       ·exact Ext.refl _ _
       ·exact HG b _ (λ_=>by simp[hb])
      have cP:xq (λk=>k = .vcell s off) w G w G':=by
       rcases hG with rfl|⟨b,hb,rfl⟩
       ·exact⟨λb k h _=>⟨h,rfl,λ_ h=>h⟩,λ_ _ h=>h⟩
       ·exact HH b _ (λk' dh=>by rw[hb] at dh; simpa using dh.symm)
      have de:FI N w G' { st with vars:=st.vars.set s (.loc g (cs.set off (.list false es))) } a vs (wk vs ops):=by
       refine⟨by simp[hf.len],?_,λi t' u' h1 h2=>(hf.loc i t' u' h1 h2).keep cL cP (by simp) (by simp),hf.tv,hf.tl,(hf.defers.trans cL.df.symm),by rw[gV.1]; exact hf.gen,?_,by rw[gV.2.1]; exact hf.fixlt,hf.heap.keep cL cP (by rintro k hk rfl; simp[Key.isH] at hk),by rw[gV.2.2]; exact hf.hdom⟩
       ·intro i t' u' h1 h2
        simp only[aL] at h2
        split at h2
        ·rename_i hi
         subst hi
         split at h2
         ·simp at h2; subst h2
          have:t'=tt:=by rw[nL] at h1; simpa using h1.symm
          subst this
          obtain⟨eu,_,_⟩:=cP.1 _ _ kU (by simp)
          refine⟨b,s,rfl,kR,by rw[gV.1]; exact hb,eu,by rw[gV.2.1]; exact il,cv,T,hh,by simp[hl],?_⟩
          intro k c y dG hy
          rw[aL] at hy
          split at hy
          ·rename_i dY
           subst dY
           split at hy
           ·simp at hy; subst hy
            have:c=cv[off]:=by simp[cQ] at dG; exact dG.symm
            subst this
            refine⟨(cT.dem).ext cL,rfl,trivial⟩
           ·simp at hy
          ·rename_i dY
           exact(hc k c y dG hy).keep cL cP (by simp; omega)
         ·simp at h2
        ·rename_i hi
         exact(hf.var i t' u' h1 h2).keep cL cP (by simp) (by simp; intro i' k it e; omega)
       ·intro b' k cX
        rcases hG with rfl|⟨b2,dy,rfl⟩
        ·exact hf.owlt _ _ cX
        ·simp only[GS.give] at cX
         split at cX
         ·subst_vars; exact hf.owlt _ _ dy
         ·exact hf.owlt _ _ cX
      unfold Oper.wp
      have cO:(Instr.loadAt t (a.eval x)).run P w = .ok cv[off] w:=by
       have dN:w.cell? ⟨b,off,none⟩=some cv[off]:=by simp[World.cell?,hh,cQ]
       rw[hv]
       simp[Instr.loadAt,Instr.sureAddr,loadVar,Dw hn,ej.2,dN]
      rw[plain _ cO]
      exact hk _ _ G' (de.put nm (yV ho) ⟨cT.ext cL,fg⟩) cL (yW _ _ _)
     ·simp only[ab,ac] at hs
      obtain⟨r,hr,rfl,rfl⟩:=hs
      obtain⟨r',h1,h2,h3⟩:=c1j (P:=P) hf hn hv hb jP hr
      exact wW nm ho hf (plain _ h1) (SR.of_pure h2 h3) hk
    ·simp at hs
   ·simp at hs
  ·simp[cp] at h
 ·simp at hs
theorem b7H (hE:EnvOk E N) (nm:Names vs (wk vs ops)) (ho:ops[j]? = some o) (hf:FI N w G st a vs (wk vs ops)) {t:TypeId} {n:Nat} {x y:Operand} {px py:PX} (cN:o.op = .store t x y) (dZ:o.dst=none) (hn:wP P t=some n)
  (hx:cx E vs ops x=some px) (hy:cx E vs ops y=some py) {cf:wu} (hs:opv cf (.store n (xi P t) px py) st=some (u,st1)) (hk:wG N w G a st1 u vs ops j o next):o.wp P a w next Q:=by
 simp only[opv] at hs
 split at hs
 ·rename_i s g off v st' ha ej
  rcases Bb hE hx hf ha with⟨_,_,_,b,h,hv,hb⟩|⟨_,h⟩
  ·simp only[PV.lptr.injEq] at h
   obtain⟨rfl,rfl,rfl⟩:=h
   obtain⟨G1,de,dT,ip,eK,dF,cT,fj,_,_,_⟩:=Eq hE hy hf ej (.vcell s off)
   split at hs
   ·rename_i g' cs jP
    split at hs
    ·rename_i gV
     subst gV
     simp only[ab,ac] at hs
     obtain⟨cs',du,rfl,rfl⟩:=hs
     obtain⟨tt,nL,kR,kU,il,cv,T,hh,hl,hc⟩:=HL de jP (by rw[ip]; exact hb)
     have eN:n≠0:=by obtain⟨_,_,_,_,h,_⟩:=yO hn; exact h
     have key:∃nc:List Value,(a.eval y).cells.toList=nc∧nc.length=n∧off+n≤cv.size∧(∀c∈nc,c.oneCell'=true)∧cs'.length=cs.length ∧
       ∀ (k : Nat) (c : Value) (z : PV), (cv.toList.take off ++ nc ++ cv.toList.drop (off + n))[k]? = some c → cs'[k]? = some z →
         (cv[k]? = some c∧cs[k]? = some z)∨(VR N w G.fix G.heap c z∧z.flat=true∧∀es,z = .list true es→(k=off∧Room w G1 (.vcell s off) c es)∨c = .slice none 0 0):=by
      unfold wS at du
      split at du
      ·rename_i gD
       split at du
       ·rename_i ws
        split at du
        ·rename_i cR
         simp only[aa] at du; subst du
         obtain⟨ca,jM,hR⟩:=CellsR.of_agg cT
         have hO:OwnNil ca.toList ws:=OwnNil.of_agg (jM▸cT)
         have dN:(a.eval y).cells.toList=ca.toList:=by rw[jM]; rfl
         have cM:ca.toList.length=n:=by have:=hR.1; omega
         refine⟨ca.toList,dN,cM,by omega,?_,by simp; omega,?_⟩
         ·intro c f0
          obtain⟨i,hi⟩:=bh.1 f0
          have cQ:i<ws.length:=by have:=(aj.1 hi).1; have:=hR.1; omega
          have h1:=hR.2.2 i c ws[i] hi (av cQ)
          have h2:=h1.oneCell (hR.2.1 _ (ai cQ))
          cases c<;>first|rfl|simp[oneCell] at h2
         ·intro k c z dG hz
          rw[az] at dG
          have fC:(cv.toList.take off).length=off:=by simp; omega
          have kF:(cs.take off).length=off:=by simp; omega
          by_cases h1:k<off
          ·rw[am (by omega),aS,ah h1] at dG
           rw[am (by omega),aS,ah h1] at hz
           exact .inl ⟨by simpa using dG,hz⟩
          ·rw[ar (by omega),fC] at dG
           rw[ar (by omega),kF] at hz
           by_cases h2:k<off+n
           ·rw[am (by omega)] at dG
            rw[am (by omega)] at hz
            refine .inr ⟨hR.2.2 _ c z dG hz,hR.2.1 z (ax hz),?_⟩
            rintro es rfl
            exact .inr (hO _ c es dG hz)
           ·rw[ar (by omega),aW,cM] at dG
            rw[ar (by omega),aW,cR.1] at hz
            rw[show off+n+(k - off - n)=k by omega] at dG hz
            exact .inl ⟨by simpa using dG,hz⟩
        ·simp at du
       ·simp at du
      ·rename_i gD
       have nJ:=BL hn (by simpa using gD)
       subst nJ
       split at du
       ·rename_i cR
        simp only[aa] at du; subst du
        have h1:=cT.oneCell cR.2
        have dN:(a.eval y).cells.toList=[a.eval y]:=by
         generalize a.eval y=q at h1
         cases q<;>first|rfl|simp[oneCell] at h1
        refine⟨[a.eval y],dN,rfl,by omega,?_,by simp,?_⟩
        ·intro c f0
         simp at f0; subst f0
         generalize a.eval y=q at h1
         cases q<;>first|rfl|simp[oneCell] at h1
        ·intro k c z dG hz
         rw[az] at dG
         have fC:(cv.toList.take off).length=off:=by simp; omega
         rw[aL] at hz
         split at hz
         ·rename_i pJ
          subst pJ
          split at hz
          ·simp at hz; subst hz
           rw[ar (by omega),fC] at dG
           simp at dG; subst dG
           refine .inr ⟨cT,cR.2,?_⟩
           rintro es rfl
           exact .inl ⟨rfl,fj⟩
          ·simp at hz
         ·rename_i pJ
          refine .inl ⟨?_,hz⟩
          by_cases h1:k<off
          ·rw[am (by omega),aS,ah h1] at dG
           simpa using dG
          ·rw[ar (by omega),fC,ar (by simp; omega),aW] at dG
           simp only[ck] at dG
           rw[show off+1+(k - off - 1)=k by omega] at dG
           simpa using dG
       ·simp at du
     obtain⟨nc,gc,cM,gE,m6,sG,dj⟩:=key
     have cO:(execOp a.eval o).run P w = .ok .skip (w.setRow b (cv.toList.take off++nc++cv.toList.drop (off+n)).toArray):=by
      have du:=run_storeCells_at P b off T nc 0 cv w hh (by simp; omega) m6
      simp only[bp,cM] at du
      have cS:(a.eval y).cells.size=n:=by rw[← cM,← gc]; simp
      simp[execOp,cN,Instr.storeAt,hv,Instr.sureAddr,storeVar,zx hn,cS,gc,du]
     unfold Oper.wp
     rw[cO]
     have fe:b<w.heap.size:=de.owlt _ _ kU
     have cW:∀x,x≠b→(w.setRow b (cv.toList.take off++nc++cv.toList.drop (off+n)).toArray).heap[x]? = w.heap[x]? := λx hx=>setRow_other w b x _ hx
     have dJ:Ext w G1 (w.setRow b (cv.toList.take off++nc++cv.toList.drop (off+n)).toArray) G1:=by
      refine⟨rfl,rfl,rfl,by simp[World.setRow],?_,?_,λ_ _ h => .inl h,λ_ h => .inr h,λ_ _ h=>h,FL hh _ ?_,rfl⟩
      rotate_left 2
      ·simp; omega
      ·intro x _ jb
       exact cW x (by rintro rfl; rw[kU] at jb; simp at jb)
      ·intro x o' fo
       refine⟨fo,?_⟩
       have gl:x≠b:=by rintro rfl; exact il _ fo
       simp only[World.cell?,cW x gl]
     have dA:xq (λk=>k = .var s) w G1 (w.setRow b (cv.toList.take off++nc++cv.toList.drop (off+n)).toArray) G1:=by
      refine⟨?_,λ_ _ h=>h⟩
      intro x k gF gw
      refine⟨gF,cW x ?_,λ_ h=>h⟩
      rintro rfl
      rw[kU] at gF
      simp at gF
      exact gw gF.symm
     have ix:FI N (w.setRow b (cv.toList.take off++nc++cv.toList.drop (off+n)).toArray) G1 { st' with vars:=st'.vars.set s (.loc g cs') } a vs (wk vs ops):=by
      refine⟨by simp[de.len],?_,λi t' u' h1 h2=>(de.loc i t' u' h1 h2).keep dJ dA (by simp) (by simp),de.tv,de.tl,de.defers,de.gen,?_,?_,de.heap.keep dJ dA (by rintro k hk rfl; simp[Key.isH] at hk),de.hdom⟩
      ·intro i t' u' h1 h2
       simp only[aL] at h2
       split at h2
       ·rename_i hi
        subst hi
        split at h2
        ·simp at h2; subst h2
         have:t'=tt:=by rw[nL] at h1; simpa using h1.symm
         subst this
         refine⟨b,s,rfl,kR,by rw[ip]; exact hb,kU,il,_,T,setRow_heap w b cv _ T (0,0) hh,?_,?_⟩
         ·simp; omega
         ·intro k c z dG hz
          rcases dj k c z (by simpa using dG) hz with⟨k1,k2⟩|⟨k1,k2,k3⟩
          ·exact(hc k c z k1 k2).keep dJ dA (by simp)
          ·refine⟨(eK▸dF▸k1:VR N w G1.fix G1.heap c z).ext dJ,k2,?_⟩
           split
           ·rename_i es
            rcases k3 es rfl with⟨e1,e2⟩|e
            ·subst e1
             exact e2.keep dA (by simp)
            ·subst e; trivial
           ·trivial
        ·simp at h2
       ·rename_i hi
        exact(de.var i t' u' h1 h2).keep dJ dA (by simp; omega) (by simp)
      ·intro x k hx; simpa[World.setRow] using de.owlt x k hx
      ·intro x o' hx; simpa[World.setRow] using de.fixlt x o' hx
     have fP:a.put o.dst undef=a:=by simp[dZ,Act.put]
     have hd:wO vs o.dst = .n:=by simp[dZ,wO]
     show next (a.put o.dst undef) _
     rw[fP]
     refine hk _ _ G1 ?_ (dT.trans dJ) rfl
     rw[hd]
     exact ix
    ·simp at hs
   ·simp at hs
  ·simp[cp] at h
 ·simp at hs
end
end PI
