import Derived.Test.YtljbhgpanekomaaGreatDoorPiCodeT
import Derived.Test.YtljbhgpanekomaaGreatDoorPiRun
set_option linter.unusedSimpArgs false
set_option linter.unusedVariables false
set_option linter.unusedSectionVars false
namespace PI
open Go Go.RowKit
def DI (P:Program) (kp:Bool) (vs:List Tmp):ResultVar→Option PRes
 | .tmp t=>(x5 t vs 0).map (if kp then .keep else .var)
 | .cell t ty=>(x5 t vs 0).bind λi=>(wP P ty).map λn => .cell i n (xi P ty)
def AV (P:Program) (kp:Bool) (vs:List Tmp):List ResultVar→Option (List PRes)
 | []=>some []
 | r::rs=>(DI P kp vs r).bind λp=>(AV P kp vs rs).map (p::·)
structure Opts where
 hs:List Tmp:=[]
 hf:List FuncId:=[]
 hv:List Tmp:=[]
 rs:List TypeId:=[]
 bf:List FuncId:=[]
 bv:List Tmp:=[]
 lps:List (Array Tmp×Nat×List Tmp):=[]
 sr:Bool:=false
 nl:Bool:=false
 kp:Bool:=false
 ox:List (FuncId×Option Nat):=[]
 rf:List FuncId:=[]
 lf:List FuncId:=[]
 lv:Bool:=false
def Env.opt (E:Env) (o:Opts):Env:={ E with hs:=o.hs,hf:=o.hf,hv:=o.hv,rs:=o.rs,bf:=o.bf,bv:=o.bv,lps:=o.lps,sr:=o.sr,nl:=o.nl,ox:=o.ox,rf:=o.rf,lf:=o.lf,lv:=o.lv }
theorem EnvOk.opt {E:Env} {N:Nm} (h:EnvOk E N) (o:Opts):EnvOk (E.opt o) N:=⟨h.fn,h.yl,h.pt,h.bt⟩
def FnC (E:Env) (N:Nm) (k:Nat) (pf:PFunc) (fn:Func) (vs:List Tmp):Prop:=
 E.P.funcs[N.fn k]? = some fn∧fn.name ≠ "runtime.NumGoroutine" ∧ vs.Nodup∧(∀t∈vs,t<fn.ntmps)∧vs.length=pf.nv∧pf.params≤pf.nv∧(∀i,i<pf.params→vs[i]? = some i) ∧
  (∃o:Opts,(fn.body.map λc=>yd (E.opt o) fn.ntmps vs c)=some pf.code∧(o.lps=[]∨∀c,fn.body=some c→LpOK (E.opt o) N fn.ntmps (N.fn k) c)∧AV E.P o.kp vs fn.results.toList=some pf.results)
def C1 (N:Nm) (P:Program) (k:Nat) (g:List PV→List PObj→Option (PV×List PObj)):Prop:=
 ∀ (args : List PV) (r : PV) (h h' : List PObj), g args h = some (r, h') → ∀ (w : World) (G : GS) (vals : Array Value), Between N w G h → vals.size = args.length →
   (∀(i:Nat) (v:Value) (p:PV),vals[i]? = some v→args[i]? = some p→VR N w G.fix G.heap v p) →
   Calls P (N.fn k) vals w λe w'=>∃v G',e = .returned v∧VR N w' G'.fix G'.heap v r∧Ext w G w' G'∧Between N w' G' h'
def CH (N:Nm) (P:Program) (k:Nat) (g:List PV→List PObj→Option (List PObj)):Prop:=
 ∀ (p : PV) (caps : List PV) (h h' : List PObj), g (p :: caps) h = some h' → ∀ (w : World) (G : GS) (vals : Array Value), Between N w G h → vals.size = caps.length →
   (∀(i:Nat) (v:Value) (p:PV),vals[i]? = some v→caps[i]? = some p→VR N w G.fix G.heap v p) →
   ∀u,(u = .returning∧p = .nilIface∨∃v,u = .panicking [{ v,recovered:=false }]∧VR N w G.fix G.heap v p) →
   CallsDIn (W none) 0 P (N.fn k) vals u w λe u' w'=>(∃v,e = .returned v)∧settle u' = .returning∧∃G',Ext w G w' G'∧Between N w' G' h'
structure RdC (E:Env) (N:Nm) (k:Nat) (pf:PFunc) (y:YL) (fn:Func) (vs:List Tmp) (o:Opts) (a b:PC):Prop where
 yl:N.yl k=some y
 code:pf.code = .round a b
 ra:a.RO=true
 rb:b.RO=true
 prim:pf.prim=none
 dfr:pf.defer=none
 inP:E.P.funcs[y.fn]? = some fn
 no:N.fn k=y.fn
 name:fn.name ≠ "runtime.NumGoroutine"
 body:fn.body.isNone=false
 nd:vs.Nodup
 lt:∀t∈vs,t<y.nt
 len:vs.length=pf.nv
 params:pf.params=1+(y.vars.length+y.params.size)
 head:vs.take (y.vars.length+y.params.size)=y.vars++y.params.toList
 lps:o.lps=[]
 ca:yd (E.opt o) y.nt vs y.assign=a
 cb:yd (E.opt o) y.nt vs y.body=b
def FnF (E:Env) (N:Nm) (k:Nat) (pf:PFunc):Prop:=
 N.yl k=none∧pf.code.isRound=false∧pf.params<1000 ∧
 ((pf.prim=none∧pf.defer=none∧∃fn vs,FnC E N k pf fn vs) ∨
 (∃g fn,pf.prim=some g∧pf.defer=none∧E.P.funcs[N.fn k]? = some fn∧fn.name ≠ "runtime.NumGoroutine" ∧ fn.body.isNone=false∧C1 N E.P k g) ∨
 ∃g fn,pf.prim=none∧pf.code = .exit 0∧pf.defer=some g∧E.P.funcs[N.fn k]? = some fn∧fn.name ≠ "runtime.NumGoroutine" ∧ fn.body.isNone=false∧CH N E.P k g)
def FnS (E:Env) (N:Nm) (k:Nat) (pf:PFunc):Prop:=FnF E N k pf∨∃y fn vs o a b,RdC E N k pf y fn vs o a b
theorem FnS.plain {E:Env} {N:Nm} {k:Nat} {pf:PFunc} (h:FnS E N k pf) (hr:pf.code.isRound=false):FnF E N k pf:=by
 rcases h with h|⟨y,fn,vs,o,a,b,h⟩
 ·exact h
 ·rw[h.code] at hr; simp[PC.isRound] at hr
theorem FnS.plainY {E:Env} {N:Nm} {k:Nat} {pf:PFunc} (h:FnS E N k pf) (hr:N.yl k=none):FnF E N k pf:=by
 rcases h with h|⟨y,fn,vs,o,a,b,h⟩
 ·exact h
 ·rw[h.yl] at hr; simp at hr
def zl (vars:List PV):List PRes→List Nat
 | []=>[]
 | r::rs=>AT vars r++zl vars rs
theorem Lt:∀(ns:List Nat) (h:List PObj) (n:Nat),(n∈ns→(AE ns h)[n]? = h[n]?.map (λ_ => .gone))∧(n∉ns→(AE ns h)[n]? = h[n]?)
 | [],h,n=>by simp[AE]
 | m :: ns, h, n => by
   simp only[AE]
   obtain⟨i1,i2⟩:=Lt ns (h.set m .gone) n
   rw[aL] at i1 i2
   by_cases hm:m=n
   ·subst hm
    refine⟨λ_ =>?_,λhn=>absurd (by simp) hn⟩
    by_cases hr:m∈ns
    ·rw[i1 hr]
     by_cases cQ:m<h.length<;>simp[cQ]
    ·rw[i2 hr]
     by_cases cQ:m<h.length<;>simp[cQ]
   ·have da:¬n=m:=λe=>hm e.symm
    rw[af hm] at i1 i2
    simp only[ay,da,false_or]
    exact⟨i1,i2⟩
theorem Lu:∀(ns:List Nat) (h:List PObj),(AE ns h).length=h.length
 | [],h=>rfl
 | n::ns,h=>by simp only[AE]; rw[Lu ns]; simp
theorem Im (vars:List PV):∀(rs:List PRes) (h:List PObj) (n:Nat),(n∈zl vars rs→(wM vars rs h)[n]? = h[n]?.map (λ_ => .gone))∧(n∉zl vars rs→(wM vars rs h)[n]? = h[n]?)
 | [],h,n=>by simp[wM,zl]
 | r :: rs, h, n => by
   simp only[wM,zl]
   obtain⟨i1,i2⟩:=Im vars rs (AE (AT vars r) h) n
   obtain⟨g1,g2⟩:=Lt (AT vars r) h n
   simp only[ak]
   by_cases hr:n∈zl vars rs
   ·refine⟨λ_ =>?_,λhn=>absurd (.inr hr) hn⟩
    rw[i1 hr]
    by_cases hq:n∈AT vars r
    ·rw[g1 hq]; cases h[n]?<;>rfl
    ·rw[g2 hq]
   ·refine⟨λhn =>?_,λhn =>?_⟩
    ·rw[i2 hr,g1 (hn.resolve_right hr)]
    ·rw[i2 hr,g2 (λe=>hn (.inl e))]
theorem Lv (vars:List PV):∀(rs:List PRes) (h:List PObj),(wM vars rs h).length=h.length
 | [],h=>rfl
 | r::rs,h=>by simp only[wM]; rw[Lv vars rs,Lu]
theorem Lw {vars:List PV} {n:Nat} {r:PRes} (hv:n∈AT vars r):∀{rs:List PRes},r∈rs→n∈zl vars rs
 | r' :: rs, h => by
   simp only[zl,ak]
   rcases ay.1 h with h|h
   ·subst h; exact .inl hv
   ·exact .inr (Lw hv h)
section
variable {E:Env} {N:Nm} {P:Program}
theorem HR.shut {w:World} {G:GS} {heap:List PObj} (h:HR N w G heap) (vars:List PV) (rs:List PRes):HR N w (G.shut (zl vars rs) heap) (wM vars rs heap):=by
 have own:∀n b,n∈zl vars rs→∀cs,G.heap n=some b→heap[n]? = some (.cells cs)→G.ow b=some (.hobj n):=by
  intro n b _ cs h1 h2
  rcases h.1 n _ h2 with h3|⟨b',k1,k2,_⟩
  ·simp at h3
  rw[h1] at k1; cases k1; exact k2
 have room:∀{n k:Nat} {v:Value} {es:List PV},Room w G (.hcell n k) v es→Room w (G.shut (zl vars rs) heap) (.hcell n k) v es:=by
  intro n k v es hr
  unfold Room at *
  split at hr
  ·rename_i a len cap
   rcases hr with hr|⟨h1,sz,cs,T,h2,h3,h4,h5,h6⟩
   ·exact .inl hr
   ·refine .inr ⟨h1,sz,cs,T,h2,h3,h4,h5,?_⟩
    rintro o ho (hf|⟨m,hm,cs',k1,k2,_⟩)
    ·exact h6 o ho hf
    ·have:=own m _ hm cs' k1 k2
     rw[h1] at this; simp at this
  ·trivial
 refine⟨?_,⟨λt ht=>⟨.inl (h.2.1 t ht).1,(h.2.1 t ht).2⟩,h.2.2⟩⟩
 intro n ob dB
 by_cases hn:n∈zl vars rs
 ·rw[(Im vars rs heap n).1 hn] at dB
  simp only[ab] at dB
  obtain⟨ob0,h0,rfl⟩:=dB
  exact .inl rfl
 ·rw[(Im vars rs heap n).2 hn] at dB
  rcases h.1 n _ dB with rfl|⟨b,k1,k2,k3⟩
  ·exact .inl rfl
  refine .inr ⟨b,k1,k2,?_⟩
  have nofix:(∀o,¬G.fix b o)→∀o,¬(G.shut (zl vars rs) heap).fix b o:=by
   rintro hf o (h1|⟨m,hm,cs',j1,j2,_⟩)
   ·exact hf o h1
   ·have:=own m _ hm cs' j1 j2
    rw[k2] at this
    simp at this; subst this; exact hn hm
  cases ob with
  | cells cs =>
    obtain⟨f,cv,T,a1,a2,a3⟩:=k3
    refine⟨nofix f,cv,T,a1,a2,?_⟩
    intro k c x hc hx
    obtain⟨b1,b2,b3⟩:=a3 k c x hc hx
    refine⟨b1.shut,b2,?_⟩
    split at b3
    ·exact room b3
    ·trivial
  | map es =>
    obtain⟨mes,clock,a1,a2,a3,a4,a5⟩:=k3
    refine⟨mes,clock,a1,a2,a3,a4,?_⟩
    intro i e p hi hp
    obtain⟨b1,b2,b3⟩:=a5 i e p hi hp
    refine⟨b1.shut,b2.shut,?_⟩
    split at b3
    ·exact room b3
    ·trivial
  | bld bs =>
    obtain⟨f,p,v,a1,a2,a3⟩:=k3
    refine⟨nofix f,p,v,a1,a2,?_⟩
    rcases a3 with a3|⟨g,cap,cur,b1,b2,b3,b4⟩
    ·exact .inl a3
    ·refine .inr ⟨g,cap,cur,b1,b2,?_,b4⟩
     rintro o (h1|⟨m,hm,cs',j1,j2,_⟩)
     ·exact b3 o h1
     ·have:=own m _ hm cs' j1 j2
      rw[b2] at this; simp at this
  | siter s pos =>
    obtain⟨f,s',a1,a2⟩:=k3
    exact⟨nofix f,s',a1,a2⟩
  | gone=>trivial
  | loop ready =>
    obtain⟨f,r,a1,a2⟩:=k3
    exact⟨nofix f,r,a1,a2⟩
  | over id =>
    obtain⟨f,r,a1,a2⟩:=k3
    exact⟨nofix f,r,a1,a2⟩
theorem b9Z {size off n sz len:Nat} {agg ag:Bool} {cs:List PV} {u:PV} (hf:∀x∈cs,x.flat=true) (h:wz size agg cs off=some u) (hx : .rowp n sz ag len∈u.cells):n∈Bh cs:=by
 unfold wz at h
 split at h
 ·split at h
  ·simp only[aa] at h; subst h
   simp only[PV.cells,bl] at hx
   obtain⟨y,hy,e⟩:=hx
   have:y = .rowp n sz ag len:=by cases y<;>simp_all [dem]
   subst this
   exact F8 (cu (List.mem_of_mem_take hy))
  ·simp at h
 ·split at h
  ·rename_i y hy
   have hu:y = .rowp n sz ag len:=by
    have fS:=hf y (ax hy)
    cases y<;>simp[cp] at h<;>subst h<;>simp_all [PV.cells,PV.flat]
   subst hu
   exact F8 (ax hy)
  ·simp at h
def EI (a:Act) (r:ResultVar):Sem Value:=
 match r with
 | .tmp t=>pure (a.tmps.getD t undef)
 | .cell t ty=>do loadVar ty (← asAddr (a.tmps.getD t undef))
theorem b3d {kp:Bool} {vs:List Tmp} {nt:Nat} {w:World} {G:GS} {st:St} {a:Act} (hb:BI N w G st a vs nt) {ns:List Nat} {r:ResultVar} {p:PRes} {u:PV} (ja:∀n,n∈AT st.vars p→n∈ns) (hc:DI P kp vs r=some p) (hr:ym st p=some u):
  ∃v,(EI a r).run P w = .ok v w∧VR N w (G.shut ns st.heap).fix (G.shut ns st.heap).heap v u:=by
 cases r with
 | tmp t =>
   simp only[DI,ab] at hc
   obtain⟨i,hi,rfl⟩:=hc
   obtain⟨_,dM⟩:=Cd hi
   cases kp with
   | true =>
     simp only[if_true,ym,ae] at hr
     obtain⟨x,hx,hr⟩:=hr
     have hs:=hb.fi.var i t x (by simpa using dM) hx
     exact⟨a.tmps.getD t undef,rfl,(hs.read hr).1.shut⟩
   | false=>
   simp only[aH,if_false] at ja hr
   simp only[ym,ae] at hr
   obtain⟨x,hx,hr⟩:=hr
   have hs:=hb.fi.var i t x (by simpa using dM) hx
   refine⟨a.tmps.getD t undef,rfl,?_⟩
   split at hr
   ·simp at hr; subst hr
    exact hs.1.shut
   ·rename_i n sz agg len
    split at hr
    ·rename_i cS
     simp only[ae,ab] at hr
     obtain⟨cs,d9,es,fH,rfl⟩:=hr
     have cT:=(hs.read (r := .rowp n sz agg len) rfl).1
     generalize hg:a.eval (.tmp t)=v at cT
     have qR:a.tmps.getD t undef=v:=hg
     rw[qR]
     cases cT with
     | rowp _ _ _ _ b cap cX cV _ =>
       unfold xh at d9
       split at d9
       ·rename_i cs' hh
        simp at d9; subst d9
        exact Lx hb.fi.heap cV (ja n (by simp[AT,HY,hx,xt])) cX hh cS fH
       ·simp at d9
    ·simp at hr
   ·simp at hr; subst hr
    have cT:=(hs.read (r := .nils) rfl).1
    have qR:a.tmps.getD t undef=a.eval (.tmp t):=rfl
    rw[qR]
    generalize a.eval (.tmp t)=v at cT
    cases cT with
    | nils'=>exact .nils false
   ·exact(hs.read hr).1.shut
 | cell t ty =>
   simp only[DI,ae,ab] at hc
   obtain⟨i,hi,n,hn,rfl⟩:=hc
   obtain⟨_,dM⟩:=Cd hi
   simp only[ym] at hr
   split at hr
   ·rename_i g cs hv
    simp only[ae] at hr
    obtain⟨u0,hr,hz⟩:=hr
    have hs:=hb.fi.var i t _ (by simpa using dM) hv
    obtain⟨b,i',_,eh,_,_,_,cv,T,hh,hl,iH⟩:=hs
    obtain⟨hR,hcell⟩:=Io hh hl iH
    have eN:n≠0:=by obtain⟨_,_,_,_,h,_⟩:=yO hn; exact h
    obtain⟨k1,k2,k3⟩:=C3 hR hr eN (BL hn)
    have jX:a.tmps.getD t undef = .pointer (some ⟨b,0,none⟩):=eh
    have:=EJ (w:=w) hn b 0 cv.toList (by simpa using k1) (λj v hv=>by rw[aR]; exact hcell j v hv)
    refine⟨_,?_,Ly hb.fi.heap (λx hx m sz agg len e=>ja m ?_) k2 hz⟩
    rotate_left
    ·subst e
     simp only[AT,hv]
     exact b9Z hR.2.1 hr hx
    simp only[EI,jX,asAddr,Sem.run_bind,Sem.run_pure,Result.andThen_ok,this]
    simp
   ·rename_i m hv
    simp only[ae] at hr
    obtain⟨cs,d9,hr⟩:=hr
    have hs:=(hb.fi.var i t _ (by simpa using dM) hv)
    have hs:VR N w G.fix G.heap (a.eval (.tmp t)) (.ptr m 0):=hs
    generalize eh:a.eval (.tmp t)=pv at hs
    cases hs with
    | ptr _ _ b cX =>
      unfold xh at d9
      split at d9
      ·rename_i cs' nV
       simp only[aa] at d9
       subst d9
       rcases hb.fi.heap.1 m _ nV with ni|⟨b',k1,k2,f,cv,T,hh,hl,iH⟩
       ·simp at ni
       have:b'=b:=by rw[cX] at k1; simpa using k1.symm
       subst this
       obtain⟨hR,hcell⟩:=Lz hh hl iH
       have eN:n≠0:=by obtain⟨_,_,_,_,h,_⟩:=yO hn; exact h
       obtain⟨k1,k2,k3⟩:=C3 hR hr eN (BL hn)
       have jX:a.tmps.getD t undef = .pointer (some ⟨b',0,none⟩):=eh
       have:=EJ (w:=w) hn b' 0 (cv.toList.take cs'.length) (by simpa using k1) (λj v hv=>by rw[aR]; exact hcell j v hv)
       refine⟨_,?_,k2.shut⟩
       simp only[EI,jX,asAddr,Sem.run_bind,Sem.run_pure,Result.andThen_ok,this]
       simp
      ·simp at d9
   ·simp at hr
theorem LA {kp:Bool} {vs:List Tmp} {nt:Nat} {w:World} {G:GS} {st:St} {a:Act} (hb:BI N w G st a vs nt) {ns:List Nat}:∀{rs:List ResultVar} {ps:List PRes} {us:List PV},(∀p∈ps,∀n,n∈AT st.vars p→n∈ns)→AV P kp vs rs=some ps→xT st ps=some us →
  ∃ vals : List Value, (rs.mapM (EI a)).run P w = .ok vals w ∧ vals.length = us.length ∧
    ∀(i:Nat) (v:Value) (u:PV),vals[i]? = some v→us[i]? = some u→VR N w (G.shut ns st.heap).fix (G.shut ns st.heap).heap v u
 | [], ps, us, _, hc, hr => by
   simp[AV] at hc; subst hc
   simp[xT] at hr; subst hr
   exact⟨[],by simp,rfl,by simp⟩
 | r :: rs, ps, us, ja, hc, hr => by
   simp only[AV,ae,ab] at hc
   obtain⟨p,hp,ps',ea,rfl⟩:=hc
   simp only[xT,ae,ab] at hr
   obtain⟨u,hu,us',eG,rfl⟩:=hr
   obtain⟨v,h1,h2⟩:=b3d hb (ja p (bW ..)) hp hu
   obtain⟨vals,h3,h4,h5⟩:=LA hb (λp e=>ja p (bC _ e)) ea eG
   refine⟨v::vals,?_,by simp[h4],?_⟩
   ·rw[List.mapM_cons]
    simp only[Sem.run_bind,h1,Result.andThen_ok,h3,Sem.run_pure]
   ·intro i x y hx hy
    cases i with
    | zero=>simp at hx hy; subst hx hy; exact h2
    | succ i=>exact h5 i x y (by simpa using hx) (by simpa using hy)
structure DefW (w w':World):Prop where
 os:w'.os=w.os
 tape:w'.tape=w.tape
 output:w'.output=w.output
 size:w'.heap.size=w.heap.size
 heap:∀b:Nat,w'.heap[b]? = w.heap[b]?∨((∃x,w.heap[b]? = some (Obj.deferred x))∧∃y,w'.heap[b]? = some (Obj.deferred y))
theorem DefW.refl (w:World):DefW w w:=⟨rfl,rfl,rfl,rfl,λ_ => .inl rfl⟩
theorem DefW.get {w w':World} (h:DefW w w') {b:Nat} {ob:Obj} (hb:w.heap[b]? = some ob) (hn:∀x,ob≠Obj.deferred x):w'.heap[b]? = some ob:=by
 rcases h.heap b with e|⟨⟨x,e⟩,_⟩
 ·rw[e]; exact hb
 ·rw[hb] at e
  exact absurd (by simpa using e) (hn x)
theorem DefW.cell {w w':World} (h:DefW w w') (b o:Nat):w'.cell? ⟨b,o,none⟩=w.cell? ⟨b,o,none⟩:=by
 rcases h.heap b with e|⟨⟨x,e1⟩,y,e2⟩
 ·simp only[World.cell?,e]
 ·simp[World.cell?,e1,e2]
theorem DefW.shape {w w':World} (h:DefW w w'):ShapeLe w w':=by
 refine⟨?_,?_⟩
 ·intro b s hb
  rcases h.heap b with e|⟨⟨x,e1⟩,y,e2⟩
  ·unfold World.shape? at hb ⊢; rw[e]; exact hb
  ·simp[World.shape?,e1] at hb
 ·intro b s hb
  rcases h.heap b with e|⟨⟨x,e1⟩,y,e2⟩
  ·unfold yC at hb ⊢; rw[e]; exact hb
  ·simp[yC,e1] at hb
theorem VR.def' {w w':World} {G:GS} {v:Value} {p:PV} (h:VR N w G.fix G.heap v p) (d:DefW w w'):VR N w' G.fix G.heap v p:=
 h.mono (λb o hf=>⟨hf,d.cell b o⟩) (λ_ _ h=>h) d.shape
theorem Room.def' {w w':World} {G:GS} {key:Key} {v:Value} {es:List PV} (h:Room w G key v es) (d:DefW w w'):Room w' G key v es:=by
 unfold Room at *
 split at h
 ·rcases h with h|⟨h1,sz,cs,T,h2,⟨fz,h3,eO⟩,h4⟩
  ·exact .inl h
  ·exact .inr ⟨h1,sz,cs,T,h2,⟨fz,d.get h3 (by simp),eO⟩,h4⟩
 ·trivial
theorem CR.def' {w w':World} {G:GS} {key:Key} {v:Value} {p:PV} (h:CR N w G key v p) (d:DefW w w'):CR N w' G key v p:=by
 obtain⟨h1,h2,h3⟩:=h
 refine⟨h1.def' d,h2,?_⟩
 split at h3
 ·exact Room.def' h3 d
 ·trivial
theorem MR.def' {w w':World} {G:GS} {key:Key} {v:Value} {p:PV} (h:MR N w G key v p) (d:DefW w w'):MR N w' G key v p:=by
 obtain⟨h1,h3⟩:=h
 refine⟨h1.def' d,?_⟩
 split at h3
 ·exact Room.def' h3 d
 ·trivial
theorem SR.def' {w w':World} {G:GS} {key:Key} {v:Value} {p:PV} (h:SR N w G key v p) (d:DefW w w'):SR N w' G key v p:=by
 unfold SR at *
 split at h
 ·trivial
 ·obtain⟨b,i,fY,hv,hb,ho,hf,cv,T,h1,h2,h3⟩:=h
  exact⟨b,i,fY,hv,hb,ho,hf,cv,T,d.get h1 (by simp),h2,λk c x hc hx=>(h3 k c x hc hx).def' d⟩
 ·exact h
 ·exact⟨h.1.def' d,Room.def' h.2 d⟩
 ·exact h.def' d
theorem ObjR.def' {w w':World} {G:GS} {n b:Nat} {ob:PObj} (h:ObjR N w G n b ob) (d:DefW w w'):ObjR N w' G n b ob:=by
 cases ob with
 | cells cs =>
   obtain⟨f,cv,T,a1,a2,a3⟩:=h
   exact⟨f,cv,T,d.get a1 (by simp),a2,λk c x hc hx=>(a3 k c x hc hx).def' d⟩
 | map es =>
   obtain⟨mes,clock,a1,a2,a3,a4,a5⟩:=h
   exact⟨mes,clock,d.get a1 (by simp),a2,a3,a4,λi en p hi hp=>⟨(a5 i en p hi hp).1.def' d,(a5 i en p hi hp).2.def' d⟩⟩
 | bld bs =>
   obtain⟨f,p,v,a1,a2,a3⟩:=h
   refine⟨f,p,v,d.get a1 (by simp),a2,?_⟩
   rcases a3 with a3|⟨g,cap,cur,b1,b2,b3,b4,b5⟩
   ·exact .inl a3
   ·exact .inr ⟨g,cap,cur,b1,b2,b3,d.get b4 (by simp),b5⟩
 | siter s pos =>
   obtain⟨f,s',a1,a2⟩:=h
   exact⟨f,s',d.get a1 (by simp),a2⟩
 | gone=>trivial
 | loop ready =>
   obtain⟨f,r,a1,a2⟩:=h
   exact⟨f,r,d.get a1 (by simp),a2⟩
 | over id =>
   obtain⟨f,r,a1,a2⟩:=h
   exact⟨f,r,d.get a1 (by simp),a2⟩
theorem BI.def' {w w':World} {G:GS} {st:St} {a:Act} {vs:List Tmp} {nt:Nat} (h:BI N w G st a vs nt) (d:DefW w w'):BI N w' G st a vs nt:=by
 obtain⟨hf,hs⟩:=h
 refine⟨⟨hf.len,λi t u h1 h2=>(hf.var i t u h1 h2).def' d,λj t u h1 h2=>by simp at h1,hf.tv,hf.tl,hf.defers,hf.gen,by rw[d.size]; exact hf.owlt,by rw[d.size]; exact hf.fixlt,⟨?_,?_⟩,hf.hdom⟩,hs⟩
 ·intro n ob dB
  rcases hf.heap.1 n ob dB with h|⟨b,h1,h2,h3⟩
  ·exact .inl h
  ·exact .inr ⟨b,h1,h2,h3.def' d⟩
 ·refine⟨λt ht=>⟨(hf.heap.2.1 t ht).1,?_⟩,λr hr=>d.shape.1 _ _ (hf.heap.2.2 r hr)⟩
  rw[d.cell]; exact(hf.heap.2.1 t ht).2
theorem Ip {fn:Func} {tmps:Array Value} {R:Ending→World→Prop} {u:FrameMode} (hu:u≠.run) {G:GS} {w0:World}:
  ∀ {bs : List Nat} {w : World}, bs.Nodup → (∀ b ∈ bs, w0.heap.size ≤ b ∧ w.heap[b]? = some (.deferred (some [])) ∧ G.ow b = none) →
    (∀w',DefW w w'→(∀b,b<w0.heap.size→w'.heap[b]? = w.heap[b]?)→LeavesIn (W none) 0 P fn tmps R [] u w')→LeavesInM (W none) 0 P fn tmps R (bs.map λb=>{ target := .collected b,args := #[] }) u w
 | [],w,_,_,h=>h w (DefW.refl w) (λ_ _=>rfl)
 | b :: bs, w, hn, hb, h => by
   obtain⟨n1,n2⟩:=cw.1 hn
   obtain⟨k1,k2,k3⟩:=hb b (by simp)
   have cQ:b<w.heap.size:=(ba.1 k2).1
   have gZ:∀x,x≠b→(w.putObj b (.deferred none)).heap[x]? = w.heap[x]? := λx hx=>World.putObj_heap_other hx
   have hd:DefW w (w.putObj b (.deferred none)):=by
    refine⟨rfl,rfl,rfl,by simp[World.putObj],?_⟩
    intro x
    by_cases hx:x=b
    ·subst hx
     exact .inr ⟨⟨_,k2⟩,none,World.putObj_heap_same cQ⟩
    ·exact .inl (gZ x hx)
   refine⟨hu,.inl ⟨b,_,rfl,run_takeDeferred k2,?_⟩⟩
   refine Ip (w0:=w0) (G:=G) hu n2 ?_ ?_
   ·intro x hx
    have da:x≠b:=by rintro rfl; exact n1 hx
    obtain⟨j1,j2,j3⟩:=hb x (by simp[hx])
    exact⟨j1,(gZ x da).trans j2,j3⟩
   ·intro w' d2 ee
    refine h w' ?_ ?_
    ·refine⟨d2.os.trans hd.os,d2.tape.trans hd.tape,d2.output.trans hd.output,d2.size.trans hd.size,?_⟩
     intro x
     rcases d2.heap x with e|⟨⟨y,e1⟩,z,e2⟩
     ·rcases hd.heap x with e' | ⟨e1',z,e2'⟩
      ·exact .inl (e.trans e')
      ·exact .inr ⟨e1',z,e.trans e2'⟩
     ·rcases hd.heap x with e' | ⟨e1',_⟩
      ·exact .inr ⟨⟨y,by rw[← e']; exact e1⟩,z,e2⟩
      ·exact .inr ⟨e1',z,e2⟩
    ·intro x hx
     have da:x≠b:=by omega
     rw[ee x hx,gZ x da]
theorem DJ {w w1 w':World} {G G':GS} {st:St} {a:Act} {vs:List Tmp} {nt:Nat} (he:ExtD w G w1 G') (hb:BI N w1 G' st a vs nt) (d:DefW w1 w') (hs:∀b,b<w.heap.size→w'.heap[b]? = w1.heap[b]?) (vars:List PV) (rs:List PRes):
  Ext w G w' { fix:=(G'.shut (zl vars rs) st.heap).fix,heap:=G'.heap,box:=λ_=>none,ow:=yZ G'.ow,df:=G.df }∧Between N w' { fix:=(G'.shut (zl vars rs) st.heap).fix,heap:=G'.heap,box:=λ_=>none,ow:=yZ G'.ow,df:=G.df } (wM vars rs st.heap):=by
 have dy:=hb.def' d
 have he:Ext w { G with df:=G'.df } w1 G':=he
 refine⟨⟨d.os.trans he.os,d.tape.trans he.tape,d.output.trans he.output,by rw[d.size]; exact he.size,λb cQ h=>(hs b cQ).trans (he.same b cQ h),λb o h=>⟨.inl (he.fix b o h).1,(d.cell b o).trans (he.fix b o h).2⟩,?_,?_,he.heap,he.shape.trans d.shape,rfl⟩,⟨λb k h=>(DK h).2,λ_=>rfl⟩,?_,λb k h=>dy.fi.owlt b k (DK h).1,(dy.fi.heap.shut vars rs).sub rfl rfl (λb k hk h=>Iq h hk),?_⟩
 ·rintro b o (h|⟨n,_,cs,h1,h2,_⟩)
  ·exact he.newfix b o h
  ·rcases hb.fi.heap.1 n _ h2 with h3|⟨b',k1,k2,_⟩
   ·simp at h3
   rw[h1] at k1; cases k1
   exact .inr (he.own b (by rw[k2]; simp))
 ·intro b h
  refine he.own b ?_
  intro e
  exact h (by simp[yZ,e])
 ·rintro b o (h|⟨n,_,cs,h1,h2,_⟩)
  ·exact dy.fi.fixlt b o h
  ·rcases dy.fi.heap.1 n _ h2 with h3|⟨b',k1,k2,_⟩
   ·simp at h3
   rw[h1] at k1; cases k1
   exact dy.fi.owlt b _ k2
 ·rw[Lv]; exact dy.fi.hdom
theorem Ir {kp:Bool} {fn:Func} {vs:List Tmp} {nt:Nat} {w:World} {G:GS} {st:St} {a:Act} {rs:List PRes} {r:PV} (hb:BI N w G st a vs nt) (hc:AV P kp vs fn.results.toList=some rs) (hr:xa st rs=some r):
  ∃v,(results fn a.tmps).run P w = .ok v w∧VR N w (G.shut (zl st.vars rs) st.heap).fix (G.shut (zl st.vars rs) st.heap).heap v r:=by
 simp only[xa,ab] at hr
 obtain⟨us,eG,eY⟩:=hr
 obtain⟨rvals,h1,h2,h3⟩:=LA (P:=P) (ns:=zl st.vars rs) hb (λp hp n hn=>Lw hn hp) hc eG
 have hm:results fn a.tmps=(do let vs←fn.results.mapM (EI a); pure (if h:vs.size=1 then vs[0] else .tuple vs)):=rfl
 rw[hm,Array.mapM_eq_mapM_toList]
 simp only[Sem.run_bind,Sem.run_map]
 rw[h1]
 simp only[Result.andThen_ok,Sem.run_pure]
 subst eY
 cases us with
 | nil =>
   have:rvals=[]:=by simpa using h2
   subst this
   exact⟨.tuple #[],by simp,.tuple #[] _ rfl (by simp)⟩
 | cons u us2 =>
   cases us2 with
   | nil =>
     obtain⟨v,rfl⟩:=List.length_eq_one_iff.1 (by simpa using h2)
     exact⟨v,by simp,h3 0 v u rfl rfl⟩
   | cons u2 us3 =>
     refine⟨.tuple rvals.toArray,?_,.tuple _ _ ?_ ?_⟩
     ·have:¬rvals.toArray.size=1:=by
       intro e
       have e':rvals.length=1:=e
       rw[h2] at e'
       simp at e'
      rw[dif_neg this]
     ·simpa using h2
     ·intro i v p hv hp
      simp only[aF,ab] at hp
      obtain⟨q,hq,rfl⟩:=hp
      exact(h3 i v q (by simpa using hv) hq).dem
theorem c1U {L:Nat→Option PFunc} (hE:EnvOk E N) (hP:E.P=P) (dq:P.follows .mixedOrders=true) (hF:yr N P L) (hL:∀k pf,L k=some pf→FnS E N k pf) {n:Nat} (cO:∀m,m<n→Runs N P L m)
  {k:Nat} {pf:PFunc} {fn:Func} {vs:List Tmp} (mh:FnC E N k pf fn vs) (gX:pf.code.isRound=false) {args:List PV} {o:Out} {h0 h':List PObj} (hc:yX (wr L n) (yp L) pf args h0=some (o,h')) (dp:args.length=pf.params)
  {w:World} {G:GS} {vals:Array Value} (d4:Between N w G h0) (cS:vals.size=args.length) (cT:∀(i:Nat) (v:Value) (p:PV),vals[i]? = some v→args[i]? = some p→VR N w G.fix G.heap v p):
  Calls P (N.fn k) vals w λe w'=>∃G',Ai N w' G' e o∧Ext w G w' G'∧Between N w' G' h':=by
 obtain⟨f1,f2,f3,f4,f5,f6,f7,opt,f8,f8',f9⟩:=mh
 simp only[ab] at f8
 obtain⟨c,fK,jY⟩:=f8
 rw[hP] at f1
 rw[hP] at f9
 have nj:LpOK (E.opt opt) N fn.ntmps (N.fn k) c:=by
  rcases f8' with h|h
  ·intro ps kb vars hl
   simp only[Env.opt,h] at hl
   simp at hl
  ·exact h c fK
 let st0:St:={ vars:=args.map dem++List.replicate (pf.nv - pf.params) .dead,locs:=[],gen:=0,heap:=h0 }
 let a0:Act:={ tmps:=vals++Array.replicate (fn.ntmps - vals.size) undef,defers:=[] }
 let G0:GS:={ G with df:=[] }
 have fI:BI N w G0 st0 a0 vs fn.ntmps:=by
  refine⟨⟨?_,?_,(by intro j t u hj; simp at hj),?_,(by intro j t hj; simp at hj),rfl,(by intro g b h; have h:G.box g=some b:=h; rw[d4.only.box] at h; simp at h),d4.owlt,d4.fixlt,d4.heap,d4.hdom⟩,?_⟩
  ·simp only[st0,ap,aN,cF,f5,dp]; omega
  ·intro i t u h1 h2
   by_cases hi:i<pf.params
   ·have ht:t=i:=by rw[f7 i hi] at h1; simpa using h1.symm
    subst ht
    have gM:t<args.length:=by rw[dp]; exact hi
    simp only[st0] at h2
    rw[am (by simpa using gM)] at h2
    simp only[aF,av gM,aA,aa] at h2
    subst h2
    have jK:t<vals.size:=by rw[cS]; exact gM
    have eM:a0.eval (.tmp t)=vals[t]:=by
     simp only[a0,Act.eval,aM]
     rw[bm jK]
     simp[jK]
    rw[eM]
    have hv:=cT t vals[t] args[t] (by simp[jK]) (av gM)
    exact SR.of_pure hv.dem hv.cp_dem
   ·simp only[st0] at h2
    rw[ar (by rw[aN,dp]; omega)] at h2
    rw[ct] at h2
    split at h2
    ·simp at h2; subst h2; trivial
    ·simp at h2
  ·intro i t h1
   have h3:=f4 t (ax h1)
   simp only[a0,bH,cy]
   exact aK h3 ((Nat.sub_le_iff_le_add').1 (ao _))
  ·simp only[a0,bH,cy]
   exact(Nat.sub_le_iff_le_add').1 (ao _)
 have walk:∀(x:PExit) (st':St),wr L n pf.code st0=some (x,st')→(∀a' w' G' e,yY N w' G' x e→BI N w' G' st' a' vs fn.ntmps→ExtD w G w' G'→DfR pf.code x w G0 w' G'→LB P fn (λe w'=>∃G',Ai N w' G' e o∧Ext w G w' G'∧Between N w' G' h') e a' w') →
   Calls P (N.fn k) vals w λe w'=>∃G',Ai N w' G' e o∧Ext w G w' G'∧Between N w' G' h':=by
  intro x st' hx hq
  refine LC f1 fK ?_
  exact Ca (rd':=none) hF (hE.opt opt) hP dq f3 n cO (by rw[← jY]; exact EB) hx fI nj (.inl rfl) (fun⟨_,_,h⟩=>h) hq
 have marks:∀{x:PExit} {w':World} {G':GS} {st':St} {a':Act} {R:Ending→World→Prop} {u:FrameMode},u≠.run→x.plain=true→BI N w' G' st' a' vs fn.ntmps→DfR pf.code x w G0 w' G' →
   (∀w'',DefW w' w''→(∀b,b<w.heap.size→w''.heap[b]? = w'.heap[b]?)→LeavesIn (W none) 0 P fn a'.tmps R [] u w'')→LeavesInM (W none) 0 P fn a'.tmps R a'.defers u w':=by
  intro x w' G' st' a' R u hu hx hb hd hK
  have key:(∃ms,G'.df=ms++G0.df∧Marks w w' G' ms∧(pf.code.NR=true→ms=[]))→LeavesInM (W none) 0 P fn a'.tmps R a'.defers u w':=by
   rintro⟨ms,h1,⟨bs,rfl,h2,h3⟩,_⟩
   have iI:a'.defers=bs.map λb=>{ target := .collected b,args := #[] }:=by
    rw[hb.fi.defers,h1]; exact aV _
   rw[iI]
   exact Ip (G:=G') (w0:=w) hu h2 h3 hK
  cases x with
  | after _ _ _=>simp[PExit.plain] at hx
  | normal=>exact key hd
  | exit _=>exact key hd
  | ret=>exact key hd
  | boom _=>exact key hd
 have fin:∀(x:PExit) (st':St),wr L n pf.code st0=some (x,st')→(x = .normal∨x = .ret)→(xa st' pf.results).map (λr=>(Out.val r,wM st'.vars pf.results st'.heap))=some (o,h') →
   Calls P (N.fn k) vals w λe w'=>∃G',Ai N w' G' e o∧Ext w G w' G'∧Between N w' G' h':=by
  intro x st' hx pY dt
  simp only[ab,ac] at dt
  obtain⟨r,hr,rfl,rfl⟩:=dt
  refine walk x st' hx ?_
  intro a' w' G' e he cX cL ed
  have hp:x.plain=true:=by rcases pY with rfl|rfl<;>rfl
  have hL:=marks (R:=λe w'=>∃G',Ai N w' G' e (.val r)∧Ext w G w' G'∧Between N w' G' (wM st'.vars pf.results st'.heap)) (u := .returning) (by simp) hp cX ed (by
   intro w'' d ee
   obtain⟨v,iJ,jv⟩:=Ir (cX.def' d) f9 hr
   obtain⟨l1,l2⟩:=DJ cL cX d ee st'.vars pf.results
   exact⟨v,iJ,_,by exact⟨v,rfl,jv⟩,l1,l2⟩)
  rcases pY with rfl|rfl<;>(simp only[yY] at he; subst he; exact hL)
 unfold yX at hc
 split at hc
 ·rename_i heq; rw[heq] at gX; simp[PC.isRound] at gX
 ·split at hc
  ·rename_i st' hx
   exact fin .normal st' hx (.inl rfl) hc
  ·rename_i st' hx
   exact fin .ret st' hx (.inr rfl) hc
  ·rename_i p st' hx
   simp only[aa,ac] at hc
   obtain⟨rfl,rfl⟩:=hc
   refine walk _ st' hx ?_
   rintro a' w' G' e ⟨v,rfl,hv⟩ cX cL ed
   refine marks (x := .boom p) (by simp) rfl cX ed ?_
   intro w'' d ee
   obtain⟨l1,l2⟩:=DJ cL cX d ee st'.vars []
   exact⟨_,by exact⟨v,rfl,(hv.def' d).shut⟩,l1,l2⟩
  ·rename_i kd caps vo st' hx
   split at hc
   ·simp at hc
   ·rename_i qS
    have qT:pf.code.NR=true:=by simpa using qS
    simp only[ae,ab,ac] at hc
    obtain⟨h1,jJ,r,hr,rfl,rfl⟩:=hc
    obtain⟨g,fd,iC,hg,uw⟩:∃g fd,L kd=some fd∧g (vo.getD .nilIface::caps) st'.heap=some h1∧CH N P kd g:=by
     unfold yp at jJ
     split at jJ
     ·rename_i f hf
      split at jJ
      ·rename_i g hg
       have fW:FnF E N kd f:=by
        rcases hL kd f hf with h|⟨y,fn,vs,o,a,b,h⟩
        ·exact h
        ·rw[h.dfr] at hg; simp at hg
       rcases fW.2.2.2 with⟨_,h,_⟩|⟨_,_,_,h,_⟩|⟨g',fd,_,_,h3,h4,h5,h6,h7⟩
       ·rw[h] at hg; simp at hg
       ·rw[h] at hg; simp at hg
       ·rw[hg] at h3
        simp only[aa] at h3
        subst h3
        exact⟨g,f,hf,jJ,by rw[← hP]; exact h7⟩
      ·simp at jJ
     ·simp at jJ
    refine walk _ st' hx ?_
    intro a' w' G' e he cX cL ed
    obtain⟨d1,gu⟩:∃d,G'.df=d::G0.df:=ed qT
    have last:∀(u:FrameMode),Clo N w' G' kd caps→u≠.run→(u = .returning∧vo.getD .nilIface = .nilIface∨∃v,u = .panicking [{ v,recovered:=false }]∧VR N w' G'.fix G'.heap v (vo.getD .nilIface)) →
      LeavesInM (W none) 0 P fn a'.tmps (λe w'=>∃G',Ai N w' G' e (.val r)∧Ext w G w' G'∧Between N w' G' (wM st'.vars pf.results h1)) a'.defers u w':=by
     rintro u ⟨d,ds,vals',k1,rfl,k3,k4⟩ hu eH
     have qU:ds=[]:=by
      rw[gu] at k1
      simp only[bx] at k1
      exact k1.2.symm
     subst qU
     have iI:a'.defers=[{ target := .fn (.func (N.fn kd)) vals',args := #[] }]:=by rw[cX.fi.defers,k1]
     rw[iI]
     have jt:(invoke (.fn (.func (N.fn kd)) vals') #[]).run P w' = .ok (.enter (N.fn kd) vals') w':=by
      simp only[invoke,Array.empty_append]
      exact BK hF iC _ _
     refine⟨hu,.inr ⟨DL,_,_,_,_,rfl,jt,λ_ _=>Ah _,?_⟩⟩
     refine(uw _ _ _ _ hg w' G'.callee vals' (DB cX.fi) k3 k4 u eH).mono ?_
     rintro e u' w'' ⟨⟨v,rfl⟩,wT,G2,qV,dy⟩
     obtain⟨G3,jZ,ux,_,_⟩:=F6 cX.fi qV dy
     have kN:BI N w'' G3 { st' with heap:=h1 } a' vs fn.ntmps:=⟨ux,cX.size⟩
     simp only[wT]
     obtain⟨v2,iJ,jv⟩:=Ir kN f9 hr
     obtain⟨l1,l2⟩:=DJ (ExtD.trans cL (.of jZ)) kN (DefW.refl _) (λ_ _=>rfl) st'.vars pf.results
     exact⟨v2,iJ,_,by exact⟨v2,rfl,jv⟩,l1,l2⟩
    cases vo with
    | none =>
      obtain⟨he,iG⟩:=he
      have:=last .returning iG (by simp) (.inl ⟨rfl,rfl⟩)
      rcases he with rfl|rfl<;>exact this
    | some p =>
      obtain⟨⟨v,rfl,hv⟩,iG⟩:=he
      exact last _ iG (by simp) (.inr ⟨v,rfl,hv⟩)
  ·simp at hc
theorem c1V {kp:Bool} {fn:Func} {vs:List Tmp} {nt:Nat} {w:World} {G:GS} {st:St} {a:Act} {rs:List PRes} {es:List PV} {v:Value} (hb:BI N w G st a vs nt) (hc:AV P kp vs fn.results.toList=some rs) (hr:xa st rs=some (.list true es))
  (hv:(results fn a.tmps).run P w = .ok v w):∃i,Room w G (.var i) v es:=by
 simp only[xa,ab] at hr
 obtain⟨us,eG,eY⟩:=hr
 have mi:us=[.list true es]:=by
  cases us with
  | nil=>simp at eY
  | cons u us => cases us with
    | nil=>simp at eY; subst eY; rfl
    | cons _ _=>simp at eY
 subst mi
 cases rs with
 | nil=>simp[xT] at eG
 | cons p ps =>
   simp only[xT,ae,ab] at eG
   obtain⟨u,hp,us',ea,he⟩:=eG
   simp only[bx] at he
   obtain⟨rfl,rfl⟩:=he
   have qW:ps=[]:=by
    cases ps with
    | nil=>rfl
    | cons q qs =>
      simp only[xT,ae,ab] at ea
      obtain⟨_,_,_,_,h⟩:=ea
      simp at h
   subst qW
   cases hl:fn.results.toList with
   | nil=>rw[hl] at hc; simp[AV] at hc
   | cons r0 rl =>
     rw[hl] at hc
     simp only[AV,ae,ab] at hc
     obtain⟨q,hq,qs,jL,he⟩:=hc
     simp only[bx] at he
     obtain⟨rfl,rfl⟩:=he
     have mj:rl=[]:=by
      cases rl with
      | nil=>rfl
      | cons x xs =>
        simp only[AV,ae,ab] at jL
        obtain⟨_,_,_,_,h⟩:=jL
        simp at h
     subst mj
     have noList:∀{x:Option PV},x.bind cp=some (.list true es)→False:=by
      intro x h
      cases x with
      | none=>simp at h
      | some y=>cases y<;>simp[cp] at h
     have qX:∃i,q = .var i∧st.vars[i]? = some (.list true es):=by
      cases q with
      | keep i=>simp only[ym] at hp; exact(noList hp).elim
      | cell i size agg =>
        have noLoad:∀{size agg cs off},wz size agg cs off=some (.list true es)→False:=by
         intro size agg cs off h
         unfold wz at h
         split at h
         ·split at h<;>simp at h
         ·split at h
          ·rename_i y _; cases y<;>simp[cp] at h
          ·simp at h
        simp only[ym] at hp
        split at hp
        ·simp only[ae] at hp
         obtain⟨y,hy,hf⟩:=hp
         have:y = .list true es:=by
          cases y<;>simp[xF] at hf
          simp[hf]
         subst this
         exact(noLoad hy).elim
        ·simp only[ae] at hp
         obtain⟨cs,_,hy⟩:=hp
         exact(noLoad hy).elim
        ·simp at hp
      | var i =>
        refine⟨i,rfl,?_⟩
        simp only[ym,ae] at hp
        obtain⟨x,hx,gK⟩:=hp
        split at gK
        ·simp at gK; subst gK; exact hx
        ·split at gK
         ·simp only[ae,ab] at gK
          obtain⟨_,_,_,_,h⟩:=gK
          simp at h
         ·simp at gK
        ·simp at gK
        ·exact(noList (x:=some _) (by simpa using gK)).elim
     obtain⟨i,rfl,hi⟩:=qX
     cases r0 with
     | cell t ty =>
       simp only[DI,ae,ab] at hq
       obtain⟨_,_,_,_,h⟩:=hq
       simp at h
     | tmp t =>
       simp only[DI,ab] at hq
       obtain⟨i',it,jw⟩:=hq
       obtain⟨_,dM⟩:=Cd it
       have:i'=i:=by cases kp<;>simp at jw; exact jw
       subst this
       have hs:=hb.fi.var i' t _ (by simpa using dM) hi
       have dt:fn.results = #[.tmp t]:=by
        have:=aE List.toArray hl
        simpa using this
       have pZ:v=a.eval (.tmp t):=by
        simp[results,dt] at hv
        simp[Act.eval]
        exact hv.symm
       rw[pZ]
       exact⟨i',hs.2⟩
theorem b90 {L:Nat→Option PFunc} (hE:EnvOk E N) (hP:E.P=P) (dq:P.follows .mixedOrders=true) (hF:yr N P L) {n:Nat} (cO:∀m,m<n→Runs N P L m)
  {k:Nat} {pf:PFunc} {fn:Func} {vs:List Tmp} (mh:FnC E N k pf fn vs) {own:Option Nat} {args:List PV} {r:PV} {h':List PObj} (hc:zE (wr L n) pf own args []=some (r,h')) (dp:args.length=pf.params)
  {w:World} {G:GS} {vals:Array Value} (dC:OwnIn N w G own args vals):
  Calls P (N.fn k) vals w λe w'=>∃v G',e = .returned v∧VR N w' G'.fix G'.heap v r∧Ext w G w' G'∧(∀b o,G'.fix b o→b<w'.heap.size)∧∀es,r = .list true es→C4 w G w' G' v es:=by
 obtain⟨f1,f2,f3,f4,f5,f6,f7,opt,f8,f8',f9⟩:=mh
 simp only[ab] at f8
 obtain⟨c,fK,jY⟩:=f8
 rw[hP] at f1
 rw[hP] at f9
 have nj:LpOK (E.opt opt) N fn.ntmps (N.fn k) c:=by
  rcases f8' with h|h
  ·intro ps kb vars hl
   simp only[Env.opt,h] at hl
   simp at hl
  ·exact h c fK
 have lI:(Cw own args).length=args.length:=by cases own<;>simp[Cw]
 let st0:St:={ vars:=Cw own args++List.replicate (pf.nv - pf.params) .dead,locs:=[],gen:=0,heap:=[] }
 let a0:Act:={ tmps:=vals++Array.replicate (fn.ntmps - vals.size) undef,defers:=[] }
 let G0:GS:={ G with df:=[] }
 have fI:BI N w G0 st0 a0 vs fn.ntmps:=by
  refine⟨⟨?_,?_,(by intro j t u hj; simp at hj),?_,(by intro j t hj; simp at hj),rfl,(by intro g b h; have h:G.box g=some b:=h; rw[dC.box] at h; simp at h),dC.owlt,dC.fixlt,⟨by intro n ob h; simp[st0] at h,dC.tab⟩,(by intro n b h; have h:G.heap n=some b:=h; rw[dC.heap] at h; simp at h)⟩,?_⟩
  ·simp only[st0,ap,lI,cF,f5,dp]; omega
  ·intro i t u h1 h2
   by_cases hi:i<pf.params
   ·have ht:t=i:=by rw[f7 i hi] at h1; simpa using h1.symm
    subst ht
    have gM:t<args.length:=by rw[dp]; exact hi
    simp only[st0] at h2
    rw[am (by rw[lI]; exact gM)] at h2
    have jK:t<vals.size:=by rw[dC.size]; exact gM
    have eM:a0.eval (.tmp t)=vals[t]:=by
     simp only[a0,Act.eval,aM]
     rw[bm jK]
     simp[jK]
    rw[eM]
    have hv:=dC.vr t vals[t] args[t] (by simp[jK]) (av gM)
    have plain:u=dem args[t]→SR N w G0 (.var t) vals[t] u:=by
     rintro rfl
     exact SR.of_pure hv.dem hv.cp_dem
    cases own with
    | none =>
      refine plain ?_
      simp only[Cw,aF,av gM,aA,aa] at h2
      exact h2.symm
    | some i =>
      simp only[Cw,aL,aN] at h2
      split at h2
      ·rename_i uy
       subst uy
       rw[ah gM] at h2
       simp only[cK,av gM,bI,aa] at h2
       subst h2
       rcases hv.cp_or with h|⟨es,h⟩
       ·exact SR.of_pure hv h
       ·rw[h] at hv ⊢
        exact⟨hv,dC.room i vals[i] es rfl (by simp[jK]) (by rw[av gM,h])⟩
      ·refine plain ?_
       simp only[aF,av gM,aA,aa] at h2
       exact h2.symm
   ·simp only[st0] at h2
    rw[ar (by rw[lI,dp]; omega)] at h2
    rw[ct] at h2
    split at h2
    ·simp at h2; subst h2; trivial
    ·simp at h2
  ·intro i t h1
   have h3:=f4 t (ax h1)
   simp only[a0,bH,cy]
   exact aK h3 ((Nat.sub_le_iff_le_add').1 (ao _))
  ·simp only[a0,bH,cy]
   exact(Nat.sub_le_iff_le_add').1 (ao _)
 have fin:∀(x:PExit) (st':St),wr L n pf.code st0=some (x,st')→(x = .normal∨x = .ret)→(xa st' pf.results).map (λr=>(r,wM st'.vars pf.results st'.heap))=some (r,h') →
   Calls P (N.fn k) vals w λe w'=>∃v G',e = .returned v∧VR N w' G'.fix G'.heap v r∧Ext w G w' G'∧(∀b o,G'.fix b o→b<w'.heap.size)∧∀es,r = .list true es→C4 w G w' G' v es:=by
  intro x st' hx pY dt
  simp only[ab,ac] at dt
  obtain⟨r,hr,rfl,rfl⟩:=dt
  refine LC f1 fK ?_
  refine Ca (rd':=none) hF (hE.opt opt) hP dq f3 n cO (by rw[← jY]; exact EB) hx fI nj (.inl rfl) (fun⟨_,_,h⟩=>h) ?_
  intro a' w' G' e he cX cL ed
  have cL:ExtD w G w' G':=cL
  have key:(∃ms,G'.df=ms++G0.df∧Marks w w' G' ms∧(pf.code.NR=true→ms=[]))→LeavesInM (W none) 0 P fn a'.tmps (λe w'=>∃v G',e = .returned v∧VR N w' G'.fix G'.heap v r∧Ext w G w' G'∧(∀b o,G'.fix b o→b<w'.heap.size)∧∀es,r = .list true es→C4 w G w' G' v es) a'.defers .returning w':=by
   rintro⟨ms,h1,⟨bs,rfl,h2,h3⟩,_⟩
   have iI:a'.defers=bs.map λb=>{ target := .collected b,args := #[] }:=by
    rw[cX.fi.defers,h1]; exact aV _
   rw[iI]
   refine Ip (G:=G') (w0:=w) (by simp) h2 h3 ?_
   intro w'' d ee
   obtain⟨v,iJ,jv⟩:=Ir (cX.def' d) f9 hr
   obtain⟨l1,l2⟩:=DJ cL cX d ee st'.vars pf.results
   refine⟨v,iJ,v,{ fix:=(G'.shut (zl st'.vars pf.results) st'.heap).fix,heap:=G'.heap,box:=λ_=>none,ow:=yZ G'.ow,df:=G.df },rfl,jv,l1,l2.fixlt,?_⟩
   rintro es rfl
   obtain⟨i,hi⟩:=c1V (cX.def' d) f9 hr iJ
   unfold C4
   unfold Room at hi
   split at hi
   ·rename_i a1 len cap
    rcases hi with hi|⟨i1,sz,cs,T,i2,i3,i4,i5,i6⟩
    ·exact .inl hi
    ·refine .inr ⟨?_,sz,cs,T,i2,i3,i4,i5,?_⟩
     ·exact cL.own a1.block (by rw[i1]; simp)
     ·rintro o ho (h|⟨m,hm,cs',j1,j2,_⟩)
      ·exact i6 o ho h
      ·rcases cX.fi.heap.1 m _ j2 with h3|⟨b',k1,k2,_⟩
       ·simp at h3
       ·rw[j1] at k1
        simp only[aa] at k1
        subst k1
        rw[i1] at k2
        simp at k2
   ·rename_i da
    split
    ·rename_i a1 len cap; exact absurd rfl (da _ _ _)
    ·trivial
  rcases pY with rfl|rfl<;>(simp only[yY] at he; subst he; exact key ed)
 unfold zE at hc
 split at hc
 ·simp at hc
 ·split at hc
  ·rename_i st' hx
   exact fin .normal st' hx (.inl rfl) hc
  ·rename_i st' hx
   exact fin .ret st' hx (.inr rfl) hc
  ·simp at hc
theorem LD:∀(ps:List (Tmp×Value)) (a:Array Value),(ps.foldl (λtmps x=>tmps.setIfInBounds x.1 x.2) a).size=a.size∧(∀t,t∉ps.map (·.1)→(ps.foldl (λtmps x=>tmps.setIfInBounds x.1 x.2) a).getD t undef=a.getD t undef) ∧
  ((ps.map (·.1)).Nodup→∀x∈ps,x.1<a.size→(ps.foldl (λtmps x=>tmps.setIfInBounds x.1 x.2) a).getD x.1 undef=x.2)
 | [],a=>⟨rfl,λ_ _=>rfl,by simp⟩
 | (t0, v0) :: ps, a => by
   obtain⟨h1,h2,h3⟩:=LD ps (a.setIfInBounds t0 v0)
   simp only[List.foldl_cons,aC,ay,not_or,cw]
   refine⟨by rw[h1]; simp,?_,?_⟩
   ·rintro t ⟨n1,n2⟩
    rw[h2 t n2]
    simp only[aM,bb]
    rw[af (λe=>n1 e.symm)]
   ·rintro⟨n1,n2⟩ x (rfl|hx) cQ
    ·rw[h2 _ n1]
     simp only[aM,bb,if_true]
     simp[cQ]
    ·exact h3 n2 x hx (by simpa using cQ)
theorem b6Z {L:Nat→Option PFunc} (hE:EnvOk E N) (hP:E.P=P) (dq:P.follows .mixedOrders=true) (hF:yr N P L) {n:Nat} (cO:∀m,m<n→Runs N P L m)
  {k:Nat} {pf:PFunc} {y:YL} {fn:Func} {vs:List Tmp} {opt:Opts} {ca cb:PC} (hR:RdC E N k pf y fn vs opt ca cb) {n0 l:Nat} {caps args:List PV} {o:Out} {h0 h':List PObj}
  (hc:Af (wr L n) pf.nv ca cb (.ptr n0 0::caps++args) h0=some (o,h')) (dp:(PV.ptr n0 0::caps++args).length=1+(y.vars.length+y.params.size))
  {w:World} {G:GS} {vals:Array Value} (d4:Between N w G h0) (hy:VR N w G.fix G.heap (.func (.yield l) #[] #[]) (.func k (.ptr n0 0::caps) [])) (cS:vals.size=args.length)
  (cT:∀(i:Nat) (v:Value) (p:PV),vals[i]? = some v→args[i]? = some p→VR N w G.fix G.heap v p):
  ∃tmps',(Instr.yield l vals).run P w = .ok (.round l y.fn tmps' y.assign y.body) w∧∀r n',RoundIn (W r) n' P l y.fn tmps' y.assign y.body w λe w'=>∃G',Ai N w' G' e o∧Ext w G w' G'∧Between N w' G' h':=by
 have ei:P.funcs[y.fn]? = some fn:=by rw[← hP]; exact hR.inP
 generalize lJ:Value.func (.yield l) #[] #[]=xv at hy
 generalize gK:PV.func k (.ptr n0 0::caps) []=xp at hy
 cases hy with
 | yield k' n' l' y' tmps caps' q0 ql qr qlen qsz qc =>
   simp only[PV.func.injEq,bx,PV.ptr.injEq] at gK
   obtain⟨rfl,⟨⟨rfl,_⟩,rfl⟩,_⟩:=gK
   simp only[Value.func.injEq,Fn.yield.injEq] at lJ
   obtain⟨rfl,_⟩:=lJ
   have:y'=y:=by have:=hR.yl; rw[q0] at this; simpa using this
   subst this
   obtain⟨r0,p5,e1,e2,e3,e4,e5⟩:∃r0:Go.Loop,w.heap[l]? = some (.loop r0)∧r0.fn=y'.fn∧r0.tmps=tmps∧r0.params=y'.params∧r0.assign=y'.assign∧r0.body=y'.body:=by
    unfold yC at qr
    split at qr
    ·rename_i r0 h
     simp only[aa,ac] at qr
     exact⟨r0,h,qr⟩
    ·simp at qr
   have qY:args.length=y'.params.size:=by simp at dp; omega
   have nW:=run_yield (P:=P) (args:=vals) p5 (by rw[cS,e3]; exact qY)
   rw[e1,e4,e5,e2,e3] at nW
   refine⟨_,nW,?_⟩
   intro r n'
   have eB:(y'.params.zip vals).foldl (λtmps x=>tmps.setIfInBounds x.1 x.2) tmps=(y'.params.toList.zip vals.toList).foldl (λtmps x=>tmps.setIfInBounds x.1 x.2) tmps:=by
    rw[← Array.foldl_toList,Array.toList_zip]
   obtain⟨z1,z2,z3⟩:=LD (y'.params.toList.zip vals.toList) tmps
   have qZ:(y'.params.toList.zip vals.toList).map (·.1)=y'.params.toList:=by
    rw[List.map_fst_zip]; simp; omega
   rw[qZ] at z2 z3
   have q8:(y'.vars++y'.params.toList).Nodup:=by rw[← hR.head]; exact hR.nd.sublist (List.take_sublist _ _)
   obtain⟨_,nd2,nd3⟩:=cz.1 q8
   have d7:y'.vars.length+y'.params.size≤vs.length:=by
    have:=aE List.length hR.head
    simp at this; omega
   generalize s4:(y'.params.zip vals).foldl (λtmps x=>tmps.setIfInBounds x.1 x.2) tmps=tmps'
   rw[eB] at s4
   rw[s4] at z1 z2 z3
   have pZ:∀i,i<y'.vars.length+y'.params.size→vs[i]? = (y'.vars++y'.params.toList)[i]? := by
    intro i hi
    rw[← hR.head,aS,ah hi]
   let st0:St:={ vars:=(caps++args).map dem++List.replicate (pf.nv - (caps++args).length) .dead,locs:=[],gen:=0,heap:=h0 }
   let a0:Act:={ tmps:=tmps',defers:=[] }
   let G0:GS:={ G with df:=[] }
   have jM:(caps++args).length=y'.vars.length+y'.params.size:=by simp; omega
   have fI:BI N w G0 st0 a0 vs y'.nt:=by
    refine⟨⟨?_,?_,(by intro j t u hj; simp at hj),?_,(by intro j t hj; simp at hj),rfl,(by intro g b h; have h:G.box g=some b:=h; rw[d4.only.box] at h; simp at h),d4.owlt,d4.fixlt,d4.heap,d4.hdom⟩,?_⟩
    ·have:=hR.len
     simp only[st0,ap,aN,cF] at jM ⊢
     omega
    ·intro i t u h1 h2
     by_cases hi:i<(caps++args).length
     ·rw[pZ i (by omega)] at h1
      simp only[st0] at h2
      rw[am (by simpa using hi)] at h2
      simp only[aF,av hi,aA,aa] at h2
      subst h2
      have eh:VR N w G.fix G.heap (tmps'.getD t undef) (caps++args)[i]:=by
       by_cases dM:i<y'.vars.length
       ·rw[am dM] at h1
        have s5:i<caps.length:=by omega
        have hq:=qc i t caps[i] h1 (by simp[s5])
        have nX:t∉y'.params.toList:=λhm=>nd3 t (ax h1) t hm rfl
        rw[z2 t nX]
        rw[List.getElem_append_left s5]
        exact hq
       ·rw[ar (by omega)] at h1
        have uz:i - caps.length<args.length:=by rw[ap] at hi; omega
        have s6:i - caps.length<vals.size:=by omega
        rw[List.getElem_append_right (by omega)]
        have uA:y'.params.toList[i - caps.length]? = some t:=by rw[qlen]; exact h1
        have dX:(t,vals[i - caps.length])∈y'.params.toList.zip vals.toList:=by
         refine bh.2 ⟨i - caps.length,?_⟩
         rw[List.getElem?_zip_eq_some]
         exact⟨uA,by simp[s6]⟩
        have nk:t<tmps.size:=by
         have hm:t∈vs:=by
          have h3:=pZ i (by omega)
          rw[ar (by omega)] at h3
          rw[h1] at h3
          exact ax h3
         exact aK (hR.lt t hm) qsz
        rw[z3 nd2 _ dX nk]
        exact cT (i - caps.length) _ _ (by simp[s6]) (by simp[uz])
      have eM:a0.eval (.tmp t)=tmps'.getD t undef:=rfl
      rw[eM]
      exact SR.of_pure eh.dem eh.cp_dem
     ·simp only[st0] at h2
      rw[ar (by simpa using hi)] at h2
      rw[ct] at h2
      split at h2
      ·simp at h2; subst h2; trivial
      ·simp at h2
    ·intro i t h1
     have:=hR.lt t (ax h1)
     show t<tmps'.size
     rw[z1]; exact aK this qsz
    ·show y'.nt≤tmps'.size
     rw[z1]; exact qsz
   have nj:∀c,LpOK (E.opt opt) N y'.nt y'.fn c:=by
    intro c ps kb vars hl
    simp only[Env.opt,hR.lps] at hl
    simp at hl
   have rec1:∀{w':World} {G':GS} {st:St} {a:Act} {ready:Bool},ExtD w G0 w' G'→BI N w' G' st a vs y'.nt→st.heap[n0]? = some (.loop ready) →
     ∃r1:Go.Loop,G'.heap n0=some l∧G'.ow l=some (.hobj n0)∧(∀o,¬G'.fix l o)∧w'.heap[l]? = some (.loop r1)∧r1.pending=none∧r1.state=(if ready then .ready else .busy):=by
    intro w' G' st a ready cL hb hl
    rcases hb.fi.heap.1 n0 _ hl with h|⟨b,k1,k2,k3,r1,k4,k5⟩
    ·simp at h
    ·have:b=l:=by
      have:=Ext.heap cL n0 l ql
      rw[k1] at this; simpa using this
     subst this
     exact⟨r1,k1,k2,k3,k4,k5⟩
   have turn:∀{w':World} {G':GS} {st:St} {a:Act} {ob:PObj} {r1 r2:Go.Loop},ExtD w G0 w' G'→BI N w' G' st a vs y'.nt→G'.heap n0=some l→G'.ow l=some (.hobj n0)→(∀o,¬G'.fix l o)→w'.heap[l]? = some (.loop r1) →
     (r2.fn,r2.tmps,r2.params,r2.assign,r2.body)=(r1.fn,r1.tmps,r1.params,r1.assign,r1.body)→ObjR N (w'.putObj l (.loop r2)) G' n0 l ob→ExtD w G0 (w'.putObj l (.loop r2)) G'∧BI N (w'.putObj l (.loop r2)) G' (wT st n0 ob) a vs y'.nt:=by
    intro w' G' st a ob r1 r2 cL hb k1 k2 k3 k4 dR dB
    have cQ:l<w'.heap.size:=(ba.1 k4).1
    obtain⟨x1,x2⟩:=Ln (ob':=ob) (mob := .loop r2) hb.fi k1 k2 k3 (by simp[World.shape?,k4]) (by
     intro s hs
     simp only[yC,k4] at hs
     simp only[yC,bb,cQ,if_true]
     simp only[aa] at hs ⊢
     rw[dR]; exact hs) (.inr dB)
    exact⟨cL.trans (.of x1),⟨x2,hb.size⟩⟩
   have hobj:∀{w':World} {G':GS} {r1 r2:Go.Loop},w'.heap[l]? = some (.loop r1)→(w'.putObj l (.loop r2)).heap[l]? = some (.loop r2):=by
    intro w' G' r1 r2 k4
    exact World.putObj_heap_same (ba.1 k4).1
   have nr:∀{p:PC},p.RO=true→p.NR=true:=by
    intro p
    induction p<;>simp_all [PC.RO,PC.NR]
   have last:∀{w':World} {G':GS} {st:St} {a:Act} {e:Ending},ExtD w G0 w' G'→BI N w' G' st a vs y'.nt→(∀G2,G2.heap=G'.heap→(∀b o,G'.fix b o→G2.fix b o)→Ai N w' G2 e o)→st.heap=h'→∃G',Ai N w' G' e o∧Ext w G w' G'∧Between N w' G' h':=by
    intro w' G' st a e cL hb ho hh
    obtain⟨l1,l2⟩:=DJ (w:=w) (G:=G) cL hb (DefW.refl w') (λ_ _=>rfl) st.vars []
    refine⟨{ fix:=(G'.shut (zl st.vars []) st.heap).fix,heap:=G'.heap,box:=λ_=>none,ow:=yZ G'.ow,df:=G.df },ho _ rfl (λb o h=>Or.inl h),l1,?_⟩
    rw[← hh]; exact l2
   refine d0t ei ?_
   unfold Af at hc
   simp only[aJ] at hc
   split at hc
   ·rename_i st1 fL j4
    refine Ca (rd':=some l) hF (hE.opt opt) hP dq hR.nd n cO (by rw[← hR.ca]; exact EB) j4 fI (nj _) (.inr hR.ra) (fun⟨_,_,h⟩=>h) ?_
    intro a1 w1 G1 e he eC dT jJ
    simp only[yY] at he
    subst he
    have body:∀{x:PExit} {st2:St},st1.heap[n0]? = some (.loop true)→wr L n cb (wT st1 n0 (.loop false))=some (x,st2) →
      (∀a2 w2 G2 e2,yY N w2 G2 x e2→BI N w2 G2 st2 a2 vs y'.nt→ExtD w G0 w2 G2→(G2.df=[])→Is P l (λe w'=>∃G',Ai N w' G' e o∧Ext w G w' G'∧Between N w' G' h') e2 a2 w2) →
      ∃w2,(Instr.beginRound l).run P w1 = .ok () w2∧wpN (some l) y'.fn P y'.body (Is P l (λe w'=>∃G',Ai N w' G' e o∧Ext w G w' G'∧Between N w' G' h')) a1 w2:=by
     intro x st2 dS fZ hq
     obtain⟨r1,k1,k2,k3,k4,k5,k6⟩:=rec1 dT eC dS
     refine⟨_,run_beginRound k4 (by rw[k6]; rfl),?_⟩
     obtain⟨t1,t2⟩:=turn (ob := .loop false) (r2:={ r1 with state := .busy }) dT eC k1 k2 k3 k4 rfl ⟨k3,_,hobj (G':=G1) k4,k5,rfl⟩
     refine Ca (rd':=some l) hF (hE.opt opt) hP dq hR.nd n cO (by rw[← hR.cb]; exact EB) fZ t2 (nj _) (.inr hR.rb) (fun⟨_,_,h⟩=>h) ?_
     intro a2 w2 G2 e2 h1 h2 h3 h4
     have hd:G2.df=[]:=by
      have d1:G1.df=[]:=by
       obtain⟨ms,m1,_,m3⟩:=jJ
       rw[m1,m3 (nr hR.ra)]; rfl
      have d2:(∃ms,G2.df=ms++G1.df∧Marks (w1.putObj l (.loop { r1 with state := .busy })) w2 G2 ms∧(cb.NR=true→ms=[]))∨∃d,G2.df=d::G1.df:=by
       unfold DfR at h4
       cases x with
       | after kd cs v=>exact .inr (h4 (nr hR.rb))
       | _=>exact .inl h4
      rcases d2 with⟨ms,m1,_,m3⟩|⟨d,hd⟩
      ·rw[m1,m3 (nr hR.rb),d1]; rfl
      ·exfalso
       cases x with
       | after kd cs v=>exact BJ hR.rb fZ
       | _ =>
         obtain⟨ms,m1,_,m3⟩:=h4
         rw[m1,m3 (nr hR.rb)] at hd
         simp at hd
     exact hq a2 w2 G2 e2 h1 h2 (t1.trans h3) hd
    split at hc
    ·rename_i st2 dS fZ
     split at hc
     ·rename_i et
      simp only[aa,ac] at hc
      obtain⟨rfl,rfl⟩:=hc
      refine body dS fZ ?_
      intro a2 w2 G2 e2 h1 h2 h3 _
      simp only[yY] at h1
      subst h1
      obtain⟨r2,k1,k2,k3,k4,k5,k6⟩:=rec1 h3 h2 et
      refine⟨_,_,run_endRound none k4,?_⟩
      obtain⟨t1,t2⟩:=turn (ob := .loop true) (r2:={ r2 with state:=if (none:Option Code).isNone then .ready else .done,pending:=none }) h3 h2 k1 k2 k3 k4 rfl ⟨k3,_,hobj (G':=G2) k4,rfl,rfl⟩
      exact last t1 t2 (λG3 _ _=>⟨_,rfl,.bool true⟩) rfl
     ·simp at hc
    ·rename_i v st2 dS fZ
     simp only[aa,ac] at hc
     obtain⟨rfl,rfl⟩:=hc
     refine body dS fZ ?_
     rintro a2 w2 G2 e2 ⟨v',rfl,hv⟩ h2 h3 h4
     refine⟨by rw[h2.fi.defers]; exact h4,?_⟩
     exact last h3 h2 (λG3 g1 g2=>⟨v',rfl,by rw[g1]; exact hv.mono (λb o hf=>⟨g2 b o hf,rfl⟩) (λ_ _ h=>h) (ShapeLe.refl _)⟩) rfl
    ·rename_i id st2 dS fZ
     split at hc
     ·rename_i et
      simp only[aa,ac] at hc
      obtain⟨rfl,rfl⟩:=hc
      refine body dS fZ ?_
      intro a2 w2 G2 e2 h1 h2 h3 _
      simp only[yY] at h1
      subst h1
      obtain⟨r2,k1,k2,k3,k4,k5,k6⟩:=rec1 h3 h2 et
      refine⟨_,_,run_endRound (some (.exit id)) k4,?_⟩
      obtain⟨t1,t2⟩:=turn (ob := .over (some id)) (r2:={ r2 with state:=if (some (Code.exit id)).isNone then .ready else .done,pending:=some (.exit id) }) h3 h2 k1 k2 k3 k4 rfl ⟨k3,_,hobj (G':=G2) k4,rfl,rfl⟩
      exact last t1 t2 (λG3 _ _=>⟨_,rfl,.bool false⟩) rfl
     ·simp at hc
    ·rename_i st2 dS fZ
     split at hc
     ·rename_i et
      simp only[aa,ac] at hc
      obtain⟨rfl,rfl⟩:=hc
      refine body dS fZ ?_
      intro a2 w2 G2 e2 h1 h2 h3 _
      simp only[yY] at h1
      subst h1
      obtain⟨r2,k1,k2,k3,k4,k5,k6⟩:=rec1 h3 h2 et
      refine⟨_,_,run_endRound (some .ret) k4,?_⟩
      obtain⟨t1,t2⟩:=turn (ob := .over none) (r2:={ r2 with state:=if (some Code.ret).isNone then .ready else .done,pending:=some .ret }) h3 h2 k1 k2 k3 k4 rfl ⟨k3,_,hobj (G':=G2) k4,rfl,rfl⟩
      exact last t1 t2 (λG3 _ _=>⟨_,rfl,.bool false⟩) rfl
     ·simp at hc
    ·simp at hc
   ·simp at hc
 | _=>simp at lJ
theorem b5k {ex:PC→St→Option (PExit×St)} {f:PFunc} {args:List PV} {h:List PObj} {r} (hc:AF ex f args h=some r):∃rest,args = .dead::rest:=by
 unfold AF at hc
 split at hc
 ·exact⟨_,rfl⟩
 ·cases hc
theorem LE {ex:PC→St→Option (PExit×St)} {f:PFunc} {args:List PV} {h:List PObj} {r} (hc:AF ex f args h=some r):f.code.isRound=false:=by
 unfold AF at hc
 have one:∀{o:Option Nat} {args:List PV},zE ex f o args h=some r→f.code.isRound=false:=by
  intro o args hr
  unfold zE at hr
  split at hr
  ·simp at hr
  ·rename_i hn; simpa using hn
 split at hc
 ·split at hc
  ·split at hc
   ·split at hc
    ·exact one (Bk.1 hc).1
    ·exact one hc
   ·simp at hc
  ·simp at hc
 ·simp at hc
theorem b8I {L:Nat→Option PFunc} (hE:EnvOk E N) (hP:E.P=P) (dq:P.follows .mixedOrders=true) (hL:∀k pf,L k=some pf→FnS E N k pf):∀n,Runs N P L n:=by
 have hF:yr N P L:=by
  intro k pf hk
  rcases hL k pf hk with hL|⟨y,fn,vs,o,a,b,h⟩
  rcases hL.2.2.2 with⟨_,_,fn,vs,h1,h2,_,_,_,_,_,_,h3,_⟩|⟨g,fn,_,_,h1,h2,h3,_⟩|⟨g,fn,_,_,_,h1,h2,h3,_⟩
  ·refine⟨fn,by rw[← hP]; exact h1,h2,?_⟩
   cases hb:fn.body with
   | none=>rw[hb] at h3; simp at h3
   | some c=>rfl
  ·exact⟨fn,by rw[← hP]; exact h1,h2,h3⟩
  ·exact⟨fn,by rw[← hP]; exact h1,h2,h3⟩
  ·exact⟨fn,by rw[← hP,h.no]; exact h.inP,h.name,h.body⟩
 intro n
 induction n using Nat.strongRecOn with
 | _ n ihn =>
   have prim:∀{k:Nat} {pf:PFunc} {g} {args:List PV} {r:PV} {h0 h':List PObj},L k=some pf→pf.prim=some g→g (args.map dem) h0=some (r,h')→∀(w:World) (G:GS) (vals:Array Value),Between N w G h0→vals.size=args.length →
     (∀(i:Nat) (v:Value) (p:PV),vals[i]? = some v→args[i]? = some p→VR N w G.fix G.heap v p) →
     Calls P (N.fn k) vals w λe w'=>∃v G',e = .returned v∧VR N w' G'.fix G'.heap v r∧Ext w G w' G'∧Between N w' G' h':=by
    intro k pf g args r h0 h' gN fA hc w G vals d4 cS cT
    have fW:FnF E N k pf:=by
     rcases hL k pf gN with h|⟨y,fn,vs,o,a,b,h⟩
     ·exact h
     ·rw[h.prim] at fA; simp at fA
    rcases fW.2.2.2 with⟨h,_⟩|⟨g',fn,h,_,_,_,_,lK⟩|⟨_,_,h,_⟩
    ·rw[h] at fA; simp at fA
    ·rw[h] at fA
     simp only[aa] at fA
     subst fA
     rw[hP] at lK
     refine lK (args.map dem) r h0 h' hc w G vals d4 (by simpa using cS) ?_
     intro i v p hv hp
     simp only[aF,ab] at hp
     obtain⟨q,hq,rfl⟩:=hp
     exact(cT i v q hv hq).dem
    ·rw[h] at fA; simp at fA
   have code:∀{k:Nat} {pf:PFunc} {args:List PV} {o:Out} {h0 h':List PObj},L k=some pf→pf.code.isRound=false→pf.prim=none→yX (wr L n) (yp L) pf args h0=some (o,h')→args.length=pf.params→∀(w:World) (G:GS) (vals:Array Value),Between N w G h0→vals.size=args.length →
     (∀(i:Nat) (v:Value) (p:PV),vals[i]? = some v→args[i]? = some p→VR N w G.fix G.heap v p) →
     Calls P (N.fn k) vals w λe w'=>∃G',Ai N w' G' e o∧Ext w G w' G'∧Between N w' G' h':=by
    intro k pf args o h0 h' gN kY fA hc dp w G vals d4 cS cT
    obtain⟨_,gX,_,j5⟩:=(hL k pf gN).plain kY
    rcases j5 with⟨_,_,fn,vs,mh⟩|⟨g',fn,h,_⟩|⟨_,_,_,hx,_⟩
    ·exact c1U hE hP dq hF hL ihn mh gX hc dp d4 cS cT
    ·rw[h] at fA; simp at fA
    ·unfold yX at hc
     rw[hx] at hc
     cases n with
     | zero=>simp[wr] at hc
     | succ n=>simp[wr] at hc
   refine⟨⟨?_,?_⟩,?_,?_,?_⟩
   ·intro k args r h0 h' hc
    unfold xO at hc
    split at hc
    ·simp at hc
    ·rename_i pf gN
     have kY:pf.prim=none→pf.code.isRound=false:=by
      intro fA
      cases hx:pf.code.isRound with
      | false=>rfl
      | true =>
        exfalso
        split at hc
        ·rw[fA] at hc
         simp only at hc
         split at hc
         ·simp only[zA,hx,if_true] at hc
          unfold Cx at hc
          split at hc<;>simp at hc
         ·simp only[zA,hx,if_true] at hc
          simp at hc
        ·have:=LE hc
         rw[hx] at this; simp at this
     have fW:FnF E N k pf:=by
      rcases hL k pf gN with h|⟨y,fn,vs,o,a,b,h⟩
      ·exact h
      ·have:=kY h.prim
       rw[h.code] at this; simp[PC.isRound] at this
     refine⟨fW.1,?_⟩
     intro w G vals d4 cS cT
     split at hc
     ·rename_i dp
      split at hc
      ·rename_i g fA
       simp only[ab,ac] at hc
       obtain⟨⟨r1,h1⟩,hg,rfl,rfl⟩:=hc
       refine(prim gN fA hg w G vals d4 cS cT).mono ?_
       rintro e w' ⟨v,G',rfl,hv,h2,h3⟩
       exact⟨v,G',rfl,hv.dem,h2,h3⟩
      ·rename_i fA
       have gX:=fW.2.1
       suffices H:∀args:List PV,args.length=pf.params→zA (wr L n) (yp L) pf args h0=some (r,h')→vals.size=args.length →
         (∀(i:Nat) (v:Value) (p:PV),vals[i]? = some v→args[i]? = some p→VR N w G.fix G.heap v p) →
         Calls P (N.fn k) vals w λe w'=>∃v G',e = .returned v∧VR N w' G'.fix G'.heap v r∧Ext w G w' G'∧Between N w' G' h' by
        split at hc
        ·rename_i gt
         simp only[al] at gt
         have ml:zA (wr L n) (yp L) pf (.nils::args.tail) h0=some (r,h')∧zA (wr L n) (yp L) pf (.void::args.tail) h0=some (r,h'):=by
          unfold Cx at hc
          split at hc
          ·rename_i he; exact⟨hc,he▸hc⟩
          ·simp at hc
         cases args with
         | nil=>simp[vague] at gt
         | cons p ps =>
           have iW:∃v,vals[0]? = some v:=by
            have h0:0<vals.size:=by rw[cS]; simp
            exact⟨vals[0],by simp[h0]⟩
           obtain⟨v0,iW⟩:=iW
           have fM:∀q,VR N w G.fix G.heap v0 q→∀(i:Nat) (v:Value) (p':PV),vals[i]? = some v→(q::ps)[i]? = some p'→VR N w G.fix G.heap v p':=by
            intro q hq i v p' h1 h2
            cases i with
            | zero=>rw[iW] at h1; simp at h1 h2; subst h1 h2; exact hq
            | succ i=>exact cT (i+1) v p' h1 (by simpa using h2)
           rcases(cT 0 v0 p iW rfl).vague gt.2 with h|h
           ·exact H _ (by simpa using dp) ml.1 (by simpa using cS) (fM _ h)
           ·exact H _ (by simpa using dp) ml.2 (by simpa using cS) (fM _ h)
        ·exact H args dp hc cS cT
       clear hc dp cS cT kY args
       intro args dp hc cS cT
       unfold zA at hc
       rw[gX] at hc
       simp only[aH,if_false] at hc
       unfold FT at hc
       split at hc
       ·rename_i r' h1 dW
        simp only[aa,ac] at hc
        obtain⟨rfl,rfl⟩:=hc
        refine(code gN gX fA dW dp w G vals d4 cS cT).mono ?_
        rintro e w' ⟨G',⟨v,rfl,hv⟩,h2,h3⟩
        exact⟨v,G',rfl,hv,h2,h3⟩
       ·simp at hc
     ·
      exfalso
      obtain⟨ps,rfl⟩:=b5k hc
      ·have h0:0<vals.size:=by rw[cS]; simp
       have h1:=cT 0 vals[0] .dead (by simp[h0]) rfl
       generalize vals[0]=v0 at h1
       cases h1
   ·intro k own args r h' hc
    unfold xO at hc
    split at hc
    ·simp at hc
    ·rename_i pf gN
     have jN:(Bg own args).length=pf.params→False:=by
      intro hl
      rcases hL k pf gN with h|⟨y,fn,vs,o,a,b,h⟩
      ·have:=h.2.2.1
       rw[b7a] at hl
       omega
      ·rw[ah hl,h.prim] at hc
       simp only[zA,h.code,PC.isRound,if_true] at hc
       split at hc
       ·unfold Cx at hc
        split at hc<;>simp at hc
       ·simp at hc
     rw[af jN] at hc
     have gX:=LE hc
     have fW:=(hL k pf gN).plain gX
     refine⟨fW.1,?_⟩
     intro w G vals dC
     rw[b5F] at hc
     split at hc
     ·rename_i dp
      obtain⟨dp,fA⟩:=dp
      suffices H:∀args:List PV,args.length=pf.params→zE (wr L n) pf own args []=some (r,h')→OwnIn N w G own args vals →
        Calls P (N.fn k) vals w λe w'=>∃v G',e = .returned v∧VR N w' G'.fix G'.heap v r∧Ext w G w' G'∧(∀b o,G'.fix b o→b<w'.heap.size)∧∀es,r = .list true es→C4 w G w' G' v es by
       split at hc
       ·rename_i gt
        simp only[al] at gt
        have ml:=Bk.1 hc
        cases args with
        | nil=>simp[vague] at gt
        | cons p ps =>
          have iW:∃v,vals[0]? = some v:=by
           have h0:0<vals.size:=by rw[dC.size]; simp
           exact⟨vals[0],by simp[h0]⟩
          obtain⟨v0,iW⟩:=iW
          have fM:∀q,(∀es,q≠.list true es)→VR N w G.fix G.heap v0 q→OwnIn N w G own (q::ps) vals:=by
           intro q mn hq
           refine⟨dC.ow,dC.box,dC.heap,dC.fixlt,dC.owlt,dC.tab,by simpa using dC.size,?_,?_⟩
           ·intro i v p' h1 h2
            cases i with
            | zero=>rw[iW] at h1; simp at h1 h2; subst h1 h2; exact hq
            | succ i=>exact dC.vr (i+1) v p' h1 (by simpa using h2)
           ·intro i v es hi h1 h2
            cases i with
            | zero=>simp at h2; exact absurd h2 (mn es)
            | succ i=>exact dC.room (i+1) v es hi h1 (by simpa using h2)
          rcases(dC.vr 0 v0 p iW rfl).vague gt.2 with h|h
          ·exact H _ (by simpa using dp) ml.1 (fM _ (by intro es; simp) h)
          ·exact H _ (by simpa using dp) ml.2 (fM _ (by intro es; simp) h)
       ·exact H args dp hc dC
      clear hc dp dC jN args
      intro args dp hc dC
      rcases fW.2.2.2 with⟨_,_,fn,vs,mh⟩|⟨g',fn,h,_⟩|⟨_,_,_,hx,_⟩
      ·exact b90 hE hP dq hF ihn mh hc dp dC
      ·rw[h] at fA; simp at fA
      ·unfold zE at hc
       rw[hx] at hc
       cases n with
       | zero=>simp[wr] at hc
       | succ n=>simp[wr] at hc
     ·simp at hc
   ·intro k args o h0 h' hc i7 w G vals d4 cS cT
    unfold yc at hc
    split at hc
    ·simp at hc
    ·rename_i pf gN
     split at hc
     ·rename_i dp
      split at hc
      ·rename_i g fA
       simp only[ab,ac] at hc
       obtain⟨⟨r,h1⟩,hg,rfl,rfl⟩:=hc
       refine(prim gN fA hg w G vals d4 cS cT).mono ?_
       rintro e w' ⟨v,G',rfl,hv,h2,h3⟩
       exact⟨G',⟨v,rfl,hv.dem⟩,h2,h3⟩
      ·rename_i fA
       exact code gN ((hL k pf gN).plainY i7).2.1 fA hc dp.1 w G vals d4 cS cT
     ·simp at hc
   ·intro k y n0 l tmps caps args o h0 h' hy hc w G vals d4 qJ cS cT
    unfold yc at hc
    split at hc
    ·simp at hc
    ·rename_i pf gN
     rcases hL k pf gN with h|⟨y',fn,vs,o',ca,cb,h⟩
     ·have:=h.1
      rw[hy] at this
      simp at this
     ·have:y'=y:=by have:=h.yl; rw[hy] at this; simpa using this.symm
      subst this
      split at hc
      ·rename_i dp
       rw[h.prim] at hc
       simp only[yX,h.code] at hc
       exact b6Z hE hP dq hF ihn h hc (by rw[dp.1,h.params]) d4 qJ cS cT
      ·simp at hc
   ·intro k hk
    unfold Cv at hk
    split at hk
    ·rename_i f hf
     exact((hL k f hf).plain (by simpa using hk)).1
    ·simp at hk
theorem b8J {L:Nat→Option PFunc} (hE:EnvOk E N) (hP:E.P=P) (dq:P.follows .mixedOrders=true) (hL:∀k pf,L k=some pf→FnS E N k pf):
  ∀n,CallOK N P (xO (wr L n) L):=λn=>(b8I hE hP dq hL n).call
end
end PI
