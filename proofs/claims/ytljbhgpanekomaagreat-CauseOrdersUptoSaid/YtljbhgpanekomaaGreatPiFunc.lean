import Derived.Test.YtljbhgpanekomaaGreatPiSoundN
import Derived.Test.YtljbhgpanekomaaGreatPiSoundN
set_option linter.unusedSimpArgs false
set_option linter.unusedVariables false
set_option linter.unusedSectionVars false
namespace PI
open Go Go.RowKit
def Gx (P:Program) (kp:Bool) (vs:List Tmp):ResultVar→Option PRes
 | .tmp t=>(zQ t vs 0).map (if kp then .keep else .var)
 | .cell t ty=>(zQ t vs 0).bind λi=>(yX P ty).map λn => .cell i n (zl P ty)
def Dh (P:Program) (kp:Bool) (vs:List Tmp):List ResultVar→Option (List PRes)
 | []=>some []
 | r::rs=>(Gx P kp vs r).bind λp=>(Dh P kp vs rs).map (p::·)
structure Opts where
 hs:List Tmp:=[]
 hf:List FuncId:=[]
 hv:List Tmp:=[]
 rs:List TypeId:=[]
 bf:List FuncId:=[]
 bv:List Tmp:=[]
 lps:List (Array Tmp×Nat×List Tmp):=[]
 sr:Bool:=false
 nl:Bool:=false
 kp:Bool:=false
 ox:List (FuncId×Option Nat):=[]
 rf:List FuncId:=[]
 zd:List Tmp:=[]
 fr:List Tmp:=[]
 pa:List TypeId:=[]
 pz:List FuncId:=[]
def Env.opt (E:Env) (o:Opts):Env:={ E with hs:=o.hs,hf:=o.hf,hv:=o.hv,rs:=o.rs,bf:=o.bf,bv:=o.bv,lps:=o.lps,sr:=o.sr,nl:=o.nl,ox:=o.ox,rf:=o.rf,zd:=o.zd,fr:=o.fr,pa:=o.pa,pz:=o.pz }
theorem EnvOk.opt {E:Env} {N:Nm} (h:EnvOk E N) (o:Opts):EnvOk (E.opt o) N:=⟨h.fn,h.yl,h.pt,h.bt⟩
def FnC (E:Env) (N:Nm) (k:Nat) (pf:PFunc) (fn:Func) (vs:List Tmp):Prop:=
 E.P.funcs[N.fn k]? = some fn∧fn.name ≠ "runtime.NumGoroutine" ∧ vs.Nodup∧(∀t∈vs,t<fn.ntmps)∧vs.length=pf.nv∧pf.params≤pf.nv∧(∀i,i<pf.params→vs[i]? = some i) ∧
  (∃o:Opts,(fn.body.map λc=>Ak (E.opt o) fn.ntmps vs c)=some pf.code∧(o.lps=[]∨∀c,fn.body=some c→LpOK (E.opt o) N fn.ntmps (N.fn k) c)∧Dh E.P o.kp vs fn.results.toList=some pf.results)
def EQ (N:Nm) (P:Program) (k:Nat) (g:List PV→List PObj→Option (PV×List PObj)):Prop:=
 ∀ (args : List PV) (r : PV) (h h' : List PObj), g args h = some (r, h') → ∀ (w : World) (G : GS) (vals : Array Value), Between N w G h → vals.size = args.length →
   (∀(i:Nat) (v:Value) (p:PV),vals[i]? = some v→args[i]? = some p→VR N w G.fix G.heap v p) →
   Calls P (N.fn k) vals w λe w'=>∃v G',e = .returned v∧VR N w' G'.fix G'.heap v r∧Ext w G w' G'∧Between N w' G' h'
def EP (N:Nm) (P:Program) (k:Nat) (g:List PV→List PObj→Option (List PObj)):Prop:=
 ∀ (p : PV) (caps : List PV) (h h' : List PObj), g (p :: caps) h = some h' → ∀ (w : World) (G : GS) (vals : Array Value), Between N w G h → vals.size = caps.length →
   (∀(i:Nat) (v:Value) (p:PV),vals[i]? = some v→caps[i]? = some p→VR N w G.fix G.heap v p) →
   ∀u,(u = .returning∧p = .nilIface∨∃v,u = .panicking [{ v,recovered:=false }]∧VR N w G.fix G.heap v p) →
   CallsDIn (W none) 0 P (N.fn k) vals u w λe u' w'=>(∃v,e = .returned v)∧settle u' = .returning∧∃G',Ext w G w' G'∧Between N w' G' h'
structure RdC (E:Env) (N:Nm) (k:Nat) (pf:PFunc) (y:YL) (fn:Func) (vs:List Tmp) (o:Opts) (a b:PC):Prop where
 yl:N.yl k=some y
 code:pf.code = .round a b
 ra:a.RO=true
 rb:b.RO=true
 prim:pf.prim=none
 dfr:pf.defer=none
 inP:E.P.funcs[y.fn]? = some fn
 no:N.fn k=y.fn
 name:fn.name ≠ "runtime.NumGoroutine"
 body:fn.body.isNone=false
 nd:vs.Nodup
 lt:∀t∈vs,t<y.nt
 len:vs.length=pf.nv
 params:pf.params=1+(y.vars.length+y.params.size)
 head:vs.take (y.vars.length+y.params.size)=y.vars++y.params.toList
 lps:o.lps=[]
 ca:Ak (E.opt o) y.nt vs y.assign=a
 cb:Ak (E.opt o) y.nt vs y.body=b
def FnF (E:Env) (N:Nm) (k:Nat) (pf:PFunc):Prop:=
 N.yl k=none∧pf.code.isRound=false∧pf.params<1000 ∧
 ((pf.prim=none∧pf.defer=none∧∃fn vs,FnC E N k pf fn vs) ∨
 (∃g fn,pf.prim=some g∧pf.defer=none∧E.P.funcs[N.fn k]? = some fn∧fn.name ≠ "runtime.NumGoroutine" ∧ fn.body.isNone=false∧EQ N E.P k g) ∨
 ∃g fn,pf.prim=none∧pf.code = .exit 0∧pf.defer=some g∧E.P.funcs[N.fn k]? = some fn∧fn.name ≠ "runtime.NumGoroutine" ∧ fn.body.isNone=false∧EP N E.P k g)
def FnS (E:Env) (N:Nm) (k:Nat) (pf:PFunc):Prop:=FnF E N k pf∨∃y fn vs o a b,RdC E N k pf y fn vs o a b
theorem FnS.plain {E:Env} {N:Nm} {k:Nat} {pf:PFunc} (h:FnS E N k pf) (hr:pf.code.isRound=false):FnF E N k pf:=by
 rcases h with h|⟨y,fn,vs,o,a,b,h⟩
 ·exact h
 ·rw[h.code] at hr; simp[PC.isRound] at hr
theorem FnS.plainY {E:Env} {N:Nm} {k:Nat} {pf:PFunc} (h:FnS E N k pf) (hr:N.yl k=none):FnF E N k pf:=by
 rcases h with h|⟨y,fn,vs,o,a,b,h⟩
 ·exact h
 ·rw[h.yl] at hr; simp at hr
def B8 (vars:List PV):List PRes→List Nat
 | []=>[]
 | r::rs=>C3 vars r++B8 vars rs
theorem SN (vars:List PV):∀(rs:List PRes) (h:List PObj) (n:Nat),(n∈B8 vars rs→(zh vars rs h)[n]? = h[n]?.map (λ_ => .gone))∧(n∉B8 vars rs→(zh vars rs h)[n]? = h[n]?)
 | [],h,n=>by simp[zh,B8]
 | r :: rs, h, n => by
   simp only[zh,B8]
   obtain⟨i1,i2⟩:=SN vars rs (BU (C3 vars r) h) n
   obtain⟨g1,g2⟩:=NV (C3 vars r) h n
   simp only[aw]
   by_cases hr:n∈B8 vars rs
   ·refine⟨λ_ =>?_,λhn=>absurd (.inr hr) hn⟩
    rw[i1 hr]
    by_cases hq:n∈C3 vars r
    ·rw[g1 hq]; cases h[n]?<;>rfl
    ·rw[g2 hq]
   ·refine⟨λhn =>?_,λhn =>?_⟩
    ·rw[i2 hr,g1 (hn.resolve_right hr)]
    ·rw[i2 hr,g2 (λe=>hn (.inl e))]
theorem SO (vars:List PV):∀(rs:List PRes) (h:List PObj),(zh vars rs h).length=h.length
 | [],h=>rfl
 | r::rs,h=>by simp only[zh]; rw[SO vars rs,NX]
theorem SP {vars:List PV} {n:Nat} {r:PRes} (hv:n∈C3 vars r):∀{rs:List PRes},r∈rs→n∈B8 vars rs
 | r' :: rs, h => by
   simp only[B8,aw]
   rcases az.1 h with h|h
   ·subst h; exact .inl hv
   ·exact .inr (SP hv h)
section
variable {E:Env} {N:Nm} {P:Program}
theorem HR.shut {w:World} {G:GS} {heap:List PObj} (h:HR N w G heap) (vars:List PV) (rs:List PRes):HR N w (G.shut (B8 vars rs) heap) (zh vars rs heap):=
 h.shutG (SN vars rs heap)
theorem c2B {size off n sz len:Nat} {agg ag:Bool} {cs:List PV} {u:PV} (hf:∀x∈cs,x.flat=true) (h:yu size agg cs off=some u) (hx : .rowp n sz ag len∈u.cells):n∈DM cs:=by
 unfold yu at h
 split at h
 ·split at h
  ·simp only[aa] at h; subst h
   simp only[PV.cells,bh] at hx
   obtain⟨y,hy,e⟩:=hx
   have:y = .rowp n sz ag len:=by cases y<;>simp_all [dem]
   subst this
   exact NY (cM (List.mem_of_mem_take hy))
  ·simp at h
 ·split at h
  ·rename_i y hy
   have hu:y = .rowp n sz ag len:=by
    have fQ:=hf y (ax hy)
    cases y<;>simp[cp] at h<;>subst h<;>simp_all [PV.cells,PV.flat]
   subst hu
   exact NY (ax hy)
  ·simp at h
def Iw (a:Act) (r:ResultVar):Sem Value:=
 match r with
 | .tmp t=>pure (a.tmps.getD t undef)
 | .cell t ty=>do loadVar ty (← asAddr (a.tmps.getD t undef))
theorem b4s {kp:Bool} {vs:List Tmp} {nt:Nat} {w:World} {G:GS} {st:St} {a:Act} (hb:BI N w G st a vs nt) {ns:List Nat} {r:ResultVar} {p:PRes} {u:PV} (eO:∀n,n∈C3 st.vars p→n∈ns) (hc:Gx P kp vs r=some p) (hr:BZ st p=some u):
  ∃v,(Iw a r).run P w = .ok v w∧VR N w (G.shut ns st.heap).fix (G.shut ns st.heap).heap v u:=by
 cases r with
 | tmp t =>
   simp only[Gx,ab] at hc
   obtain⟨i,hi,rfl⟩:=hc
   obtain⟨_,ez⟩:=Ey hi
   cases kp with
   | true =>
     simp only[if_true,BZ,aj] at hr
     obtain⟨x,hx,hr⟩:=hr
     have hs:=hb.fi.var i t x (by simpa using ez) hx
     exact⟨a.tmps.getD t undef,rfl,(hs.read hr).1.shut⟩
   | false=>
   simp only[aJ,if_false] at eO hr
   simp only[BZ,aj] at hr
   obtain⟨x,hx,hr⟩:=hr
   have hs:=hb.fi.var i t x (by simpa using ez) hx
   refine⟨a.tmps.getD t undef,rfl,?_⟩
   split at hr
   ·simp at hr; subst hr
    exact hs.1.shut
   ·rename_i n sz agg len
    split at hr
    ·rename_i dj
     simp only[aj,ab] at hr
     obtain⟨cs,d9,es,gf,rfl⟩:=hr
     have di:=(hs.read (r := .rowp n sz agg len) rfl).1
     generalize hg:a.eval (.tmp t)=v at di
     have tS:a.tmps.getD t undef=v:=hg
     rw[tS]
     cases di with
     | rowp _ _ _ _ b cap dn dl _ =>
       unfold yN at d9
       split at d9
       ·rename_i cs' hh
        simp at d9; subst d9
        exact SQ hb.fi.heap dl (eO n (by simp[C3,KS,hx,zw])) dn hh dj gf
       ·simp at d9
    ·simp at hr
   ·simp at hr; subst hr
    have di:=(hs.read (r := .nils) rfl).1
    have tS:a.tmps.getD t undef=a.eval (.tmp t):=rfl
    rw[tS]
    generalize a.eval (.tmp t)=v at di
    cases di with
    | nils'=>exact .nils false
   ·exact(hs.read hr).1.shut
 | cell t ty =>
   simp only[Gx,aj,ab] at hc
   obtain⟨i,hi,n,hn,rfl⟩:=hc
   obtain⟨_,ez⟩:=Ey hi
   simp only[BZ] at hr
   split at hr
   ·rename_i g cs hv
    simp only[aj] at hr
    obtain⟨u0,hr,hz⟩:=hr
    have hs:=hb.fi.var i t _ (by simpa using ez) hv
    obtain⟨b,i',_,eI,_,_,_,cv,T,hh,hl,jE⟩:=hs
    obtain⟨hR,hcell⟩:=SS hh hl jE
    have eY:n≠0:=by obtain⟨_,_,_,_,h,_⟩:=Be hn; exact h
    obtain⟨k1,k2,k3⟩:=Gy hR hr eY (ED hn)
    have lF:a.tmps.getD t undef = .pointer (some ⟨b,0,none⟩):=eI
    have:=Gz (w:=w) hn b 0 cv.toList (by simpa using k1) (λj v hv=>by rw[aU]; exact hcell j v hv)
    refine⟨_,?_,c1n hb.fi.heap (λx hx m sz agg len e=>eO m ?_) k2 hz⟩
    rotate_left
    ·subst e
     simp only[C3,hv]
     exact c2B hR.2.1 hr hx
    simp only[Iw,lF,asAddr,Sem.run_bind,Sem.run_pure,Result.andThen_ok,this]
    simp
   ·rename_i m hv
    simp only[aj] at hr
    obtain⟨cs,d9,hr⟩:=hr
    have hs:=(hb.fi.var i t _ (by simpa using ez) hv)
    have hs:VR N w G.fix G.heap (a.eval (.tmp t)) (.ptr m 0):=hs
    generalize eI:a.eval (.tmp t)=pv at hs
    cases hs with
    | ptr _ _ b dn =>
      unfold yN at d9
      split at d9
      ·rename_i cs' mP
       simp only[aa] at d9
       subst d9
       rcases hb.fi.heap.1 m _ mP with tL|⟨b',k1,k2,f,cv,T,hh,hl,jE⟩
       ·simp at tL
       have:b'=b:=by rw[dn] at k1; simpa using k1.symm
       subst this
       obtain⟨hR,hcell⟩:=NZ hh hl jE
       have eY:n≠0:=by obtain⟨_,_,_,_,h,_⟩:=Be hn; exact h
       obtain⟨k1,k2,k3⟩:=Gy hR hr eY (ED hn)
       have lF:a.tmps.getD t undef = .pointer (some ⟨b',0,none⟩):=eI
       have:=Gz (w:=w) hn b' 0 (cv.toList.take cs'.length) (by simpa using k1) (λj v hv=>by rw[aU]; exact hcell j v hv)
       refine⟨_,?_,k2.shut⟩
       simp only[Iw,lF,asAddr,Sem.run_bind,Sem.run_pure,Result.andThen_ok,this]
       simp
      ·simp at d9
   ·simp at hr
theorem ST {kp:Bool} {vs:List Tmp} {nt:Nat} {w:World} {G:GS} {st:St} {a:Act} (hb:BI N w G st a vs nt) {ns:List Nat}:∀{rs:List ResultVar} {ps:List PRes} {us:List PV},(∀p∈ps,∀n,n∈C3 st.vars p→n∈ns)→Dh P kp vs rs=some ps→Ce st ps=some us →
  ∃ vals : List Value, (rs.mapM (Iw a)).run P w = .ok vals w ∧ vals.length = us.length ∧
    ∀(i:Nat) (v:Value) (u:PV),vals[i]? = some v→us[i]? = some u→VR N w (G.shut ns st.heap).fix (G.shut ns st.heap).heap v u
 | [], ps, us, _, hc, hr => by
   simp[Dh] at hc; subst hc
   simp[Ce] at hr; subst hr
   exact⟨[],by simp,rfl,by simp⟩
 | r :: rs, ps, us, eO, hc, hr => by
   simp only[Dh,aj,ab] at hc
   obtain⟨p,hp,ps',ey,rfl⟩:=hc
   simp only[Ce,aj,ab] at hr
   obtain⟨u,hu,us',eV,rfl⟩:=hr
   obtain⟨v,h1,h2⟩:=b4s hb (eO p (bZ ..)) hp hu
   obtain⟨vals,h3,h4,h5⟩:=ST hb (λp e=>eO p (bo _ e)) ey eV
   refine⟨v::vals,?_,by simp[h4],?_⟩
   ·rw[List.mapM_cons]
    simp only[Sem.run_bind,h1,Result.andThen_ok,h3,Sem.run_pure]
   ·intro i x y hx hy
    cases i with
    | zero=>simp at hx hy; subst hx hy; exact h2
    | succ i=>exact h5 i x y (by simpa using hx) (by simpa using hy)
structure DefW (w w':World):Prop where
 os:w'.os=w.os
 tape:w'.tape=w.tape
 output:w'.output=w.output
 size:w'.heap.size=w.heap.size
 heap:∀b:Nat,w'.heap[b]? = w.heap[b]?∨((∃x,w.heap[b]? = some (Obj.deferred x))∧∃y,w'.heap[b]? = some (Obj.deferred y))
theorem DefW.refl (w:World):DefW w w:=⟨rfl,rfl,rfl,rfl,λ_ => .inl rfl⟩
theorem DefW.get {w w':World} (h:DefW w w') {b:Nat} {ob:Obj} (hb:w.heap[b]? = some ob) (hn:∀x,ob≠Obj.deferred x):w'.heap[b]? = some ob:=by
 rcases h.heap b with e|⟨⟨x,e⟩,_⟩
 ·rw[e]; exact hb
 ·rw[hb] at e
  exact absurd (by simpa using e) (hn x)
theorem DefW.cell {w w':World} (h:DefW w w') (b o:Nat):w'.cell? ⟨b,o,none⟩=w.cell? ⟨b,o,none⟩:=by
 rcases h.heap b with e|⟨⟨x,e1⟩,y,e2⟩
 ·simp only[World.cell?,e]
 ·simp[World.cell?,e1,e2]
theorem DefW.shape {w w':World} (h:DefW w w'):ShapeLe w w':=by
 refine⟨?_,?_⟩
 ·intro b s hb
  rcases h.heap b with e|⟨⟨x,e1⟩,y,e2⟩
  ·unfold World.shape? at hb ⊢; rw[e]; exact hb
  ·simp[World.shape?,e1] at hb
 ·intro b s hb
  rcases h.heap b with e|⟨⟨x,e1⟩,y,e2⟩
  ·unfold Bd at hb ⊢; rw[e]; exact hb
  ·simp[Bd,e1] at hb
theorem VR.def' {w w':World} {G:GS} {v:Value} {p:PV} (h:VR N w G.fix G.heap v p) (d:DefW w w'):VR N w' G.fix G.heap v p:=
 h.mono (λb o hf=>⟨hf,d.cell b o⟩) (λ_ _ h=>h) d.shape
theorem Room.def' {w w':World} {G:GS} {key:Key} {v:Value} {es:List PV} (h:Room w G key v es) (d:DefW w w'):Room w' G key v es:=by
 unfold Room at *
 split at h
 ·rcases h with h|⟨h1,sz,cs,T,h2,⟨fz,h3,eX⟩,h4⟩
  ·exact .inl h
  ·exact .inr ⟨h1,sz,cs,T,h2,⟨fz,d.get h3 (by simp),eX⟩,h4⟩
 ·trivial
theorem CR.def' {w w':World} {G:GS} {key:Key} {v:Value} {p:PV} (h:CR N w G key v p) (d:DefW w w'):CR N w' G key v p:=by
 obtain⟨h1,h2,h3⟩:=h
 refine⟨h1.def' d,h2,?_⟩
 split at h3
 ·exact Room.def' h3 d
 ·trivial
theorem MR.def' {w w':World} {G:GS} {key:Key} {v:Value} {p:PV} (h:MR N w G key v p) (d:DefW w w'):MR N w' G key v p:=by
 obtain⟨h1,h3⟩:=h
 refine⟨h1.def' d,?_⟩
 split at h3
 ·exact Room.def' h3 d
 ·trivial
theorem SR.def' {w w':World} {G:GS} {key:Key} {v:Value} {p:PV} (h:SR N w G key v p) (d:DefW w w'):SR N w' G key v p:=by
 unfold SR at *
 split at h
 ·trivial
 ·obtain⟨b,i,hU,hv,hb,ho,hf,cv,T,h1,h2,h3⟩:=h
  exact⟨b,i,hU,hv,hb,ho,hf,cv,T,d.get h1 (by simp),h2,λk c x hc hx=>(h3 k c x hc hx).def' d⟩
 ·exact h
 ·obtain⟨b,hv,ho,hf,cv,T,h1,h2,h4,h3⟩:=h
  exact⟨b,hv,ho,hf,cv,T,d.get h1 (by simp),h2,h4,λk c x hc hx=>⟨(h3 k c x hc hx).1.def' d,(h3 k c x hc hx).2⟩⟩
 ·exact⟨h.1.def' d,Room.def' h.2 d⟩
 ·exact h.def' d
theorem ObjR.def' {w w':World} {G:GS} {n b:Nat} {ob:PObj} (h:ObjR N w G n b ob) (d:DefW w w'):ObjR N w' G n b ob:=by
 cases ob with
 | cells cs =>
   obtain⟨f,cv,T,a1,a2,a3⟩:=h
   exact⟨f,cv,T,d.get a1 (by simp),a2,λk c x hc hx=>(a3 k c x hc hx).def' d⟩
 | map es =>
   obtain⟨mes,clock,a1,a2,a3,a4,a5⟩:=h
   exact⟨mes,clock,d.get a1 (by simp),a2,a3,a4,λi en p hi hp=>⟨(a5 i en p hi hp).1.def' d,(a5 i en p hi hp).2.def' d⟩⟩
 | gone=>trivial
 | loop ready =>
   obtain⟨f,r,a1,a2⟩:=h
   exact⟨f,r,d.get a1 (by simp),a2⟩
 | over id =>
   obtain⟨f,r,a1,a2⟩:=h
   exact⟨f,r,d.get a1 (by simp),a2⟩
theorem BI.def' {w w':World} {G:GS} {st:St} {a:Act} {vs:List Tmp} {nt:Nat} (h:BI N w G st a vs nt) (d:DefW w w'):BI N w' G st a vs nt:=by
 obtain⟨hf,hs⟩:=h
 refine⟨⟨hf.len,λi t u h1 h2=>(hf.var i t u h1 h2).def' d,λj t u h1 h2=>by simp at h1,hf.tv,hf.tl,hf.defers,hf.gen,by rw[d.size]; exact hf.owlt,by rw[d.size]; exact hf.fixlt,⟨?_,?_⟩,hf.hdom⟩,hs⟩
 ·intro n ob dU
  rcases hf.heap.1 n ob dU with h|⟨b,h1,h2,h3⟩
  ·exact .inl h
  ·exact .inr ⟨b,h1,h2,h3.def' d⟩
 ·refine⟨λt ht=>⟨(hf.heap.2.1 t ht).1,?_⟩,λr hr=>d.shape.1 _ _ (hf.heap.2.2 r hr)⟩
  rw[d.cell]; exact(hf.heap.2.1 t ht).2
theorem N1 {fn:Func} {tmps:Array Value} {R:Ending→World→Prop} {u:FrameMode} (hu:u≠.run) {G:GS} {w0:World}:
  ∀ {bs : List Nat} {w : World}, bs.Nodup → (∀ b ∈ bs, w0.heap.size ≤ b ∧ w.heap[b]? = some (.deferred (some [])) ∧ G.ow b = none) →
    (∀w',DefW w w'→(∀b,b<w0.heap.size→w'.heap[b]? = w.heap[b]?)→LeavesIn (W none) 0 P fn tmps R [] u w')→LeavesInM (W none) 0 P fn tmps R (bs.map λb=>{ target := .collected b,args := #[] }) u w
 | [],w,_,_,h=>h w (DefW.refl w) (λ_ _=>rfl)
 | b :: bs, w, hn, hb, h => by
   obtain⟨n1,n2⟩:=cg.1 hn
   obtain⟨k1,k2,k3⟩:=hb b (by simp)
   have dc:b<w.heap.size:=(aX.1 k2).1
   have gw:∀x,x≠b→(w.putObj b (.deferred none)).heap[x]? = w.heap[x]? := λx hx=>World.putObj_heap_other hx
   have hd:DefW w (w.putObj b (.deferred none)):=by
    refine⟨rfl,rfl,rfl,by simp[World.putObj],?_⟩
    intro x
    by_cases hx:x=b
    ·subst hx
     exact .inr ⟨⟨_,k2⟩,none,World.putObj_heap_same dc⟩
    ·exact .inl (gw x hx)
   refine⟨hu,.inl ⟨b,_,rfl,run_takeDeferred k2,?_⟩⟩
   refine N1 (w0:=w0) (G:=G) hu n2 ?_ ?_
   ·intro x hx
    have dh:x≠b:=by rintro rfl; exact n1 hx
    obtain⟨j1,j2,j3⟩:=hb x (by simp[hx])
    exact⟨j1,(gw x dh).trans j2,j3⟩
   ·intro w' d2 dA
    refine h w' ?_ ?_
    ·refine⟨d2.os.trans hd.os,d2.tape.trans hd.tape,d2.output.trans hd.output,d2.size.trans hd.size,?_⟩
     intro x
     rcases d2.heap x with e|⟨⟨y,e1⟩,z,e2⟩
     ·rcases hd.heap x with e' | ⟨e1',z,e2'⟩
      ·exact .inl (e.trans e')
      ·exact .inr ⟨e1',z,e.trans e2'⟩
     ·rcases hd.heap x with e' | ⟨e1',_⟩
      ·exact .inr ⟨⟨y,by rw[← e']; exact e1⟩,z,e2⟩
      ·exact .inr ⟨e1',z,e2⟩
    ·intro x hx
     have dh:x≠b:=by omega
     rw[dA x hx,gw x dh]
theorem GA {w w1 w':World} {G G':GS} {st:St} {a:Act} {vs:List Tmp} {nt:Nat} (he:ExtD w G w1 G') (hb:BI N w1 G' st a vs nt) (d:DefW w1 w') (hs:∀b,b<w.heap.size→w'.heap[b]? = w1.heap[b]?) (vars:List PV) (rs:List PRes):
  Ext w G w' { fix:=(G'.shut (B8 vars rs) st.heap).fix,heap:=G'.heap,box:=λ_=>none,ow:=Bl G'.ow,df:=G.df }∧Between N w' { fix:=(G'.shut (B8 vars rs) st.heap).fix,heap:=G'.heap,box:=λ_=>none,ow:=Bl G'.ow,df:=G.df } (zh vars rs st.heap):=by
 have dK:=hb.def' d
 have he:Ext w { G with df:=G'.df } w1 G':=he
 refine⟨⟨d.os.trans he.os,d.tape.trans he.tape,d.output.trans he.output,by rw[d.size]; exact he.size,λb dc h=>(hs b dc).trans (he.same b dc h),λb o h=>⟨.inl (he.fix b o h).1,(d.cell b o).trans (he.fix b o h).2⟩,?_,?_,he.heap,he.shape.trans d.shape,rfl⟩,⟨λb k h=>(GB h).2,λ_=>rfl⟩,?_,λb k h=>dK.fi.owlt b k (GB h).1,(dK.fi.heap.shut vars rs).sub rfl rfl (λb k hk h=>N2 h hk),?_⟩
 ·rintro b o (h|⟨n,_,cs,h1,h2,_⟩)
  ·exact he.newfix b o h
  ·rcases hb.fi.heap.1 n _ h2 with h3|⟨b',k1,k2,_⟩
   ·simp at h3
   rw[h1] at k1; cases k1
   exact .inr (he.own b (by rw[k2]; simp))
 ·intro b h
  refine he.own b ?_
  intro e
  exact h (by simp[Bl,e])
 ·rintro b o (h|⟨n,_,cs,h1,h2,_⟩)
  ·exact dK.fi.fixlt b o h
  ·rcases dK.fi.heap.1 n _ h2 with h3|⟨b',k1,k2,_⟩
   ·simp at h3
   rw[h1] at k1; cases k1
   exact dK.fi.owlt b _ k2
 ·rw[SO]; exact dK.fi.hdom
theorem N3 {kp:Bool} {fn:Func} {vs:List Tmp} {nt:Nat} {w:World} {G:GS} {st:St} {a:Act} {rs:List PRes} {r:PV} (hb:BI N w G st a vs nt) (hc:Dh P kp vs fn.results.toList=some rs) (hr:zS st rs=some r):
  ∃v,(results fn a.tmps).run P w = .ok v w∧VR N w (G.shut (B8 st.vars rs) st.heap).fix (G.shut (B8 st.vars rs) st.heap).heap v r:=by
 simp only[zS,ab] at hr
 obtain⟨us,eV,gc⟩:=hr
 obtain⟨rvals,h1,h2,h3⟩:=ST (P:=P) (ns:=B8 st.vars rs) hb (λp hp n hn=>SP hn hp) hc eV
 have hm:results fn a.tmps=(do let vs←fn.results.mapM (Iw a); pure (if h:vs.size=1 then vs[0] else .tuple vs)):=rfl
 rw[hm,Array.mapM_eq_mapM_toList]
 simp only[Sem.run_bind,Sem.run_map]
 rw[h1]
 simp only[Result.andThen_ok,Sem.run_pure]
 subst gc
 cases us with
 | nil =>
   have:rvals=[]:=by simpa using h2
   subst this
   exact⟨.tuple #[],by simp,.tuple #[] _ rfl (by simp)⟩
 | cons u us2 =>
   cases us2 with
   | nil =>
     obtain⟨v,rfl⟩:=List.length_eq_one_iff.1 (by simpa using h2)
     exact⟨v,by simp,h3 0 v u rfl rfl⟩
   | cons u2 us3 =>
     refine⟨.tuple rvals.toArray,?_,.tuple _ _ ?_ ?_⟩
     ·have:¬rvals.toArray.size=1:=by
       intro e
       have e':rvals.length=1:=e
       rw[h2] at e'
       simp at e'
      rw[dif_neg this]
     ·simpa using h2
     ·intro i v p hv hp
      simp only[aF,ab] at hp
      obtain⟨q,hq,rfl⟩:=hp
      exact(h3 i v q (by simpa using hv) hq).dem
theorem c4B {L:Nat→Option PFunc} (hE:EnvOk E N) (hP:E.P=P) (dR:P.follows .mixedOrders=true) (hF:Al N P L) (hL:∀k pf,L k=some pf→FnS E N k pf) {n:Nat} (da:∀m,m<n→Runs N P L m)
  {k:Nat} {pf:PFunc} {fn:Func} {vs:List Tmp} (oE:FnC E N k pf fn vs) (iY:pf.code.isRound=false) {args:List PV} {o:Out} {h0 h':List PObj} (hc:Bp (yr L n) (Ay L) pf args h0=some (o,h')) (dS:args.length=pf.params)
  {w:World} {G:GS} {vals:Array Value} (ef:Between N w G h0) (dj:vals.size=args.length) (di:∀(i:Nat) (v:Value) (p:PV),vals[i]? = some v→args[i]? = some p→VR N w G.fix G.heap v p):
  Calls P (N.fn k) vals w λe w'=>∃G',OutR N w' G' e o∧Ext w G w' G'∧Between N w' G' h':=by
 obtain⟨f1,f2,f3,f4,f5,f6,f7,opt,f8,f8',f9⟩:=oE
 simp only[ab] at f8
 obtain⟨c,gL,lG⟩:=f8
 rw[hP] at f1
 rw[hP] at f9
 have pL:LpOK (E.opt opt) N fn.ntmps (N.fn k) c:=by
  rcases f8' with h|h
  ·intro ps kb vars hl
   simp only[Env.opt,h] at hl
   simp at hl
  ·exact h c gL
 let st0:St:={ vars:=args.map dem++List.replicate (pf.nv - pf.params) .dead,locs:=[],gen:=0,heap:=h0 }
 let a0:Act:={ tmps:=vals++Array.replicate (fn.ntmps - vals.size) undef,defers:=[] }
 let G0:GS:={ G with df:=[] }
 have jB:BI N w G0 st0 a0 vs fn.ntmps:=by
  refine⟨⟨?_,?_,(by intro j t u hj; simp at hj),?_,(by intro j t hj; simp at hj),rfl,(by intro g b h; have h:G.box g=some b:=h; rw[ef.only.box] at h; simp at h),ef.owlt,ef.fixlt,ef.heap,ef.hdom⟩,?_⟩
  ·simp only[st0,ao,aG,List.length_replicate,f5,dS]; omega
  ·intro i t u h1 h2
   by_cases hi:i<pf.params
   ·have ht:t=i:=by rw[f7 i hi] at h1; simpa using h1.symm
    subst ht
    have iQ:t<args.length:=by rw[dS]; exact hi
    simp only[st0] at h2
    rw[al (by simpa using iQ)] at h2
    simp only[aF,an iQ,aC,aa] at h2
    subst h2
    have kV:t<vals.size:=by rw[dj]; exact iQ
    have fN:a0.eval (.tmp t)=vals[t]:=by
     simp only[a0,Act.eval,aV]
     rw[bp kV]
     simp[kV]
    rw[fN]
    have hv:=di t vals[t] args[t] (by simp[kV]) (an iQ)
    exact SR.of_pure hv.dem hv.cp_dem
   ·simp only[st0] at h2
    rw[aq (by rw[aG,dS]; omega)] at h2
    rw[cB] at h2
    split at h2
    ·simp at h2; subst h2; trivial
    ·simp at h2
  ·intro i t h1
   have h3:=f4 t (ax h1)
   simp only[a0,b8,cQ]
   exact aP h3 ((Nat.sub_le_iff_le_add').1 (am _))
  ·simp only[a0,b8,cQ]
   exact(Nat.sub_le_iff_le_add').1 (am _)
 have walk:∀(x:PExit) (st':St),yr L n pf.code st0=some (x,st')→(∀a' w' G' e,Bk N w' G' x e→BI N w' G' st' a' vs fn.ntmps→ExtD w G w' G'→DfR pf.code x w G0 w' G'→SU P fn (λe w'=>∃G',OutR N w' G' e o∧Ext w G w' G'∧Between N w' G' h') e a' w') →
   Calls P (N.fn k) vals w λe w'=>∃G',OutR N w' G' e o∧Ext w G w' G'∧Between N w' G' h':=by
  intro x st' hx hq
  refine SV f1 gL ?_
  exact EA (rd':=none) hF (hE.opt opt) hP dR f3 n da (by rw[← lG]; exact Io) hx jB pL (.inl rfl) (fun⟨_,_,h⟩=>h) hq
 have marks:∀{x:PExit} {w':World} {G':GS} {st':St} {a':Act} {R:Ending→World→Prop} {u:FrameMode},u≠.run→x.plain=true→BI N w' G' st' a' vs fn.ntmps→DfR pf.code x w G0 w' G' →
   (∀w'',DefW w' w''→(∀b,b<w.heap.size→w''.heap[b]? = w'.heap[b]?)→LeavesIn (W none) 0 P fn a'.tmps R [] u w'')→LeavesInM (W none) 0 P fn a'.tmps R a'.defers u w':=by
  intro x w' G' st' a' R u hu hx hb hd hK
  have key:(∃ms,G'.df=ms++G0.df∧Marks w w' G' ms∧(pf.code.NR=true→ms=[]))→LeavesInM (W none) 0 P fn a'.tmps R a'.defers u w':=by
   rintro⟨ms,h1,⟨bs,rfl,h2,h3⟩,_⟩
   have jA:a'.defers=bs.map λb=>{ target := .collected b,args := #[] }:=by
    rw[hb.fi.defers,h1]; exact aW _
   rw[jA]
   exact N1 (G:=G') (w0:=w) hu h2 h3 hK
  cases x with
  | after _ _ _=>simp[PExit.plain] at hx
  | normal=>exact key hd
  | exit _=>exact key hd
  | ret=>exact key hd
  | boom _=>exact key hd
 have fin:∀(x:PExit) (st':St),yr L n pf.code st0=some (x,st')→(x = .normal∨x = .ret)→(zS st' pf.results).map (λr=>(Out.val r,zh st'.vars pf.results st'.heap))=some (o,h') →
   Calls P (N.fn k) vals w λe w'=>∃G',OutR N w' G' e o∧Ext w G w' G'∧Between N w' G' h':=by
  intro x st' hx r5 dZ
  simp only[ab,ac] at dZ
  obtain⟨r,hr,rfl,rfl⟩:=dZ
  refine walk x st' hx ?_
  intro a' w' G' e he dn cX fF
  have hp:x.plain=true:=by rcases r5 with rfl|rfl<;>rfl
  have hL:=marks (R:=λe w'=>∃G',OutR N w' G' e (.val r)∧Ext w G w' G'∧Between N w' G' (zh st'.vars pf.results st'.heap)) (u := .returning) (by simp) hp dn fF (by
   intro w'' d dA
   obtain⟨v,ip,gV⟩:=N3 (dn.def' d) f9 hr
   obtain⟨l1,l2⟩:=GA cX dn d dA st'.vars pf.results
   exact⟨v,ip,_,by exact⟨v,rfl,gV⟩,l1,l2⟩)
  rcases r5 with rfl|rfl<;>(simp only[Bk] at he; subst he; exact hL)
 unfold Bp at hc
 split at hc
 ·rename_i heq; rw[heq] at iY; simp[PC.isRound] at iY
 ·split at hc
  ·rename_i st' hx
   exact fin .normal st' hx (.inl rfl) hc
  ·rename_i st' hx
   exact fin .ret st' hx (.inr rfl) hc
  ·rename_i p st' hx
   simp only[aa,ac] at hc
   obtain⟨rfl,rfl⟩:=hc
   refine walk _ st' hx ?_
   rintro a' w' G' e ⟨v,rfl,hv⟩ dn cX fF
   refine marks (x := .boom p) (by simp) rfl dn fF ?_
   intro w'' d dA
   obtain⟨l1,l2⟩:=GA cX dn d dA st'.vars []
   exact⟨_,by exact⟨v,rfl,(hv.def' d).shut⟩,l1,l2⟩
  ·rename_i kd caps vo st' hx
   split at hc
   ·simp at hc
   ·rename_i tT
    have tU:pf.code.NR=true:=by simpa using tT
    simp only[aj,ab,ac] at hc
    obtain⟨h1,kU,r,hr,rfl,rfl⟩:=hc
    obtain⟨g,fd,lz,hg,xu⟩:∃g fd,L kd=some fd∧g (vo.getD .nilIface::caps) st'.heap=some h1∧EP N P kd g:=by
     unfold Ay at kU
     split at kU
     ·rename_i f hf
      split at kU
      ·rename_i g hg
       have fl:FnF E N kd f:=by
        rcases hL kd f hf with h|⟨y,fn,vs,o,a,b,h⟩
        ·exact h
        ·rw[h.dfr] at hg; simp at hg
       rcases fl.2.2.2 with⟨_,h,_⟩|⟨_,_,_,h,_⟩|⟨g',fd,_,_,h3,h4,h5,h6,h7⟩
       ·rw[h] at hg; simp at hg
       ·rw[h] at hg; simp at hg
       ·rw[hg] at h3
        simp only[aa] at h3
        subst h3
        exact⟨g,f,hf,kU,by rw[← hP]; exact h7⟩
      ·simp at kU
     ·simp at kU
    refine walk _ st' hx ?_
    intro a' w' G' e he dn cX fF
    obtain⟨d1,iS⟩:∃d,G'.df=d::G0.df:=fF tU
    have last:∀(u:FrameMode),Clo N w' G' kd caps→u≠.run→(u = .returning∧vo.getD .nilIface = .nilIface∨∃v,u = .panicking [{ v,recovered:=false }]∧VR N w' G'.fix G'.heap v (vo.getD .nilIface)) →
      LeavesInM (W none) 0 P fn a'.tmps (λe w'=>∃G',OutR N w' G' e (.val r)∧Ext w G w' G'∧Between N w' G' (zh st'.vars pf.results h1)) a'.defers u w':=by
     rintro u ⟨d,ds,vals',k1,rfl,k3,k4⟩ hu gC
     have tV:ds=[]:=by
      rw[iS] at k1
      simp only[bF] at k1
      exact k1.2.symm
     subst tV
     have jA:a'.defers=[{ target := .fn (.func (N.fn kd)) vals',args := #[] }]:=by rw[dn.fi.defers,k1]
     rw[jA]
     have kz:(invoke (.fn (.func (N.fn kd)) vals') #[]).run P w' = .ok (.enter (N.fn kd) vals') w':=by
      simp only[invoke,Array.empty_append]
      exact Dg hF lz _ _
     refine⟨hu,.inr ⟨GC,_,_,_,_,rfl,kz,λ_ _=>Cq _,?_⟩⟩
     refine(xu _ _ _ _ hg w' G'.callee vals' (Gs dn.fi) k3 k4 u gC).mono ?_
     rintro e u' w'' ⟨⟨v,rfl⟩,yH,G2,tW,dK⟩
     obtain⟨G3,lH,xw,_,_⟩:=Kd dn.fi tW dK
     have jW:BI N w'' G3 { st' with heap:=h1 } a' vs fn.ntmps:=⟨xw,dn.size⟩
     simp only[yH]
     obtain⟨v2,ip,gV⟩:=N3 jW f9 hr
     obtain⟨l1,l2⟩:=GA (ExtD.trans cX (.of lH)) jW (DefW.refl _) (λ_ _=>rfl) st'.vars pf.results
     exact⟨v2,ip,_,by exact⟨v2,rfl,gV⟩,l1,l2⟩
    cases vo with
    | none =>
      obtain⟨he,jJ⟩:=he
      have:=last .returning jJ (by simp) (.inl ⟨rfl,rfl⟩)
      rcases he with rfl|rfl<;>exact this
    | some p =>
      obtain⟨⟨v,rfl,hv⟩,jJ⟩:=he
      exact last _ jJ (by simp) (.inr ⟨v,rfl,hv⟩)
  ·simp at hc
theorem c4C {kp:Bool} {fn:Func} {vs:List Tmp} {nt:Nat} {w:World} {G:GS} {st:St} {a:Act} {rs:List PRes} {es:List PV} {v:Value} (hb:BI N w G st a vs nt) (hc:Dh P kp vs fn.results.toList=some rs) (hr:zS st rs=some (.list true es))
  (hv:(results fn a.tmps).run P w = .ok v w):∃i,Room w G (.var i) v es:=by
 simp only[zS,ab] at hr
 obtain⟨us,eV,gc⟩:=hr
 have oF:us=[.list true es]:=by
  cases us with
  | nil=>simp at gc
  | cons u us => cases us with
    | nil=>simp at gc; subst gc; rfl
    | cons _ _=>simp at gc
 subst oF
 cases rs with
 | nil=>simp[Ce] at eV
 | cons p ps =>
   simp only[Ce,aj,ab] at eV
   obtain⟨u,hp,us',ey,he⟩:=eV
   simp only[bF] at he
   obtain⟨rfl,rfl⟩:=he
   have tX:ps=[]:=by
    cases ps with
    | nil=>rfl
    | cons q qs =>
      simp only[Ce,aj,ab] at ey
      obtain⟨_,_,_,_,h⟩:=ey
      simp at h
   subst tX
   cases hl:fn.results.toList with
   | nil=>rw[hl] at hc; simp[Dh] at hc
   | cons r0 rl =>
     rw[hl] at hc
     simp only[Dh,aj,ab] at hc
     obtain⟨q,hq,qs,kR,he⟩:=hc
     simp only[bF] at he
     obtain⟨rfl,rfl⟩:=he
     have m9:rl=[]:=by
      cases rl with
      | nil=>rfl
      | cons x xs =>
        simp only[Dh,aj,ab] at kR
        obtain⟨_,_,_,_,h⟩:=kR
        simp at h
     subst m9
     have noList:∀{x:Option PV},x.bind cp=some (.list true es)→False:=by
      intro x h
      cases x with
      | none=>simp at h
      | some y=>cases y<;>simp[cp] at h
     have tY:∃i,q = .var i∧st.vars[i]? = some (.list true es):=by
      cases q with
      | keep i=>simp only[BZ] at hp; exact(noList hp).elim
      | cell i size agg =>
        have noLoad:∀{size agg cs off},yu size agg cs off=some (.list true es)→False:=by
         intro size agg cs off h
         unfold yu at h
         split at h
         ·split at h<;>simp at h
         ·split at h
          ·rename_i y _; cases y<;>simp[cp] at h
          ·simp at h
        simp only[BZ] at hp
        split at hp
        ·simp only[aj] at hp
         obtain⟨y,hy,hf⟩:=hp
         have:y = .list true es:=by
          cases y<;>simp[zY] at hf
          simp[hf]
         subst this
         exact(noLoad hy).elim
        ·simp only[aj] at hp
         obtain⟨cs,_,hy⟩:=hp
         exact(noLoad hy).elim
        ·simp at hp
      | var i =>
        refine⟨i,rfl,?_⟩
        simp only[BZ,aj] at hp
        obtain⟨x,hx,iH⟩:=hp
        split at iH
        ·simp at iH; subst iH; exact hx
        ·split at iH
         ·simp only[aj,ab] at iH
          obtain⟨_,_,_,_,h⟩:=iH
          simp at h
         ·simp at iH
        ·simp at iH
        ·exact(noList (x:=some _) (by simpa using iH)).elim
     obtain⟨i,rfl,hi⟩:=tY
     cases r0 with
     | cell t ty =>
       simp only[Gx,aj,ab] at hq
       obtain⟨_,_,_,_,h⟩:=hq
       simp at h
     | tmp t =>
       simp only[Gx,ab] at hq
       obtain⟨i',jz,kB⟩:=hq
       obtain⟨_,ez⟩:=Ey jz
       have:i'=i:=by cases kp<;>simp at kB; exact kB
       subst this
       have hs:=hb.fi.var i' t _ (by simpa using ez) hi
       have dZ:fn.results = #[.tmp t]:=by
        have:=aL List.toArray hl
        simpa using this
       have r6:v=a.eval (.tmp t):=by
        simp[results,dZ] at hv
        simp[Act.eval]
        exact hv.symm
       rw[r6]
       exact⟨i',hs.2⟩
theorem c2C {L:Nat→Option PFunc} (hE:EnvOk E N) (hP:E.P=P) (dR:P.follows .mixedOrders=true) (hF:Al N P L) {n:Nat} (da:∀m,m<n→Runs N P L m)
  {k:Nat} {pf:PFunc} {fn:Func} {vs:List Tmp} (oE:FnC E N k pf fn vs) {own:Option Nat} {args:List PV} {r:PV} {h':List PObj} (hc:Bq (yr L n) pf own args []=some (r,h')) (dS:args.length=pf.params)
  {w:World} {G:GS} {vals:Array Value} (dQ:OwnIn N w G own args vals):
  Calls P (N.fn k) vals w λe w'=>∃v G',e = .returned v∧VR N w' G'.fix G'.heap v r∧Ext w G w' G'∧(∀b o,G'.fix b o→b<w'.heap.size)∧∀es,r = .list true es→FM w G w' G' v es:=by
 obtain⟨f1,f2,f3,f4,f5,f6,f7,opt,f8,f8',f9⟩:=oE
 simp only[ab] at f8
 obtain⟨c,gL,lG⟩:=f8
 rw[hP] at f1
 rw[hP] at f9
 have pL:LpOK (E.opt opt) N fn.ntmps (N.fn k) c:=by
  rcases f8' with h|h
  ·intro ps kb vars hl
   simp only[Env.opt,h] at hl
   simp at hl
  ·exact h c gL
 have qQ:(C4 own args).length=args.length:=by cases own<;>simp[C4]
 let st0:St:={ vars:=C4 own args++List.replicate (pf.nv - pf.params) .dead,locs:=[],gen:=0,heap:=[] }
 let a0:Act:={ tmps:=vals++Array.replicate (fn.ntmps - vals.size) undef,defers:=[] }
 let G0:GS:={ G with df:=[] }
 have jB:BI N w G0 st0 a0 vs fn.ntmps:=by
  refine⟨⟨?_,?_,(by intro j t u hj; simp at hj),?_,(by intro j t hj; simp at hj),rfl,(by intro g b h; have h:G.box g=some b:=h; rw[dQ.box] at h; simp at h),dQ.owlt,dQ.fixlt,⟨by intro n ob h; simp[st0] at h,dQ.tab⟩,(by intro n b h; have h:G.heap n=some b:=h; rw[dQ.heap] at h; simp at h)⟩,?_⟩
  ·simp only[st0,ao,qQ,List.length_replicate,f5,dS]; omega
  ·intro i t u h1 h2
   by_cases hi:i<pf.params
   ·have ht:t=i:=by rw[f7 i hi] at h1; simpa using h1.symm
    subst ht
    have iQ:t<args.length:=by rw[dS]; exact hi
    simp only[st0] at h2
    rw[al (by rw[qQ]; exact iQ)] at h2
    have kV:t<vals.size:=by rw[dQ.size]; exact iQ
    have fN:a0.eval (.tmp t)=vals[t]:=by
     simp only[a0,Act.eval,aV]
     rw[bp kV]
     simp[kV]
    rw[fN]
    have hv:=dQ.vr t vals[t] args[t] (by simp[kV]) (an iQ)
    have plain:u=dem args[t]→SR N w G0 (.var t) vals[t] u:=by
     rintro rfl
     exact SR.of_pure hv.dem hv.cp_dem
    cases own with
    | none =>
      refine plain ?_
      simp only[C4,aF,an iQ,aC,aa] at h2
      exact h2.symm
    | some i =>
      simp only[C4,aO,aG] at h2
      split at h2
      ·rename_i xx
       subst xx
       rw[af iQ] at h2
       simp only[cV,an iQ,bX,aa] at h2
       subst h2
       rcases hv.cp_or with h|⟨es,h⟩
       ·exact SR.of_pure hv h
       ·rw[h] at hv ⊢
        exact⟨hv,dQ.room i vals[i] es rfl (by simp[kV]) (by rw[an iQ,h])⟩
      ·refine plain ?_
       simp only[aF,an iQ,aC,aa] at h2
       exact h2.symm
   ·simp only[st0] at h2
    rw[aq (by rw[qQ,dS]; omega)] at h2
    rw[cB] at h2
    split at h2
    ·simp at h2; subst h2; trivial
    ·simp at h2
  ·intro i t h1
   have h3:=f4 t (ax h1)
   simp only[a0,b8,cQ]
   exact aP h3 ((Nat.sub_le_iff_le_add').1 (am _))
  ·simp only[a0,b8,cQ]
   exact(Nat.sub_le_iff_le_add').1 (am _)
 have fin:∀(x:PExit) (st':St),yr L n pf.code st0=some (x,st')→(x = .normal∨x = .ret)→(zS st' pf.results).map (λr=>(r,zh st'.vars pf.results st'.heap))=some (r,h') →
   Calls P (N.fn k) vals w λe w'=>∃v G',e = .returned v∧VR N w' G'.fix G'.heap v r∧Ext w G w' G'∧(∀b o,G'.fix b o→b<w'.heap.size)∧∀es,r = .list true es→FM w G w' G' v es:=by
  intro x st' hx r5 dZ
  simp only[ab,ac] at dZ
  obtain⟨r,hr,rfl,rfl⟩:=dZ
  refine SV f1 gL ?_
  refine EA (rd':=none) hF (hE.opt opt) hP dR f3 n da (by rw[← lG]; exact Io) hx jB pL (.inl rfl) (fun⟨_,_,h⟩=>h) ?_
  intro a' w' G' e he dn cX fF
  have cX:ExtD w G w' G':=cX
  have key:(∃ms,G'.df=ms++G0.df∧Marks w w' G' ms∧(pf.code.NR=true→ms=[]))→LeavesInM (W none) 0 P fn a'.tmps (λe w'=>∃v G',e = .returned v∧VR N w' G'.fix G'.heap v r∧Ext w G w' G'∧(∀b o,G'.fix b o→b<w'.heap.size)∧∀es,r = .list true es→FM w G w' G' v es) a'.defers .returning w':=by
   rintro⟨ms,h1,⟨bs,rfl,h2,h3⟩,_⟩
   have jA:a'.defers=bs.map λb=>{ target := .collected b,args := #[] }:=by
    rw[dn.fi.defers,h1]; exact aW _
   rw[jA]
   refine N1 (G:=G') (w0:=w) (by simp) h2 h3 ?_
   intro w'' d dA
   obtain⟨v,ip,gV⟩:=N3 (dn.def' d) f9 hr
   obtain⟨l1,l2⟩:=GA cX dn d dA st'.vars pf.results
   refine⟨v,ip,v,{ fix:=(G'.shut (B8 st'.vars pf.results) st'.heap).fix,heap:=G'.heap,box:=λ_=>none,ow:=Bl G'.ow,df:=G.df },rfl,gV,l1,l2.fixlt,?_⟩
   rintro es rfl
   obtain⟨i,hi⟩:=c4C (dn.def' d) f9 hr ip
   unfold FM
   unfold Room at hi
   split at hi
   ·rename_i a1 len cap
    rcases hi with hi|⟨i1,sz,cs,T,i2,i3,i4,i5,i6⟩
    ·exact .inl hi
    ·refine .inr ⟨?_,sz,cs,T,i2,i3,i4,i5,?_⟩
     ·exact cX.own a1.block (by rw[i1]; simp)
     ·rintro o ho (h|⟨m,hm,cs',j1,j2,_⟩)
      ·exact i6 o ho h
      ·rcases dn.fi.heap.1 m _ j2 with h3|⟨b',k1,k2,_⟩
       ·simp at h3
       ·rw[j1] at k1
        simp only[aa] at k1
        subst k1
        rw[i1] at k2
        simp at k2
   ·rename_i dh
    split
    ·rename_i a1 len cap; exact absurd rfl (dh _ _ _)
    ·trivial
  rcases r5 with rfl|rfl<;>(simp only[Bk] at he; subst he; exact key fF)
 unfold Bq at hc
 split at hc
 ·simp at hc
 ·split at hc
  ·rename_i st' hx
   exact fin .normal st' hx (.inl rfl) hc
  ·rename_i st' hx
   exact fin .ret st' hx (.inr rfl) hc
  ·simp at hc
theorem SX:∀(ps:List (Tmp×Value)) (a:Array Value),(ps.foldl (λtmps x=>tmps.setIfInBounds x.1 x.2) a).size=a.size∧(∀t,t∉ps.map (·.1)→(ps.foldl (λtmps x=>tmps.setIfInBounds x.1 x.2) a).getD t undef=a.getD t undef) ∧
  ((ps.map (·.1)).Nodup→∀x∈ps,x.1<a.size→(ps.foldl (λtmps x=>tmps.setIfInBounds x.1 x.2) a).getD x.1 undef=x.2)
 | [],a=>⟨rfl,λ_ _=>rfl,by simp⟩
 | (t0, v0) :: ps, a => by
   obtain⟨h1,h2,h3⟩:=SX ps (a.setIfInBounds t0 v0)
   simp only[cI,aA,az,not_or,cg]
   refine⟨by rw[h1]; simp,?_,?_⟩
   ·rintro t ⟨n1,n2⟩
    rw[h2 t n2]
    simp only[aV,bi]
    rw[ae (λe=>n1 e.symm)]
   ·rintro⟨n1,n2⟩ x (rfl|hx) dc
    ·rw[h2 _ n1]
     simp only[aV,bi,if_true]
     simp[dc]
    ·exact h3 n2 x hx (by simpa using dc)
theorem b8U {L:Nat→Option PFunc} (hE:EnvOk E N) (hP:E.P=P) (dR:P.follows .mixedOrders=true) (hF:Al N P L) {n:Nat} (da:∀m,m<n→Runs N P L m)
  {k:Nat} {pf:PFunc} {y:YL} {fn:Func} {vs:List Tmp} {opt:Opts} {ca cb:PC} (hR:RdC E N k pf y fn vs opt ca cb) {n0 l:Nat} {caps args:List PV} {o:Out} {h0 h':List PObj}
  (hc:DN (yr L n) pf.nv ca cb (.ptr n0 0::caps++args) h0=some (o,h')) (dS:(PV.ptr n0 0::caps++args).length=1+(y.vars.length+y.params.size))
  {w:World} {G:GS} {vals:Array Value} (ef:Between N w G h0) (hy:VR N w G.fix G.heap (.func (.yield l) #[] #[]) (.func k (.ptr n0 0::caps) [])) (dj:vals.size=args.length)
  (di:∀(i:Nat) (v:Value) (p:PV),vals[i]? = some v→args[i]? = some p→VR N w G.fix G.heap v p):
  ∃tmps',(Instr.yield l vals).run P w = .ok (.round l y.fn tmps' y.assign y.body) w∧∀r n',RoundIn (W r) n' P l y.fn tmps' y.assign y.body w λe w'=>∃G',OutR N w' G' e o∧Ext w G w' G'∧Between N w' G' h':=by
 have eH:P.funcs[y.fn]? = some fn:=by rw[← hP]; exact hR.inP
 generalize mb:Value.func (.yield l) #[] #[]=xv at hy
 generalize iH:PV.func k (.ptr n0 0::caps) []=xp at hy
 cases hy with
 | yield k' n' l' y' tmps caps' q0 ql qr qlen qsz qc =>
   simp only[PV.func.injEq,bF,PV.ptr.injEq] at iH
   obtain⟨rfl,⟨⟨rfl,_⟩,rfl⟩,_⟩:=iH
   simp only[Value.func.injEq,Fn.yield.injEq] at mb
   obtain⟨rfl,_⟩:=mb
   have:y'=y:=by have:=hR.yl; rw[q0] at this; simpa using this
   subst this
   obtain⟨r0,r7,e1,e2,e3,e4,e5⟩:∃r0:Go.Loop,w.heap[l]? = some (.loop r0)∧r0.fn=y'.fn∧r0.tmps=tmps∧r0.params=y'.params∧r0.assign=y'.assign∧r0.body=y'.body:=by
    unfold Bd at qr
    split at qr
    ·rename_i r0 h
     simp only[aa,ac] at qr
     exact⟨r0,h,qr⟩
    ·simp at qr
   have pB:args.length=y'.params.size:=by simp at dS; omega
   have qR:=run_yield (P:=P) (args:=vals) r7 (by rw[dj,e3]; exact pB)
   rw[e1,e4,e5,e2,e3] at qR
   refine⟨_,qR,?_⟩
   intro r n'
   have fk:(y'.params.zip vals).foldl (λtmps x=>tmps.setIfInBounds x.1 x.2) tmps=(y'.params.toList.zip vals.toList).foldl (λtmps x=>tmps.setIfInBounds x.1 x.2) tmps:=by
    rw[← Array.foldl_toList,Array.toList_zip]
   obtain⟨z1,z2,z3⟩:=SX (y'.params.toList.zip vals.toList) tmps
   have nZ:(y'.params.toList.zip vals.toList).map (·.1)=y'.params.toList:=by
    rw[List.map_fst_zip]; simp; omega
   rw[nZ] at z2 z3
   have tZ:(y'.vars++y'.params.toList).Nodup:=by rw[← hR.head]; exact hR.nd.sublist (List.take_sublist _ _)
   obtain⟨_,nd2,nd3⟩:=cd.1 tZ
   have ev:y'.vars.length+y'.params.size≤vs.length:=by
    have:=aL List.length hR.head
    simp at this; omega
   generalize vG:(y'.params.zip vals).foldl (λtmps x=>tmps.setIfInBounds x.1 x.2) tmps=tmps'
   rw[fk] at vG
   rw[vG] at z1 z2 z3
   have r6:∀i,i<y'.vars.length+y'.params.size→vs[i]? = (y'.vars++y'.params.toList)[i]? := by
    intro i hi
    rw[← hR.head,aY,af hi]
   let st0:St:={ vars:=(caps++args).map dem++List.replicate (pf.nv - (caps++args).length) .dead,locs:=[],gen:=0,heap:=h0 }
   let a0:Act:={ tmps:=tmps',defers:=[] }
   let G0:GS:={ G with df:=[] }
   have oG:(caps++args).length=y'.vars.length+y'.params.size:=by simp; omega
   have jB:BI N w G0 st0 a0 vs y'.nt:=by
    refine⟨⟨?_,?_,(by intro j t u hj; simp at hj),?_,(by intro j t hj; simp at hj),rfl,(by intro g b h; have h:G.box g=some b:=h; rw[ef.only.box] at h; simp at h),ef.owlt,ef.fixlt,ef.heap,ef.hdom⟩,?_⟩
    ·have:=hR.len
     simp only[st0,ao,aG,List.length_replicate] at oG ⊢
     omega
    ·intro i t u h1 h2
     by_cases hi:i<(caps++args).length
     ·rw[r6 i (by omega)] at h1
      simp only[st0] at h2
      rw[al (by simpa using hi)] at h2
      simp only[aF,an hi,aC,aa] at h2
      subst h2
      have eI:VR N w G.fix G.heap (tmps'.getD t undef) (caps++args)[i]:=by
       by_cases ez:i<y'.vars.length
       ·rw[al ez] at h1
        have vH:i<caps.length:=by omega
        have hq:=qc i t caps[i] h1 (by simp[vH])
        have pQ:t∉y'.params.toList:=λhm=>nd3 t (ax h1) t hm rfl
        rw[z2 t pQ]
        rw[List.getElem_append_left vH]
        exact hq
       ·rw[aq (by omega)] at h1
        have xy:i - caps.length<args.length:=by rw[ao] at hi; omega
        have vI:i - caps.length<vals.size:=by omega
        rw[List.getElem_append_right (by omega)]
        have xz:y'.params.toList[i - caps.length]? = some t:=by rw[qlen]; exact h1
        have dX:(t,vals[i - caps.length])∈y'.params.toList.zip vals.toList:=by
         refine bj.2 ⟨i - caps.length,?_⟩
         rw[List.getElem?_zip_eq_some]
         exact⟨xz,by simp[vI]⟩
        have pU:t<tmps.size:=by
         have hm:t∈vs:=by
          have h3:=r6 i (by omega)
          rw[aq (by omega)] at h3
          rw[h1] at h3
          exact ax h3
         exact aP (hR.lt t hm) qsz
        rw[z3 nd2 _ dX pU]
        exact di (i - caps.length) _ _ (by simp[vI]) (by simp[xy])
      have fN:a0.eval (.tmp t)=tmps'.getD t undef:=rfl
      rw[fN]
      exact SR.of_pure eI.dem eI.cp_dem
     ·simp only[st0] at h2
      rw[aq (by simpa using hi)] at h2
      rw[cB] at h2
      split at h2
      ·simp at h2; subst h2; trivial
      ·simp at h2
    ·intro i t h1
     have:=hR.lt t (ax h1)
     show t<tmps'.size
     rw[z1]; exact aP this qsz
    ·show y'.nt≤tmps'.size
     rw[z1]; exact qsz
   have pL:∀c,LpOK (E.opt opt) N y'.nt y'.fn c:=by
    intro c ps kb vars hl
    simp only[Env.opt,hR.lps] at hl
    simp at hl
   have rec1:∀{w':World} {G':GS} {st:St} {a:Act} {ready:Bool},ExtD w G0 w' G'→BI N w' G' st a vs y'.nt→st.heap[n0]? = some (.loop ready) →
     ∃r1:Go.Loop,G'.heap n0=some l∧G'.ow l=some (.hobj n0)∧(∀o,¬G'.fix l o)∧w'.heap[l]? = some (.loop r1)∧r1.pending=none∧r1.state=(if ready then .ready else .busy):=by
    intro w' G' st a ready cX hb hl
    rcases hb.fi.heap.1 n0 _ hl with h|⟨b,k1,k2,k3,r1,k4,k5⟩
    ·simp at h
    ·have:b=l:=by
      have:=Ext.heap cX n0 l ql
      rw[k1] at this; simpa using this
     subst this
     exact⟨r1,k1,k2,k3,k4,k5⟩
   have turn:∀{w':World} {G':GS} {st:St} {a:Act} {ob:PObj} {r1 r2:Go.Loop},ExtD w G0 w' G'→BI N w' G' st a vs y'.nt→G'.heap n0=some l→G'.ow l=some (.hobj n0)→(∀o,¬G'.fix l o)→w'.heap[l]? = some (.loop r1) →
     (r2.fn,r2.tmps,r2.params,r2.assign,r2.body)=(r1.fn,r1.tmps,r1.params,r1.assign,r1.body)→ObjR N (w'.putObj l (.loop r2)) G' n0 l ob→ExtD w G0 (w'.putObj l (.loop r2)) G'∧BI N (w'.putObj l (.loop r2)) G' (yH st n0 ob) a vs y'.nt:=by
    intro w' G' st a ob r1 r2 cX hb k1 k2 k3 k4 eC dU
    have dc:l<w'.heap.size:=(aX.1 k4).1
    obtain⟨x1,x2⟩:=SI (ob':=ob) (mob := .loop r2) hb.fi k1 k2 k3 (by simp[World.shape?,k4]) (by
     intro s hs
     simp only[Bd,k4] at hs
     simp only[Bd,bi,dc,if_true]
     simp only[aa] at hs ⊢
     rw[eC]; exact hs) (.inr dU)
    exact⟨cX.trans (.of x1),⟨x2,hb.size⟩⟩
   have hobj:∀{w':World} {G':GS} {r1 r2:Go.Loop},w'.heap[l]? = some (.loop r1)→(w'.putObj l (.loop r2)).heap[l]? = some (.loop r2):=by
    intro w' G' r1 r2 k4
    exact World.putObj_heap_same (aX.1 k4).1
   have nr:∀{p:PC},p.RO=true→p.NR=true:=by
    intro p
    induction p<;>simp_all [PC.RO,PC.NR]
   have last:∀{w':World} {G':GS} {st:St} {a:Act} {e:Ending},ExtD w G0 w' G'→BI N w' G' st a vs y'.nt→(∀G2,G2.heap=G'.heap→(∀b o,G'.fix b o→G2.fix b o)→OutR N w' G2 e o)→st.heap=h'→∃G',OutR N w' G' e o∧Ext w G w' G'∧Between N w' G' h':=by
    intro w' G' st a e cX hb ho hh
    obtain⟨l1,l2⟩:=GA (w:=w) (G:=G) cX hb (DefW.refl w') (λ_ _=>rfl) st.vars []
    refine⟨{ fix:=(G'.shut (B8 st.vars []) st.heap).fix,heap:=G'.heap,box:=λ_=>none,ow:=Bl G'.ow,df:=G.df },ho _ rfl (λb o h=>Or.inl h),l1,?_⟩
    rw[← hh]; exact l2
   refine d2o eH ?_
   unfold DN at hc
   simp only[aK] at hc
   split at hc
   ·rename_i st1 jV lc
    refine EA (rd':=some l) hF (hE.opt opt) hP dR hR.nd n da (by rw[← hR.ca]; exact Io) lc jB (pL _) (.inr hR.ra) (fun⟨_,_,h⟩=>h) ?_
    intro a1 w1 G1 e he eP el kU
    simp only[Bk] at he
    subst he
    have body:∀{x:PExit} {st2:St},st1.heap[n0]? = some (.loop true)→yr L n cb (yH st1 n0 (.loop false))=some (x,st2) →
      (∀a2 w2 G2 e2,Bk N w2 G2 x e2→BI N w2 G2 st2 a2 vs y'.nt→ExtD w G0 w2 G2→(G2.df=[])→N4 P l (λe w'=>∃G',OutR N w' G' e o∧Ext w G w' G'∧Between N w' G' h') e2 a2 w2) →
      ∃w2,(Instr.beginRound l).run P w1 = .ok () w2∧wpN (some l) y'.fn P y'.body (N4 P l (λe w'=>∃G',OutR N w' G' e o∧Ext w G w' G'∧Between N w' G' h')) a1 w2:=by
     intro x st2 ei ib hq
     obtain⟨r1,k1,k2,k3,k4,k5,k6⟩:=rec1 el eP ei
     refine⟨_,run_beginRound k4 (by rw[k6]; rfl),?_⟩
     obtain⟨t1,t2⟩:=turn (ob := .loop false) (r2:={ r1 with state := .busy }) el eP k1 k2 k3 k4 rfl ⟨k3,_,hobj (G':=G1) k4,k5,rfl⟩
     refine EA (rd':=some l) hF (hE.opt opt) hP dR hR.nd n da (by rw[← hR.cb]; exact Io) ib t2 (pL _) (.inr hR.rb) (fun⟨_,_,h⟩=>h) ?_
     intro a2 w2 G2 e2 h1 h2 h3 h4
     have hd:G2.df=[]:=by
      have d1:G1.df=[]:=by
       obtain⟨ms,m1,_,m3⟩:=kU
       rw[m1,m3 (nr hR.ra)]; rfl
      have d2:(∃ms,G2.df=ms++G1.df∧Marks (w1.putObj l (.loop { r1 with state := .busy })) w2 G2 ms∧(cb.NR=true→ms=[]))∨∃d,G2.df=d::G1.df:=by
       unfold DfR at h4
       cases x with
       | after kd cs v=>exact .inr (h4 (nr hR.rb))
       | _=>exact .inl h4
      rcases d2 with⟨ms,m1,_,m3⟩|⟨d,hd⟩
      ·rw[m1,m3 (nr hR.rb),d1]; rfl
      ·exfalso
       cases x with
       | after kd cs v=>exact D6 hR.rb ib
       | _ =>
         obtain⟨ms,m1,_,m3⟩:=h4
         rw[m1,m3 (nr hR.rb)] at hd
         simp at hd
     exact hq a2 w2 G2 e2 h1 h2 (t1.trans h3) hd
    split at hc
    ·rename_i st2 ei ib
     split at hc
     ·rename_i eJ
      simp only[aa,ac] at hc
      obtain⟨rfl,rfl⟩:=hc
      refine body ei ib ?_
      intro a2 w2 G2 e2 h1 h2 h3 _
      simp only[Bk] at h1
      subst h1
      obtain⟨r2,k1,k2,k3,k4,k5,k6⟩:=rec1 h3 h2 eJ
      refine⟨_,_,run_endRound none k4,?_⟩
      obtain⟨t1,t2⟩:=turn (ob := .loop true) (r2:={ r2 with state:=if (none:Option Code).isNone then .ready else .done,pending:=none }) h3 h2 k1 k2 k3 k4 rfl ⟨k3,_,hobj (G':=G2) k4,rfl,rfl⟩
      exact last t1 t2 (λG3 _ _=>⟨_,rfl,.bool true⟩) rfl
     ·simp at hc
    ·rename_i v st2 ei ib
     simp only[aa,ac] at hc
     obtain⟨rfl,rfl⟩:=hc
     refine body ei ib ?_
     rintro a2 w2 G2 e2 ⟨v',rfl,hv⟩ h2 h3 h4
     refine⟨by rw[h2.fi.defers]; exact h4,?_⟩
     exact last h3 h2 (λG3 g1 g2=>⟨v',rfl,by rw[g1]; exact hv.mono (λb o hf=>⟨g2 b o hf,rfl⟩) (λ_ _ h=>h) (ShapeLe.refl _)⟩) rfl
    ·rename_i id st2 ei ib
     split at hc
     ·rename_i eJ
      simp only[aa,ac] at hc
      obtain⟨rfl,rfl⟩:=hc
      refine body ei ib ?_
      intro a2 w2 G2 e2 h1 h2 h3 _
      simp only[Bk] at h1
      subst h1
      obtain⟨r2,k1,k2,k3,k4,k5,k6⟩:=rec1 h3 h2 eJ
      refine⟨_,_,run_endRound (some (.exit id)) k4,?_⟩
      obtain⟨t1,t2⟩:=turn (ob := .over (some id)) (r2:={ r2 with state:=if (some (Code.exit id)).isNone then .ready else .done,pending:=some (.exit id) }) h3 h2 k1 k2 k3 k4 rfl ⟨k3,_,hobj (G':=G2) k4,rfl,rfl⟩
      exact last t1 t2 (λG3 _ _=>⟨_,rfl,.bool false⟩) rfl
     ·simp at hc
    ·rename_i st2 ei ib
     split at hc
     ·rename_i eJ
      simp only[aa,ac] at hc
      obtain⟨rfl,rfl⟩:=hc
      refine body ei ib ?_
      intro a2 w2 G2 e2 h1 h2 h3 _
      simp only[Bk] at h1
      subst h1
      obtain⟨r2,k1,k2,k3,k4,k5,k6⟩:=rec1 h3 h2 eJ
      refine⟨_,_,run_endRound (some .ret) k4,?_⟩
      obtain⟨t1,t2⟩:=turn (ob := .over none) (r2:={ r2 with state:=if (some Code.ret).isNone then .ready else .done,pending:=some .ret }) h3 h2 k1 k2 k3 k4 rfl ⟨k3,_,hobj (G':=G2) k4,rfl,rfl⟩
      exact last t1 t2 (λG3 _ _=>⟨_,rfl,.bool false⟩) rfl
     ·simp at hc
    ·simp at hc
   ·simp at hc
 | _=>simp at mb
theorem b7h {ex:PC→St→Option (PExit×St)} {f:PFunc} {args:List PV} {h:List PObj} {r} (hc:CL ex f args h=some r):∃rest,args = .dead::rest:=by
 unfold CL at hc
 split at hc
 ·exact⟨_,rfl⟩
 ·cases hc
theorem SY {ex:PC→St→Option (PExit×St)} {f:PFunc} {args:List PV} {h:List PObj} {r} (hc:CL ex f args h=some r):f.code.isRound=false:=by
 unfold CL at hc
 have one:∀{o:Option Nat} {args:List PV},Bq ex f o args h=some r→f.code.isRound=false:=by
  intro o args hr
  unfold Bq at hr
  split at hr
  ·simp at hr
  ·rename_i hn; simpa using hn
 split at hc
 ·split at hc
  ·split at hc
   ·split at hc
    ·exact one (DD.1 hc).1
    ·exact one hc
   ·simp at hc
  ·simp at hc
 ·simp at hc
theorem c0V {L:Nat→Option PFunc} (hE:EnvOk E N) (hP:E.P=P) (dR:P.follows .mixedOrders=true) (hL:∀k pf,L k=some pf→FnS E N k pf):∀n,Runs N P L n:=by
 have hF:Al N P L:=by
  intro k pf hk
  rcases hL k pf hk with hL|⟨y,fn,vs,o,a,b,h⟩
  rcases hL.2.2.2 with⟨_,_,fn,vs,h1,h2,_,_,_,_,_,_,h3,_⟩|⟨g,fn,_,_,h1,h2,h3,_⟩|⟨g,fn,_,_,_,h1,h2,h3,_⟩
  ·refine⟨fn,by rw[← hP]; exact h1,h2,?_⟩
   cases hb:fn.body with
   | none=>rw[hb] at h3; simp at h3
   | some c=>rfl
  ·exact⟨fn,by rw[← hP]; exact h1,h2,h3⟩
  ·exact⟨fn,by rw[← hP]; exact h1,h2,h3⟩
  ·exact⟨fn,by rw[← hP,h.no]; exact h.inP,h.name,h.body⟩
 intro n
 induction n using Nat.strongRecOn with
 | _ n ihn =>
   have prim:∀{k:Nat} {pf:PFunc} {g} {args:List PV} {r:PV} {h0 h':List PObj},L k=some pf→pf.prim=some g→g (args.map dem) h0=some (r,h')→∀(w:World) (G:GS) (vals:Array Value),Between N w G h0→vals.size=args.length →
     (∀(i:Nat) (v:Value) (p:PV),vals[i]? = some v→args[i]? = some p→VR N w G.fix G.heap v p) →
     Calls P (N.fn k) vals w λe w'=>∃v G',e = .returned v∧VR N w' G'.fix G'.heap v r∧Ext w G w' G'∧Between N w' G' h':=by
    intro k pf g args r h0 h' iM fq hc w G vals ef dj di
    have fl:FnF E N k pf:=by
     rcases hL k pf iM with h|⟨y,fn,vs,o,a,b,h⟩
     ·exact h
     ·rw[h.prim] at fq; simp at fq
    rcases fl.2.2.2 with⟨h,_⟩|⟨g',fn,h,_,_,_,_,nk⟩|⟨_,_,h,_⟩
    ·rw[h] at fq; simp at fq
    ·rw[h] at fq
     simp only[aa] at fq
     subst fq
     rw[hP] at nk
     refine nk (args.map dem) r h0 h' hc w G vals ef (by simpa using dj) ?_
     intro i v p hv hp
     simp only[aF,ab] at hp
     obtain⟨q,hq,rfl⟩:=hp
     exact(di i v q hv hq).dem
    ·rw[h] at fq; simp at fq
   have code:∀{k:Nat} {pf:PFunc} {args:List PV} {o:Out} {h0 h':List PObj},L k=some pf→pf.code.isRound=false→pf.prim=none→Bp (yr L n) (Ay L) pf args h0=some (o,h')→args.length=pf.params→∀(w:World) (G:GS) (vals:Array Value),Between N w G h0→vals.size=args.length →
     (∀(i:Nat) (v:Value) (p:PV),vals[i]? = some v→args[i]? = some p→VR N w G.fix G.heap v p) →
     Calls P (N.fn k) vals w λe w'=>∃G',OutR N w' G' e o∧Ext w G w' G'∧Between N w' G' h':=by
    intro k pf args o h0 h' iM mQ fq hc dS w G vals ef dj di
    obtain⟨_,iY,_,lI⟩:=(hL k pf iM).plain mQ
    rcases lI with⟨_,_,fn,vs,oE⟩|⟨g',fn,h,_⟩|⟨_,_,_,hx,_⟩
    ·exact c4B hE hP dR hF hL ihn oE iY hc dS ef dj di
    ·rw[h] at fq; simp at fq
    ·unfold Bp at hc
     rw[hx] at hc
     cases n with
     | zero=>simp[yr] at hc
     | succ n=>simp[yr] at hc
   refine⟨⟨?_,?_⟩,?_,?_,?_⟩
   ·intro k args r h0 h' hc
    unfold zT at hc
    split at hc
    ·simp at hc
    ·rename_i pf iM
     have mQ:pf.prim=none→pf.code.isRound=false:=by
      intro fq
      cases hx:pf.code.isRound with
      | false=>rfl
      | true =>
        exfalso
        split at hc
        ·rw[fq] at hc
         simp only at hc
         split at hc
         ·simp only[BA,hx,if_true] at hc
          unfold EL at hc
          split at hc<;>simp at hc
         ·simp only[BA,hx,if_true] at hc
          simp at hc
        ·have:=SY hc
         rw[hx] at this; simp at this
     have fl:FnF E N k pf:=by
      rcases hL k pf iM with h|⟨y,fn,vs,o,a,b,h⟩
      ·exact h
      ·have:=mQ h.prim
       rw[h.code] at this; simp[PC.isRound] at this
     refine⟨fl.1,?_⟩
     intro w G vals ef dj di
     split at hc
     ·rename_i dS
      split at hc
      ·rename_i g fq
       simp only[ab,ac] at hc
       obtain⟨⟨r1,h1⟩,hg,rfl,rfl⟩:=hc
       refine(prim iM fq hg w G vals ef dj di).mono ?_
       rintro e w' ⟨v,G',rfl,hv,h2,h3⟩
       exact⟨v,G',rfl,hv.dem,h2,h3⟩
      ·rename_i fq
       have iY:=fl.2.1
       suffices H:∀args:List PV,args.length=pf.params→BA (yr L n) (Ay L) pf args h0=some (r,h')→vals.size=args.length →
         (∀(i:Nat) (v:Value) (p:PV),vals[i]? = some v→args[i]? = some p→VR N w G.fix G.heap v p) →
         Calls P (N.fn k) vals w λe w'=>∃v G',e = .returned v∧VR N w' G'.fix G'.heap v r∧Ext w G w' G'∧Between N w' G' h' by
        split at hc
        ·rename_i jt
         simp only[ap] at jt
         have ml:BA (yr L n) (Ay L) pf (.nils::args.tail) h0=some (r,h')∧BA (yr L n) (Ay L) pf (.void::args.tail) h0=some (r,h'):=by
          unfold EL at hc
          split at hc
          ·rename_i he; exact⟨hc,he▸hc⟩
          ·simp at hc
         cases args with
         | nil=>simp[vague] at jt
         | cons p ps =>
           have jm:∃v,vals[0]? = some v:=by
            have h0:0<vals.size:=by rw[dj]; simp
            exact⟨vals[0],by simp[h0]⟩
           obtain⟨v0,jm⟩:=jm
           have gI:∀q,VR N w G.fix G.heap v0 q→∀(i:Nat) (v:Value) (p':PV),vals[i]? = some v→(q::ps)[i]? = some p'→VR N w G.fix G.heap v p':=by
            intro q hq i v p' h1 h2
            cases i with
            | zero=>rw[jm] at h1; simp at h1 h2; subst h1 h2; exact hq
            | succ i=>exact di (i+1) v p' h1 (by simpa using h2)
           rcases(di 0 v0 p jm rfl).vague jt.2 with h|h
           ·exact H _ (by simpa using dS) ml.1 (by simpa using dj) (gI _ h)
           ·exact H _ (by simpa using dS) ml.2 (by simpa using dj) (gI _ h)
        ·exact H args dS hc dj di
       clear hc dS dj di mQ args
       intro args dS hc dj di
       unfold BA at hc
       rw[iY] at hc
       simp only[aJ,if_false] at hc
       unfold IT at hc
       split at hc
       ·rename_i r' h1 eu
        simp only[aa,ac] at hc
        obtain⟨rfl,rfl⟩:=hc
        refine(code iM iY fq eu dS w G vals ef dj di).mono ?_
        rintro e w' ⟨G',⟨v,rfl,hv⟩,h2,h3⟩
        exact⟨v,G',rfl,hv,h2,h3⟩
       ·simp at hc
     ·
      exfalso
      obtain⟨ps,rfl⟩:=b7h hc
      ·have h0:0<vals.size:=by rw[dj]; simp
       have h1:=di 0 vals[0] .dead (by simp[h0]) rfl
       generalize vals[0]=v0 at h1
       cases h1
   ·intro k own args r h' hc
    unfold zT at hc
    split at hc
    ·simp at hc
    ·rename_i pf iM
     have fA:(BY own args).length=pf.params→False:=by
      intro hl
      rcases hL k pf iM with h|⟨y,fn,vs,o,a,b,h⟩
      ·have:=h.2.2.1
       rw[SZ] at hl
       omega
      ·rw[af hl,h.prim] at hc
       simp only[BA,h.code,PC.isRound,if_true] at hc
       split at hc
       ·unfold EL at hc
        split at hc<;>simp at hc
       ·simp at hc
     rw[ae fA] at hc
     have iY:=SY hc
     have fl:=(hL k pf iM).plain iY
     refine⟨fl.1,?_⟩
     intro w G vals dQ
     rw[S0] at hc
     split at hc
     ·rename_i dS
      obtain⟨dS,fq⟩:=dS
      suffices H:∀args:List PV,args.length=pf.params→Bq (yr L n) pf own args []=some (r,h')→OwnIn N w G own args vals →
        Calls P (N.fn k) vals w λe w'=>∃v G',e = .returned v∧VR N w' G'.fix G'.heap v r∧Ext w G w' G'∧(∀b o,G'.fix b o→b<w'.heap.size)∧∀es,r = .list true es→FM w G w' G' v es by
       split at hc
       ·rename_i jt
        simp only[ap] at jt
        have ml:=DD.1 hc
        cases args with
        | nil=>simp[vague] at jt
        | cons p ps =>
          have jm:∃v,vals[0]? = some v:=by
           have h0:0<vals.size:=by rw[dQ.size]; simp
           exact⟨vals[0],by simp[h0]⟩
          obtain⟨v0,jm⟩:=jm
          have gI:∀q,(∀es,q≠.list true es)→VR N w G.fix G.heap v0 q→OwnIn N w G own (q::ps) vals:=by
           intro q jw hq
           refine⟨dQ.ow,dQ.box,dQ.heap,dQ.fixlt,dQ.owlt,dQ.tab,by simpa using dQ.size,?_,?_⟩
           ·intro i v p' h1 h2
            cases i with
            | zero=>rw[jm] at h1; simp at h1 h2; subst h1 h2; exact hq
            | succ i=>exact dQ.vr (i+1) v p' h1 (by simpa using h2)
           ·intro i v es hi h1 h2
            cases i with
            | zero=>simp at h2; exact absurd h2 (jw es)
            | succ i=>exact dQ.room (i+1) v es hi h1 (by simpa using h2)
          rcases(dQ.vr 0 v0 p jm rfl).vague jt.2 with h|h
          ·exact H _ (by simpa using dS) ml.1 (gI _ (by intro es; simp) h)
          ·exact H _ (by simpa using dS) ml.2 (gI _ (by intro es; simp) h)
       ·exact H args dS hc dQ
      clear hc dS dQ fA args
      intro args dS hc dQ
      rcases fl.2.2.2 with⟨_,_,fn,vs,oE⟩|⟨g',fn,h,_⟩|⟨_,_,_,hx,_⟩
      ·exact c2C hE hP dR hF ihn oE hc dS dQ
      ·rw[h] at fq; simp at fq
      ·unfold Bq at hc
       rw[hx] at hc
       cases n with
       | zero=>simp[yr] at hc
       | succ n=>simp[yr] at hc
     ·simp at hc
   ·intro k args o h0 h' hc jU w G vals ef dj di
    unfold Ae at hc
    split at hc
    ·simp at hc
    ·rename_i pf iM
     split at hc
     ·rename_i dS
      split at hc
      ·rename_i g fq
       simp only[ab,ac] at hc
       obtain⟨⟨r,h1⟩,hg,rfl,rfl⟩:=hc
       refine(prim iM fq hg w G vals ef dj di).mono ?_
       rintro e w' ⟨v,G',rfl,hv,h2,h3⟩
       exact⟨G',⟨v,rfl,hv.dem⟩,h2,h3⟩
      ·rename_i fq
       exact code iM ((hL k pf iM).plainY jU).2.1 fq hc dS.1 w G vals ef dj di
     ·simp at hc
   ·intro k y n0 l tmps caps args o h0 h' hy hc w G vals ef tK dj di
    unfold Ae at hc
    split at hc
    ·simp at hc
    ·rename_i pf iM
     rcases hL k pf iM with h|⟨y',fn,vs,o',ca,cb,h⟩
     ·have:=h.1
      rw[hy] at this
      simp at this
     ·have:y'=y:=by have:=h.yl; rw[hy] at this; simpa using this.symm
      subst this
      split at hc
      ·rename_i dS
       rw[h.prim] at hc
       simp only[Bp,h.code] at hc
       exact b8U hE hP dR hF ihn h hc (by rw[dS.1,h.params]) ef tK dj di
      ·simp at hc
   ·intro k hk
    unfold EJ at hk
    split at hk
    ·rename_i f hf
     exact((hL k f hf).plain (by simpa using hk)).1
    ·simp at hk
theorem c0W {L:Nat→Option PFunc} (hE:EnvOk E N) (hP:E.P=P) (dR:P.follows .mixedOrders=true) (hL:∀k pf,L k=some pf→FnS E N k pf):
  ∀n,CallOK N P (zT (yr L n) L):=λn=>(c0V hE hP dR hL n).call
end
end PI
