import Derived.Test.YtljbhgpanekomaaGreatPiIn
import Derived.Test.YtljbhgpanekomaaGreatPiRun
set_option linter.unusedSimpArgs false
set_option linter.unusedVariables false
set_option linter.unusedSectionVars false
namespace PI
open Go Go.RowKit
def Eq (P:Program) (kp:Bool) (vs:List Tmp):ResultVar→Option PRes
 | .tmp t=>(xB t vs 0).map (if kp then .keep else .var)
 | .cell t ty=>(xB t vs 0).bind λi=>(wI P ty).map λn => .cell i n (wW P ty)
def Bk (P:Program) (kp:Bool) (vs:List Tmp):List ResultVar→Option (List PRes)
 | []=>some []
 | r::rs=>(Eq P kp vs r).bind λp=>(Bk P kp vs rs).map (p::·)
structure Opts where
 hs:List Tmp:=[]
 hf:List FuncId:=[]
 hv:List Tmp:=[]
 rs:List TypeId:=[]
 bf:List FuncId:=[]
 bv:List Tmp:=[]
 lps:List (Array Tmp×Nat×List Tmp):=[]
 sr:Bool:=false
 nl:Bool:=false
 kp:Bool:=false
 ox:List (FuncId×Option Nat):=[]
 rf:List FuncId:=[]
 lf:List FuncId:=[]
 lv:Bool:=false
 zd:List Tmp:=[]
 fr:List Tmp:=[]
 pa:List TypeId:=[]
 pz:List FuncId:=[]
def Env.opt (E:Env) (o:Opts):Env:={ E with hs:=o.hs,hf:=o.hf,hv:=o.hv,rs:=o.rs,bf:=o.bf,bv:=o.bv,lps:=o.lps,sr:=o.sr,nl:=o.nl,ox:=o.ox,rf:=o.rf,lf:=o.lf,lv:=o.lv,zd:=o.zd,fr:=o.fr,pa:=o.pa,pz:=o.pz }
theorem EnvOk.opt {E:Env} {N:Nm} (h:EnvOk E N) (o:Opts):EnvOk (E.opt o) N:=⟨h.fn,h.yl,h.pt,h.bt⟩
def FnC (E:Env) (N:Nm) (k:Nat) (pf:PFunc) (fn:Func) (vs:List Tmp):Prop:=
 E.P.funcs[N.fn k]? = some fn∧fn.name ≠ "runtime.NumGoroutine" ∧ vs.Nodup∧(∀t∈vs,t<fn.ntmps)∧vs.length=pf.nv∧pf.params≤pf.nv∧(∀i,i<pf.params→vs[i]? = some i) ∧
  (∃o:Opts,(fn.body.map λc=>yk (E.opt o) fn.ntmps vs c)=some pf.code∧(o.lps=[]∨∀c,fn.body=some c→LpOK (E.opt o) N fn.ntmps (N.fn k) c)∧Bk E.P o.kp vs fn.results.toList=some pf.results)
def CL (N:Nm) (P:Program) (k:Nat) (g:List PV→List PObj→Option (PV×List PObj)):Prop:=
 ∀ (args : List PV) (r : PV) (h h' : List PObj), g args h = some (r, h') → ∀ (w : World) (G : GS) (vals : Array Value), Between N w G h → vals.size = args.length →
   (∀(i:Nat) (v:Value) (p:PV),vals[i]? = some v→args[i]? = some p→VR N w G.fix G.heap v p) →
   Calls P (N.fn k) vals w λe w'=>∃v G',e = .returned v∧VR N w' G'.fix G'.heap v r∧Ext w G w' G'∧Between N w' G' h'
def CK (N:Nm) (P:Program) (k:Nat) (g:List PV→List PObj→Option (List PObj)):Prop:=
 ∀ (p : PV) (caps : List PV) (h h' : List PObj), g (p :: caps) h = some h' → ∀ (w : World) (G : GS) (vals : Array Value), Between N w G h → vals.size = caps.length →
   (∀(i:Nat) (v:Value) (p:PV),vals[i]? = some v→caps[i]? = some p→VR N w G.fix G.heap v p) →
   ∀u,(u = .returning∧p = .nilIface∨∃v,u = .panicking [{ v,recovered:=false }]∧VR N w G.fix G.heap v p) →
   CallsDIn (W none) 0 P (N.fn k) vals u w λe u' w'=>(∃v,e = .returned v)∧settle u' = .returning∧∃G',Ext w G w' G'∧Between N w' G' h'
structure RdC (E:Env) (N:Nm) (k:Nat) (pf:PFunc) (y:YL) (fn:Func) (vs:List Tmp) (o:Opts) (a b:PC):Prop where
 yl:N.yl k=some y
 code:pf.code = .round a b
 ra:a.RO=true
 rb:b.RO=true
 prim:pf.prim=none
 dfr:pf.defer=none
 inP:E.P.funcs[y.fn]? = some fn
 no:N.fn k=y.fn
 name:fn.name ≠ "runtime.NumGoroutine"
 body:fn.body.isNone=false
 nd:vs.Nodup
 lt:∀t∈vs,t<y.nt
 len:vs.length=pf.nv
 params:pf.params=1+(y.vars.length+y.params.size)
 head:vs.take (y.vars.length+y.params.size)=y.vars++y.params.toList
 lps:o.lps=[]
 ca:yk (E.opt o) y.nt vs y.assign=a
 cb:yk (E.opt o) y.nt vs y.body=b
def FnF (E:Env) (N:Nm) (k:Nat) (pf:PFunc):Prop:=
 N.yl k=none∧pf.code.isRound=false∧pf.params<1000 ∧
 ((pf.prim=none∧pf.defer=none∧∃fn vs,FnC E N k pf fn vs) ∨
 (∃g fn,pf.prim=some g∧pf.defer=none∧E.P.funcs[N.fn k]? = some fn∧fn.name ≠ "runtime.NumGoroutine" ∧ fn.body.isNone=false∧CL N E.P k g) ∨
 ∃g fn,pf.prim=none∧pf.code = .exit 0∧pf.defer=some g∧E.P.funcs[N.fn k]? = some fn∧fn.name ≠ "runtime.NumGoroutine" ∧ fn.body.isNone=false∧CK N E.P k g)
def FnS (E:Env) (N:Nm) (k:Nat) (pf:PFunc):Prop:=FnF E N k pf∨∃y fn vs o a b,RdC E N k pf y fn vs o a b
theorem FnS.plain {E:Env} {N:Nm} {k:Nat} {pf:PFunc} (h:FnS E N k pf) (hr:pf.code.isRound=false):FnF E N k pf:=by
 rcases h with h|⟨y,fn,vs,o,a,b,h⟩
 ·exact h
 ·rw[h.code] at hr; simp[PC.isRound] at hr
theorem FnS.plainY {E:Env} {N:Nm} {k:Nat} {pf:PFunc} (h:FnS E N k pf) (hr:N.yl k=none):FnF E N k pf:=by
 rcases h with h|⟨y,fn,vs,o,a,b,h⟩
 ·exact h
 ·rw[h.yl] at hr; simp at hr
def Aq (vars:List PV):List PRes→List Nat
 | []=>[]
 | r::rs=>Bc vars r++Aq vars rs
theorem PR (vars:List PV):∀(rs:List PRes) (h:List PObj) (n:Nat),(n∈Aq vars rs→(w5 vars rs h)[n]? = h[n]?.map (λ_ => .gone))∧(n∉Aq vars rs→(w5 vars rs h)[n]? = h[n]?)
 | [],h,n=>by simp[w5,Aq]
 | r :: rs, h, n => by
   simp only[w5,Aq]
   obtain⟨i1,i2⟩:=PR vars rs (Aa (Bc vars r) h) n
   obtain⟨g1,g2⟩:=KY (Bc vars r) h n
   simp only[ay]
   by_cases hr:n∈Aq vars rs
   ·refine⟨λ_ =>?_,λhn=>absurd (.inr hr) hn⟩
    rw[i1 hr]
    by_cases hq:n∈Bc vars r
    ·rw[g1 hq]; cases h[n]?<;>rfl
    ·rw[g2 hq]
   ·refine⟨λhn =>?_,λhn =>?_⟩
    ·rw[i2 hr,g1 (hn.resolve_right hr)]
    ·rw[i2 hr,g2 (λe=>hn (.inl e))]
theorem PS (vars:List PV):∀(rs:List PRes) (h:List PObj),(w5 vars rs h).length=h.length
 | [],h=>rfl
 | r::rs,h=>by simp only[w5]; rw[PS vars rs,KZ]
theorem PT {vars:List PV} {n:Nat} {r:PRes} (hv:n∈Bc vars r):∀{rs:List PRes},r∈rs→n∈Aq vars rs
 | r' :: rs, h => by
   simp only[Aq,ay]
   rcases aC.1 h with h|h
   ·subst h; exact .inl hv
   ·exact .inr (PT hv h)
section
variable {E:Env} {N:Nm} {P:Program}
theorem HR.shut {w:World} {G:GS} {heap:List PObj} (h:HR N w G heap) (vars:List PV) (rs:List PRes):HR N w (G.shut (Aq vars rs) heap) (w5 vars rs heap):=
 h.shutG (PR vars rs heap)
theorem c2m {size off n sz len:Nat} {agg ag:Bool} {cs:List PV} {u:PV} (hf:∀x∈cs,x.flat=true) (h:wq size agg cs off=some u) (hx : .rowp n sz ag len∈u.cells):n∈Br cs:=by
 unfold wq at h
 split at h
 ·split at h
  ·simp only[aa] at h; subst h
   simp only[PV.cells,bc] at hx
   obtain⟨y,hy,e⟩:=hx
   have:y = .rowp n sz ag len:=by cases y<;>simp_all [dem]
   subst this
   exact HT (cA (List.mem_of_mem_take hy))
  ·simp at h
 ·split at h
  ·rename_i y hy
   have hu:y = .rowp n sz ag len:=by
    have fS:=hf y (av hy)
    cases y<;>simp[cp] at h<;>subst h<;>simp_all [PV.cells,PV.flat]
   subst hu
   exact HT (av hy)
  ·simp at h
def F6 (a:Act) (r:ResultVar):Sem Value:=
 match r with
 | .tmp t=>pure (a.tmps.getD t undef)
 | .cell t ty=>do loadVar ty (← asAddr (a.tmps.getD t undef))
theorem b4v {kp:Bool} {vs:List Tmp} {nt:Nat} {w:World} {G:GS} {st:St} {a:Act} (hb:BI N w G st a vs nt) {ns:List Nat} {r:ResultVar} {p:PRes} {u:PV} (gW:∀n,n∈Bc st.vars p→n∈ns) (hc:Eq P kp vs r=some p) (hr:Aj st p=some u):
  ∃v,(F6 a r).run P w = .ok v w∧VR N w (G.shut ns st.heap).fix (G.shut ns st.heap).heap v u:=by
 cases r with
 | tmp t =>
   simp only[Eq,ab] at hc
   obtain⟨i,hi,rfl⟩:=hc
   obtain⟨_,ed⟩:=Cw hi
   cases kp with
   | true =>
     simp only[if_true,Aj,ae] at hr
     obtain⟨x,hx,hr⟩:=hr
     have hs:=hb.fi.var i t x (by simpa using ed) hx
     exact⟨a.tmps.getD t undef,rfl,(hs.read hr).1.shut⟩
   | false=>
   simp only[aH,if_false] at gW hr
   simp only[Aj,ae] at hr
   obtain⟨x,hx,hr⟩:=hr
   have hs:=hb.fi.var i t x (by simpa using ed) hx
   refine⟨a.tmps.getD t undef,rfl,?_⟩
   split at hr
   ·simp at hr; subst hr
    exact hs.1.shut
   ·rename_i n sz agg len
    split at hr
    ·rename_i cV
     simp only[ae,ab] at hr
     obtain⟨cs,dW,es,fA,rfl⟩:=hr
     have cW:=(hs.read (r := .rowp n sz agg len) rfl).1
     generalize hg:a.eval (.tmp t)=v at cW
     have rE:a.tmps.getD t undef=v:=hg
     rw[rE]
     cases cW with
     | rowp _ _ _ _ b cap da cX _ =>
       unfold wR at dW
       split at dW
       ·rename_i cs' hh
        simp at dW; subst dW
        exact PU hb.fi.heap cX (gW n (by simp[Bc,II,hx,xi])) da hh cV fA
       ·simp at dW
    ·simp at hr
   ·simp at hr; subst hr
    have cW:=(hs.read (r := .nils) rfl).1
    have rE:a.tmps.getD t undef=a.eval (.tmp t):=rfl
    rw[rE]
    generalize a.eval (.tmp t)=v at cW
    cases cW with
    | nils'=>exact .nils false
   ·exact(hs.read hr).1.shut
 | cell t ty =>
   simp only[Eq,ae,ab] at hc
   obtain⟨i,hi,n,hn,rfl⟩:=hc
   obtain⟨_,ed⟩:=Cw hi
   simp only[Aj] at hr
   split at hr
   ·rename_i g cs hv
    simp only[ae] at hr
    obtain⟨u0,hr,hz⟩:=hr
    have hs:=hb.fi.var i t _ (by simpa using ed) hv
    obtain⟨b,i',_,em,_,_,_,cv,T,hh,hl,iM⟩:=hs
    obtain⟨hR,hcell⟩:=K0 hh hl iM
    have eI:n≠0:=by obtain⟨_,_,_,_,h,_⟩:=yD hn; exact h
    obtain⟨k1,k2,k3⟩:=C6 hR hr eI (BE hn)
    have ka:a.tmps.getD t undef = .pointer (some ⟨b,0,none⟩):=em
    have:=Er (w:=w) hn b 0 cv.toList (by simpa using k1) (λj v hv=>by rw[aM]; exact hcell j v hv)
    refine⟨_,?_,PY hb.fi.heap (λx hx m sz agg len e=>gW m ?_) k2 hz⟩
    rotate_left
    ·subst e
     simp only[Bc,hv]
     exact c2m hR.2.1 hr hx
    simp only[F6,ka,asAddr,Sem.run_bind,Sem.run_pure,Result.andThen_ok,this]
    simp
   ·rename_i m hv
    simp only[ae] at hr
    obtain⟨cs,dW,hr⟩:=hr
    have hs:=(hb.fi.var i t _ (by simpa using ed) hv)
    have hs:VR N w G.fix G.heap (a.eval (.tmp t)) (.ptr m 0):=hs
    generalize em:a.eval (.tmp t)=pv at hs
    cases hs with
    | ptr _ _ b da =>
      unfold wR at dW
      split at dW
      ·rename_i cs' lx
       simp only[aa] at dW
       subst dW
       rcases hb.fi.heap.1 m _ lx with rx|⟨b',k1,k2,f,cv,T,hh,hl,iM⟩
       ·simp at rx
       have:b'=b:=by rw[da] at k1; simpa using k1.symm
       subst this
       obtain⟨hR,hcell⟩:=K1 hh hl iM
       have eI:n≠0:=by obtain⟨_,_,_,_,h,_⟩:=yD hn; exact h
       obtain⟨k1,k2,k3⟩:=C6 hR hr eI (BE hn)
       have ka:a.tmps.getD t undef = .pointer (some ⟨b',0,none⟩):=em
       have:=Er (w:=w) hn b' 0 (cv.toList.take cs'.length) (by simpa using k1) (λj v hv=>by rw[aM]; exact hcell j v hv)
       refine⟨_,?_,k2.shut⟩
       simp only[F6,ka,asAddr,Sem.run_bind,Sem.run_pure,Result.andThen_ok,this]
       simp
      ·simp at dW
   ·simp at hr
theorem PZ {kp:Bool} {vs:List Tmp} {nt:Nat} {w:World} {G:GS} {st:St} {a:Act} (hb:BI N w G st a vs nt) {ns:List Nat}:∀{rs:List ResultVar} {ps:List PRes} {us:List PV},(∀p∈ps,∀n,n∈Bc st.vars p→n∈ns)→Bk P kp vs rs=some ps→As st ps=some us →
  ∃ vals : List Value, (rs.mapM (F6 a)).run P w = .ok vals w ∧ vals.length = us.length ∧
    ∀(i:Nat) (v:Value) (u:PV),vals[i]? = some v→us[i]? = some u→VR N w (G.shut ns st.heap).fix (G.shut ns st.heap).heap v u
 | [], ps, us, _, hc, hr => by
   simp[Bk] at hc; subst hc
   simp[As] at hr; subst hr
   exact⟨[],by simp,rfl,by simp⟩
 | r :: rs, ps, us, gW, hc, hr => by
   simp only[Bk,ae,ab] at hc
   obtain⟨p,hp,ps',dT,rfl⟩:=hc
   simp only[As,ae,ab] at hr
   obtain⟨u,hu,us',ev,rfl⟩:=hr
   obtain⟨v,h1,h2⟩:=b4v hb (gW p (b8 ..)) hp hu
   obtain⟨vals,h3,h4,h5⟩:=PZ hb (λp e=>gW p (bx _ e)) dT ev
   refine⟨v::vals,?_,by simp[h4],?_⟩
   ·rw[List.mapM_cons]
    simp only[Sem.run_bind,h1,Result.andThen_ok,h3,Sem.run_pure]
   ·intro i x y hx hy
    cases i with
    | zero=>simp at hx hy; subst hx hy; exact h2
    | succ i=>exact h5 i x y (by simpa using hx) (by simpa using hy)
structure DefW (w w':World):Prop where
 os:w'.os=w.os
 tape:w'.tape=w.tape
 output:w'.output=w.output
 size:w'.heap.size=w.heap.size
 heap:∀b:Nat,w'.heap[b]? = w.heap[b]?∨((∃x,w.heap[b]? = some (Obj.deferred x))∧∃y,w'.heap[b]? = some (Obj.deferred y))
theorem DefW.refl (w:World):DefW w w:=⟨rfl,rfl,rfl,rfl,λ_ => .inl rfl⟩
theorem DefW.get {w w':World} (h:DefW w w') {b:Nat} {ob:Obj} (hb:w.heap[b]? = some ob) (hn:∀x,ob≠Obj.deferred x):w'.heap[b]? = some ob:=by
 rcases h.heap b with e|⟨⟨x,e⟩,_⟩
 ·rw[e]; exact hb
 ·rw[hb] at e
  exact absurd (by simpa using e) (hn x)
theorem DefW.cell {w w':World} (h:DefW w w') (b o:Nat):w'.cell? ⟨b,o,none⟩=w.cell? ⟨b,o,none⟩:=by
 rcases h.heap b with e|⟨⟨x,e1⟩,y,e2⟩
 ·simp only[World.cell?,e]
 ·simp[World.cell?,e1,e2]
theorem DefW.shape {w w':World} (h:DefW w w'):ShapeLe w w':=by
 refine⟨?_,?_⟩
 ·intro b s hb
  rcases h.heap b with e|⟨⟨x,e1⟩,y,e2⟩
  ·unfold World.shape? at hb ⊢; rw[e]; exact hb
  ·simp[World.shape?,e1] at hb
 ·intro b s hb
  rcases h.heap b with e|⟨⟨x,e1⟩,y,e2⟩
  ·unfold yN at hb ⊢; rw[e]; exact hb
  ·simp[yN,e1] at hb
theorem VR.def' {w w':World} {G:GS} {v:Value} {p:PV} (h:VR N w G.fix G.heap v p) (d:DefW w w'):VR N w' G.fix G.heap v p:=
 h.mono (λb o hf=>⟨hf,d.cell b o⟩) (λ_ _ h=>h) d.shape
theorem Room.def' {w w':World} {G:GS} {key:Key} {v:Value} {es:List PV} (h:Room w G key v es) (d:DefW w w'):Room w' G key v es:=by
 unfold Room at *
 split at h
 ·rcases h with h|⟨h1,sz,cs,T,h2,⟨fz,h3,eU⟩,h4⟩
  ·exact .inl h
  ·exact .inr ⟨h1,sz,cs,T,h2,⟨fz,d.get h3 (by simp),eU⟩,h4⟩
 ·trivial
theorem CR.def' {w w':World} {G:GS} {key:Key} {v:Value} {p:PV} (h:CR N w G key v p) (d:DefW w w'):CR N w' G key v p:=by
 obtain⟨h1,h2,h3⟩:=h
 refine⟨h1.def' d,h2,?_⟩
 split at h3
 ·exact Room.def' h3 d
 ·trivial
theorem MR.def' {w w':World} {G:GS} {key:Key} {v:Value} {p:PV} (h:MR N w G key v p) (d:DefW w w'):MR N w' G key v p:=by
 obtain⟨h1,h3⟩:=h
 refine⟨h1.def' d,?_⟩
 split at h3
 ·exact Room.def' h3 d
 ·trivial
theorem SR.def' {w w':World} {G:GS} {key:Key} {v:Value} {p:PV} (h:SR N w G key v p) (d:DefW w w'):SR N w' G key v p:=by
 unfold SR at *
 split at h
 ·trivial
 ·obtain⟨b,i,gp,hv,hb,ho,hf,cv,T,h1,h2,h3⟩:=h
  exact⟨b,i,gp,hv,hb,ho,hf,cv,T,d.get h1 (by simp),h2,λk c x hc hx=>(h3 k c x hc hx).def' d⟩
 ·exact h
 ·obtain⟨b,hv,ho,hf,cv,T,h1,h2,h4,h3⟩:=h
  exact⟨b,hv,ho,hf,cv,T,d.get h1 (by simp),h2,h4,λk c x hc hx=>⟨(h3 k c x hc hx).1.def' d,(h3 k c x hc hx).2⟩⟩
 ·exact⟨h.1.def' d,Room.def' h.2 d⟩
 ·exact h.def' d
theorem ObjR.def' {w w':World} {G:GS} {n b:Nat} {ob:PObj} (h:ObjR N w G n b ob) (d:DefW w w'):ObjR N w' G n b ob:=by
 cases ob with
 | cells cs =>
   obtain⟨f,cv,T,a1,a2,a3⟩:=h
   exact⟨f,cv,T,d.get a1 (by simp),a2,λk c x hc hx=>(a3 k c x hc hx).def' d⟩
 | map es =>
   obtain⟨mes,clock,a1,a2,a3,a4,a5⟩:=h
   exact⟨mes,clock,d.get a1 (by simp),a2,a3,a4,λi en p hi hp=>⟨(a5 i en p hi hp).1.def' d,(a5 i en p hi hp).2.def' d⟩⟩
 | bld bs =>
   obtain⟨f,p,v,a1,a2,a3⟩:=h
   refine⟨f,p,v,d.get a1 (by simp),a2,?_⟩
   rcases a3 with a3|⟨g,cap,cur,b1,b2,b3,b4,b5⟩
   ·exact .inl a3
   ·exact .inr ⟨g,cap,cur,b1,b2,b3,d.get b4 (by simp),b5⟩
 | siter s pos =>
   obtain⟨f,s',a1,a2⟩:=h
   exact⟨f,s',d.get a1 (by simp),a2⟩
 | gone=>trivial
 | loop ready =>
   obtain⟨f,r,a1,a2⟩:=h
   exact⟨f,r,d.get a1 (by simp),a2⟩
 | over id =>
   obtain⟨f,r,a1,a2⟩:=h
   exact⟨f,r,d.get a1 (by simp),a2⟩
theorem BI.def' {w w':World} {G:GS} {st:St} {a:Act} {vs:List Tmp} {nt:Nat} (h:BI N w G st a vs nt) (d:DefW w w'):BI N w' G st a vs nt:=by
 obtain⟨hf,hs⟩:=h
 refine⟨⟨hf.len,λi t u h1 h2=>(hf.var i t u h1 h2).def' d,λj t u h1 h2=>by simp at h1,hf.tv,hf.tl,hf.defers,hf.gen,by rw[d.size]; exact hf.owlt,by rw[d.size]; exact hf.fixlt,⟨?_,?_⟩,hf.hdom⟩,hs⟩
 ·intro n ob dB
  rcases hf.heap.1 n ob dB with h|⟨b,h1,h2,h3⟩
  ·exact .inl h
  ·exact .inr ⟨b,h1,h2,h3.def' d⟩
 ·refine⟨λt ht=>⟨(hf.heap.2.1 t ht).1,?_⟩,λr hr=>d.shape.1 _ _ (hf.heap.2.2 r hr)⟩
  rw[d.cell]; exact(hf.heap.2.1 t ht).2
theorem K2 {fn:Func} {tmps:Array Value} {R:Ending→World→Prop} {u:FrameMode} (hu:u≠.run) {G:GS} {w0:World}:
  ∀ {bs : List Nat} {w : World}, bs.Nodup → (∀ b ∈ bs, w0.heap.size ≤ b ∧ w.heap[b]? = some (.deferred (some [])) ∧ G.ow b = none) →
    (∀w',DefW w w'→(∀b,b<w0.heap.size→w'.heap[b]? = w.heap[b]?)→LeavesIn (W none) 0 P fn tmps R [] u w')→LeavesInM (W none) 0 P fn tmps R (bs.map λb=>{ target := .collected b,args := #[] }) u w
 | [],w,_,_,h=>h w (DefW.refl w) (λ_ _=>rfl)
 | b :: bs, w, hn, hb, h => by
   obtain⟨n1,n2⟩:=cC.1 hn
   obtain⟨k1,k2,k3⟩:=hb b (by simp)
   have cS:b<w.heap.size:=(aV.1 k2).1
   have fL:∀x,x≠b→(w.putObj b (.deferred none)).heap[x]? = w.heap[x]? := λx hx=>World.putObj_heap_other hx
   have hd:DefW w (w.putObj b (.deferred none)):=by
    refine⟨rfl,rfl,rfl,by simp[World.putObj],?_⟩
    intro x
    by_cases hx:x=b
    ·subst hx
     exact .inr ⟨⟨_,k2⟩,none,World.putObj_heap_same cS⟩
    ·exact .inl (fL x hx)
   refine⟨hu,.inl ⟨b,_,rfl,run_takeDeferred k2,?_⟩⟩
   refine K2 (w0:=w0) (G:=G) hu n2 ?_ ?_
   ·intro x hx
    have cZ:x≠b:=by rintro rfl; exact n1 hx
    obtain⟨j1,j2,j3⟩:=hb x (by simp[hx])
    exact⟨j1,(fL x cZ).trans j2,j3⟩
   ·intro w' d2 dD
    refine h w' ?_ ?_
    ·refine⟨d2.os.trans hd.os,d2.tape.trans hd.tape,d2.output.trans hd.output,d2.size.trans hd.size,?_⟩
     intro x
     rcases d2.heap x with e|⟨⟨y,e1⟩,z,e2⟩
     ·rcases hd.heap x with e' | ⟨e1',z,e2'⟩
      ·exact .inl (e.trans e')
      ·exact .inr ⟨e1',z,e.trans e2'⟩
     ·rcases hd.heap x with e' | ⟨e1',_⟩
      ·exact .inr ⟨⟨y,by rw[← e']; exact e1⟩,z,e2⟩
      ·exact .inr ⟨e1',z,e2⟩
    ·intro x hx
     have cZ:x≠b:=by omega
     rw[dD x hx,fL x cZ]
theorem Es {w w1 w':World} {G G':GS} {st:St} {a:Act} {vs:List Tmp} {nt:Nat} (he:ExtD w G w1 G') (hb:BI N w1 G' st a vs nt) (d:DefW w1 w') (hs:∀b,b<w.heap.size→w'.heap[b]? = w1.heap[b]?) (vars:List PV) (rs:List PRes):
  Ext w G w' { fix:=(G'.shut (Aq vars rs) st.heap).fix,heap:=G'.heap,box:=λ_=>none,ow:=zq G'.ow,df:=G.df }∧Between N w' { fix:=(G'.shut (Aq vars rs) st.heap).fix,heap:=G'.heap,box:=λ_=>none,ow:=zq G'.ow,df:=G.df } (w5 vars rs st.heap):=by
 have dO:=hb.def' d
 have he:Ext w { G with df:=G'.df } w1 G':=he
 refine⟨⟨d.os.trans he.os,d.tape.trans he.tape,d.output.trans he.output,by rw[d.size]; exact he.size,λb cS h=>(hs b cS).trans (he.same b cS h),λb o h=>⟨.inl (he.fix b o h).1,(d.cell b o).trans (he.fix b o h).2⟩,?_,?_,he.heap,he.shape.trans d.shape,rfl⟩,⟨λb k h=>(Et h).2,λ_=>rfl⟩,?_,λb k h=>dO.fi.owlt b k (Et h).1,(dO.fi.heap.shut vars rs).sub rfl rfl (λb k hk h=>K3 h hk),?_⟩
 ·rintro b o (h|⟨n,_,cs,h1,h2,_⟩)
  ·exact he.newfix b o h
  ·rcases hb.fi.heap.1 n _ h2 with h3|⟨b',k1,k2,_⟩
   ·simp at h3
   rw[h1] at k1; cases k1
   exact .inr (he.own b (by rw[k2]; simp))
 ·intro b h
  refine he.own b ?_
  intro e
  exact h (by simp[zq,e])
 ·rintro b o (h|⟨n,_,cs,h1,h2,_⟩)
  ·exact dO.fi.fixlt b o h
  ·rcases dO.fi.heap.1 n _ h2 with h3|⟨b',k1,k2,_⟩
   ·simp at h3
   rw[h1] at k1; cases k1
   exact dO.fi.owlt b _ k2
 ·rw[PS]; exact dO.fi.hdom
theorem La {kp:Bool} {fn:Func} {vs:List Tmp} {nt:Nat} {w:World} {G:GS} {st:St} {a:Act} {rs:List PRes} {r:PV} (hb:BI N w G st a vs nt) (hc:Bk P kp vs fn.results.toList=some rs) (hr:xG st rs=some r):
  ∃v,(results fn a.tmps).run P w = .ok v w∧VR N w (G.shut (Aq st.vars rs) st.heap).fix (G.shut (Aq st.vars rs) st.heap).heap v r:=by
 simp only[xG,ab] at hr
 obtain⟨us,ev,fo⟩:=hr
 obtain⟨rvals,h1,h2,h3⟩:=PZ (P:=P) (ns:=Aq st.vars rs) hb (λp hp n hn=>PT hn hp) hc ev
 have hm:results fn a.tmps=(do let vs←fn.results.mapM (F6 a); pure (if h:vs.size=1 then vs[0] else .tuple vs)):=rfl
 rw[hm,Array.mapM_eq_mapM_toList]
 simp only[Sem.run_bind,Sem.run_map]
 rw[h1]
 simp only[Result.andThen_ok,Sem.run_pure]
 subst fo
 cases us with
 | nil =>
   have:rvals=[]:=by simpa using h2
   subst this
   exact⟨.tuple #[],by simp,.tuple #[] _ rfl (by simp)⟩
 | cons u us2 =>
   cases us2 with
   | nil =>
     obtain⟨v,rfl⟩:=List.length_eq_one_iff.1 (by simpa using h2)
     exact⟨v,by simp,h3 0 v u rfl rfl⟩
   | cons u2 us3 =>
     refine⟨.tuple rvals.toArray,?_,.tuple _ _ ?_ ?_⟩
     ·have:¬rvals.toArray.size=1:=by
       intro e
       have e':rvals.length=1:=e
       rw[h2] at e'
       simp at e'
      rw[dif_neg this]
     ·simpa using h2
     ·intro i v p hv hp
      simp only[az,ab] at hp
      obtain⟨q,hq,rfl⟩:=hp
      exact(h3 i v q (by simpa using hv) hq).dem
theorem c4q {L:Nat→Option PFunc} (hE:EnvOk E N) (hP:E.P=P) (dz:P.follows .mixedOrders=true) (hF:x7 N P L) (hL:∀k pf,L k=some pf→FnS E N k pf) {n:Nat} (cQ:∀m,m<n→Runs N P L m)
  {k:Nat} {pf:PFunc} {fn:Func} {vs:List Tmp} (mH:FnC E N k pf fn vs) (ik:pf.code.isRound=false) {args:List PV} {o:Out} {h0 h':List PObj} (hc:zw (wn L n) (yt L) pf args h0=some (o,h')) (dH:args.length=pf.params)
  {w:World} {G:GS} {vals:Array Value} (dU:Between N w G h0) (cV:vals.size=args.length) (cW:∀(i:Nat) (v:Value) (p:PV),vals[i]? = some v→args[i]? = some p→VR N w G.fix G.heap v p):
  Calls P (N.fn k) vals w λe w'=>∃G',AG N w' G' e o∧Ext w G w' G'∧Between N w' G' h':=by
 obtain⟨f1,f2,f3,f4,f5,f6,f7,opt,f8,f8',f9⟩:=mH
 simp only[ab] at f8
 obtain⟨c,gb,ke⟩:=f8
 rw[hP] at f1
 rw[hP] at f9
 have nD:LpOK (E.opt opt) N fn.ntmps (N.fn k) c:=by
  rcases f8' with h|h
  ·intro ps kb vars hl
   simp only[Env.opt,h] at hl
   simp at hl
  ·exact h c gb
 let st0:St:={ vars:=args.map dem++List.replicate (pf.nv - pf.params) .dead,locs:=[],gen:=0,heap:=h0 }
 let a0:Act:={ tmps:=vals++Array.replicate (fn.ntmps - vals.size) undef,defers:=[] }
 let G0:GS:={ G with df:=[] }
 have ij:BI N w G0 st0 a0 vs fn.ntmps:=by
  refine⟨⟨?_,?_,(by intro j t u hj; simp at hj),?_,(by intro j t hj; simp at hj),rfl,(by intro g b h; have h:G.box g=some b:=h; rw[dU.only.box] at h; simp at h),dU.owlt,dU.fixlt,dU.heap,dU.hdom⟩,?_⟩
  ·simp only[st0,ap,aA,List.length_replicate,f5,dH]; omega
  ·intro i t u h1 h2
   by_cases hi:i<pf.params
   ·have ht:t=i:=by rw[f7 i hi] at h1; simpa using h1.symm
    subst ht
    have ia:t<args.length:=by rw[dH]; exact hi
    simp only[st0] at h2
    rw[am (by simpa using ia)] at h2
    simp only[az,al ia,aB,aa] at h2
    subst h2
    have jM:t<vals.size:=by rw[cV]; exact ia
    have eO:a0.eval (.tmp t)=vals[t]:=by
     simp only[a0,Act.eval,aT]
     rw[bm jM]
     simp[jM]
    rw[eO]
    have hv:=cW t vals[t] args[t] (by simp[jM]) (al ia)
    exact SR.of_pure hv.dem hv.cp_dem
   ·simp only[st0] at h2
    rw[ar (by rw[aA,dH]; omega)] at h2
    rw[cE] at h2
    split at h2
    ·simp at h2; subst h2; trivial
    ·simp at h2
  ·intro i t h1
   have h3:=f4 t (av h1)
   simp only[a0,bV,cF]
   exact aN h3 ((Nat.sub_le_iff_le_add').1 (ao _))
  ·simp only[a0,bV,cF]
   exact(Nat.sub_le_iff_le_add').1 (ao _)
 have walk:∀(x:PExit) (st':St),wn L n pf.code st0=some (x,st')→(∀a' w' G' e,zp N w' G' x e→BI N w' G' st' a' vs fn.ntmps→ExtD w G w' G'→DfR pf.code x w G0 w' G'→P0 P fn (λe w'=>∃G',AG N w' G' e o∧Ext w G w' G'∧Between N w' G' h') e a' w') →
   Calls P (N.fn k) vals w λe w'=>∃G',AG N w' G' e o∧Ext w G w' G'∧Between N w' G' h':=by
  intro x st' hx hq
  refine P1 f1 gb ?_
  exact Cy (rd':=none) hF (hE.opt opt) hP dz f3 n cQ (by rw[← ke]; exact F0) hx ij nD (.inl rfl) (fun⟨_,_,h⟩=>h) hq
 have marks:∀{x:PExit} {w':World} {G':GS} {st':St} {a':Act} {R:Ending→World→Prop} {u:FrameMode},u≠.run→x.plain=true→BI N w' G' st' a' vs fn.ntmps→DfR pf.code x w G0 w' G' →
   (∀w'',DefW w' w''→(∀b,b<w.heap.size→w''.heap[b]? = w'.heap[b]?)→LeavesIn (W none) 0 P fn a'.tmps R [] u w'')→LeavesInM (W none) 0 P fn a'.tmps R a'.defers u w':=by
  intro x w' G' st' a' R u hu hx hb hd hK
  have key:(∃ms,G'.df=ms++G0.df∧Marks w w' G' ms∧(pf.code.NR=true→ms=[]))→LeavesInM (W none) 0 P fn a'.tmps R a'.defers u w':=by
   rintro⟨ms,h1,⟨bs,rfl,h2,h3⟩,_⟩
   have iI:a'.defers=bs.map λb=>{ target := .collected b,args := #[] }:=by
    rw[hb.fi.defers,h1]; exact bh _
   rw[iI]
   exact K2 (G:=G') (w0:=w) hu h2 h3 hK
  cases x with
  | after _ _ _=>simp[PExit.plain] at hx
  | normal=>exact key hd
  | exit _=>exact key hd
  | ret=>exact key hd
  | boom _=>exact key hd
 have fin:∀(x:PExit) (st':St),wn L n pf.code st0=some (x,st')→(x = .normal∨x = .ret)→(xG st' pf.results).map (λr=>(Out.val r,w5 st'.vars pf.results st'.heap))=some (o,h') →
   Calls P (N.fn k) vals w λe w'=>∃G',AG N w' G' e o∧Ext w G w' G'∧Between N w' G' h':=by
  intro x st' hx pY dN
  simp only[ab,ac] at dN
  obtain⟨r,hr,rfl,rfl⟩:=dN
  refine walk x st' hx ?_
  intro a' w' G' e he da cN eV
  have hp:x.plain=true:=by rcases pY with rfl|rfl<;>rfl
  have hL:=marks (R:=λe w'=>∃G',AG N w' G' e (.val r)∧Ext w G w' G'∧Between N w' G' (w5 st'.vars pf.results st'.heap)) (u := .returning) (by simp) hp da eV (by
   intro w'' d dD
   obtain⟨v,gB,gJ⟩:=La (da.def' d) f9 hr
   obtain⟨l1,l2⟩:=Es cN da d dD st'.vars pf.results
   exact⟨v,gB,_,by exact⟨v,rfl,gJ⟩,l1,l2⟩)
  rcases pY with rfl|rfl<;>(simp only[zp] at he; subst he; exact hL)
 unfold zw at hc
 split at hc
 ·rename_i heq; rw[heq] at ik; simp[PC.isRound] at ik
 ·split at hc
  ·rename_i st' hx
   exact fin .normal st' hx (.inl rfl) hc
  ·rename_i st' hx
   exact fin .ret st' hx (.inr rfl) hc
  ·rename_i p st' hx
   simp only[aa,ac] at hc
   obtain⟨rfl,rfl⟩:=hc
   refine walk _ st' hx ?_
   rintro a' w' G' e ⟨v,rfl,hv⟩ da cN eV
   refine marks (x := .boom p) (by simp) rfl da eV ?_
   intro w'' d dD
   obtain⟨l1,l2⟩:=Es cN da d dD st'.vars []
   exact⟨_,by exact⟨v,rfl,(hv.def' d).shut⟩,l1,l2⟩
  ·rename_i kd caps vo st' hx
   split at hc
   ·simp at hc
   ·rename_i rF
    have rG:pf.code.NR=true:=by simpa using rF
    simp only[ae,ab,ac] at hc
    obtain⟨h1,jA,r,hr,rfl,rfl⟩:=hc
    obtain⟨g,fd,iO,hg,vl⟩:∃g fd,L kd=some fd∧g (vo.getD .nilIface::caps) st'.heap=some h1∧CK N P kd g:=by
     unfold yt at jA
     split at jA
     ·rename_i f hf
      split at jA
      ·rename_i g hg
       have eA:FnF E N kd f:=by
        rcases hL kd f hf with h|⟨y,fn,vs,o,a,b,h⟩
        ·exact h
        ·rw[h.dfr] at hg; simp at hg
       rcases eA.2.2.2 with⟨_,h,_⟩|⟨_,_,_,h,_⟩|⟨g',fd,_,_,h3,h4,h5,h6,h7⟩
       ·rw[h] at hg; simp at hg
       ·rw[h] at hg; simp at hg
       ·rw[hg] at h3
        simp only[aa] at h3
        subst h3
        exact⟨g,f,hf,jA,by rw[← hP]; exact h7⟩
      ·simp at jA
     ·simp at jA
    refine walk _ st' hx ?_
    intro a' w' G' e he da cN eV
    obtain⟨d1,gV⟩:∃d,G'.df=d::G0.df:=eV rG
    have last:∀(u:FrameMode),Clo N w' G' kd caps→u≠.run→(u = .returning∧vo.getD .nilIface = .nilIface∨∃v,u = .panicking [{ v,recovered:=false }]∧VR N w' G'.fix G'.heap v (vo.getD .nilIface)) →
      LeavesInM (W none) 0 P fn a'.tmps (λe w'=>∃G',AG N w' G' e (.val r)∧Ext w G w' G'∧Between N w' G' (w5 st'.vars pf.results h1)) a'.defers u w':=by
     rintro u ⟨d,ds,vals',k1,rfl,k3,k4⟩ hu eR
     have rH:ds=[]:=by
      rw[gV] at k1
      simp only[bw] at k1
      exact k1.2.symm
     subst rH
     have iI:a'.defers=[{ target := .fn (.func (N.fn kd)) vals',args := #[] }]:=by rw[da.fi.defers,k1]
     rw[iI]
     have jC:(invoke (.fn (.func (N.fn kd)) vals') #[]).run P w' = .ok (.enter (N.fn kd) vals') w':=by
      simp only[invoke,Array.empty_append]
      exact A7 hF iO _ _
     refine⟨hu,.inr ⟨Eu,_,_,_,_,rfl,jC,λ_ _=>AF _,?_⟩⟩
     refine(vl _ _ _ _ hg w' G'.callee vals' (Ej da.fi) k3 k4 u eR).mono ?_
     rintro e u' w'' ⟨⟨v,rfl⟩,wG,G2,rI,dO⟩
     obtain⟨G3,kg,vm,_,_⟩:=HS da.fi rI dO
     have kQ:BI N w'' G3 { st' with heap:=h1 } a' vs fn.ntmps:=⟨vm,da.size⟩
     simp only[wG]
     obtain⟨v2,gB,gJ⟩:=La kQ f9 hr
     obtain⟨l1,l2⟩:=Es (ExtD.trans cN (.of kg)) kQ (DefW.refl _) (λ_ _=>rfl) st'.vars pf.results
     exact⟨v2,gB,_,by exact⟨v2,rfl,gJ⟩,l1,l2⟩
    cases vo with
    | none =>
      obtain⟨he,iS⟩:=he
      have:=last .returning iS (by simp) (.inl ⟨rfl,rfl⟩)
      rcases he with rfl|rfl<;>exact this
    | some p =>
      obtain⟨⟨v,rfl,hv⟩,iS⟩:=he
      exact last _ iS (by simp) (.inr ⟨v,rfl,hv⟩)
  ·simp at hc
theorem c4r {kp:Bool} {fn:Func} {vs:List Tmp} {nt:Nat} {w:World} {G:GS} {st:St} {a:Act} {rs:List PRes} {es:List PV} {v:Value} (hb:BI N w G st a vs nt) (hc:Bk P kp vs fn.results.toList=some rs) (hr:xG st rs=some (.list true es))
  (hv:(results fn a.tmps).run P w = .ok v w):∃i,Room w G (.var i) v es:=by
 simp only[xG,ab] at hr
 obtain⟨us,ev,fo⟩:=hr
 have mI:us=[.list true es]:=by
  cases us with
  | nil=>simp at fo
  | cons u us => cases us with
    | nil=>simp at fo; subst fo; rfl
    | cons _ _=>simp at fo
 subst mI
 cases rs with
 | nil=>simp[As] at ev
 | cons p ps =>
   simp only[As,ae,ab] at ev
   obtain⟨u,hp,us',dT,he⟩:=ev
   simp only[bw] at he
   obtain⟨rfl,rfl⟩:=he
   have rJ:ps=[]:=by
    cases ps with
    | nil=>rfl
    | cons q qs =>
      simp only[As,ae,ab] at dT
      obtain⟨_,_,_,_,h⟩:=dT
      simp at h
   subst rJ
   cases hl:fn.results.toList with
   | nil=>rw[hl] at hc; simp[Bk] at hc
   | cons r0 rl =>
     rw[hl] at hc
     simp only[Bk,ae,ab] at hc
     obtain⟨q,hq,qs,jJ,he⟩:=hc
     simp only[bw] at he
     obtain⟨rfl,rfl⟩:=he
     have lJ:rl=[]:=by
      cases rl with
      | nil=>rfl
      | cons x xs =>
        simp only[Bk,ae,ab] at jJ
        obtain⟨_,_,_,_,h⟩:=jJ
        simp at h
     subst lJ
     have noList:∀{x:Option PV},x.bind cp=some (.list true es)→False:=by
      intro x h
      cases x with
      | none=>simp at h
      | some y=>cases y<;>simp[cp] at h
     have rK:∃i,q = .var i∧st.vars[i]? = some (.list true es):=by
      cases q with
      | keep i=>simp only[Aj] at hp; exact(noList hp).elim
      | cell i size agg =>
        have noLoad:∀{size agg cs off},wq size agg cs off=some (.list true es)→False:=by
         intro size agg cs off h
         unfold wq at h
         split at h
         ·split at h<;>simp at h
         ·split at h
          ·rename_i y _; cases y<;>simp[cp] at h
          ·simp at h
        simp only[Aj] at hp
        split at hp
        ·simp only[ae] at hp
         obtain⟨y,hy,hf⟩:=hp
         have:y = .list true es:=by
          cases y<;>simp[xF] at hf
          simp[hf]
         subst this
         exact(noLoad hy).elim
        ·simp only[ae] at hp
         obtain⟨cs,_,hy⟩:=hp
         exact(noLoad hy).elim
        ·simp at hp
      | var i =>
        refine⟨i,rfl,?_⟩
        simp only[Aj,ae] at hp
        obtain⟨x,hx,gX⟩:=hp
        split at gX
        ·simp at gX; subst gX; exact hx
        ·split at gX
         ·simp only[ae,ab] at gX
          obtain⟨_,_,_,_,h⟩:=gX
          simp at h
         ·simp at gX
        ·simp at gX
        ·exact(noList (x:=some _) (by simpa using gX)).elim
     obtain⟨i,rfl,hi⟩:=rK
     cases r0 with
     | cell t ty =>
       simp only[Eq,ae,ab] at hq
       obtain⟨_,_,_,_,h⟩:=hq
       simp at h
     | tmp t =>
       simp only[Eq,ab] at hq
       obtain⟨i',ii,jE⟩:=hq
       obtain⟨_,ed⟩:=Cw ii
       have:i'=i:=by cases kp<;>simp at jE; exact jE
       subst this
       have hs:=hb.fi.var i' t _ (by simpa using ed) hi
       have dN:fn.results = #[.tmp t]:=by
        have:=aF List.toArray hl
        simpa using this
       have pZ:v=a.eval (.tmp t):=by
        simp[results,dN] at hv
        simp[Act.eval]
        exact hv.symm
       rw[pZ]
       exact⟨i',hs.2⟩
theorem c2n {L:Nat→Option PFunc} (hE:EnvOk E N) (hP:E.P=P) (dz:P.follows .mixedOrders=true) (hF:x7 N P L) {n:Nat} (cQ:∀m,m<n→Runs N P L m)
  {k:Nat} {pf:PFunc} {fn:Func} {vs:List Tmp} (mH:FnC E N k pf fn vs) {own:Option Nat} {args:List PV} {r:PV} {h':List PObj} (hc:zx (wn L n) pf own args []=some (r,h')) (dH:args.length=pf.params)
  {w:World} {G:GS} {vals:Array Value} (dI:OwnIn N w G own args vals):
  Calls P (N.fn k) vals w λe w'=>∃v G',e = .returned v∧VR N w' G'.fix G'.heap v r∧Ext w G w' G'∧(∀b o,G'.fix b o→b<w'.heap.size)∧∀es,r = .list true es→DE w G w' G' v es:=by
 obtain⟨f1,f2,f3,f4,f5,f6,f7,opt,f8,f8',f9⟩:=mH
 simp only[ab] at f8
 obtain⟨c,gb,ke⟩:=f8
 rw[hP] at f1
 rw[hP] at f9
 have nD:LpOK (E.opt opt) N fn.ntmps (N.fn k) c:=by
  rcases f8' with h|h
  ·intro ps kb vars hl
   simp only[Env.opt,h] at hl
   simp at hl
  ·exact h c gb
 have np:(Bd own args).length=args.length:=by cases own<;>simp[Bd]
 let st0:St:={ vars:=Bd own args++List.replicate (pf.nv - pf.params) .dead,locs:=[],gen:=0,heap:=[] }
 let a0:Act:={ tmps:=vals++Array.replicate (fn.ntmps - vals.size) undef,defers:=[] }
 let G0:GS:={ G with df:=[] }
 have ij:BI N w G0 st0 a0 vs fn.ntmps:=by
  refine⟨⟨?_,?_,(by intro j t u hj; simp at hj),?_,(by intro j t hj; simp at hj),rfl,(by intro g b h; have h:G.box g=some b:=h; rw[dI.box] at h; simp at h),dI.owlt,dI.fixlt,⟨by intro n ob h; simp[st0] at h,dI.tab⟩,(by intro n b h; have h:G.heap n=some b:=h; rw[dI.heap] at h; simp at h)⟩,?_⟩
  ·simp only[st0,ap,np,List.length_replicate,f5,dH]; omega
  ·intro i t u h1 h2
   by_cases hi:i<pf.params
   ·have ht:t=i:=by rw[f7 i hi] at h1; simpa using h1.symm
    subst ht
    have ia:t<args.length:=by rw[dH]; exact hi
    simp only[st0] at h2
    rw[am (by rw[np]; exact ia)] at h2
    have jM:t<vals.size:=by rw[dI.size]; exact ia
    have eO:a0.eval (.tmp t)=vals[t]:=by
     simp only[a0,Act.eval,aT]
     rw[bm jM]
     simp[jM]
    rw[eO]
    have hv:=dI.vr t vals[t] args[t] (by simp[jM]) (al ia)
    have plain:u=dem args[t]→SR N w G0 (.var t) vals[t] u:=by
     rintro rfl
     exact SR.of_pure hv.dem hv.cp_dem
    cases own with
    | none =>
      refine plain ?_
      simp only[Bd,az,al ia,aB,aa] at h2
      exact h2.symm
    | some i =>
      simp only[Bd,aO,aA] at h2
      split at h2
      ·rename_i vn
       subst vn
       rw[ah ia] at h2
       simp only[cL,al ia,bO,aa] at h2
       subst h2
       rcases hv.cp_or with h|⟨es,h⟩
       ·exact SR.of_pure hv h
       ·rw[h] at hv ⊢
        exact⟨hv,dI.room i vals[i] es rfl (by simp[jM]) (by rw[al ia,h])⟩
      ·refine plain ?_
       simp only[az,al ia,aB,aa] at h2
       exact h2.symm
   ·simp only[st0] at h2
    rw[ar (by rw[np,dH]; omega)] at h2
    rw[cE] at h2
    split at h2
    ·simp at h2; subst h2; trivial
    ·simp at h2
  ·intro i t h1
   have h3:=f4 t (av h1)
   simp only[a0,bV,cF]
   exact aN h3 ((Nat.sub_le_iff_le_add').1 (ao _))
  ·simp only[a0,bV,cF]
   exact(Nat.sub_le_iff_le_add').1 (ao _)
 have fin:∀(x:PExit) (st':St),wn L n pf.code st0=some (x,st')→(x = .normal∨x = .ret)→(xG st' pf.results).map (λr=>(r,w5 st'.vars pf.results st'.heap))=some (r,h') →
   Calls P (N.fn k) vals w λe w'=>∃v G',e = .returned v∧VR N w' G'.fix G'.heap v r∧Ext w G w' G'∧(∀b o,G'.fix b o→b<w'.heap.size)∧∀es,r = .list true es→DE w G w' G' v es:=by
  intro x st' hx pY dN
  simp only[ab,ac] at dN
  obtain⟨r,hr,rfl,rfl⟩:=dN
  refine P1 f1 gb ?_
  refine Cy (rd':=none) hF (hE.opt opt) hP dz f3 n cQ (by rw[← ke]; exact F0) hx ij nD (.inl rfl) (fun⟨_,_,h⟩=>h) ?_
  intro a' w' G' e he da cN eV
  have cN:ExtD w G w' G':=cN
  have key:(∃ms,G'.df=ms++G0.df∧Marks w w' G' ms∧(pf.code.NR=true→ms=[]))→LeavesInM (W none) 0 P fn a'.tmps (λe w'=>∃v G',e = .returned v∧VR N w' G'.fix G'.heap v r∧Ext w G w' G'∧(∀b o,G'.fix b o→b<w'.heap.size)∧∀es,r = .list true es→DE w G w' G' v es) a'.defers .returning w':=by
   rintro⟨ms,h1,⟨bs,rfl,h2,h3⟩,_⟩
   have iI:a'.defers=bs.map λb=>{ target := .collected b,args := #[] }:=by
    rw[da.fi.defers,h1]; exact bh _
   rw[iI]
   refine K2 (G:=G') (w0:=w) (by simp) h2 h3 ?_
   intro w'' d dD
   obtain⟨v,gB,gJ⟩:=La (da.def' d) f9 hr
   obtain⟨l1,l2⟩:=Es cN da d dD st'.vars pf.results
   refine⟨v,gB,v,{ fix:=(G'.shut (Aq st'.vars pf.results) st'.heap).fix,heap:=G'.heap,box:=λ_=>none,ow:=zq G'.ow,df:=G.df },rfl,gJ,l1,l2.fixlt,?_⟩
   rintro es rfl
   obtain⟨i,hi⟩:=c4r (da.def' d) f9 hr gB
   unfold DE
   unfold Room at hi
   split at hi
   ·rename_i a1 len cap
    rcases hi with hi|⟨i1,sz,cs,T,i2,i3,i4,i5,i6⟩
    ·exact .inl hi
    ·refine .inr ⟨?_,sz,cs,T,i2,i3,i4,i5,?_⟩
     ·exact cN.own a1.block (by rw[i1]; simp)
     ·rintro o ho (h|⟨m,hm,cs',j1,j2,_⟩)
      ·exact i6 o ho h
      ·rcases da.fi.heap.1 m _ j2 with h3|⟨b',k1,k2,_⟩
       ·simp at h3
       ·rw[j1] at k1
        simp only[aa] at k1
        subst k1
        rw[i1] at k2
        simp at k2
   ·rename_i cZ
    split
    ·rename_i a1 len cap; exact absurd rfl (cZ _ _ _)
    ·trivial
  rcases pY with rfl|rfl<;>(simp only[zp] at he; subst he; exact key eV)
 unfold zx at hc
 split at hc
 ·simp at hc
 ·split at hc
  ·rename_i st' hx
   exact fin .normal st' hx (.inl rfl) hc
  ·rename_i st' hx
   exact fin .ret st' hx (.inr rfl) hc
  ·simp at hc
theorem P2:∀(ps:List (Tmp×Value)) (a:Array Value),(ps.foldl (λtmps x=>tmps.setIfInBounds x.1 x.2) a).size=a.size∧(∀t,t∉ps.map (·.1)→(ps.foldl (λtmps x=>tmps.setIfInBounds x.1 x.2) a).getD t undef=a.getD t undef) ∧
  ((ps.map (·.1)).Nodup→∀x∈ps,x.1<a.size→(ps.foldl (λtmps x=>tmps.setIfInBounds x.1 x.2) a).getD x.1 undef=x.2)
 | [],a=>⟨rfl,λ_ _=>rfl,by simp⟩
 | (t0, v0) :: ps, a => by
   obtain⟨h1,h2,h3⟩:=P2 ps (a.setIfInBounds t0 v0)
   simp only[List.foldl_cons,ax,aC,not_or,cC]
   refine⟨by rw[h1]; simp,?_,?_⟩
   ·rintro t ⟨n1,n2⟩
    rw[h2 t n2]
    simp only[aT,be]
    rw[af (λe=>n1 e.symm)]
   ·rintro⟨n1,n2⟩ x (rfl|hx) cS
    ·rw[h2 _ n1]
     simp only[aT,be,if_true]
     simp[cS]
    ·exact h3 n2 x hx (by simpa using cS)
theorem b8M {L:Nat→Option PFunc} (hE:EnvOk E N) (hP:E.P=P) (dz:P.follows .mixedOrders=true) (hF:x7 N P L) {n:Nat} (cQ:∀m,m<n→Runs N P L m)
  {k:Nat} {pf:PFunc} {y:YL} {fn:Func} {vs:List Tmp} {opt:Opts} {ca cb:PC} (hR:RdC E N k pf y fn vs opt ca cb) {n0 l:Nat} {caps args:List PV} {o:Out} {h0 h':List PObj}
  (hc:BP (wn L n) pf.nv ca cb (.ptr n0 0::caps++args) h0=some (o,h')) (dH:(PV.ptr n0 0::caps++args).length=1+(y.vars.length+y.params.size))
  {w:World} {G:GS} {vals:Array Value} (dU:Between N w G h0) (hy:VR N w G.fix G.heap (.func (.yield l) #[] #[]) (.func k (.ptr n0 0::caps) [])) (cV:vals.size=args.length)
  (cW:∀(i:Nat) (v:Value) (p:PV),vals[i]? = some v→args[i]? = some p→VR N w G.fix G.heap v p):
  ∃tmps',(Instr.yield l vals).run P w = .ok (.round l y.fn tmps' y.assign y.body) w∧∀r n',RoundIn (W r) n' P l y.fn tmps' y.assign y.body w λe w'=>∃G',AG N w' G' e o∧Ext w G w' G'∧Between N w' G' h':=by
 have d4:P.funcs[y.fn]? = some fn:=by rw[← hP]; exact hR.inP
 generalize kI:Value.func (.yield l) #[] #[]=xv at hy
 generalize gX:PV.func k (.ptr n0 0::caps) []=xp at hy
 cases hy with
 | yield k' n' l' y' tmps caps' q0 ql qr qlen qsz qc =>
   simp only[PV.func.injEq,bw,PV.ptr.injEq] at gX
   obtain⟨rfl,⟨⟨rfl,_⟩,rfl⟩,_⟩:=gX
   simp only[Value.func.injEq,Fn.yield.injEq] at kI
   obtain⟨rfl,_⟩:=kI
   have:y'=y:=by have:=hR.yl; rw[q0] at this; simpa using this
   subst this
   obtain⟨r0,p5,e1,e2,e3,e4,e5⟩:∃r0:Go.Loop,w.heap[l]? = some (.loop r0)∧r0.fn=y'.fn∧r0.tmps=tmps∧r0.params=y'.params∧r0.assign=y'.assign∧r0.body=y'.body:=by
    unfold yN at qr
    split at qr
    ·rename_i r0 h
     simp only[aa,ac] at qr
     exact⟨r0,h,qr⟩
    ·simp at qr
   have rL:args.length=y'.params.size:=by simp at dH; omega
   have oP:=run_yield (P:=P) (args:=vals) p5 (by rw[cV,e3]; exact rL)
   rw[e1,e4,e5,e2,e3] at oP
   refine⟨_,oP,?_⟩
   intro r n'
   have eG:(y'.params.zip vals).foldl (λtmps x=>tmps.setIfInBounds x.1 x.2) tmps=(y'.params.toList.zip vals.toList).foldl (λtmps x=>tmps.setIfInBounds x.1 x.2) tmps:=by
    rw[← Array.foldl_toList,Array.toList_zip]
   obtain⟨z1,z2,z3⟩:=P2 (y'.params.toList.zip vals.toList) tmps
   have rM:(y'.params.toList.zip vals.toList).map (·.1)=y'.params.toList:=by
    rw[List.map_fst_zip]; simp; omega
   rw[rM] at z2 z3
   have rN:(y'.vars++y'.params.toList).Nodup:=by rw[← hR.head]; exact hR.nd.sublist (List.take_sublist _ _)
   obtain⟨_,nd2,nd3⟩:=cB.1 rN
   have eb:y'.vars.length+y'.params.size≤vs.length:=by
    have:=aF List.length hR.head
    simp at this; omega
   generalize tK:(y'.params.zip vals).foldl (λtmps x=>tmps.setIfInBounds x.1 x.2) tmps=tmps'
   rw[eG] at tK
   rw[tK] at z1 z2 z3
   have pZ:∀i,i<y'.vars.length+y'.params.size→vs[i]? = (y'.vars++y'.params.toList)[i]? := by
    intro i hi
    rw[← hR.head,aW,ah hi]
   let st0:St:={ vars:=(caps++args).map dem++List.replicate (pf.nv - (caps++args).length) .dead,locs:=[],gen:=0,heap:=h0 }
   let a0:Act:={ tmps:=tmps',defers:=[] }
   let G0:GS:={ G with df:=[] }
   have mJ:(caps++args).length=y'.vars.length+y'.params.size:=by simp; omega
   have ij:BI N w G0 st0 a0 vs y'.nt:=by
    refine⟨⟨?_,?_,(by intro j t u hj; simp at hj),?_,(by intro j t hj; simp at hj),rfl,(by intro g b h; have h:G.box g=some b:=h; rw[dU.only.box] at h; simp at h),dU.owlt,dU.fixlt,dU.heap,dU.hdom⟩,?_⟩
    ·have:=hR.len
     simp only[st0,ap,aA,List.length_replicate] at mJ ⊢
     omega
    ·intro i t u h1 h2
     by_cases hi:i<(caps++args).length
     ·rw[pZ i (by omega)] at h1
      simp only[st0] at h2
      rw[am (by simpa using hi)] at h2
      simp only[az,al hi,aB,aa] at h2
      subst h2
      have em:VR N w G.fix G.heap (tmps'.getD t undef) (caps++args)[i]:=by
       by_cases ed:i<y'.vars.length
       ·rw[am ed] at h1
        have tL:i<caps.length:=by omega
        have hq:=qc i t caps[i] h1 (by simp[tL])
        have nK:t∉y'.params.toList:=λhm=>nd3 t (av h1) t hm rfl
        rw[z2 t nK]
        rw[List.getElem_append_left tL]
        exact hq
       ·rw[ar (by omega)] at h1
        have vp:i - caps.length<args.length:=by rw[ap] at hi; omega
        have tM:i - caps.length<vals.size:=by omega
        rw[List.getElem_append_right (by omega)]
        have vq:y'.params.toList[i - caps.length]? = some t:=by rw[qlen]; exact h1
        have eS:(t,vals[i - caps.length])∈y'.params.toList.zip vals.toList:=by
         refine bi.2 ⟨i - caps.length,?_⟩
         rw[List.getElem?_zip_eq_some]
         exact⟨vq,by simp[tM]⟩
        have nO:t<tmps.size:=by
         have hm:t∈vs:=by
          have h3:=pZ i (by omega)
          rw[ar (by omega)] at h3
          rw[h1] at h3
          exact av h3
         exact aN (hR.lt t hm) qsz
        rw[z3 nd2 _ eS nO]
        exact cW (i - caps.length) _ _ (by simp[tM]) (by simp[vp])
      have eO:a0.eval (.tmp t)=tmps'.getD t undef:=rfl
      rw[eO]
      exact SR.of_pure em.dem em.cp_dem
     ·simp only[st0] at h2
      rw[ar (by simpa using hi)] at h2
      rw[cE] at h2
      split at h2
      ·simp at h2; subst h2; trivial
      ·simp at h2
    ·intro i t h1
     have:=hR.lt t (av h1)
     show t<tmps'.size
     rw[z1]; exact aN this qsz
    ·show y'.nt≤tmps'.size
     rw[z1]; exact qsz
   have nD:∀c,LpOK (E.opt opt) N y'.nt y'.fn c:=by
    intro c ps kb vars hl
    simp only[Env.opt,hR.lps] at hl
    simp at hl
   have rec1:∀{w':World} {G':GS} {st:St} {a:Act} {ready:Bool},ExtD w G0 w' G'→BI N w' G' st a vs y'.nt→st.heap[n0]? = some (.loop ready) →
     ∃r1:Go.Loop,G'.heap n0=some l∧G'.ow l=some (.hobj n0)∧(∀o,¬G'.fix l o)∧w'.heap[l]? = some (.loop r1)∧r1.pending=none∧r1.state=(if ready then .ready else .busy):=by
    intro w' G' st a ready cN hb hl
    rcases hb.fi.heap.1 n0 _ hl with h|⟨b,k1,k2,k3,r1,k4,k5⟩
    ·simp at h
    ·have:b=l:=by
      have:=Ext.heap cN n0 l ql
      rw[k1] at this; simpa using this
     subst this
     exact⟨r1,k1,k2,k3,k4,k5⟩
   have turn:∀{w':World} {G':GS} {st:St} {a:Act} {ob:PObj} {r1 r2:Go.Loop},ExtD w G0 w' G'→BI N w' G' st a vs y'.nt→G'.heap n0=some l→G'.ow l=some (.hobj n0)→(∀o,¬G'.fix l o)→w'.heap[l]? = some (.loop r1) →
     (r2.fn,r2.tmps,r2.params,r2.assign,r2.body)=(r1.fn,r1.tmps,r1.params,r1.assign,r1.body)→ObjR N (w'.putObj l (.loop r2)) G' n0 l ob→ExtD w G0 (w'.putObj l (.loop r2)) G'∧BI N (w'.putObj l (.loop r2)) G' (wG st n0 ob) a vs y'.nt:=by
    intro w' G' st a ob r1 r2 cN hb k1 k2 k3 k4 ef dB
    have cS:l<w'.heap.size:=(aV.1 k4).1
    obtain⟨x1,x2⟩:=PK (ob':=ob) (mob := .loop r2) hb.fi k1 k2 k3 (by simp[World.shape?,k4]) (by
     intro s hs
     simp only[yN,k4] at hs
     simp only[yN,be,cS,if_true]
     simp only[aa] at hs ⊢
     rw[ef]; exact hs) (.inr dB)
    exact⟨cN.trans (.of x1),⟨x2,hb.size⟩⟩
   have hobj:∀{w':World} {G':GS} {r1 r2:Go.Loop},w'.heap[l]? = some (.loop r1)→(w'.putObj l (.loop r2)).heap[l]? = some (.loop r2):=by
    intro w' G' r1 r2 k4
    exact World.putObj_heap_same (aV.1 k4).1
   have nr:∀{p:PC},p.RO=true→p.NR=true:=by
    intro p
    induction p<;>simp_all [PC.RO,PC.NR]
   have last:∀{w':World} {G':GS} {st:St} {a:Act} {e:Ending},ExtD w G0 w' G'→BI N w' G' st a vs y'.nt→(∀G2,G2.heap=G'.heap→(∀b o,G'.fix b o→G2.fix b o)→AG N w' G2 e o)→st.heap=h'→∃G',AG N w' G' e o∧Ext w G w' G'∧Between N w' G' h':=by
    intro w' G' st a e cN hb ho hh
    obtain⟨l1,l2⟩:=Es (w:=w) (G:=G) cN hb (DefW.refl w') (λ_ _=>rfl) st.vars []
    refine⟨{ fix:=(G'.shut (Aq st.vars []) st.heap).fix,heap:=G'.heap,box:=λ_=>none,ow:=zq G'.ow,df:=G.df },ho _ rfl (λb o h=>Or.inl h),l1,?_⟩
    rw[← hh]; exact l2
   refine d2t d4 ?_
   unfold BP at hc
   simp only[aL] at hc
   split at hc
   ·rename_i st1 jb jQ
    refine Cy (rd':=some l) hF (hE.opt opt) hP dz hR.nd n cQ (by rw[← hR.ca]; exact F0) jQ ij (nD _) (.inr hR.ra) (fun⟨_,_,h⟩=>h) ?_
    intro a1 w1 G1 e he fe d7 jA
    simp only[zp] at he
    subst he
    have body:∀{x:PExit} {st2:St},st1.heap[n0]? = some (.loop true)→wn L n cb (wG st1 n0 (.loop false))=some (x,st2) →
      (∀a2 w2 G2 e2,zp N w2 G2 x e2→BI N w2 G2 st2 a2 vs y'.nt→ExtD w G0 w2 G2→(G2.df=[])→Lb P l (λe w'=>∃G',AG N w' G' e o∧Ext w G w' G'∧Between N w' G' h') e2 a2 w2) →
      ∃w2,(Instr.beginRound l).run P w1 = .ok () w2∧wpN (some l) y'.fn P y'.body (Lb P l (λe w'=>∃G',AG N w' G' e o∧Ext w G w' G'∧Between N w' G' h')) a1 w2:=by
     intro x st2 ee gw hq
     obtain⟨r1,k1,k2,k3,k4,k5,k6⟩:=rec1 d7 fe ee
     refine⟨_,run_beginRound k4 (by rw[k6]; rfl),?_⟩
     obtain⟨t1,t2⟩:=turn (ob := .loop false) (r2:={ r1 with state := .busy }) d7 fe k1 k2 k3 k4 rfl ⟨k3,_,hobj (G':=G1) k4,k5,rfl⟩
     refine Cy (rd':=some l) hF (hE.opt opt) hP dz hR.nd n cQ (by rw[← hR.cb]; exact F0) gw t2 (nD _) (.inr hR.rb) (fun⟨_,_,h⟩=>h) ?_
     intro a2 w2 G2 e2 h1 h2 h3 h4
     have hd:G2.df=[]:=by
      have d1:G1.df=[]:=by
       obtain⟨ms,m1,_,m3⟩:=jA
       rw[m1,m3 (nr hR.ra)]; rfl
      have d2:(∃ms,G2.df=ms++G1.df∧Marks (w1.putObj l (.loop { r1 with state := .busy })) w2 G2 ms∧(cb.NR=true→ms=[]))∨∃d,G2.df=d::G1.df:=by
       unfold DfR at h4
       cases x with
       | after kd cs v=>exact .inr (h4 (nr hR.rb))
       | _=>exact .inl h4
      rcases d2 with⟨ms,m1,_,m3⟩|⟨d,hd⟩
      ·rw[m1,m3 (nr hR.rb),d1]; rfl
      ·exfalso
       cases x with
       | after kd cs v=>exact B9 hR.rb gw
       | _ =>
         obtain⟨ms,m1,_,m3⟩:=h4
         rw[m1,m3 (nr hR.rb)] at hd
         simp at hd
     exact hq a2 w2 G2 e2 h1 h2 (t1.trans h3) hd
    split at hc
    ·rename_i st2 ee gw
     split at hc
     ·rename_i eu
      simp only[aa,ac] at hc
      obtain⟨rfl,rfl⟩:=hc
      refine body ee gw ?_
      intro a2 w2 G2 e2 h1 h2 h3 _
      simp only[zp] at h1
      subst h1
      obtain⟨r2,k1,k2,k3,k4,k5,k6⟩:=rec1 h3 h2 eu
      refine⟨_,_,run_endRound none k4,?_⟩
      obtain⟨t1,t2⟩:=turn (ob := .loop true) (r2:={ r2 with state:=if (none:Option Code).isNone then .ready else .done,pending:=none }) h3 h2 k1 k2 k3 k4 rfl ⟨k3,_,hobj (G':=G2) k4,rfl,rfl⟩
      exact last t1 t2 (λG3 _ _=>⟨_,rfl,.bool true⟩) rfl
     ·simp at hc
    ·rename_i v st2 ee gw
     simp only[aa,ac] at hc
     obtain⟨rfl,rfl⟩:=hc
     refine body ee gw ?_
     rintro a2 w2 G2 e2 ⟨v',rfl,hv⟩ h2 h3 h4
     refine⟨by rw[h2.fi.defers]; exact h4,?_⟩
     exact last h3 h2 (λG3 g1 g2=>⟨v',rfl,by rw[g1]; exact hv.mono (λb o hf=>⟨g2 b o hf,rfl⟩) (λ_ _ h=>h) (ShapeLe.refl _)⟩) rfl
    ·rename_i id st2 ee gw
     split at hc
     ·rename_i eu
      simp only[aa,ac] at hc
      obtain⟨rfl,rfl⟩:=hc
      refine body ee gw ?_
      intro a2 w2 G2 e2 h1 h2 h3 _
      simp only[zp] at h1
      subst h1
      obtain⟨r2,k1,k2,k3,k4,k5,k6⟩:=rec1 h3 h2 eu
      refine⟨_,_,run_endRound (some (.exit id)) k4,?_⟩
      obtain⟨t1,t2⟩:=turn (ob := .over (some id)) (r2:={ r2 with state:=if (some (Code.exit id)).isNone then .ready else .done,pending:=some (.exit id) }) h3 h2 k1 k2 k3 k4 rfl ⟨k3,_,hobj (G':=G2) k4,rfl,rfl⟩
      exact last t1 t2 (λG3 _ _=>⟨_,rfl,.bool false⟩) rfl
     ·simp at hc
    ·rename_i st2 ee gw
     split at hc
     ·rename_i eu
      simp only[aa,ac] at hc
      obtain⟨rfl,rfl⟩:=hc
      refine body ee gw ?_
      intro a2 w2 G2 e2 h1 h2 h3 _
      simp only[zp] at h1
      subst h1
      obtain⟨r2,k1,k2,k3,k4,k5,k6⟩:=rec1 h3 h2 eu
      refine⟨_,_,run_endRound (some .ret) k4,?_⟩
      obtain⟨t1,t2⟩:=turn (ob := .over none) (r2:={ r2 with state:=if (some Code.ret).isNone then .ready else .done,pending:=some .ret }) h3 h2 k1 k2 k3 k4 rfl ⟨k3,_,hobj (G':=G2) k4,rfl,rfl⟩
      exact last t1 t2 (λG3 _ _=>⟨_,rfl,.bool false⟩) rfl
     ·simp at hc
    ·simp at hc
   ·simp at hc
 | _=>simp at kI
theorem b66 {ex:PC→St→Option (PExit×St)} {f:PFunc} {args:List PV} {h:List PObj} {r} (hc:AX ex f args h=some r):∃rest,args = .dead::rest:=by
 unfold AX at hc
 split at hc
 ·exact⟨_,rfl⟩
 ·cases hc
theorem P3 {ex:PC→St→Option (PExit×St)} {f:PFunc} {args:List PV} {h:List PObj} {r} (hc:AX ex f args h=some r):f.code.isRound=false:=by
 unfold AX at hc
 have one:∀{o:Option Nat} {args:List PV},zx ex f o args h=some r→f.code.isRound=false:=by
  intro o args hr
  unfold zx at hr
  split at hr
  ·simp at hr
  ·rename_i hn; simpa using hn
 split at hc
 ·split at hc
  ·split at hc
   ·split at hc
    ·exact one (BF.1 hc).1
    ·exact one hc
   ·simp at hc
  ·simp at hc
 ·simp at hc
theorem c0H {L:Nat→Option PFunc} (hE:EnvOk E N) (hP:E.P=P) (dz:P.follows .mixedOrders=true) (hL:∀k pf,L k=some pf→FnS E N k pf):∀n,Runs N P L n:=by
 have hF:x7 N P L:=by
  intro k pf hk
  rcases hL k pf hk with hL|⟨y,fn,vs,o,a,b,h⟩
  rcases hL.2.2.2 with⟨_,_,fn,vs,h1,h2,_,_,_,_,_,_,h3,_⟩|⟨g,fn,_,_,h1,h2,h3,_⟩|⟨g,fn,_,_,_,h1,h2,h3,_⟩
  ·refine⟨fn,by rw[← hP]; exact h1,h2,?_⟩
   cases hb:fn.body with
   | none=>rw[hb] at h3; simp at h3
   | some c=>rfl
  ·exact⟨fn,by rw[← hP]; exact h1,h2,h3⟩
  ·exact⟨fn,by rw[← hP]; exact h1,h2,h3⟩
  ·exact⟨fn,by rw[← hP,h.no]; exact h.inP,h.name,h.body⟩
 intro n
 induction n using Nat.strongRecOn with
 | _ n ihn =>
   have prim:∀{k:Nat} {pf:PFunc} {g} {args:List PV} {r:PV} {h0 h':List PObj},L k=some pf→pf.prim=some g→g (args.map dem) h0=some (r,h')→∀(w:World) (G:GS) (vals:Array Value),Between N w G h0→vals.size=args.length →
     (∀(i:Nat) (v:Value) (p:PV),vals[i]? = some v→args[i]? = some p→VR N w G.fix G.heap v p) →
     Calls P (N.fn k) vals w λe w'=>∃v G',e = .returned v∧VR N w' G'.fix G'.heap v r∧Ext w G w' G'∧Between N w' G' h':=by
    intro k pf g args r h0 h' gZ fc hc w G vals dU cV cW
    have eA:FnF E N k pf:=by
     rcases hL k pf gZ with h|⟨y,fn,vs,o,a,b,h⟩
     ·exact h
     ·rw[h.prim] at fc; simp at fc
    rcases eA.2.2.2 with⟨h,_⟩|⟨g',fn,h,_,_,_,_,lQ⟩|⟨_,_,h,_⟩
    ·rw[h] at fc; simp at fc
    ·rw[h] at fc
     simp only[aa] at fc
     subst fc
     rw[hP] at lQ
     refine lQ (args.map dem) r h0 h' hc w G vals dU (by simpa using cV) ?_
     intro i v p hv hp
     simp only[az,ab] at hp
     obtain⟨q,hq,rfl⟩:=hp
     exact(cW i v q hv hq).dem
    ·rw[h] at fc; simp at fc
   have code:∀{k:Nat} {pf:PFunc} {args:List PV} {o:Out} {h0 h':List PObj},L k=some pf→pf.code.isRound=false→pf.prim=none→zw (wn L n) (yt L) pf args h0=some (o,h')→args.length=pf.params→∀(w:World) (G:GS) (vals:Array Value),Between N w G h0→vals.size=args.length →
     (∀(i:Nat) (v:Value) (p:PV),vals[i]? = some v→args[i]? = some p→VR N w G.fix G.heap v p) →
     Calls P (N.fn k) vals w λe w'=>∃G',AG N w' G' e o∧Ext w G w' G'∧Between N w' G' h':=by
    intro k pf args o h0 h' gZ ly fc hc dH w G vals dU cV cW
    obtain⟨_,ik,_,kh⟩:=(hL k pf gZ).plain ly
    rcases kh with⟨_,_,fn,vs,mH⟩|⟨g',fn,h,_⟩|⟨_,_,_,hx,_⟩
    ·exact c4q hE hP dz hF hL ihn mH ik hc dH dU cV cW
    ·rw[h] at fc; simp at fc
    ·unfold zw at hc
     rw[hx] at hc
     cases n with
     | zero=>simp[wn] at hc
     | succ n=>simp[wn] at hc
   refine⟨⟨?_,?_⟩,?_,?_,?_⟩
   ·intro k args r h0 h' hc
    unfold xH at hc
    split at hc
    ·simp at hc
    ·rename_i pf gZ
     have ly:pf.prim=none→pf.code.isRound=false:=by
      intro fc
      cases hx:pf.code.isRound with
      | false=>rfl
      | true =>
        exfalso
        split at hc
        ·rw[fc] at hc
         simp only at hc
         split at hc
         ·simp only[zK,hx,if_true] at hc
          unfold CH at hc
          split at hc<;>simp at hc
         ·simp only[zK,hx,if_true] at hc
          simp at hc
        ·have:=P3 hc
         rw[hx] at this; simp at this
     have eA:FnF E N k pf:=by
      rcases hL k pf gZ with h|⟨y,fn,vs,o,a,b,h⟩
      ·exact h
      ·have:=ly h.prim
       rw[h.code] at this; simp[PC.isRound] at this
     refine⟨eA.1,?_⟩
     intro w G vals dU cV cW
     split at hc
     ·rename_i dH
      split at hc
      ·rename_i g fc
       simp only[ab,ac] at hc
       obtain⟨⟨r1,h1⟩,hg,rfl,rfl⟩:=hc
       refine(prim gZ fc hg w G vals dU cV cW).mono ?_
       rintro e w' ⟨v,G',rfl,hv,h2,h3⟩
       exact⟨v,G',rfl,hv.dem,h2,h3⟩
      ·rename_i fc
       have ik:=eA.2.1
       suffices H:∀args:List PV,args.length=pf.params→zK (wn L n) (yt L) pf args h0=some (r,h')→vals.size=args.length →
         (∀(i:Nat) (v:Value) (p:PV),vals[i]? = some v→args[i]? = some p→VR N w G.fix G.heap v p) →
         Calls P (N.fn k) vals w λe w'=>∃v G',e = .returned v∧VR N w' G'.fix G'.heap v r∧Ext w G w' G'∧Between N w' G' h' by
        split at hc
        ·rename_i gO
         simp only[ak] at gO
         have kS:zK (wn L n) (yt L) pf (.nils::args.tail) h0=some (r,h')∧zK (wn L n) (yt L) pf (.void::args.tail) h0=some (r,h'):=by
          unfold CH at hc
          split at hc
          ·rename_i he; exact⟨hc,he▸hc⟩
          ·simp at hc
         cases args with
         | nil=>simp[vague] at gO
         | cons p ps =>
           have jg:∃v,vals[0]? = some v:=by
            have h0:0<vals.size:=by rw[cV]; simp
            exact⟨vals[0],by simp[h0]⟩
           obtain⟨v0,jg⟩:=jg
           have fZ:∀q,VR N w G.fix G.heap v0 q→∀(i:Nat) (v:Value) (p':PV),vals[i]? = some v→(q::ps)[i]? = some p'→VR N w G.fix G.heap v p':=by
            intro q hq i v p' h1 h2
            cases i with
            | zero=>rw[jg] at h1; simp at h1 h2; subst h1 h2; exact hq
            | succ i=>exact cW (i+1) v p' h1 (by simpa using h2)
           rcases(cW 0 v0 p jg rfl).vague gO.2 with h|h
           ·exact H _ (by simpa using dH) kS.1 (by simpa using cV) (fZ _ h)
           ·exact H _ (by simpa using dH) kS.2 (by simpa using cV) (fZ _ h)
        ·exact H args dH hc cV cW
       clear hc dH cV cW ly args
       intro args dH hc cV cW
       unfold zK at hc
       rw[ik] at hc
       simp only[aH,if_false] at hc
       unfold Gw at hc
       split at hc
       ·rename_i r' h1 d9
        simp only[aa,ac] at hc
        obtain⟨rfl,rfl⟩:=hc
        refine(code gZ ik fc d9 dH w G vals dU cV cW).mono ?_
        rintro e w' ⟨G',⟨v,rfl,hv⟩,h2,h3⟩
        exact⟨v,G',rfl,hv,h2,h3⟩
       ·simp at hc
     ·
      exfalso
      obtain⟨ps,rfl⟩:=b66 hc
      ·have h0:0<vals.size:=by rw[cV]; simp
       have h1:=cW 0 vals[0] .dead (by simp[h0]) rfl
       generalize vals[0]=v0 at h1
       cases h1
   ·intro k own args r h' hc
    unfold xH at hc
    split at hc
    ·simp at hc
    ·rename_i pf gZ
     have gI:(Ah own args).length=pf.params→False:=by
      intro hl
      rcases hL k pf gZ with h|⟨y,fn,vs,o,a,b,h⟩
      ·have:=h.2.2.1
       rw[P4] at hl
       omega
      ·rw[ah hl,h.prim] at hc
       simp only[zK,h.code,PC.isRound,if_true] at hc
       split at hc
       ·unfold CH at hc
        split at hc<;>simp at hc
       ·simp at hc
     rw[af gI] at hc
     have ik:=P3 hc
     have eA:=(hL k pf gZ).plain ik
     refine⟨eA.1,?_⟩
     intro w G vals dI
     rw[P5] at hc
     split at hc
     ·rename_i dH
      obtain⟨dH,fc⟩:=dH
      suffices H:∀args:List PV,args.length=pf.params→zx (wn L n) pf own args []=some (r,h')→OwnIn N w G own args vals →
        Calls P (N.fn k) vals w λe w'=>∃v G',e = .returned v∧VR N w' G'.fix G'.heap v r∧Ext w G w' G'∧(∀b o,G'.fix b o→b<w'.heap.size)∧∀es,r = .list true es→DE w G w' G' v es by
       split at hc
       ·rename_i gO
        simp only[ak] at gO
        have kS:=BF.1 hc
        cases args with
        | nil=>simp[vague] at gO
        | cons p ps =>
          have jg:∃v,vals[0]? = some v:=by
           have h0:0<vals.size:=by rw[dI.size]; simp
           exact⟨vals[0],by simp[h0]⟩
          obtain⟨v0,jg⟩:=jg
          have fZ:∀q,(∀es,q≠.list true es)→VR N w G.fix G.heap v0 q→OwnIn N w G own (q::ps) vals:=by
           intro q lI hq
           refine⟨dI.ow,dI.box,dI.heap,dI.fixlt,dI.owlt,dI.tab,by simpa using dI.size,?_,?_⟩
           ·intro i v p' h1 h2
            cases i with
            | zero=>rw[jg] at h1; simp at h1 h2; subst h1 h2; exact hq
            | succ i=>exact dI.vr (i+1) v p' h1 (by simpa using h2)
           ·intro i v es hi h1 h2
            cases i with
            | zero=>simp at h2; exact absurd h2 (lI es)
            | succ i=>exact dI.room (i+1) v es hi h1 (by simpa using h2)
          rcases(dI.vr 0 v0 p jg rfl).vague gO.2 with h|h
          ·exact H _ (by simpa using dH) kS.1 (fZ _ (by intro es; simp) h)
          ·exact H _ (by simpa using dH) kS.2 (fZ _ (by intro es; simp) h)
       ·exact H args dH hc dI
      clear hc dH dI gI args
      intro args dH hc dI
      rcases eA.2.2.2 with⟨_,_,fn,vs,mH⟩|⟨g',fn,h,_⟩|⟨_,_,_,hx,_⟩
      ·exact c2n hE hP dz hF ihn mH hc dH dI
      ·rw[h] at fc; simp at fc
      ·unfold zx at hc
       rw[hx] at hc
       cases n with
       | zero=>simp[wn] at hc
       | succ n=>simp[wn] at hc
     ·simp at hc
   ·intro k args o h0 h' hc ja w G vals dU cV cW
    unfold yc at hc
    split at hc
    ·simp at hc
    ·rename_i pf gZ
     split at hc
     ·rename_i dH
      split at hc
      ·rename_i g fc
       simp only[ab,ac] at hc
       obtain⟨⟨r,h1⟩,hg,rfl,rfl⟩:=hc
       refine(prim gZ fc hg w G vals dU cV cW).mono ?_
       rintro e w' ⟨v,G',rfl,hv,h2,h3⟩
       exact⟨G',⟨v,rfl,hv.dem⟩,h2,h3⟩
      ·rename_i fc
       exact code gZ ((hL k pf gZ).plainY ja).2.1 fc hc dH.1 w G vals dU cV cW
     ·simp at hc
   ·intro k y n0 l tmps caps args o h0 h' hy hc w G vals dU ru cV cW
    unfold yc at hc
    split at hc
    ·simp at hc
    ·rename_i pf gZ
     rcases hL k pf gZ with h|⟨y',fn,vs,o',ca,cb,h⟩
     ·have:=h.1
      rw[hy] at this
      simp at this
     ·have:y'=y:=by have:=h.yl; rw[hy] at this; simpa using this.symm
      subst this
      split at hc
      ·rename_i dH
       rw[h.prim] at hc
       simp only[zw,h.code] at hc
       exact b8M hE hP dz hF ihn h hc (by rw[dH.1,h.params]) dU ru cV cW
      ·simp at hc
   ·intro k hk
    unfold CG at hk
    split at hk
    ·rename_i f hf
     exact((hL k f hf).plain (by simpa using hk)).1
    ·simp at hk
theorem c0I {L:Nat→Option PFunc} (hE:EnvOk E N) (hP:E.P=P) (dz:P.follows .mixedOrders=true) (hL:∀k pf,L k=some pf→FnS E N k pf):
  ∀n,CallOK N P (xH (wn L n) L):=λn=>(c0H hE hP dz hL n).call
end
end PI
