import Derived.Test.YtljbhgpanekomaaGreatDoorPiCodeT
import Derived.Test.YtljbhgpanekomaaGreatDoorPiRun
set_option linter.unusedSimpArgs false
set_option linter.unusedVariables false
set_option linter.unusedSectionVars false
namespace PI
open Go Go.RowKit
def Di (P:Program) (kp:Bool) (vs:List Tmp):ResultVar→Option PRes
 | .tmp t=>(xH t vs 0).map (if kp then .keep else .var)
 | .cell t ty=>(xH t vs 0).bind λi=>(wx P ty).map λn => .cell i n (wQ P ty)
def AF (P:Program) (kp:Bool) (vs:List Tmp):List ResultVar→Option (List PRes)
 | []=>some []
 | r::rs=>(Di P kp vs r).bind λp=>(AF P kp vs rs).map (p::·)
structure Opts where
 hs:List Tmp:=[]
 hf:List FuncId:=[]
 hv:List Tmp:=[]
 rs:List TypeId:=[]
 bf:List FuncId:=[]
 bv:List Tmp:=[]
 lps:List (Array Tmp×Nat×List Tmp):=[]
 sr:Bool:=false
 nl:Bool:=false
 kp:Bool:=false
 ox:List (FuncId×Option Nat):=[]
 rf:List FuncId:=[]
 lv:Bool:=false
def Env.opt (E:Env) (o:Opts):Env:={ E with hs:=o.hs,hf:=o.hf,hv:=o.hv,rs:=o.rs,bf:=o.bf,bv:=o.bv,lps:=o.lps,sr:=o.sr,nl:=o.nl,ox:=o.ox,rf:=o.rf,lv:=o.lv }
theorem EnvOk.opt {E:Env} {N:Nm} (h:EnvOk E N) (o:Opts):EnvOk (E.opt o) N:=⟨h.fn,h.yl,h.pt,h.bt⟩
def FnC (E:Env) (N:Nm) (k:Nat) (pf:PFunc) (fn:Func) (vs:List Tmp):Prop:=
 E.P.funcs[N.fn k]? = some fn∧fn.name ≠ "runtime.NumGoroutine" ∧ vs.Nodup∧(∀t∈vs,t<fn.ntmps)∧vs.length=pf.nv∧pf.params≤pf.nv∧(∀i,i<pf.params→vs[i]? = some i) ∧
  (∃o:Opts,(fn.body.map λc=>xL (E.opt o) fn.ntmps vs c)=some pf.code∧(o.lps=[]∨∀c,fn.body=some c→LpOK (E.opt o) N fn.ntmps (N.fn k) c)∧AF E.P o.kp vs fn.results.toList=some pf.results)
def CA (N:Nm) (P:Program) (k:Nat) (g:List PV→List PObj→Option (PV×List PObj)):Prop:=
 ∀ (args : List PV) (r : PV) (h h' : List PObj), g args h = some (r, h') → ∀ (w : World) (G : GS) (vals : Array Value), Between N w G h → vals.size = args.length →
   (∀(i:Nat) (v:Value) (p:PV),vals[i]? = some v→args[i]? = some p→VR N w G.fix G.heap v p) →
   Calls P (N.fn k) vals w λe w'=>∃v G',e = .returned v∧VR N w' G'.fix G'.heap v r∧Ext w G w' G'∧Between N w' G' h'
def Cd (N:Nm) (P:Program) (k:Nat) (g:List PV→List PObj→Option (List PObj)):Prop:=
 ∀ (p : PV) (caps : List PV) (h h' : List PObj), g (p :: caps) h = some h' → ∀ (w : World) (G : GS) (vals : Array Value), Between N w G h → vals.size = caps.length →
   (∀(i:Nat) (v:Value) (p:PV),vals[i]? = some v→caps[i]? = some p→VR N w G.fix G.heap v p) →
   ∀u,(u = .returning∧p = .nilIface∨∃v,u = .panicking [{ v,recovered:=false }]∧VR N w G.fix G.heap v p) →
   CallsDIn (W none) 0 P (N.fn k) vals u w λe u' w'=>(∃v,e = .returned v)∧settle u' = .returning∧∃G',Ext w G w' G'∧Between N w' G' h'
structure RdC (E:Env) (N:Nm) (k:Nat) (pf:PFunc) (y:YL) (fn:Func) (vs:List Tmp) (o:Opts) (a b:PC):Prop where
 yl:N.yl k=some y
 code:pf.code = .round a b
 ra:a.RO=true
 rb:b.RO=true
 prim:pf.prim=none
 dfr:pf.defer=none
 inP:E.P.funcs[y.fn]? = some fn
 no:N.fn k=y.fn
 name:fn.name ≠ "runtime.NumGoroutine"
 body:fn.body.isNone=false
 nd:vs.Nodup
 lt:∀t∈vs,t<y.nt
 len:vs.length=pf.nv
 params:pf.params=1+(y.vars.length+y.params.size)
 head:vs.take (y.vars.length+y.params.size)=y.vars++y.params.toList
 lps:o.lps=[]
 ca:xL (E.opt o) y.nt vs y.assign=a
 cb:xL (E.opt o) y.nt vs y.body=b
def FnF (E:Env) (N:Nm) (k:Nat) (pf:PFunc):Prop:=
 N.yl k=none∧pf.code.isRound=false∧pf.params<1000 ∧
 ((pf.prim=none∧pf.defer=none∧∃fn vs,FnC E N k pf fn vs) ∨
 (∃g fn,pf.prim=some g∧pf.defer=none∧E.P.funcs[N.fn k]? = some fn∧fn.name ≠ "runtime.NumGoroutine" ∧ fn.body.isNone=false∧CA N E.P k g) ∨
 ∃g fn,pf.prim=none∧pf.code = .exit 0∧pf.defer=some g∧E.P.funcs[N.fn k]? = some fn∧fn.name ≠ "runtime.NumGoroutine" ∧ fn.body.isNone=false∧Cd N E.P k g)
def FnS (E:Env) (N:Nm) (k:Nat) (pf:PFunc):Prop:=FnF E N k pf∨∃y fn vs o a b,RdC E N k pf y fn vs o a b
theorem FnS.plain {E:Env} {N:Nm} {k:Nat} {pf:PFunc} (h:FnS E N k pf) (hr:pf.code.isRound=false):FnF E N k pf:=by
 rcases h with h|⟨y,fn,vs,o,a,b,h⟩
 ·exact h
 ·rw[h.code] at hr; simp[PC.isRound] at hr
theorem FnS.plainY {E:Env} {N:Nm} {k:Nat} {pf:PFunc} (h:FnS E N k pf) (hr:N.yl k=none):FnF E N k pf:=by
 rcases h with h|⟨y,fn,vs,o,a,b,h⟩
 ·exact h
 ·rw[h.yl] at hr; simp at hr
def yL (vars:List PV):List PRes→List Nat
 | []=>[]
 | r::rs=>AC vars r++yL vars rs
theorem KO:∀(ns:List Nat) (h:List PObj) (n:Nat),(n∈ns→(Ao ns h)[n]? = h[n]?.map (λ_ => .gone))∧(n∉ns→(Ao ns h)[n]? = h[n]?)
 | [],h,n=>by simp[Ao]
 | m :: ns, h, n => by
   simp only[Ao]
   obtain⟨i1,i2⟩:=KO ns (h.set m .gone) n
   rw[aI] at i1 i2
   by_cases hm:m=n
   ·subst hm
    refine⟨λ_ =>?_,λhn=>absurd (by simp) hn⟩
    by_cases hr:m∈ns
    ·rw[i1 hr]
     by_cases cO:m<h.length<;>simp[cO]
    ·rw[i2 hr]
     by_cases cO:m<h.length<;>simp[cO]
   ·have c9:¬n=m:=λe=>hm e.symm
    rw[ae hm] at i1 i2
    simp only[az,c9,false_or]
    exact⟨i1,i2⟩
theorem KP:∀(ns:List Nat) (h:List PObj),(Ao ns h).length=h.length
 | [],h=>rfl
 | n::ns,h=>by simp only[Ao]; rw[KP ns]; simp
theorem HD (vars:List PV):∀(rs:List PRes) (h:List PObj) (n:Nat),(n∈yL vars rs→(wI vars rs h)[n]? = h[n]?.map (λ_ => .gone))∧(n∉yL vars rs→(wI vars rs h)[n]? = h[n]?)
 | [],h,n=>by simp[wI,yL]
 | r :: rs, h, n => by
   simp only[wI,yL]
   obtain⟨i1,i2⟩:=HD vars rs (Ao (AC vars r) h) n
   obtain⟨g1,g2⟩:=KO (AC vars r) h n
   simp only[aw]
   by_cases hr:n∈yL vars rs
   ·refine⟨λ_ =>?_,λhn=>absurd (.inr hr) hn⟩
    rw[i1 hr]
    by_cases hq:n∈AC vars r
    ·rw[g1 hq]; cases h[n]?<;>rfl
    ·rw[g2 hq]
   ·refine⟨λhn =>?_,λhn =>?_⟩
    ·rw[i2 hr,g1 (hn.resolve_right hr)]
    ·rw[i2 hr,g2 (λe=>hn (.inl e))]
theorem KR (vars:List PV):∀(rs:List PRes) (h:List PObj),(wI vars rs h).length=h.length
 | [],h=>rfl
 | r::rs,h=>by simp only[wI]; rw[KR vars rs,KP]
theorem KS {vars:List PV} {n:Nat} {r:PRes} (hv:n∈AC vars r):∀{rs:List PRes},r∈rs→n∈yL vars rs
 | r' :: rs, h => by
   simp only[yL,aw]
   rcases az.1 h with h|h
   ·subst h; exact .inl hv
   ·exact .inr (KS hv h)
theorem HE {n sz len:Nat} {agg:Bool}:∀{ps:List PV},.rowp n sz agg len∈ps→n∈Bh ps
 | p :: ps, h => by
   simp only[Bh,aw]
   rcases az.1 h with h|h
   ·subst h; exact .inl (by simp[w9])
   ·exact .inr (HE h)
def GS.shut (G:GS) (ns:List Nat) (heap:List PObj):GS:=
 { G with fix:=λb o=>G.fix b o∨∃n∈ns,∃cs:List PV,G.heap n=some b∧heap[n]? = some (.cells cs)∧o<cs.length }
section
variable {E:Env} {N:Nm} {P:Program}
theorem VR.shut {w:World} {G:GS} {ns:List Nat} {heap:List PObj} {v:Value} {p:PV} (h:VR N w G.fix G.heap v p):VR N w (G.shut ns heap).fix (G.shut ns heap).heap v p:=
 h.mono (λ_ _ h=>⟨.inl h,rfl⟩) (λ_ _ h=>h) (ShapeLe.refl w)
theorem HR.shut {w:World} {G:GS} {heap:List PObj} (h:HR N w G heap) (vars:List PV) (rs:List PRes):HR N w (G.shut (yL vars rs) heap) (wI vars rs heap):=by
 have own:∀n b,n∈yL vars rs→∀cs,G.heap n=some b→heap[n]? = some (.cells cs)→G.ow b=some (.hobj n):=by
  intro n b _ cs h1 h2
  rcases h.1 n _ h2 with h3|⟨b',k1,k2,_⟩
  ·simp at h3
  rw[h1] at k1; cases k1; exact k2
 have room:∀{n k:Nat} {v:Value} {es:List PV},Room w G (.hcell n k) v es→Room w (G.shut (yL vars rs) heap) (.hcell n k) v es:=by
  intro n k v es hr
  unfold Room at *
  split at hr
  ·rename_i a len cap
   rcases hr with hr|⟨h1,sz,cs,T,h2,h3,h4,h5,h6⟩
   ·exact .inl hr
   ·refine .inr ⟨h1,sz,cs,T,h2,h3,h4,h5,?_⟩
    rintro o ho (hf|⟨m,hm,cs',k1,k2,_⟩)
    ·exact h6 o ho hf
    ·have:=own m _ hm cs' k1 k2
     rw[h1] at this; simp at this
  ·trivial
 refine⟨?_,⟨λt ht=>⟨.inl (h.2.1 t ht).1,(h.2.1 t ht).2⟩,h.2.2⟩⟩
 intro n ob dz
 by_cases hn:n∈yL vars rs
 ·rw[(HD vars rs heap n).1 hn] at dz
  simp only[ab] at dz
  obtain⟨ob0,h0,rfl⟩:=dz
  exact .inl rfl
 ·rw[(HD vars rs heap n).2 hn] at dz
  rcases h.1 n _ dz with rfl|⟨b,k1,k2,k3⟩
  ·exact .inl rfl
  refine .inr ⟨b,k1,k2,?_⟩
  have nofix:(∀o,¬G.fix b o)→∀o,¬(G.shut (yL vars rs) heap).fix b o:=by
   rintro hf o (h1|⟨m,hm,cs',j1,j2,_⟩)
   ·exact hf o h1
   ·have:=own m _ hm cs' j1 j2
    rw[k2] at this
    simp at this; subst this; exact hn hm
  cases ob with
  | cells cs =>
    obtain⟨f,cv,T,a1,a2,a3⟩:=k3
    refine⟨nofix f,cv,T,a1,a2,?_⟩
    intro k c x hc hx
    obtain⟨b1,b2,b3⟩:=a3 k c x hc hx
    refine⟨b1.shut,b2,?_⟩
    split at b3
    ·exact room b3
    ·trivial
  | map es =>
    obtain⟨mes,clock,a1,a2,a3,a4,a5⟩:=k3
    refine⟨mes,clock,a1,a2,a3,a4,?_⟩
    intro i e p hi hp
    obtain⟨b1,b2,b3⟩:=a5 i e p hi hp
    refine⟨b1.shut,b2.shut,?_⟩
    split at b3
    ·exact room b3
    ·trivial
  | bld bs =>
    obtain⟨f,p,v,a1,a2,a3⟩:=k3
    refine⟨nofix f,p,v,a1,a2,?_⟩
    rcases a3 with a3|⟨g,cap,cur,b1,b2,b3,b4⟩
    ·exact .inl a3
    ·refine .inr ⟨g,cap,cur,b1,b2,?_,b4⟩
     rintro o (h1|⟨m,hm,cs',j1,j2,_⟩)
     ·exact b3 o h1
     ·have:=own m _ hm cs' j1 j2
      rw[b2] at this; simp at this
  | siter s pos =>
    obtain⟨f,s',a1,a2⟩:=k3
    exact⟨nofix f,s',a1,a2⟩
  | gone=>trivial
  | loop ready =>
    obtain⟨f,r,a1,a2⟩:=k3
    exact⟨nofix f,r,a1,a2⟩
  | over id =>
    obtain⟨f,r,a1,a2⟩:=k3
    exact⟨nofix f,r,a1,a2⟩
theorem KT {w:World} {G:GS} {heap:List PObj} (h:HR N w G heap) {ns:List Nat} {n sz len b cap:Nat} (cT:len≤cap) {agg:Bool} {cs es:List PV} (hn:n∈ns) (hb:G.heap n=some b) (hc:heap[n]? = some (.cells cs)) (cQ:agg=true∨sz=1)
  (he:yk sz agg cs len 0=some es):VR N w (G.shut ns heap).fix (G.shut ns heap).heap (.slice (some ⟨b,0,none⟩) len cap) (.list false es):=by
 rcases h.1 n _ hc with hg|⟨b',k1,k2,f,cv,T,a1,a2,a3⟩
 ·simp at hg
 have:b'=b:=by rw[hb] at k1; cases k1; rfl
 subst this
 obtain⟨e1,e2⟩:=FG he
 have ji:∀(i:Nat) (e:PV),es[i]? = some e→i*sz+sz≤cs.length∧e.cells.length=sz∧∀(j:Nat) (x:PV),e.cells[j]? = some x→∃y,cs[i*sz+j]? = some y∧x=dem y∧j<sz:=by
  intro i e hi
  have:=e2 i e hi
  rw[aR] at this
  unfold wh at this
  split at this
  ·split at this
   ·rename_i eg
    simp only[aa] at this; subst this
    refine⟨eg,by simp[PV.cells]; omega,?_⟩
    intro j x hx
    simp only[PV.cells,aA,ab] at hx
    obtain⟨y,hy,rfl⟩:=hx
    rw[aP] at hy
    split at hy
    ·rw[aT] at hy
     exact⟨y,hy,rfl,by assumption⟩
    ·simp at hy
   ·simp at this
  ·rename_i gk
   have h1:sz=1:=by rcases cQ with h|h; exact absurd h (by simpa using gk); exact h
   subst h1
   split at this
   ·rename_i y hy
    have cO:i*1<cs.length:=(aj.1 hy).1
    have fP:y.flat=true:=(a3 _ cv[i*1] y (by simp[a2,cO]) hy).2.1
    have ft:e=dem y∧y.cells=[y]:=by
     cases y<;>simp_all [cp,dem,PV.cells,PV.flat]
    obtain⟨rfl,_⟩:=ft
    have gl:(dem y).cells=[dem y]:=by cases y<;>simp_all [dem,PV.cells,PV.flat]
    refine⟨by omega,by rw[gl]; rfl,?_⟩
    intro j x hx
    rw[gl] at hx
    cases j with
    | zero=>simp at hx; subst hx; exact⟨y,hy,rfl,by omega⟩
    | succ j=>simp at hx
   ·simp at this
 have lV:∀k,k<len*sz→k<cs.length:=by
  intro k hk
  have fD:0<sz:=by
   rcases Nat.eq_zero_or_pos sz with h|h
   ·subst h; simp at hk
   ·exact h
  have hi:k / sz<len:=by rw[Nat.div_lt_iff_lt_mul fD]; exact hk
  have:=(ji (k / sz) es[k / sz] (aq (by omega))).1
  have h2:k / sz*sz+k % sz=k:=by rw[Nat.mul_comm]; exact Nat.div_add_mod k sz
  have h3:k % sz<sz:=bW _ fD
  omega
 refine .list false b' 0 len cap sz es (λk=>cv.getD k undef) e1 cT ?_ ?_ ?_ ?_
 ·intro e he
  obtain⟨i,hi⟩:=bb.1 he
  exact(ji i e hi).2.1
 ·intro e he x hx
  obtain⟨i,hi⟩:=bb.1 he
  obtain⟨j,hj⟩:=bb.1 hx
  obtain⟨y,hy,rfl,_⟩:=(ji i e hi).2.2 j x hj
  rw[CB]
  have cO:i*sz+j<cs.length:=(aj.1 hy).1
  exact(a3 _ cv[i*sz+j] y (by simp[a2,cO]) hy).2.1
 ·intro k hk
  have cO:=lV k hk
  refine⟨?_,.inr ⟨n,hn,cs,hb,hc,by omega⟩⟩
  have:k<cv.size:=by omega
  simp[World.cell?,a1,this]
 ·intro i e hi j x hx
  obtain⟨y,hy,rfl,_⟩:=(ji i e hi).2.2 j x hx
  have cO:i*sz+j<cs.length:=(aj.1 hy).1
  have jK:i*sz+j<cv.size:=by omega
  have:=(a3 _ cv[i*sz+j] y (by simp[jK]) hy).1
  simp only[aK,Array.getElem?_eq_getElem jK,bL]
  exact this.dem.shut
theorem HF {w:World} {G:GS} {heap:List PObj} (h:HR N w G heap) {ns:List Nat} {v:Value} {p q:PV} (jk:∀m sz agg len,p = .rowp m sz agg len→m∈ns) (hv:VR N w G.fix G.heap v p) (hp:Cw heap p=some q):
  VR N w (G.shut ns heap).fix (G.shut ns heap).heap v q∧(p.flat=true→q.flat=true)∧(∀es,q = .list true es→p = .list true es):=by
 by_cases hr:∃m sz agg len,p = .rowp m sz agg len
 ·obtain⟨m,sz,agg,len,rfl⟩:=hr
  simp only[Cw] at hp
  split at hp
  ·rename_i cQ
   split at hp
   ·rename_i cs hh
    simp only[ab] at hp
    obtain⟨es,fE,rfl⟩:=hp
    refine⟨?_,λ_=>rfl,λes e=>by simp at e⟩
    cases hv with
    | rowp _ _ _ _ b cap cX cT _=>exact KT h cT (jk m sz agg len rfl) cX hh cQ fE
   ·simp at hp
  ·simp at hp
 ·have:Cw heap p=some p:=by cases p<;>first|rfl|exact absurd ⟨_,_,_,_,rfl⟩ hr
  rw[this] at hp
  simp only[aa] at hp
  subst hp
  exact⟨hv.shut,id,λes e=>e⟩
theorem KU {heap:List PObj}:∀{ps qs:List PV},Aa heap ps=some qs→qs.length=ps.length∧∀(i:Nat) (q:PV),qs[i]? = some q→∃p,ps[i]? = some p∧Cw heap p=some q
 | [],qs,h=>by simp[Aa] at h; subst h; simp
 | p :: ps, qs, h => by
   simp only[Aa,af,ab] at h
   obtain⟨q,h1,qs',h2,rfl⟩:=h
   obtain⟨k1,k2⟩:=KU h2
   refine⟨by simp[k1],?_⟩
   intro i x hx
   cases i with
   | zero=>simp at hx; subst hx; exact⟨p,rfl,h1⟩
   | succ i=>exact k2 i x (by simpa using hx)
theorem b8h {w:World} {G:GS} {heap:List PObj} (h:HR N w G heap) {ns:List Nat} {v:Value} {p q:PV} (jk:∀x∈p.cells,∀m sz agg len,x = .rowp m sz agg len→m∈ns) (hv:VR N w G.fix G.heap v p) (hp:xC heap p=some q):
  VR N w (G.shut ns heap).fix (G.shut ns heap).heap v q:=by
 by_cases ha:∃ps,p = .agg ps
 ·obtain⟨ps,rfl⟩:=ha
  simp only[xC,ab] at hp
  obtain⟨qs,jC,rfl⟩:=hp
  obtain⟨f1,f2⟩:=KU jC
  cases hv with
  | agg cs _ cK cS eK hcell =>
    refine .agg cs qs (by rw[f1]; exact cK) ?_ ?_ ?_
    ·intro y hy
     obtain⟨i,hi⟩:=bb.1 hy
     obtain⟨x,hx,lW⟩:=f2 i y hi
     have cO:i<cs.size:=by have:=(aj.1 hx).1; omega
     exact(HF h (jk x (av hx)) (hcell i cs[i] x (by simp[cO]) hx) lW).2.1 (cS x (av hx))
    ·intro i c es hc hy
     obtain⟨x,hx,lW⟩:=f2 i _ hy
     have:=(HF h (jk x (av hx)) (hcell i c x hc hx) lW).2.2 es rfl
     subst this
     exact eK i c es hc hx
    ·intro i c y hc hy
     obtain⟨x,hx,lW⟩:=f2 i y hy
     exact(HF h (jk x (av hx)) (hcell i c x hc hx) lW).1
 ·have:xC heap p=some p:=by cases p<;>first|rfl|exact absurd ⟨_,rfl⟩ ha
  rw[this] at hp
  simp only[aa] at hp
  subst hp
  exact hv.shut
theorem b9v {size off n sz len:Nat} {agg ag:Bool} {cs:List PV} {u:PV} (hf:∀x∈cs,x.flat=true) (h:wh size agg cs off=some u) (hx : .rowp n sz ag len∈u.cells):n∈Bh cs:=by
 unfold wh at h
 split at h
 ·split at h
  ·simp only[aa] at h; subst h
   simp only[PV.cells,aM] at hx
   obtain⟨y,hy,e⟩:=hx
   have:y = .rowp n sz ag len:=by cases y<;>simp_all [dem]
   subst this
   exact HE (cu (List.mem_of_mem_take hy))
  ·simp at h
 ·split at h
  ·rename_i y hy
   have hu:y = .rowp n sz ag len:=by
    have fP:=hf y (av hy)
    cases y<;>simp[cp] at h<;>subst h<;>simp_all [PV.cells,PV.flat]
   subst hu
   exact HE (av hy)
  ·simp at h
def Ee (a:Act) (r:ResultVar):Sem Value:=
 match r with
 | .tmp t=>pure (a.tmps.getD t undef)
 | .cell t ty=>do loadVar ty (← asAddr (a.tmps.getD t undef))
theorem b2Y {kp:Bool} {vs:List Tmp} {nt:Nat} {w:World} {G:GS} {st:St} {a:Act} (hb:BI N w G st a vs nt) {ns:List Nat} {r:ResultVar} {p:PRes} {u:PV} (jk:∀n,n∈AC st.vars p→n∈ns) (hc:Di P kp vs r=some p) (hr:zi st p=some u):
  ∃v,(Ee a r).run P w = .ok v w∧VR N w (G.shut ns st.heap).fix (G.shut ns st.heap).heap v u:=by
 cases r with
 | tmp t =>
   simp only[Di,ab] at hc
   obtain⟨i,hi,rfl⟩:=hc
   obtain⟨_,dK⟩:=BP hi
   cases kp with
   | true =>
     simp only[if_true,zi,af] at hr
     obtain⟨x,hx,hr⟩:=hr
     have hs:=hb.fi.var i t x (by simpa using dK) hx
     exact⟨a.tmps.getD t undef,rfl,(hs.read hr).1.shut⟩
   | false=>
   simp only[aH,if_false] at jk hr
   simp only[zi,af] at hr
   obtain⟨x,hx,hr⟩:=hr
   have hs:=hb.fi.var i t x (by simpa using dK) hx
   refine⟨a.tmps.getD t undef,rfl,?_⟩
   split at hr
   ·simp at hr; subst hr
    exact hs.1.shut
   ·rename_i n sz agg len
    split at hr
    ·rename_i cQ
     simp only[af,ab] at hr
     obtain⟨cs,dY,es,fE,rfl⟩:=hr
     have cR:=(hs.read (r := .rowp n sz agg len) rfl).1
     generalize hg:a.eval (.tmp t)=v at cR
     have qo:a.tmps.getD t undef=v:=hg
     rw[qo]
     cases cR with
     | rowp _ _ _ _ b cap cX cT _ =>
       unfold wU at dY
       split at dY
       ·rename_i cs' hh
        simp at dY; subst dY
        exact KT hb.fi.heap cT (jk n (by simp[AC,Ho,hx,w9])) cX hh cQ fE
       ·simp at dY
    ·simp at hr
   ·simp at hr; subst hr
    have cR:=(hs.read (r := .nils) rfl).1
    have qo:a.tmps.getD t undef=a.eval (.tmp t):=rfl
    rw[qo]
    generalize a.eval (.tmp t)=v at cR
    cases cR with
    | nils'=>exact .nils false
   ·exact(hs.read hr).1.shut
 | cell t ty =>
   simp only[Di,af,ab] at hc
   obtain⟨i,hi,n,hn,rfl⟩:=hc
   obtain⟨_,dK⟩:=BP hi
   simp only[zi] at hr
   split at hr
   ·rename_i g cs hv
    simp only[af] at hr
    obtain⟨u0,hr,hz⟩:=hr
    have hs:=hb.fi.var i t _ (by simpa using dK) hv
    obtain⟨b,i',_,ee,_,_,_,cv,T,hh,hl,iy⟩:=hs
    obtain⟨hR,hcell⟩:=HG hh hl iy
    have eF:n≠0:=by obtain⟨_,_,_,_,h,_⟩:=yt hn; exact h
    obtain⟨k1,k2,k3⟩:=CC hR hr eF (Bj hn)
    have jP:a.tmps.getD t undef = .pointer (some ⟨b,0,none⟩):=ee
    have:=Ef (w:=w) hn b 0 cv.toList (by simpa using k1) (λj v hv=>by rw[aR]; exact hcell j v hv)
    refine⟨_,?_,b8h hb.fi.heap (λx hx m sz agg len e=>jk m ?_) k2 hz⟩
    rotate_left
    ·subst e
     simp only[AC,hv]
     exact b9v hR.2.1 hr hx
    simp only[Ee,jP,asAddr,Sem.run_bind,Sem.run_pure,Result.andThen_ok,this]
    simp
   ·rename_i m hv
    simp only[af] at hr
    obtain⟨cs,dY,hr⟩:=hr
    have hs:=(hb.fi.var i t _ (by simpa using dK) hv)
    have hs:VR N w G.fix G.heap (a.eval (.tmp t)) (.ptr m 0):=hs
    generalize ee:a.eval (.tmp t)=pv at hs
    cases hs with
    | ptr _ _ b cX =>
      unfold wU at dY
      split at dY
      ·rename_i cs' nB
       simp only[aa] at dY
       subst dY
       rcases hb.fi.heap.1 m _ nB with mS|⟨b',k1,k2,f,cv,T,hh,hl,iy⟩
       ·simp at mS
       have:b'=b:=by rw[cX] at k1; simpa using k1.symm
       subst this
       obtain⟨hR,hcell⟩:=KV hh hl iy
       have eF:n≠0:=by obtain⟨_,_,_,_,h,_⟩:=yt hn; exact h
       obtain⟨k1,k2,k3⟩:=CC hR hr eF (Bj hn)
       have jP:a.tmps.getD t undef = .pointer (some ⟨b',0,none⟩):=ee
       have:=Ef (w:=w) hn b' 0 (cv.toList.take cs'.length) (by simpa using k1) (λj v hv=>by rw[aR]; exact hcell j v hv)
       refine⟨_,?_,k2.shut⟩
       simp only[Ee,jP,asAddr,Sem.run_bind,Sem.run_pure,Result.andThen_ok,this]
       simp
      ·simp at dY
   ·simp at hr
theorem KW {kp:Bool} {vs:List Tmp} {nt:Nat} {w:World} {G:GS} {st:St} {a:Act} (hb:BI N w G st a vs nt) {ns:List Nat}:∀{rs:List ResultVar} {ps:List PRes} {us:List PV},(∀p∈ps,∀n,n∈AC st.vars p→n∈ns)→AF P kp vs rs=some ps→yq st ps=some us →
  ∃ vals : List Value, (rs.mapM (Ee a)).run P w = .ok vals w ∧ vals.length = us.length ∧
    ∀(i:Nat) (v:Value) (u:PV),vals[i]? = some v→us[i]? = some u→VR N w (G.shut ns st.heap).fix (G.shut ns st.heap).heap v u
 | [], ps, us, _, hc, hr => by
   simp[AF] at hc; subst hc
   simp[yq] at hr; subst hr
   exact⟨[],by simp,rfl,by simp⟩
 | r :: rs, ps, us, jk, hc, hr => by
   simp only[AF,af,ab] at hc
   obtain⟨p,hp,ps',d4,rfl⟩:=hc
   simp only[yq,af,ab] at hr
   obtain⟨u,hu,us',eL,rfl⟩:=hr
   obtain⟨v,h1,h2⟩:=b2Y hb (jk p (bS ..)) hp hu
   obtain⟨vals,h3,h4,h5⟩:=KW hb (λp e=>jk p (bx _ e)) d4 eL
   refine⟨v::vals,?_,by simp[h4],?_⟩
   ·rw[List.mapM_cons]
    simp only[Sem.run_bind,h1,Result.andThen_ok,h3,Sem.run_pure]
   ·intro i x y hx hy
    cases i with
    | zero=>simp at hx hy; subst hx hy; exact h2
    | succ i=>exact h5 i x y (by simpa using hx) (by simpa using hy)
structure DefW (w w':World):Prop where
 os:w'.os=w.os
 tape:w'.tape=w.tape
 output:w'.output=w.output
 size:w'.heap.size=w.heap.size
 heap:∀b:Nat,w'.heap[b]? = w.heap[b]?∨((∃x,w.heap[b]? = some (Obj.deferred x))∧∃y,w'.heap[b]? = some (Obj.deferred y))
theorem DefW.refl (w:World):DefW w w:=⟨rfl,rfl,rfl,rfl,λ_ => .inl rfl⟩
theorem DefW.get {w w':World} (h:DefW w w') {b:Nat} {ob:Obj} (hb:w.heap[b]? = some ob) (hn:∀x,ob≠Obj.deferred x):w'.heap[b]? = some ob:=by
 rcases h.heap b with e|⟨⟨x,e⟩,_⟩
 ·rw[e]; exact hb
 ·rw[hb] at e
  exact absurd (by simpa using e) (hn x)
theorem DefW.cell {w w':World} (h:DefW w w') (b o:Nat):w'.cell? ⟨b,o,none⟩=w.cell? ⟨b,o,none⟩:=by
 rcases h.heap b with e|⟨⟨x,e1⟩,y,e2⟩
 ·simp only[World.cell?,e]
 ·simp[World.cell?,e1,e2]
theorem DefW.shape {w w':World} (h:DefW w w'):ShapeLe w w':=by
 refine⟨?_,?_⟩
 ·intro b s hb
  rcases h.heap b with e|⟨⟨x,e1⟩,y,e2⟩
  ·unfold World.shape? at hb ⊢; rw[e]; exact hb
  ·simp[World.shape?,e1] at hb
 ·intro b s hb
  rcases h.heap b with e|⟨⟨x,e1⟩,y,e2⟩
  ·unfold yd at hb ⊢; rw[e]; exact hb
  ·simp[yd,e1] at hb
theorem VR.def' {w w':World} {G:GS} {v:Value} {p:PV} (h:VR N w G.fix G.heap v p) (d:DefW w w'):VR N w' G.fix G.heap v p:=
 h.mono (λb o hf=>⟨hf,d.cell b o⟩) (λ_ _ h=>h) d.shape
theorem Room.def' {w w':World} {G:GS} {key:Key} {v:Value} {es:List PV} (h:Room w G key v es) (d:DefW w w'):Room w' G key v es:=by
 unfold Room at *
 split at h
 ·rcases h with h|⟨h1,sz,cs,T,h2,⟨fz,h3,eG⟩,h4⟩
  ·exact .inl h
  ·exact .inr ⟨h1,sz,cs,T,h2,⟨fz,d.get h3 (by simp),eG⟩,h4⟩
 ·trivial
theorem CR.def' {w w':World} {G:GS} {key:Key} {v:Value} {p:PV} (h:CR N w G key v p) (d:DefW w w'):CR N w' G key v p:=by
 obtain⟨h1,h2,h3⟩:=h
 refine⟨h1.def' d,h2,?_⟩
 split at h3
 ·exact Room.def' h3 d
 ·trivial
theorem MR.def' {w w':World} {G:GS} {key:Key} {v:Value} {p:PV} (h:MR N w G key v p) (d:DefW w w'):MR N w' G key v p:=by
 obtain⟨h1,h3⟩:=h
 refine⟨h1.def' d,?_⟩
 split at h3
 ·exact Room.def' h3 d
 ·trivial
theorem SR.def' {w w':World} {G:GS} {key:Key} {v:Value} {p:PV} (h:SR N w G key v p) (d:DefW w w'):SR N w' G key v p:=by
 unfold SR at *
 split at h
 ·trivial
 ·obtain⟨b,i,fT,hv,hb,ho,hf,cv,T,h1,h2,h3⟩:=h
  exact⟨b,i,fT,hv,hb,ho,hf,cv,T,d.get h1 (by simp),h2,λk c x hc hx=>(h3 k c x hc hx).def' d⟩
 ·exact h
 ·exact⟨h.1.def' d,Room.def' h.2 d⟩
 ·exact h.def' d
theorem ObjR.def' {w w':World} {G:GS} {n b:Nat} {ob:PObj} (h:ObjR N w G n b ob) (d:DefW w w'):ObjR N w' G n b ob:=by
 cases ob with
 | cells cs =>
   obtain⟨f,cv,T,a1,a2,a3⟩:=h
   exact⟨f,cv,T,d.get a1 (by simp),a2,λk c x hc hx=>(a3 k c x hc hx).def' d⟩
 | map es =>
   obtain⟨mes,clock,a1,a2,a3,a4,a5⟩:=h
   exact⟨mes,clock,d.get a1 (by simp),a2,a3,a4,λi en p hi hp=>⟨(a5 i en p hi hp).1.def' d,(a5 i en p hi hp).2.def' d⟩⟩
 | bld bs =>
   obtain⟨f,p,v,a1,a2,a3⟩:=h
   refine⟨f,p,v,d.get a1 (by simp),a2,?_⟩
   rcases a3 with a3|⟨g,cap,cur,b1,b2,b3,b4,b5⟩
   ·exact .inl a3
   ·exact .inr ⟨g,cap,cur,b1,b2,b3,d.get b4 (by simp),b5⟩
 | siter s pos =>
   obtain⟨f,s',a1,a2⟩:=h
   exact⟨f,s',d.get a1 (by simp),a2⟩
 | gone=>trivial
 | loop ready =>
   obtain⟨f,r,a1,a2⟩:=h
   exact⟨f,r,d.get a1 (by simp),a2⟩
 | over id =>
   obtain⟨f,r,a1,a2⟩:=h
   exact⟨f,r,d.get a1 (by simp),a2⟩
theorem BI.def' {w w':World} {G:GS} {st:St} {a:Act} {vs:List Tmp} {nt:Nat} (h:BI N w G st a vs nt) (d:DefW w w'):BI N w' G st a vs nt:=by
 obtain⟨hf,hs⟩:=h
 refine⟨⟨hf.len,λi t u h1 h2=>(hf.var i t u h1 h2).def' d,λj t u h1 h2=>by simp at h1,hf.tv,hf.tl,hf.defers,hf.gen,by rw[d.size]; exact hf.owlt,by rw[d.size]; exact hf.fixlt,⟨?_,?_⟩,hf.hdom⟩,hs⟩
 ·intro n ob dz
  rcases hf.heap.1 n ob dz with h|⟨b,h1,h2,h3⟩
  ·exact .inl h
  ·exact .inr ⟨b,h1,h2,h3.def' d⟩
 ·refine⟨λt ht=>⟨(hf.heap.2.1 t ht).1,?_⟩,λr hr=>d.shape.1 _ _ (hf.heap.2.2 r hr)⟩
  rw[d.cell]; exact(hf.heap.2.1 t ht).2
theorem HH {fn:Func} {tmps:Array Value} {R:Ending→World→Prop} {u:FrameMode} (hu:u≠.run) {G:GS} {w0:World}:
  ∀ {bs : List Nat} {w : World}, bs.Nodup → (∀ b ∈ bs, w0.heap.size ≤ b ∧ w.heap[b]? = some (.deferred (some [])) ∧ G.ow b = none) →
    (∀w',DefW w w'→(∀b,b<w0.heap.size→w'.heap[b]? = w.heap[b]?)→LeavesIn (W none) 0 P fn tmps R [] u w')→LeavesInM (W none) 0 P fn tmps R (bs.map λb=>{ target := .collected b,args := #[] }) u w
 | [],w,_,_,h=>h w (DefW.refl w) (λ_ _=>rfl)
 | b :: bs, w, hn, hb, h => by
   obtain⟨n1,n2⟩:=cw.1 hn
   obtain⟨k1,k2,k3⟩:=hb b (by simp)
   have cO:b<w.heap.size:=(aX.1 k2).1
   have gR:∀x,x≠b→(w.putObj b (.deferred none)).heap[x]? = w.heap[x]? := λx hx=>World.putObj_heap_other hx
   have hd:DefW w (w.putObj b (.deferred none)):=by
    refine⟨rfl,rfl,rfl,by simp[World.putObj],?_⟩
    intro x
    by_cases hx:x=b
    ·subst hx
     exact .inr ⟨⟨_,k2⟩,none,World.putObj_heap_same cO⟩
    ·exact .inl (gR x hx)
   refine⟨hu,.inl ⟨b,_,rfl,run_takeDeferred k2,?_⟩⟩
   refine HH (w0:=w0) (G:=G) hu n2 ?_ ?_
   ·intro x hx
    have c9:x≠b:=by rintro rfl; exact n1 hx
    obtain⟨j1,j2,j3⟩:=hb x (by simp[hx])
    exact⟨j1,(gR x c9).trans j2,j3⟩
   ·intro w' d2 ea
    refine h w' ?_ ?_
    ·refine⟨d2.os.trans hd.os,d2.tape.trans hd.tape,d2.output.trans hd.output,d2.size.trans hd.size,?_⟩
     intro x
     rcases d2.heap x with e|⟨⟨y,e1⟩,z,e2⟩
     ·rcases hd.heap x with e' | ⟨e1',z,e2'⟩
      ·exact .inl (e.trans e')
      ·exact .inr ⟨e1',z,e.trans e2'⟩
     ·rcases hd.heap x with e' | ⟨e1',_⟩
      ·exact .inr ⟨⟨y,by rw[← e']; exact e1⟩,z,e2⟩
      ·exact .inr ⟨e1',z,e2⟩
    ·intro x hx
     have c9:x≠b:=by omega
     rw[ea x hx,gR x c9]
theorem Dj {w w1 w':World} {G G':GS} {st:St} {a:Act} {vs:List Tmp} {nt:Nat} (he:ExtD w G w1 G') (hb:BI N w1 G' st a vs nt) (d:DefW w1 w') (hs:∀b,b<w.heap.size→w'.heap[b]? = w1.heap[b]?) (vars:List PV) (rs:List PRes):
  Ext w G w' { fix:=(G'.shut (yL vars rs) st.heap).fix,heap:=G'.heap,box:=λ_=>none,ow:=yC G'.ow,df:=G.df }∧Between N w' { fix:=(G'.shut (yL vars rs) st.heap).fix,heap:=G'.heap,box:=λ_=>none,ow:=yC G'.ow,df:=G.df } (wI vars rs st.heap):=by
 have dB:=hb.def' d
 have he:Ext w { G with df:=G'.df } w1 G':=he
 refine⟨⟨d.os.trans he.os,d.tape.trans he.tape,d.output.trans he.output,by rw[d.size]; exact he.size,λb cO h=>(hs b cO).trans (he.same b cO h),λb o h=>⟨.inl (he.fix b o h).1,(d.cell b o).trans (he.fix b o h).2⟩,?_,?_,he.heap,he.shape.trans d.shape,rfl⟩,⟨λb k h=>(Dk h).2,λ_=>rfl⟩,?_,λb k h=>dB.fi.owlt b k (Dk h).1,(dB.fi.heap.shut vars rs).sub rfl rfl (λb k hk h=>HI h hk),?_⟩
 ·rintro b o (h|⟨n,_,cs,h1,h2,_⟩)
  ·exact he.newfix b o h
  ·rcases hb.fi.heap.1 n _ h2 with h3|⟨b',k1,k2,_⟩
   ·simp at h3
   rw[h1] at k1; cases k1
   exact .inr (he.own b (by rw[k2]; simp))
 ·intro b h
  refine he.own b ?_
  intro e
  exact h (by simp[yC,e])
 ·rintro b o (h|⟨n,_,cs,h1,h2,_⟩)
  ·exact dB.fi.fixlt b o h
  ·rcases dB.fi.heap.1 n _ h2 with h3|⟨b',k1,k2,_⟩
   ·simp at h3
   rw[h1] at k1; cases k1
   exact dB.fi.owlt b _ k2
 ·rw[KR]; exact dB.fi.hdom
theorem HJ {kp:Bool} {fn:Func} {vs:List Tmp} {nt:Nat} {w:World} {G:GS} {st:St} {a:Act} {rs:List PRes} {r:PV} (hb:BI N w G st a vs nt) (hc:AF P kp vs fn.results.toList=some rs) (hr:wY st rs=some r):
  ∃v,(results fn a.tmps).run P w = .ok v w∧VR N w (G.shut (yL st.vars rs) st.heap).fix (G.shut (yL st.vars rs) st.heap).heap v r:=by
 simp only[wY,ab] at hr
 obtain⟨us,eL,eU⟩:=hr
 obtain⟨rvals,h1,h2,h3⟩:=KW (P:=P) (ns:=yL st.vars rs) hb (λp hp n hn=>KS hn hp) hc eL
 have hm:results fn a.tmps=(do let vs←fn.results.mapM (Ee a); pure (if h:vs.size=1 then vs[0] else .tuple vs)):=rfl
 rw[hm,Array.mapM_eq_mapM_toList]
 simp only[Sem.run_bind,Sem.run_map]
 rw[h1]
 simp only[Result.andThen_ok,Sem.run_pure]
 subst eU
 cases us with
 | nil =>
   have:rvals=[]:=by simpa using h2
   subst this
   exact⟨.tuple #[],by simp,.tuple #[] _ rfl (by simp)⟩
 | cons u us2 =>
   cases us2 with
   | nil =>
     obtain⟨v,rfl⟩:=List.length_eq_one_iff.1 (by simpa using h2)
     exact⟨v,by simp,h3 0 v u rfl rfl⟩
   | cons u2 us3 =>
     refine⟨.tuple rvals.toArray,?_,.tuple _ _ ?_ ?_⟩
     ·have:¬rvals.toArray.size=1:=by
       intro e
       have e':rvals.length=1:=e
       rw[h2] at e'
       simp at e'
      rw[dif_neg this]
     ·simpa using h2
     ·intro i v p hv hp
      simp only[aA,ab] at hp
      obtain⟨q,hq,rfl⟩:=hp
      exact(h3 i v q (by simpa using hv) hq).dem
theorem c1q {L:Nat→Option PFunc} (hE:EnvOk E N) (hP:E.P=P) (dl:P.follows .mixedOrders=true) (hF:x7 N P L) (hL:∀k pf,L k=some pf→FnS E N k pf) {n:Nat} (cM:∀m,m<n→Runs N P L m)
  {k:Nat} {pf:PFunc} {fn:Func} {vs:List Tmp} (lX:FnC E N k pf fn vs) (gO:pf.code.isRound=false) {args:List PV} {o:Out} {h0 h':List PObj} (hc:yA (vY L n) (xW L) pf args h0=some (o,h')) (dr:args.length=pf.params)
  {w:World} {G:GS} {vals:Array Value} (dZ:Between N w G h0) (cQ:vals.size=args.length) (cR:∀(i:Nat) (v:Value) (p:PV),vals[i]? = some v→args[i]? = some p→VR N w G.fix G.heap v p):
  Calls P (N.fn k) vals w λe w'=>∃G',zP N w' G' e o∧Ext w G w' G'∧Between N w' G' h':=by
 obtain⟨f1,f2,f3,f4,f5,f6,f7,opt,f8,f8',f9⟩:=lX
 simp only[ab] at f8
 obtain⟨c,fH,jQ⟩:=f8
 rw[hP] at f1
 rw[hP] at f9
 have mT:LpOK (E.opt opt) N fn.ntmps (N.fn k) c:=by
  rcases f8' with h|h
  ·intro ps kb vars hl
   simp only[Env.opt,h] at hl
   simp at hl
  ·exact h c fH
 let st0:St:={ vars:=args.map dem++List.replicate (pf.nv - pf.params) .dead,locs:=[],gen:=0,heap:=h0 }
 let a0:Act:={ tmps:=vals++Array.replicate (fn.ntmps - vals.size) undef,defers:=[] }
 let G0:GS:={ G with df:=[] }
 have gS:BI N w G0 st0 a0 vs fn.ntmps:=by
  refine⟨⟨?_,?_,(by intro j t u hj; simp at hj),?_,(by intro j t hj; simp at hj),rfl,(by intro g b h; have h:G.box g=some b:=h; rw[dZ.only.box] at h; simp at h),dZ.owlt,dZ.fixlt,dZ.heap,dZ.hdom⟩,?_⟩
  ·simp only[st0,ax,aS,List.length_replicate,f5,dr]; omega
  ·intro i t u h1 h2
   by_cases hi:i<pf.params
   ·have ht:t=i:=by rw[f7 i hi] at h1; simpa using h1.symm
    subst ht
    have gF:t<args.length:=by rw[dr]; exact hi
    simp only[st0] at h2
    rw[al (by simpa using gF)] at h2
    simp only[aA,aq gF,ay,aa] at h2
    subst h2
    have jD:t<vals.size:=by rw[cQ]; exact gF
    have eu:a0.eval (.tmp t)=vals[t]:=by
     simp only[a0,Act.eval,aK]
     rw[bk jD]
     simp[jD]
    rw[eu]
    have hv:=cR t vals[t] args[t] (by simp[jD]) (aq gF)
    exact SR.of_pure hv.dem hv.cp_dem
   ·simp only[st0] at h2
    rw[ap (by rw[aS,dr]; omega)] at h2
    rw[ct] at h2
    split at h2
    ·simp at h2; subst h2; trivial
    ·simp at h2
  ·intro i t h1
   have h3:=f4 t (av h1)
   simp only[a0,bH,cy]
   exact aN h3 ((Nat.sub_le_iff_le_add').1 (ao _))
  ·simp only[a0,bH,cy]
   exact(Nat.sub_le_iff_le_add').1 (ao _)
 have walk:∀(x:PExit) (st':St),vY L n pf.code st0=some (x,st')→(∀a' w' G' e,yB N w' G' x e→BI N w' G' st' a' vs fn.ntmps→ExtD w G w' G'→DfR pf.code x w G0 w' G'→KX P fn (λe w'=>∃G',zP N w' G' e o∧Ext w G w' G'∧Between N w' G' h') e a' w') →
   Calls P (N.fn k) vals w λe w'=>∃G',zP N w' G' e o∧Ext w G w' G'∧Between N w' G' h':=by
  intro x st' hx hq
  refine KY f1 fH ?_
  exact BL (rd':=none) hF (hE.opt opt) hP dl f3 n cM (by rw[← jQ]; exact D7) hx gS mT (.inl rfl) (fun⟨_,_,h⟩=>h) hq
 have marks:∀{x:PExit} {w':World} {G':GS} {st':St} {a':Act} {R:Ending→World→Prop} {u:FrameMode},u≠.run→x.plain=true→BI N w' G' st' a' vs fn.ntmps→DfR pf.code x w G0 w' G' →
   (∀w'',DefW w' w''→(∀b,b<w.heap.size→w''.heap[b]? = w'.heap[b]?)→LeavesIn (W none) 0 P fn a'.tmps R [] u w'')→LeavesInM (W none) 0 P fn a'.tmps R a'.defers u w':=by
  intro x w' G' st' a' R u hu hx hb hd hK
  have key:(∃ms,G'.df=ms++G0.df∧Marks w w' G' ms∧(pf.code.NR=true→ms=[]))→LeavesInM (W none) 0 P fn a'.tmps R a'.defers u w':=by
   rintro⟨ms,h1,⟨bs,rfl,h2,h3⟩,_⟩
   have iz:a'.defers=bs.map λb=>{ target := .collected b,args := #[] }:=by
    rw[hb.fi.defers,h1]; exact aW _
   rw[iz]
   exact HH (G:=G') (w0:=w) hu h2 h3 hK
  cases x with
  | after _ _ _=>simp[PExit.plain] at hx
  | normal=>exact key hd
  | exit _=>exact key hd
  | ret=>exact key hd
  | boom _=>exact key hd
 have fin:∀(x:PExit) (st':St),vY L n pf.code st0=some (x,st')→(x = .normal∨x = .ret)→(wY st' pf.results).map (λr=>(Out.val r,wI st'.vars pf.results st'.heap))=some (o,h') →
   Calls P (N.fn k) vals w λe w'=>∃G',zP N w' G' e o∧Ext w G w' G'∧Between N w' G' h':=by
  intro x st' hx mU dp
  simp only[ab,ac] at dp
  obtain⟨r,hr,rfl,rfl⟩:=dp
  refine walk x st' hx ?_
  intro a' w' G' e he cX cJ d9
  have hp:x.plain=true:=by rcases mU with rfl|rfl<;>rfl
  have hL:=marks (R:=λe w'=>∃G',zP N w' G' e (.val r)∧Ext w G w' G'∧Between N w' G' (wI st'.vars pf.results st'.heap)) (u := .returning) (by simp) hp cX d9 (by
   intro w'' d ea
   obtain⟨v,iA,jl⟩:=HJ (cX.def' d) f9 hr
   obtain⟨l1,l2⟩:=Dj cJ cX d ea st'.vars pf.results
   exact⟨v,iA,_,by exact⟨v,rfl,jl⟩,l1,l2⟩)
  rcases mU with rfl|rfl<;>(simp only[yB] at he; subst he; exact hL)
 unfold yA at hc
 split at hc
 ·rename_i heq; rw[heq] at gO; simp[PC.isRound] at gO
 ·split at hc
  ·rename_i st' hx
   exact fin .normal st' hx (.inl rfl) hc
  ·rename_i st' hx
   exact fin .ret st' hx (.inr rfl) hc
  ·rename_i p st' hx
   simp only[aa,ac] at hc
   obtain⟨rfl,rfl⟩:=hc
   refine walk _ st' hx ?_
   rintro a' w' G' e ⟨v,rfl,hv⟩ cX cJ d9
   refine marks (x := .boom p) (by simp) rfl cX d9 ?_
   intro w'' d ea
   obtain⟨l1,l2⟩:=Dj cJ cX d ea st'.vars []
   exact⟨_,by exact⟨v,rfl,(hv.def' d).shut⟩,l1,l2⟩
  ·rename_i kd caps vo st' hx
   split at hc
   ·simp at hc
   ·rename_i qq
    have qt:pf.code.NR=true:=by simpa using qq
    simp only[af,ab,ac] at hc
    obtain⟨h1,jB,r,hr,rfl,rfl⟩:=hc
    obtain⟨g,fd,fF,hg,tW⟩:∃g fd,L kd=some fd∧g (vo.getD .nilIface::caps) st'.heap=some h1∧Cd N P kd g:=by
     unfold xW at jB
     split at jB
     ·rename_i f hf
      split at jB
      ·rename_i g hg
       have fN:FnF E N kd f:=by
        rcases hL kd f hf with h|⟨y,fn,vs,o,a,b,h⟩
        ·exact h
        ·rw[h.dfr] at hg; simp at hg
       rcases fN.2.2.2 with⟨_,h,_⟩|⟨_,_,_,h,_⟩|⟨g',fd,_,_,h3,h4,h5,h6,h7⟩
       ·rw[h] at hg; simp at hg
       ·rw[h] at hg; simp at hg
       ·rw[hg] at h3
        simp only[aa] at h3
        subst h3
        exact⟨g,f,hf,jB,by rw[← hP]; exact h7⟩
      ·simp at jB
     ·simp at jB
    refine walk _ st' hx ?_
    intro a' w' G' e he cX cJ d9
    obtain⟨d1,gT⟩:∃d,G'.df=d::G0.df:=d9 qt
    have last:∀(u:FrameMode),Clo N w' G' kd caps→u≠.run→(u = .returning∧vo.getD .nilIface = .nilIface∨∃v,u = .panicking [{ v,recovered:=false }]∧VR N w' G'.fix G'.heap v (vo.getD .nilIface)) →
      LeavesInM (W none) 0 P fn a'.tmps (λe w'=>∃G',zP N w' G' e (.val r)∧Ext w G w' G'∧Between N w' G' (wI st'.vars pf.results h1)) a'.defers u w':=by
     rintro u ⟨d,ds,vals',k1,rfl,k3,k4⟩ hu eM
     have qu:ds=[]:=by
      rw[gT] at k1
      simp only[bq] at k1
      exact k1.2.symm
     subst qu
     have iz:a'.defers=[{ target := .fn (.func (N.fn kd)) vals',args := #[] }]:=by rw[cX.fi.defers,k1]
     rw[iz]
     have jg:(invoke (.fn (.func (N.fn kd)) vals') #[]).run P w' = .ok (.enter (N.fn kd) vals') w':=by
      simp only[invoke,Array.empty_append]
      exact BM hF fF _ _
     refine⟨hu,.inr ⟨Dl,_,_,_,_,rfl,jg,λ_ _=>zO _,?_⟩⟩
     refine(tW _ _ _ _ hg w' G'.callee vals' (Dc cX.fi) k3 k4 u eM).mono ?_
     rintro e u' w'' ⟨⟨v,rfl⟩,wA,G2,qx,dB⟩
     obtain⟨G3,jR,tX,_,_⟩:=FE cX.fi qx dB
     have kz:BI N w'' G3 { st' with heap:=h1 } a' vs fn.ntmps:=⟨tX,cX.size⟩
     simp only[wA]
     obtain⟨v2,iA,jl⟩:=HJ kz f9 hr
     obtain⟨l1,l2⟩:=Dj (ExtD.trans cJ (.of jR)) kz (DefW.refl _) (λ_ _=>rfl) st'.vars pf.results
     exact⟨v2,iA,_,by exact⟨v2,rfl,jl⟩,l1,l2⟩
    cases vo with
    | none =>
      obtain⟨he,ix⟩:=he
      have:=last .returning ix (by simp) (.inl ⟨rfl,rfl⟩)
      rcases he with rfl|rfl<;>exact this
    | some p =>
      obtain⟨⟨v,rfl,hv⟩,ix⟩:=he
      exact last _ ix (by simp) (.inr ⟨v,rfl,hv⟩)
  ·simp at hc
theorem c1r {kp:Bool} {fn:Func} {vs:List Tmp} {nt:Nat} {w:World} {G:GS} {st:St} {a:Act} {rs:List PRes} {es:List PV} {v:Value} (hb:BI N w G st a vs nt) (hc:AF P kp vs fn.results.toList=some rs) (hr:wY st rs=some (.list true es))
  (hv:(results fn a.tmps).run P w = .ok v w):∃i,Room w G (.var i) v es:=by
 simp only[wY,ab] at hr
 obtain⟨us,eL,eU⟩:=hr
 have lY:us=[.list true es]:=by
  cases us with
  | nil=>simp at eU
  | cons u us => cases us with
    | nil=>simp at eU; subst eU; rfl
    | cons _ _=>simp at eU
 subst lY
 cases rs with
 | nil=>simp[yq] at eL
 | cons p ps =>
   simp only[yq,af,ab] at eL
   obtain⟨u,hp,us',d4,he⟩:=eL
   simp only[bq] at he
   obtain⟨rfl,rfl⟩:=he
   have qy:ps=[]:=by
    cases ps with
    | nil=>rfl
    | cons q qs =>
      simp only[yq,af,ab] at d4
      obtain⟨_,_,_,_,h⟩:=d4
      simp at h
   subst qy
   cases hl:fn.results.toList with
   | nil=>rw[hl] at hc; simp[AF] at hc
   | cons r0 rl =>
     rw[hl] at hc
     simp only[AF,af,ab] at hc
     obtain⟨q,hq,qs,jC,he⟩:=hc
     simp only[bq] at he
     obtain⟨rfl,rfl⟩:=he
     have lZ:rl=[]:=by
      cases rl with
      | nil=>rfl
      | cons x xs =>
        simp only[AF,af,ab] at jC
        obtain⟨_,_,_,_,h⟩:=jC
        simp at h
     subst lZ
     have noList:∀{x:Option PV},x.bind cp=some (.list true es)→False:=by
      intro x h
      cases x with
      | none=>simp at h
      | some y=>cases y<;>simp[cp] at h
     have qz:∃i,q = .var i∧st.vars[i]? = some (.list true es):=by
      cases q with
      | keep i=>simp only[zi] at hp; exact(noList hp).elim
      | cell i size agg =>
        have noLoad:∀{size agg cs off},wh size agg cs off=some (.list true es)→False:=by
         intro size agg cs off h
         unfold wh at h
         split at h
         ·split at h<;>simp at h
         ·split at h
          ·rename_i y _; cases y<;>simp[cp] at h
          ·simp at h
        simp only[zi] at hp
        split at hp
        ·simp only[af] at hp
         obtain⟨y,hy,hf⟩:=hp
         have:y = .list true es:=by
          cases y<;>simp[xC] at hf
          simp[hf]
         subst this
         exact(noLoad hy).elim
        ·simp only[af] at hp
         obtain⟨cs,_,hy⟩:=hp
         exact(noLoad hy).elim
        ·simp at hp
      | var i =>
        refine⟨i,rfl,?_⟩
        simp only[zi,af] at hp
        obtain⟨x,hx,gb⟩:=hp
        split at gb
        ·simp at gb; subst gb; exact hx
        ·split at gb
         ·simp only[af,ab] at gb
          obtain⟨_,_,_,_,h⟩:=gb
          simp at h
         ·simp at gb
        ·simp at gb
        ·exact(noList (x:=some _) (by simpa using gb)).elim
     obtain⟨i,rfl,hi⟩:=qz
     cases r0 with
     | cell t ty =>
       simp only[Di,af,ab] at hq
       obtain⟨_,_,_,_,h⟩:=hq
       simp at h
     | tmp t =>
       simp only[Di,ab] at hq
       obtain⟨i',il,jm⟩:=hq
       obtain⟨_,dK⟩:=BP il
       have:i'=i:=by cases kp<;>simp at jm; exact jm
       subst this
       have hs:=hb.fi.var i' t _ (by simpa using dK) hi
       have dp:fn.results = #[.tmp t]:=by
        have:=aD List.toArray hl
        simpa using this
       have pF:v=a.eval (.tmp t):=by
        simp[results,dp] at hv
        simp[Act.eval]
        exact hv.symm
       rw[pF]
       exact⟨i',hs.2⟩
theorem b9w {L:Nat→Option PFunc} (hE:EnvOk E N) (hP:E.P=P) (dl:P.follows .mixedOrders=true) (hF:x7 N P L) {n:Nat} (cM:∀m,m<n→Runs N P L m)
  {k:Nat} {pf:PFunc} {fn:Func} {vs:List Tmp} (lX:FnC E N k pf fn vs) {own:Option Nat} {args:List PV} {r:PV} {h':List PObj} (hc:zj (vY L n) pf own args []=some (r,h')) (dr:args.length=pf.params)
  {w:World} {G:GS} {vals:Array Value} (dn:OwnIn N w G own args vals):
  Calls P (N.fn k) vals w λe w'=>∃v G',e = .returned v∧VR N w' G'.fix G'.heap v r∧Ext w G w' G'∧(∀b o,G'.fix b o→b<w'.heap.size)∧∀es,r = .list true es→CD w G w' G' v es:=by
 obtain⟨f1,f2,f3,f4,f5,f6,f7,opt,f8,f8',f9⟩:=lX
 simp only[ab] at f8
 obtain⟨c,fH,jQ⟩:=f8
 rw[hP] at f1
 rw[hP] at f9
 have mT:LpOK (E.opt opt) N fn.ntmps (N.fn k) c:=by
  rcases f8' with h|h
  ·intro ps kb vars hl
   simp only[Env.opt,h] at hl
   simp at hl
  ·exact h c fH
 have jn:(B2 own args).length=args.length:=by cases own<;>simp[B2]
 let st0:St:={ vars:=B2 own args++List.replicate (pf.nv - pf.params) .dead,locs:=[],gen:=0,heap:=[] }
 let a0:Act:={ tmps:=vals++Array.replicate (fn.ntmps - vals.size) undef,defers:=[] }
 let G0:GS:={ G with df:=[] }
 have gS:BI N w G0 st0 a0 vs fn.ntmps:=by
  refine⟨⟨?_,?_,(by intro j t u hj; simp at hj),?_,(by intro j t hj; simp at hj),rfl,(by intro g b h; have h:G.box g=some b:=h; rw[dn.box] at h; simp at h),dn.owlt,dn.fixlt,⟨by intro n ob h; simp[st0] at h,dn.tab⟩,(by intro n b h; have h:G.heap n=some b:=h; rw[dn.heap] at h; simp at h)⟩,?_⟩
  ·simp only[st0,ax,jn,List.length_replicate,f5,dr]; omega
  ·intro i t u h1 h2
   by_cases hi:i<pf.params
   ·have ht:t=i:=by rw[f7 i hi] at h1; simpa using h1.symm
    subst ht
    have gF:t<args.length:=by rw[dr]; exact hi
    simp only[st0] at h2
    rw[al (by rw[jn]; exact gF)] at h2
    have jD:t<vals.size:=by rw[dn.size]; exact gF
    have eu:a0.eval (.tmp t)=vals[t]:=by
     simp only[a0,Act.eval,aK]
     rw[bk jD]
     simp[jD]
    rw[eu]
    have hv:=dn.vr t vals[t] args[t] (by simp[jD]) (aq gF)
    have plain:u=dem args[t]→SR N w G0 (.var t) vals[t] u:=by
     rintro rfl
     exact SR.of_pure hv.dem hv.cp_dem
    cases own with
    | none =>
      refine plain ?_
      simp only[B2,aA,aq gF,ay,aa] at h2
      exact h2.symm
    | some i =>
      simp only[B2,aI,aS] at h2
      split at h2
      ·rename_i tY
       subst tY
       rw[ah gF] at h2
       simp only[cF,aq gF,bL,aa] at h2
       subst h2
       rcases hv.cp_or with h|⟨es,h⟩
       ·exact SR.of_pure hv h
       ·rw[h] at hv ⊢
        exact⟨hv,dn.room i vals[i] es rfl (by simp[jD]) (by rw[aq gF,h])⟩
      ·refine plain ?_
       simp only[aA,aq gF,ay,aa] at h2
       exact h2.symm
   ·simp only[st0] at h2
    rw[ap (by rw[jn,dr]; omega)] at h2
    rw[ct] at h2
    split at h2
    ·simp at h2; subst h2; trivial
    ·simp at h2
  ·intro i t h1
   have h3:=f4 t (av h1)
   simp only[a0,bH,cy]
   exact aN h3 ((Nat.sub_le_iff_le_add').1 (ao _))
  ·simp only[a0,bH,cy]
   exact(Nat.sub_le_iff_le_add').1 (ao _)
 have fin:∀(x:PExit) (st':St),vY L n pf.code st0=some (x,st')→(x = .normal∨x = .ret)→(wY st' pf.results).map (λr=>(r,wI st'.vars pf.results st'.heap))=some (r,h') →
   Calls P (N.fn k) vals w λe w'=>∃v G',e = .returned v∧VR N w' G'.fix G'.heap v r∧Ext w G w' G'∧(∀b o,G'.fix b o→b<w'.heap.size)∧∀es,r = .list true es→CD w G w' G' v es:=by
  intro x st' hx mU dp
  simp only[ab,ac] at dp
  obtain⟨r,hr,rfl,rfl⟩:=dp
  refine KY f1 fH ?_
  refine BL (rd':=none) hF (hE.opt opt) hP dl f3 n cM (by rw[← jQ]; exact D7) hx gS mT (.inl rfl) (fun⟨_,_,h⟩=>h) ?_
  intro a' w' G' e he cX cJ d9
  have cJ:ExtD w G w' G':=cJ
  have key:(∃ms,G'.df=ms++G0.df∧Marks w w' G' ms∧(pf.code.NR=true→ms=[]))→LeavesInM (W none) 0 P fn a'.tmps (λe w'=>∃v G',e = .returned v∧VR N w' G'.fix G'.heap v r∧Ext w G w' G'∧(∀b o,G'.fix b o→b<w'.heap.size)∧∀es,r = .list true es→CD w G w' G' v es) a'.defers .returning w':=by
   rintro⟨ms,h1,⟨bs,rfl,h2,h3⟩,_⟩
   have iz:a'.defers=bs.map λb=>{ target := .collected b,args := #[] }:=by
    rw[cX.fi.defers,h1]; exact aW _
   rw[iz]
   refine HH (G:=G') (w0:=w) (by simp) h2 h3 ?_
   intro w'' d ea
   obtain⟨v,iA,jl⟩:=HJ (cX.def' d) f9 hr
   obtain⟨l1,l2⟩:=Dj cJ cX d ea st'.vars pf.results
   refine⟨v,iA,v,{ fix:=(G'.shut (yL st'.vars pf.results) st'.heap).fix,heap:=G'.heap,box:=λ_=>none,ow:=yC G'.ow,df:=G.df },rfl,jl,l1,l2.fixlt,?_⟩
   rintro es rfl
   obtain⟨i,hi⟩:=c1r (cX.def' d) f9 hr iA
   unfold CD
   unfold Room at hi
   split at hi
   ·rename_i a1 len cap
    rcases hi with hi|⟨i1,sz,cs,T,i2,i3,i4,i5,i6⟩
    ·exact .inl hi
    ·refine .inr ⟨?_,sz,cs,T,i2,i3,i4,i5,?_⟩
     ·exact cJ.own a1.block (by rw[i1]; simp)
     ·rintro o ho (h|⟨m,hm,cs',j1,j2,_⟩)
      ·exact i6 o ho h
      ·rcases cX.fi.heap.1 m _ j2 with h3|⟨b',k1,k2,_⟩
       ·simp at h3
       ·rw[j1] at k1
        simp only[aa] at k1
        subst k1
        rw[i1] at k2
        simp at k2
   ·rename_i c9
    split
    ·rename_i a1 len cap; exact absurd rfl (c9 _ _ _)
    ·trivial
  rcases mU with rfl|rfl<;>(simp only[yB] at he; subst he; exact key d9)
 unfold zj at hc
 split at hc
 ·simp at hc
 ·split at hc
  ·rename_i st' hx
   exact fin .normal st' hx (.inl rfl) hc
  ·rename_i st' hx
   exact fin .ret st' hx (.inr rfl) hc
  ·simp at hc
theorem KZ:∀(ps:List (Tmp×Value)) (a:Array Value),(ps.foldl (λtmps x=>tmps.setIfInBounds x.1 x.2) a).size=a.size∧(∀t,t∉ps.map (·.1)→(ps.foldl (λtmps x=>tmps.setIfInBounds x.1 x.2) a).getD t undef=a.getD t undef) ∧
  ((ps.map (·.1)).Nodup→∀x∈ps,x.1<a.size→(ps.foldl (λtmps x=>tmps.setIfInBounds x.1 x.2) a).getD x.1 undef=x.2)
 | [],a=>⟨rfl,λ_ _=>rfl,by simp⟩
 | (t0, v0) :: ps, a => by
   obtain⟨h1,h2,h3⟩:=KZ ps (a.setIfInBounds t0 v0)
   simp only[List.foldl_cons,aF,az,not_or,cw]
   refine⟨by rw[h1]; simp,?_,?_⟩
   ·rintro t ⟨n1,n2⟩
    rw[h2 t n2]
    simp only[aK,aY]
    rw[ae (λe=>n1 e.symm)]
   ·rintro⟨n1,n2⟩ x (rfl|hx) cO
    ·rw[h2 _ n1]
     simp only[aK,aY,if_true]
     simp[cO]
    ·exact h3 n2 x hx (by simpa using cO)
theorem b6w {L:Nat→Option PFunc} (hE:EnvOk E N) (hP:E.P=P) (dl:P.follows .mixedOrders=true) (hF:x7 N P L) {n:Nat} (cM:∀m,m<n→Runs N P L m)
  {k:Nat} {pf:PFunc} {y:YL} {fn:Func} {vs:List Tmp} {opt:Opts} {ca cb:PC} (hR:RdC E N k pf y fn vs opt ca cb) {n0 l:Nat} {caps args:List PV} {o:Out} {h0 h':List PObj}
  (hc:zM (vY L n) pf.nv ca cb (.ptr n0 0::caps++args) h0=some (o,h')) (dr:(PV.ptr n0 0::caps++args).length=1+(y.vars.length+y.params.size))
  {w:World} {G:GS} {vals:Array Value} (dZ:Between N w G h0) (hy:VR N w G.fix G.heap (.func (.yield l) #[] #[]) (.func k (.ptr n0 0::caps) [])) (cQ:vals.size=args.length)
  (cR:∀(i:Nat) (v:Value) (p:PV),vals[i]? = some v→args[i]? = some p→VR N w G.fix G.heap v p):
  ∃tmps',(Instr.yield l vals).run P w = .ok (.round l y.fn tmps' y.assign y.body) w∧∀r n',RoundIn (W r) n' P l y.fn tmps' y.assign y.body w λe w'=>∃G',zP N w' G' e o∧Ext w G w' G'∧Between N w' G' h':=by
 have ev:P.funcs[y.fn]? = some fn:=by rw[← hP]; exact hR.inP
 generalize kA:Value.func (.yield l) #[] #[]=xv at hy
 generalize gb:PV.func k (.ptr n0 0::caps) []=xp at hy
 cases hy with
 | yield k' n' l' y' tmps caps' q0 ql qr qlen qsz qc =>
   simp only[PV.func.injEq,bq,PV.ptr.injEq] at gb
   obtain⟨rfl,⟨⟨rfl,_⟩,rfl⟩,_⟩:=gb
   simp only[Value.func.injEq,Fn.yield.injEq] at kA
   obtain⟨rfl,_⟩:=kA
   have:y'=y:=by have:=hR.yl; rw[q0] at this; simpa using this
   subst this
   obtain⟨r0,mV,e1,e2,e3,e4,e5⟩:∃r0:Go.Loop,w.heap[l]? = some (.loop r0)∧r0.fn=y'.fn∧r0.tmps=tmps∧r0.params=y'.params∧r0.assign=y'.assign∧r0.body=y'.body:=by
    unfold yd at qr
    split at qr
    ·rename_i r0 h
     simp only[aa,ac] at qr
     exact⟨r0,h,qr⟩
    ·simp at qr
   have nC:args.length=y'.params.size:=by simp at dr; omega
   have nD:=run_yield (P:=P) (args:=vals) mV (by rw[cQ,e3]; exact nC)
   rw[e1,e4,e5,e2,e3] at nD
   refine⟨_,nD,?_⟩
   intro r n'
   have ey:(y'.params.zip vals).foldl (λtmps x=>tmps.setIfInBounds x.1 x.2) tmps=(y'.params.toList.zip vals.toList).foldl (λtmps x=>tmps.setIfInBounds x.1 x.2) tmps:=by
    rw[← Array.foldl_toList,Array.toList_zip]
   obtain⟨z1,z2,z3⟩:=KZ (y'.params.toList.zip vals.toList) tmps
   have qA:(y'.params.toList.zip vals.toList).map (·.1)=y'.params.toList:=by
    rw[List.map_fst_zip]; simp; omega
   rw[qA] at z2 z3
   have qB:(y'.vars++y'.params.toList).Nodup:=by rw[← hR.head]; exact hR.nd.sublist (List.take_sublist _ _)
   obtain⟨_,nd2,nd3⟩:=cj.1 qB
   have dN:y'.vars.length+y'.params.size≤vs.length:=by
    have:=aD List.length hR.head
    simp at this; omega
   generalize sE:(y'.params.zip vals).foldl (λtmps x=>tmps.setIfInBounds x.1 x.2) tmps=tmps'
   rw[ey] at sE
   rw[sE] at z1 z2 z3
   have pF:∀i,i<y'.vars.length+y'.params.size→vs[i]? = (y'.vars++y'.params.toList)[i]? := by
    intro i hi
    rw[← hR.head,aP,ah hi]
   let st0:St:={ vars:=(caps++args).map dem++List.replicate (pf.nv - (caps++args).length) .dead,locs:=[],gen:=0,heap:=h0 }
   let a0:Act:={ tmps:=tmps',defers:=[] }
   let G0:GS:={ G with df:=[] }
   have kN:(caps++args).length=y'.vars.length+y'.params.size:=by simp; omega
   have gS:BI N w G0 st0 a0 vs y'.nt:=by
    refine⟨⟨?_,?_,(by intro j t u hj; simp at hj),?_,(by intro j t hj; simp at hj),rfl,(by intro g b h; have h:G.box g=some b:=h; rw[dZ.only.box] at h; simp at h),dZ.owlt,dZ.fixlt,dZ.heap,dZ.hdom⟩,?_⟩
    ·have:=hR.len
     simp only[st0,ax,aS,List.length_replicate] at kN ⊢
     omega
    ·intro i t u h1 h2
     by_cases hi:i<(caps++args).length
     ·rw[pF i (by omega)] at h1
      simp only[st0] at h2
      rw[al (by simpa using hi)] at h2
      simp only[aA,aq hi,ay,aa] at h2
      subst h2
      have ee:VR N w G.fix G.heap (tmps'.getD t undef) (caps++args)[i]:=by
       by_cases dK:i<y'.vars.length
       ·rw[al dK] at h1
        have sF:i<caps.length:=by omega
        have hq:=qc i t caps[i] h1 (by simp[sF])
        have ma:t∉y'.params.toList:=λhm=>nd3 t (av h1) t hm rfl
        rw[z2 t ma]
        rw[List.getElem_append_left sF]
        exact hq
       ·rw[ap (by omega)] at h1
        have tZ:i - caps.length<args.length:=by rw[ax] at hi; omega
        have sG:i - caps.length<vals.size:=by omega
        rw[List.getElem_append_right (by omega)]
        have ua:y'.params.toList[i - caps.length]? = some t:=by rw[qlen]; exact h1
        have dW:(t,vals[i - caps.length])∈y'.params.toList.zip vals.toList:=by
         refine bb.2 ⟨i - caps.length,?_⟩
         rw[List.getElem?_zip_eq_some]
         exact⟨ua,by simp[sG]⟩
        have nE:t<tmps.size:=by
         have hm:t∈vs:=by
          have h3:=pF i (by omega)
          rw[ap (by omega)] at h3
          rw[h1] at h3
          exact av h3
         exact aN (hR.lt t hm) qsz
        rw[z3 nd2 _ dW nE]
        exact cR (i - caps.length) _ _ (by simp[sG]) (by simp[tZ])
      have eu:a0.eval (.tmp t)=tmps'.getD t undef:=rfl
      rw[eu]
      exact SR.of_pure ee.dem ee.cp_dem
     ·simp only[st0] at h2
      rw[ap (by simpa using hi)] at h2
      rw[ct] at h2
      split at h2
      ·simp at h2; subst h2; trivial
      ·simp at h2
    ·intro i t h1
     have:=hR.lt t (av h1)
     show t<tmps'.size
     rw[z1]; exact aN this qsz
    ·show y'.nt≤tmps'.size
     rw[z1]; exact qsz
   have mT:∀c,LpOK (E.opt opt) N y'.nt y'.fn c:=by
    intro c ps kb vars hl
    simp only[Env.opt,hR.lps] at hl
    simp at hl
   have rec1:∀{w':World} {G':GS} {st:St} {a:Act} {ready:Bool},ExtD w G0 w' G'→BI N w' G' st a vs y'.nt→st.heap[n0]? = some (.loop ready) →
     ∃r1:Go.Loop,G'.heap n0=some l∧G'.ow l=some (.hobj n0)∧(∀o,¬G'.fix l o)∧w'.heap[l]? = some (.loop r1)∧r1.pending=none∧r1.state=(if ready then .ready else .busy):=by
    intro w' G' st a ready cJ hb hl
    rcases hb.fi.heap.1 n0 _ hl with h|⟨b,k1,k2,k3,r1,k4,k5⟩
    ·simp at h
    ·have:b=l:=by
      have:=Ext.heap cJ n0 l ql
      rw[k1] at this; simpa using this
     subst this
     exact⟨r1,k1,k2,k3,k4,k5⟩
   have turn:∀{w':World} {G':GS} {st:St} {a:Act} {ob:PObj} {r1 r2:Go.Loop},ExtD w G0 w' G'→BI N w' G' st a vs y'.nt→G'.heap n0=some l→G'.ow l=some (.hobj n0)→(∀o,¬G'.fix l o)→w'.heap[l]? = some (.loop r1) →
     (r2.fn,r2.tmps,r2.params,r2.assign,r2.body)=(r1.fn,r1.tmps,r1.params,r1.assign,r1.body)→ObjR N (w'.putObj l (.loop r2)) G' n0 l ob→ExtD w G0 (w'.putObj l (.loop r2)) G'∧BI N (w'.putObj l (.loop r2)) G' (wA st n0 ob) a vs y'.nt:=by
    intro w' G' st a ob r1 r2 cJ hb k1 k2 k3 k4 dO dz
    have cO:l<w'.heap.size:=(aX.1 k4).1
    obtain⟨x1,x2⟩:=KI (ob':=ob) (mob := .loop r2) hb.fi k1 k2 k3 (by simp[World.shape?,k4]) (by
     intro s hs
     simp only[yd,k4] at hs
     simp only[yd,aY,cO,if_true]
     simp only[aa] at hs ⊢
     rw[dO]; exact hs) (.inr dz)
    exact⟨cJ.trans (.of x1),⟨x2,hb.size⟩⟩
   have hobj:∀{w':World} {G':GS} {r1 r2:Go.Loop},w'.heap[l]? = some (.loop r1)→(w'.putObj l (.loop r2)).heap[l]? = some (.loop r2):=by
    intro w' G' r1 r2 k4
    exact World.putObj_heap_same (aX.1 k4).1
   have nr:∀{p:PC},p.RO=true→p.NR=true:=by
    intro p
    induction p<;>simp_all [PC.RO,PC.NR]
   have last:∀{w':World} {G':GS} {st:St} {a:Act} {e:Ending},ExtD w G0 w' G'→BI N w' G' st a vs y'.nt→(∀G2,G2.heap=G'.heap→(∀b o,G'.fix b o→G2.fix b o)→zP N w' G2 e o)→st.heap=h'→∃G',zP N w' G' e o∧Ext w G w' G'∧Between N w' G' h':=by
    intro w' G' st a e cJ hb ho hh
    obtain⟨l1,l2⟩:=Dj (w:=w) (G:=G) cJ hb (DefW.refl w') (λ_ _=>rfl) st.vars []
    refine⟨{ fix:=(G'.shut (yL st.vars []) st.heap).fix,heap:=G'.heap,box:=λ_=>none,ow:=yC G'.ow,df:=G.df },ho _ rfl (λb o h=>Or.inl h),l1,?_⟩
    rw[← hh]; exact l2
   refine c9Y ev ?_
   unfold zM at hc
   simp only[ba] at hc
   split at hc
   ·rename_i st1 iU jS
    refine BL (rd':=some l) hF (hE.opt opt) hP dl hR.nd n cM (by rw[← hR.ca]; exact D7) jS gS (mT _) (.inr hR.ra) (fun⟨_,_,h⟩=>h) ?_
    intro a1 w1 G1 e he eH dP jB
    simp only[yB] at he
    subst he
    have body:∀{x:PExit} {st2:St},st1.heap[n0]? = some (.loop true)→vY L n cb (wA st1 n0 (.loop false))=some (x,st2) →
      (∀a2 w2 G2 e2,yB N w2 G2 x e2→BI N w2 G2 st2 a2 vs y'.nt→ExtD w G0 w2 G2→(G2.df=[])→HK P l (λe w'=>∃G',zP N w' G' e o∧Ext w G w' G'∧Between N w' G' h') e2 a2 w2) →
      ∃w2,(Instr.beginRound l).run P w1 = .ok () w2∧wpN (some l) y'.fn P y'.body (HK P l (λe w'=>∃G',zP N w' G' e o∧Ext w G w' G'∧Between N w' G' h')) a1 w2:=by
     intro x st2 d8 fU hq
     obtain⟨r1,k1,k2,k3,k4,k5,k6⟩:=rec1 dP eH d8
     refine⟨_,run_beginRound k4 (by rw[k6]; rfl),?_⟩
     obtain⟨t1,t2⟩:=turn (ob := .loop false) (r2:={ r1 with state := .busy }) dP eH k1 k2 k3 k4 rfl ⟨k3,_,hobj (G':=G1) k4,k5,rfl⟩
     refine BL (rd':=some l) hF (hE.opt opt) hP dl hR.nd n cM (by rw[← hR.cb]; exact D7) fU t2 (mT _) (.inr hR.rb) (fun⟨_,_,h⟩=>h) ?_
     intro a2 w2 G2 e2 h1 h2 h3 h4
     have hd:G2.df=[]:=by
      have d1:G1.df=[]:=by
       obtain⟨ms,m1,_,m3⟩:=jB
       rw[m1,m3 (nr hR.ra)]; rfl
      have d2:(∃ms,G2.df=ms++G1.df∧Marks (w1.putObj l (.loop { r1 with state := .busy })) w2 G2 ms∧(cb.NR=true→ms=[]))∨∃d,G2.df=d::G1.df:=by
       unfold DfR at h4
       cases x with
       | after kd cs v=>exact .inr (h4 (nr hR.rb))
       | _=>exact .inl h4
      rcases d2 with⟨ms,m1,_,m3⟩|⟨d,hd⟩
      ·rw[m1,m3 (nr hR.rb),d1]; rfl
      ·exfalso
       cases x with
       | after kd cs v=>exact Bi hR.rb fU
       | _ =>
         obtain⟨ms,m1,_,m3⟩:=h4
         rw[m1,m3 (nr hR.rb)] at hd
         simp at hd
     exact hq a2 w2 G2 e2 h1 h2 (t1.trans h3) hd
    split at hc
    ·rename_i st2 d8 fU
     split at hc
     ·rename_i em
      simp only[aa,ac] at hc
      obtain⟨rfl,rfl⟩:=hc
      refine body d8 fU ?_
      intro a2 w2 G2 e2 h1 h2 h3 _
      simp only[yB] at h1
      subst h1
      obtain⟨r2,k1,k2,k3,k4,k5,k6⟩:=rec1 h3 h2 em
      refine⟨_,_,run_endRound none k4,?_⟩
      obtain⟨t1,t2⟩:=turn (ob := .loop true) (r2:={ r2 with state:=if (none:Option Code).isNone then .ready else .done,pending:=none }) h3 h2 k1 k2 k3 k4 rfl ⟨k3,_,hobj (G':=G2) k4,rfl,rfl⟩
      exact last t1 t2 (λG3 _ _=>⟨_,rfl,.bool true⟩) rfl
     ·simp at hc
    ·rename_i v st2 d8 fU
     simp only[aa,ac] at hc
     obtain⟨rfl,rfl⟩:=hc
     refine body d8 fU ?_
     rintro a2 w2 G2 e2 ⟨v',rfl,hv⟩ h2 h3 h4
     refine⟨by rw[h2.fi.defers]; exact h4,?_⟩
     exact last h3 h2 (λG3 g1 g2=>⟨v',rfl,by rw[g1]; exact hv.mono (λb o hf=>⟨g2 b o hf,rfl⟩) (λ_ _ h=>h) (ShapeLe.refl _)⟩) rfl
    ·rename_i id st2 d8 fU
     split at hc
     ·rename_i em
      simp only[aa,ac] at hc
      obtain⟨rfl,rfl⟩:=hc
      refine body d8 fU ?_
      intro a2 w2 G2 e2 h1 h2 h3 _
      simp only[yB] at h1
      subst h1
      obtain⟨r2,k1,k2,k3,k4,k5,k6⟩:=rec1 h3 h2 em
      refine⟨_,_,run_endRound (some (.exit id)) k4,?_⟩
      obtain⟨t1,t2⟩:=turn (ob := .over (some id)) (r2:={ r2 with state:=if (some (Code.exit id)).isNone then .ready else .done,pending:=some (.exit id) }) h3 h2 k1 k2 k3 k4 rfl ⟨k3,_,hobj (G':=G2) k4,rfl,rfl⟩
      exact last t1 t2 (λG3 _ _=>⟨_,rfl,.bool false⟩) rfl
     ·simp at hc
    ·rename_i st2 d8 fU
     split at hc
     ·rename_i em
      simp only[aa,ac] at hc
      obtain⟨rfl,rfl⟩:=hc
      refine body d8 fU ?_
      intro a2 w2 G2 e2 h1 h2 h3 _
      simp only[yB] at h1
      subst h1
      obtain⟨r2,k1,k2,k3,k4,k5,k6⟩:=rec1 h3 h2 em
      refine⟨_,_,run_endRound (some .ret) k4,?_⟩
      obtain⟨t1,t2⟩:=turn (ob := .over none) (r2:={ r2 with state:=if (some Code.ret).isNone then .ready else .done,pending:=some .ret }) h3 h2 k1 k2 k3 k4 rfl ⟨k3,_,hobj (G':=G2) k4,rfl,rfl⟩
      exact last t1 t2 (λG3 _ _=>⟨_,rfl,.bool false⟩) rfl
     ·simp at hc
    ·simp at hc
   ·simp at hc
 | _=>simp at kA
theorem b4X {ex:PC→St→Option (PExit×St)} {f:PFunc} {args:List PV} {h:List PObj} {r} (hc:Ap ex f args h=some r):∃rest,args = .dead::rest:=by
 unfold Ap at hc
 split at hc
 ·exact⟨_,rfl⟩
 ·cases hc
theorem K0 {ex:PC→St→Option (PExit×St)} {f:PFunc} {args:List PV} {h:List PObj} {r} (hc:Ap ex f args h=some r):f.code.isRound=false:=by
 unfold Ap at hc
 have one:∀{o:Option Nat} {args:List PV},zj ex f o args h=some r→f.code.isRound=false:=by
  intro o args hr
  unfold zj at hr
  split at hr
  ·simp at hr
  ·rename_i hn; simpa using hn
 split at hc
 ·split at hc
  ·split at hc
   ·split at hc
    ·exact one (AY.1 hc).1
    ·exact one hc
   ·simp at hc
  ·simp at hc
 ·simp at hc
theorem b8i {L:Nat→Option PFunc} (hE:EnvOk E N) (hP:E.P=P) (dl:P.follows .mixedOrders=true) (hL:∀k pf,L k=some pf→FnS E N k pf):∀n,Runs N P L n:=by
 have hF:x7 N P L:=by
  intro k pf hk
  rcases hL k pf hk with hL|⟨y,fn,vs,o,a,b,h⟩
  rcases hL.2.2.2 with⟨_,_,fn,vs,h1,h2,_,_,_,_,_,_,h3,_⟩|⟨g,fn,_,_,h1,h2,h3,_⟩|⟨g,fn,_,_,_,h1,h2,h3,_⟩
  ·refine⟨fn,by rw[← hP]; exact h1,h2,?_⟩
   cases hb:fn.body with
   | none=>rw[hb] at h3; simp at h3
   | some c=>rfl
  ·exact⟨fn,by rw[← hP]; exact h1,h2,h3⟩
  ·exact⟨fn,by rw[← hP]; exact h1,h2,h3⟩
  ·exact⟨fn,by rw[← hP,h.no]; exact h.inP,h.name,h.body⟩
 intro n
 induction n using Nat.strongRecOn with
 | _ n ihn =>
   have prim:∀{k:Nat} {pf:PFunc} {g} {args:List PV} {r:PV} {h0 h':List PObj},L k=some pf→pf.prim=some g→g (args.map dem) h0=some (r,h')→∀(w:World) (G:GS) (vals:Array Value),Between N w G h0→vals.size=args.length →
     (∀(i:Nat) (v:Value) (p:PV),vals[i]? = some v→args[i]? = some p→VR N w G.fix G.heap v p) →
     Calls P (N.fn k) vals w λe w'=>∃v G',e = .returned v∧VR N w' G'.fix G'.heap v r∧Ext w G w' G'∧Between N w' G' h':=by
    intro k pf g args r h0 h' gG fx hc w G vals dZ cQ cR
    have fN:FnF E N k pf:=by
     rcases hL k pf gG with h|⟨y,fn,vs,o,a,b,h⟩
     ·exact h
     ·rw[h.prim] at fx; simp at fx
    rcases fN.2.2.2 with⟨h,_⟩|⟨g',fn,h,_,_,_,_,lx⟩|⟨_,_,h,_⟩
    ·rw[h] at fx; simp at fx
    ·rw[h] at fx
     simp only[aa] at fx
     subst fx
     rw[hP] at lx
     refine lx (args.map dem) r h0 h' hc w G vals dZ (by simpa using cQ) ?_
     intro i v p hv hp
     simp only[aA,ab] at hp
     obtain⟨q,hq,rfl⟩:=hp
     exact(cR i v q hv hq).dem
    ·rw[h] at fx; simp at fx
   have code:∀{k:Nat} {pf:PFunc} {args:List PV} {o:Out} {h0 h':List PObj},L k=some pf→pf.code.isRound=false→pf.prim=none→yA (vY L n) (xW L) pf args h0=some (o,h')→args.length=pf.params→∀(w:World) (G:GS) (vals:Array Value),Between N w G h0→vals.size=args.length →
     (∀(i:Nat) (v:Value) (p:PV),vals[i]? = some v→args[i]? = some p→VR N w G.fix G.heap v p) →
     Calls P (N.fn k) vals w λe w'=>∃G',zP N w' G' e o∧Ext w G w' G'∧Between N w' G' h':=by
    intro k pf args o h0 h' gG kO fx hc dr w G vals dZ cQ cR
    obtain⟨_,gO,_,jT⟩:=(hL k pf gG).plain kO
    rcases jT with⟨_,_,fn,vs,lX⟩|⟨g',fn,h,_⟩|⟨_,_,_,hx,_⟩
    ·exact c1q hE hP dl hF hL ihn lX gO hc dr dZ cQ cR
    ·rw[h] at fx; simp at fx
    ·unfold yA at hc
     rw[hx] at hc
     cases n with
     | zero=>simp[vY] at hc
     | succ n=>simp[vY] at hc
   refine⟨⟨?_,?_⟩,?_,?_,?_⟩
   ·intro k args r h0 h' hc
    unfold xx at hc
    split at hc
    ·simp at hc
    ·rename_i pf gG
     have kO:pf.prim=none→pf.code.isRound=false:=by
      intro fx
      cases hx:pf.code.isRound with
      | false=>rfl
      | true =>
        exfalso
        split at hc
        ·rw[fx] at hc
         simp only at hc
         split at hc
         ·simp only[zd,hx,if_true] at hc
          unfold B3 at hc
          split at hc<;>simp at hc
         ·simp only[zd,hx,if_true] at hc
          simp at hc
        ·have:=K0 hc
         rw[hx] at this; simp at this
     have fN:FnF E N k pf:=by
      rcases hL k pf gG with h|⟨y,fn,vs,o,a,b,h⟩
      ·exact h
      ·have:=kO h.prim
       rw[h.code] at this; simp[PC.isRound] at this
     refine⟨fN.1,?_⟩
     intro w G vals dZ cQ cR
     split at hc
     ·rename_i dr
      split at hc
      ·rename_i g fx
       simp only[ab,ac] at hc
       obtain⟨⟨r1,h1⟩,hg,rfl,rfl⟩:=hc
       refine(prim gG fx hg w G vals dZ cQ cR).mono ?_
       rintro e w' ⟨v,G',rfl,hv,h2,h3⟩
       exact⟨v,G',rfl,hv.dem,h2,h3⟩
      ·rename_i fx
       have gO:=fN.2.1
       suffices H:∀args:List PV,args.length=pf.params→zd (vY L n) (xW L) pf args h0=some (r,h')→vals.size=args.length →
         (∀(i:Nat) (v:Value) (p:PV),vals[i]? = some v→args[i]? = some p→VR N w G.fix G.heap v p) →
         Calls P (N.fn k) vals w λe w'=>∃v G',e = .returned v∧VR N w' G'.fix G'.heap v r∧Ext w G w' G'∧Between N w' G' h' by
        split at hc
        ·rename_i gj
         simp only[am] at gj
         have mb:zd (vY L n) (xW L) pf (.nils::args.tail) h0=some (r,h')∧zd (vY L n) (xW L) pf (.void::args.tail) h0=some (r,h'):=by
          unfold B3 at hc
          split at hc
          ·rename_i he; exact⟨hc,he▸hc⟩
          ·simp at hc
         cases args with
         | nil=>simp[vague] at gj
         | cons p ps =>
           have iP:∃v,vals[0]? = some v:=by
            have h0:0<vals.size:=by rw[cQ]; simp
            exact⟨vals[0],by simp[h0]⟩
           obtain⟨v0,iP⟩:=iP
           have fI:∀q,VR N w G.fix G.heap v0 q→∀(i:Nat) (v:Value) (p':PV),vals[i]? = some v→(q::ps)[i]? = some p'→VR N w G.fix G.heap v p':=by
            intro q hq i v p' h1 h2
            cases i with
            | zero=>rw[iP] at h1; simp at h1 h2; subst h1 h2; exact hq
            | succ i=>exact cR (i+1) v p' h1 (by simpa using h2)
           rcases(cR 0 v0 p iP rfl).vague gj.2 with h|h
           ·exact H _ (by simpa using dr) mb.1 (by simpa using cQ) (fI _ h)
           ·exact H _ (by simpa using dr) mb.2 (by simpa using cQ) (fI _ h)
        ·exact H args dr hc cQ cR
       clear hc dr cQ cR kO args
       intro args dr hc cQ cR
       unfold zd at hc
       rw[gO] at hc
       simp only[aH,if_false] at hc
       unfold Fq at hc
       split at hc
       ·rename_i r' h1 dT
        simp only[aa,ac] at hc
        obtain⟨rfl,rfl⟩:=hc
        refine(code gG gO fx dT dr w G vals dZ cQ cR).mono ?_
        rintro e w' ⟨G',⟨v,rfl,hv⟩,h2,h3⟩
        exact⟨v,G',rfl,hv,h2,h3⟩
       ·simp at hc
     ·
      exfalso
      obtain⟨ps,rfl⟩:=b4X hc
      ·have h0:0<vals.size:=by rw[cQ]; simp
       have h1:=cR 0 vals[0] .dead (by simp[h0]) rfl
       generalize vals[0]=v0 at h1
       cases h1
   ·intro k own args r h' hc
    unfold xx at hc
    split at hc
    ·simp at hc
    ·rename_i pf gG
     have jE:(AV own args).length=pf.params→False:=by
      intro hl
      rcases hL k pf gG with h|⟨y,fn,vs,o,a,b,h⟩
      ·have:=h.2.2.1
       rw[b6H] at hl
       omega
      ·rw[ah hl,h.prim] at hc
       simp only[zd,h.code,PC.isRound,if_true] at hc
       split at hc
       ·unfold B3 at hc
        split at hc<;>simp at hc
       ·simp at hc
     rw[ae jE] at hc
     have gO:=K0 hc
     have fN:=(hL k pf gG).plain gO
     refine⟨fN.1,?_⟩
     intro w G vals dn
     rw[b5h] at hc
     split at hc
     ·rename_i dr
      obtain⟨dr,fx⟩:=dr
      suffices H:∀args:List PV,args.length=pf.params→zj (vY L n) pf own args []=some (r,h')→OwnIn N w G own args vals →
        Calls P (N.fn k) vals w λe w'=>∃v G',e = .returned v∧VR N w' G'.fix G'.heap v r∧Ext w G w' G'∧(∀b o,G'.fix b o→b<w'.heap.size)∧∀es,r = .list true es→CD w G w' G' v es by
       split at hc
       ·rename_i gj
        simp only[am] at gj
        have mb:=AY.1 hc
        cases args with
        | nil=>simp[vague] at gj
        | cons p ps =>
          have iP:∃v,vals[0]? = some v:=by
           have h0:0<vals.size:=by rw[dn.size]; simp
           exact⟨vals[0],by simp[h0]⟩
          obtain⟨v0,iP⟩:=iP
          have fI:∀q,(∀es,q≠.list true es)→VR N w G.fix G.heap v0 q→OwnIn N w G own (q::ps) vals:=by
           intro q ub hq
           refine⟨dn.ow,dn.box,dn.heap,dn.fixlt,dn.owlt,dn.tab,by simpa using dn.size,?_,?_⟩
           ·intro i v p' h1 h2
            cases i with
            | zero=>rw[iP] at h1; simp at h1 h2; subst h1 h2; exact hq
            | succ i=>exact dn.vr (i+1) v p' h1 (by simpa using h2)
           ·intro i v es hi h1 h2
            cases i with
            | zero=>simp at h2; exact absurd h2 (ub es)
            | succ i=>exact dn.room (i+1) v es hi h1 (by simpa using h2)
          rcases(dn.vr 0 v0 p iP rfl).vague gj.2 with h|h
          ·exact H _ (by simpa using dr) mb.1 (fI _ (by intro es; simp) h)
          ·exact H _ (by simpa using dr) mb.2 (fI _ (by intro es; simp) h)
       ·exact H args dr hc dn
      clear hc dr dn jE args
      intro args dr hc dn
      rcases fN.2.2.2 with⟨_,_,fn,vs,lX⟩|⟨g',fn,h,_⟩|⟨_,_,_,hx,_⟩
      ·exact b9w hE hP dl hF ihn lX hc dr dn
      ·rw[h] at fx; simp at fx
      ·unfold zj at hc
       rw[hx] at hc
       cases n with
       | zero=>simp[vY] at hc
       | succ n=>simp[vY] at hc
     ·simp at hc
   ·intro k args o h0 h' hc iT w G vals dZ cQ cR
    unfold xK at hc
    split at hc
    ·simp at hc
    ·rename_i pf gG
     split at hc
     ·rename_i dr
      split at hc
      ·rename_i g fx
       simp only[ab,ac] at hc
       obtain⟨⟨r,h1⟩,hg,rfl,rfl⟩:=hc
       refine(prim gG fx hg w G vals dZ cQ cR).mono ?_
       rintro e w' ⟨v,G',rfl,hv,h2,h3⟩
       exact⟨G',⟨v,rfl,hv.dem⟩,h2,h3⟩
      ·rename_i fx
       exact code gG ((hL k pf gG).plainY iT).2.1 fx hc dr.1 w G vals dZ cQ cR
     ·simp at hc
   ·intro k y n0 l tmps caps args o h0 h' hy hc w G vals dZ qf cQ cR
    unfold xK at hc
    split at hc
    ·simp at hc
    ·rename_i pf gG
     rcases hL k pf gG with h|⟨y',fn,vs,o',ca,cb,h⟩
     ·have:=h.1
      rw[hy] at this
      simp at this
     ·have:y'=y:=by have:=h.yl; rw[hy] at this; simpa using this.symm
      subst this
      split at hc
      ·rename_i dr
       rw[h.prim] at hc
       simp only[yA,h.code] at hc
       exact b6w hE hP dl hF ihn h hc (by rw[dr.1,h.params]) dZ qf cQ cR
      ·simp at hc
   ·intro k hk
    unfold B1 at hk
    split at hk
    ·rename_i f hf
     exact((hL k f hf).plain (by simpa using hk)).1
    ·simp at hk
theorem b8j {L:Nat→Option PFunc} (hE:EnvOk E N) (hP:E.P=P) (dl:P.follows .mixedOrders=true) (hL:∀k pf,L k=some pf→FnS E N k pf):
  ∀n,CallOK N P (xx (vY L n) L):=λn=>(b8i hE hP dl hL n).call
end
end PI
