import Derived.Test.YtljbhgpanekomaaGreatDoorPiCodeT
import Derived.Test.YtljbhgpanekomaaGreatDoorPiRun
set_option linter.unusedSimpArgs false
set_option linter.unusedVariables false
set_option linter.unusedSectionVars false
namespace PI
open Go Go.RowKit
def D4 (P:Program) (kp:Bool) (vs:List Tmp):ResultVar→Option PRes
 | .tmp t=>(yt t vs 0).map (if kp then .keep else .var)
 | .cell t ty=>(yt t vs 0).bind λi=>(wT P ty).map λn => .cell i n (xu P ty)
def Bh (P:Program) (kp:Bool) (vs:List Tmp):List ResultVar→Option (List PRes)
 | []=>some []
 | r::rs=>(D4 P kp vs r).bind λp=>(Bh P kp vs rs).map (p::·)
structure Opts where
 hs:List Tmp:=[]
 hf:List FuncId:=[]
 hv:List Tmp:=[]
 rs:List TypeId:=[]
 bf:List FuncId:=[]
 bv:List Tmp:=[]
 lps:List (Array Tmp×Nat×List Tmp):=[]
 sr:Bool:=false
 nl:Bool:=false
 kp:Bool:=false
 ox:List (FuncId×Option Nat):=[]
 rf:List FuncId:=[]
 lv:Bool:=false
def Env.opt (E:Env) (o:Opts):Env:={ E with hs:=o.hs,hf:=o.hf,hv:=o.hv,rs:=o.rs,bf:=o.bf,bv:=o.bv,lps:=o.lps,sr:=o.sr,nl:=o.nl,ox:=o.ox,rf:=o.rf,lv:=o.lv }
theorem EnvOk.opt {E:Env} {N:Nm} (h:EnvOk E N) (o:Opts):EnvOk (E.opt o) N:=⟨h.fn,h.yl,h.pt,h.bt⟩
def FnC (E:Env) (N:Nm) (k:Nat) (pf:PFunc) (fn:Func) (vs:List Tmp):Prop:=
 E.P.funcs[N.fn k]? = some fn∧fn.name ≠ "runtime.NumGoroutine" ∧ vs.Nodup∧(∀t∈vs,t<fn.ntmps)∧vs.length=pf.nv∧pf.params≤pf.nv∧(∀i,i<pf.params→vs[i]? = some i) ∧
  (∃o:Opts,(fn.body.map λc=>yC (E.opt o) fn.ntmps vs c)=some pf.code∧(o.lps=[]∨∀c,fn.body=some c→LpOK (E.opt o) N fn.ntmps (N.fn k) c)∧Bh E.P o.kp vs fn.results.toList=some pf.results)
def Dh (N:Nm) (P:Program) (k:Nat) (g:List PV→List PObj→Option (PV×List PObj)):Prop:=
 ∀ (args : List PV) (r : PV) (h h' : List PObj), g args h = some (r, h') → ∀ (w : World) (G : GS) (vals : Array Value), Between N w G h → vals.size = args.length →
   (∀(i:Nat) (v:Value) (p:PV),vals[i]? = some v→args[i]? = some p→VR N w G.fix G.heap v p) →
   Calls P (N.fn k) vals w λe w'=>∃v G',e = .returned v∧VR N w' G'.fix G'.heap v r∧Ext w G w' G'∧Between N w' G' h'
def CY (N:Nm) (P:Program) (k:Nat) (g:List PV→List PObj→Option (List PObj)):Prop:=
 ∀ (p : PV) (caps : List PV) (h h' : List PObj), g (p :: caps) h = some h' → ∀ (w : World) (G : GS) (vals : Array Value), Between N w G h → vals.size = caps.length →
   (∀(i:Nat) (v:Value) (p:PV),vals[i]? = some v→caps[i]? = some p→VR N w G.fix G.heap v p) →
   ∀u,(u = .returning∧p = .nilIface∨∃v,u = .panicking [{ v,recovered:=false }]∧VR N w G.fix G.heap v p) →
   CallsDIn (W none) 0 P (N.fn k) vals u w λe u' w'=>(∃v,e = .returned v)∧settle u' = .returning∧∃G',Ext w G w' G'∧Between N w' G' h'
structure RdC (E:Env) (N:Nm) (k:Nat) (pf:PFunc) (y:YL) (fn:Func) (vs:List Tmp) (o:Opts) (a b:PC):Prop where
 yl:N.yl k=some y
 code:pf.code = .round a b
 ra:a.RO=true
 rb:b.RO=true
 prim:pf.prim=none
 dfr:pf.defer=none
 inP:E.P.funcs[y.fn]? = some fn
 no:N.fn k=y.fn
 name:fn.name ≠ "runtime.NumGoroutine"
 body:fn.body.isNone=false
 nd:vs.Nodup
 lt:∀t∈vs,t<y.nt
 len:vs.length=pf.nv
 params:pf.params=1+(y.vars.length+y.params.size)
 head:vs.take (y.vars.length+y.params.size)=y.vars++y.params.toList
 lps:o.lps=[]
 ca:yC (E.opt o) y.nt vs y.assign=a
 cb:yC (E.opt o) y.nt vs y.body=b
def FnF (E:Env) (N:Nm) (k:Nat) (pf:PFunc):Prop:=
 N.yl k=none∧pf.code.isRound=false∧pf.params<1000 ∧
 ((pf.prim=none∧pf.defer=none∧∃fn vs,FnC E N k pf fn vs) ∨
 (∃g fn,pf.prim=some g∧pf.defer=none∧E.P.funcs[N.fn k]? = some fn∧fn.name ≠ "runtime.NumGoroutine" ∧ fn.body.isNone=false∧Dh N E.P k g) ∨
 ∃g fn,pf.prim=none∧pf.code = .exit 0∧pf.defer=some g∧E.P.funcs[N.fn k]? = some fn∧fn.name ≠ "runtime.NumGoroutine" ∧ fn.body.isNone=false∧CY N E.P k g)
def FnS (E:Env) (N:Nm) (k:Nat) (pf:PFunc):Prop:=FnF E N k pf∨∃y fn vs o a b,RdC E N k pf y fn vs o a b
theorem FnS.plain {E:Env} {N:Nm} {k:Nat} {pf:PFunc} (h:FnS E N k pf) (hr:pf.code.isRound=false):FnF E N k pf:=by
 rcases h with h|⟨y,fn,vs,o,a,b,h⟩
 ·exact h
 ·rw[h.code] at hr; simp[PC.isRound] at hr
theorem FnS.plainY {E:Env} {N:Nm} {k:Nat} {pf:PFunc} (h:FnS E N k pf) (hr:N.yl k=none):FnF E N k pf:=by
 rcases h with h|⟨y,fn,vs,o,a,b,h⟩
 ·exact h
 ·rw[h.yl] at hr; simp at hr
def zQ (vars:List PV):List PRes→List Nat
 | []=>[]
 | r::rs=>Be vars r++zQ vars rs
theorem Ml:∀(ns:List Nat) (h:List PObj) (n:Nat),(n∈ns→(AX ns h)[n]? = h[n]?.map (λ_ => .gone))∧(n∉ns→(AX ns h)[n]? = h[n]?)
 | [],h,n=>by simp[AX]
 | m :: ns, h, n => by
   simp only[AX]
   obtain⟨i1,i2⟩:=Ml ns (h.set m .gone) n
   rw[aJ] at i1 i2
   by_cases hm:m=n
   ·subst hm
    refine⟨λ_ =>?_,λhn=>absurd (by simp) hn⟩
    by_cases hr:m∈ns
    ·rw[i1 hr]
     by_cases cO:m<h.length<;>simp[cO]
    ·rw[i2 hr]
     by_cases cO:m<h.length<;>simp[cO]
   ·have c9:¬n=m:=λe=>hm e.symm
    rw[af hm] at i1 i2
    simp only[aA,c9,false_or]
    exact⟨i1,i2⟩
theorem Mm:∀(ns:List Nat) (h:List PObj),(AX ns h).length=h.length
 | [],h=>rfl
 | n::ns,h=>by simp only[AX]; rw[Mm ns]; simp
theorem IP (vars:List PV):∀(rs:List PRes) (h:List PObj) (n:Nat),(n∈zQ vars rs→(xj vars rs h)[n]? = h[n]?.map (λ_ => .gone))∧(n∉zQ vars rs→(xj vars rs h)[n]? = h[n]?)
 | [],h,n=>by simp[xj,zQ]
 | r :: rs, h, n => by
   simp only[xj,zQ]
   obtain⟨i1,i2⟩:=IP vars rs (AX (Be vars r) h) n
   obtain⟨g1,g2⟩:=Ml (Be vars r) h n
   simp only[ax]
   by_cases hr:n∈zQ vars rs
   ·refine⟨λ_ =>?_,λhn=>absurd (.inr hr) hn⟩
    rw[i1 hr]
    by_cases hq:n∈Be vars r
    ·rw[g1 hq]; cases h[n]?<;>rfl
    ·rw[g2 hq]
   ·refine⟨λhn =>?_,λhn =>?_⟩
    ·rw[i2 hr,g1 (hn.resolve_right hr)]
    ·rw[i2 hr,g2 (λe=>hn (.inl e))]
theorem Mn (vars:List PV):∀(rs:List PRes) (h:List PObj),(xj vars rs h).length=h.length
 | [],h=>rfl
 | r::rs,h=>by simp only[xj]; rw[Mn vars rs,Mm]
theorem Mo {vars:List PV} {n:Nat} {r:PRes} (hv:n∈Be vars r):∀{rs:List PRes},r∈rs→n∈zQ vars rs
 | r' :: rs, h => by
   simp only[zQ,ax]
   rcases aA.1 h with h|h
   ·subst h; exact .inl hv
   ·exact .inr (Mo hv h)
theorem IQ {n sz len:Nat} {agg:Bool}:∀{ps:List PV},.rowp n sz agg len∈ps→n∈B1 ps
 | p :: ps, h => by
   simp only[B1,ax]
   rcases aA.1 h with h|h
   ·subst h; exact .inl (by simp[xN])
   ·exact .inr (IQ h)
def GS.shut (G:GS) (ns:List Nat) (heap:List PObj):GS:=
 { G with fix:=λb o=>G.fix b o∨∃n∈ns,∃cs:List PV,G.heap n=some b∧heap[n]? = some (.cells cs)∧o<cs.length }
section
variable {E:Env} {N:Nm} {P:Program}
theorem VR.shut {w:World} {G:GS} {ns:List Nat} {heap:List PObj} {v:Value} {p:PV} (h:VR N w G.fix G.heap v p):VR N w (G.shut ns heap).fix (G.shut ns heap).heap v p:=
 h.mono (λ_ _ h=>⟨.inl h,rfl⟩) (λ_ _ h=>h) (ShapeLe.refl w)
theorem HR.shut {w:World} {G:GS} {heap:List PObj} (h:HR N w G heap) (vars:List PV) (rs:List PRes):HR N w (G.shut (zQ vars rs) heap) (xj vars rs heap):=by
 have own:∀n b,n∈zQ vars rs→∀cs,G.heap n=some b→heap[n]? = some (.cells cs)→G.ow b=some (.hobj n):=by
  intro n b _ cs h1 h2
  rcases h.1 n _ h2 with h3|⟨b',k1,k2,_⟩
  ·simp at h3
  rw[h1] at k1; cases k1; exact k2
 have room:∀{n k:Nat} {v:Value} {es:List PV},Room w G (.hcell n k) v es→Room w (G.shut (zQ vars rs) heap) (.hcell n k) v es:=by
  intro n k v es hr
  unfold Room at *
  split at hr
  ·rename_i a len cap
   rcases hr with hr|⟨h1,sz,cs,T,h2,h3,h4,h5,h6⟩
   ·exact .inl hr
   ·refine .inr ⟨h1,sz,cs,T,h2,h3,h4,h5,?_⟩
    rintro o ho (hf|⟨m,hm,cs',k1,k2,_⟩)
    ·exact h6 o ho hf
    ·have:=own m _ hm cs' k1 k2
     rw[h1] at this; simp at this
  ·trivial
 refine⟨?_,⟨λt ht=>⟨.inl (h.2.1 t ht).1,(h.2.1 t ht).2⟩,h.2.2⟩⟩
 intro n ob dF
 by_cases hn:n∈zQ vars rs
 ·rw[(IP vars rs heap n).1 hn] at dF
  simp only[ab] at dF
  obtain⟨ob0,h0,rfl⟩:=dF
  exact .inl rfl
 ·rw[(IP vars rs heap n).2 hn] at dF
  rcases h.1 n _ dF with rfl|⟨b,k1,k2,k3⟩
  ·exact .inl rfl
  refine .inr ⟨b,k1,k2,?_⟩
  have nofix:(∀o,¬G.fix b o)→∀o,¬(G.shut (zQ vars rs) heap).fix b o:=by
   rintro hf o (h1|⟨m,hm,cs',j1,j2,_⟩)
   ·exact hf o h1
   ·have:=own m _ hm cs' j1 j2
    rw[k2] at this
    simp at this; subst this; exact hn hm
  cases ob with
  | cells cs =>
    obtain⟨f,cv,T,a1,a2,a3⟩:=k3
    refine⟨nofix f,cv,T,a1,a2,?_⟩
    intro k c x hc hx
    obtain⟨b1,b2,b3⟩:=a3 k c x hc hx
    refine⟨b1.shut,b2,?_⟩
    split at b3
    ·exact room b3
    ·trivial
  | map es =>
    obtain⟨mes,clock,a1,a2,a3,a4,a5⟩:=k3
    refine⟨mes,clock,a1,a2,a3,a4,?_⟩
    intro i e p hi hp
    obtain⟨b1,b2,b3⟩:=a5 i e p hi hp
    refine⟨b1.shut,b2.shut,?_⟩
    split at b3
    ·exact room b3
    ·trivial
  | bld bs =>
    obtain⟨f,p,v,a1,a2,a3⟩:=k3
    refine⟨nofix f,p,v,a1,a2,?_⟩
    rcases a3 with a3|⟨g,cap,cur,b1,b2,b3,b4⟩
    ·exact .inl a3
    ·refine .inr ⟨g,cap,cur,b1,b2,?_,b4⟩
     rintro o (h1|⟨m,hm,cs',j1,j2,_⟩)
     ·exact b3 o h1
     ·have:=own m _ hm cs' j1 j2
      rw[b2] at this; simp at this
  | siter s pos =>
    obtain⟨f,s',a1,a2⟩:=k3
    exact⟨nofix f,s',a1,a2⟩
  | gone=>trivial
  | loop ready =>
    obtain⟨f,r,a1,a2⟩:=k3
    exact⟨nofix f,r,a1,a2⟩
  | over id =>
    obtain⟨f,r,a1,a2⟩:=k3
    exact⟨nofix f,r,a1,a2⟩
theorem Mp {w:World} {G:GS} {heap:List PObj} (h:HR N w G heap) {ns:List Nat} {n sz len b cap:Nat} (cT:len≤cap) {agg:Bool} {cs es:List PV} (hn:n∈ns) (hb:G.heap n=some b) (hc:heap[n]? = some (.cells cs)) (cQ:agg=true∨sz=1)
  (he:zM sz agg cs len 0=some es):VR N w (G.shut ns heap).fix (G.shut ns heap).heap (.slice (some ⟨b,0,none⟩) len cap) (.list false es):=by
 rcases h.1 n _ hc with hg|⟨b',k1,k2,f,cv,T,a1,a2,a3⟩
 ·simp at hg
 have:b'=b:=by rw[hb] at k1; cases k1; rfl
 subst this
 obtain⟨e1,e2⟩:=GE he
 have jM:∀(i:Nat) (e:PV),es[i]? = some e→i*sz+sz≤cs.length∧e.cells.length=sz∧∀(j:Nat) (x:PV),e.cells[j]? = some x→∃y,cs[i*sz+j]? = some y∧x=dem y∧j<sz:=by
  intro i e hi
  have:=e2 i e hi
  rw[aK] at this
  unfold wD at this
  split at this
  ·split at this
   ·rename_i el
    simp only[aa] at this; subst this
    refine⟨el,by simp[PV.cells]; omega,?_⟩
    intro j x hx
    simp only[PV.cells,aB,ab] at hx
    obtain⟨y,hy,rfl⟩:=hx
    rw[aQ] at hy
    split at hy
    ·rw[aU] at hy
     exact⟨y,hy,rfl,by assumption⟩
    ·simp at hy
   ·simp at this
  ·rename_i gG
   have h1:sz=1:=by rcases cQ with h|h; exact absurd h (by simpa using gG); exact h
   subst h1
   split at this
   ·rename_i y hy
    have cO:i*1<cs.length:=(aj.1 hy).1
    have fW:y.flat=true:=(a3 _ cv[i*1] y (by simp[a2,cO]) hy).2.1
    have fK:e=dem y∧y.cells=[y]:=by
     cases y<;>simp_all [cp,dem,PV.cells,PV.flat]
    obtain⟨rfl,_⟩:=fK
    have gg:(dem y).cells=[dem y]:=by cases y<;>simp_all [dem,PV.cells,PV.flat]
    refine⟨by omega,by rw[gg]; rfl,?_⟩
    intro j x hx
    rw[gg] at hx
    cases j with
    | zero=>simp at hx; subst hx; exact⟨y,hy,rfl,by omega⟩
    | succ j=>simp at hx
   ·simp at this
 have mz:∀k,k<len*sz→k<cs.length:=by
  intro k hk
  have fE:0<sz:=by
   rcases Nat.eq_zero_or_pos sz with h|h
   ·subst h; simp at hk
   ·exact h
  have hi:k / sz<len:=by rw[Nat.div_lt_iff_lt_mul fE]; exact hk
  have:=(jM (k / sz) es[k / sz] (an (by omega))).1
  have h2:k / sz*sz+k % sz=k:=by rw[Nat.mul_comm]; exact Nat.div_add_mod k sz
  have h3:k % sz<sz:=bZ _ fE
  omega
 refine .list false b' 0 len cap sz es (λk=>cv.getD k undef) e1 cT ?_ ?_ ?_ ?_
 ·intro e he
  obtain⟨i,hi⟩:=be.1 he
  exact(jM i e hi).2.1
 ·intro e he x hx
  obtain⟨i,hi⟩:=be.1 he
  obtain⟨j,hj⟩:=be.1 hx
  obtain⟨y,hy,rfl,_⟩:=(jM i e hi).2.2 j x hj
  rw[Di]
  have cO:i*sz+j<cs.length:=(aj.1 hy).1
  exact(a3 _ cv[i*sz+j] y (by simp[a2,cO]) hy).2.1
 ·intro k hk
  have cO:=mz k hk
  refine⟨?_,.inr ⟨n,hn,cs,hb,hc,by omega⟩⟩
  have:k<cv.size:=by omega
  simp[World.cell?,a1,this]
 ·intro i e hi j x hx
  obtain⟨y,hy,rfl,_⟩:=(jM i e hi).2.2 j x hx
  have cO:i*sz+j<cs.length:=(aj.1 hy).1
  have j8:i*sz+j<cv.size:=by omega
  have:=(a3 _ cv[i*sz+j] y (by simp[j8]) hy).1
  simp only[aM,Array.getElem?_eq_getElem j8,bJ]
  exact this.dem.shut
theorem IR {w:World} {G:GS} {heap:List PObj} (h:HR N w G heap) {ns:List Nat} {v:Value} {p q:PV} (gh:∀m sz agg len,p = .rowp m sz agg len→m∈ns) (hv:VR N w G.fix G.heap v p) (hp:Dd heap p=some q):
  VR N w (G.shut ns heap).fix (G.shut ns heap).heap v q∧(p.flat=true→q.flat=true)∧(∀es,q = .list true es→p = .list true es):=by
 by_cases hr:∃m sz agg len,p = .rowp m sz agg len
 ·obtain⟨m,sz,agg,len,rfl⟩:=hr
  simp only[Dd] at hp
  split at hp
  ·rename_i cQ
   split at hp
   ·rename_i cs hh
    simp only[ab] at hp
    obtain⟨es,fX,rfl⟩:=hp
    refine⟨?_,λ_=>rfl,λes e=>by simp at e⟩
    cases hv with
    | rowp _ _ _ _ b cap cW cT _=>exact Mp h cT (gh m sz agg len rfl) cW hh cQ fX
   ·simp at hp
  ·simp at hp
 ·have:Dd heap p=some p:=by cases p<;>first|rfl|exact absurd ⟨_,_,_,_,rfl⟩ hr
  rw[this] at hp
  simp only[aa] at hp
  subst hp
  exact⟨hv.shut,id,λes e=>e⟩
theorem Mq {heap:List PObj}:∀{ps qs:List PV},AO heap ps=some qs→qs.length=ps.length∧∀(i:Nat) (q:PV),qs[i]? = some q→∃p,ps[i]? = some p∧Dd heap p=some q
 | [],qs,h=>by simp[AO] at h; subst h; simp
 | p :: ps, qs, h => by
   simp only[AO,ai,ab] at h
   obtain⟨q,h1,qs',h2,rfl⟩:=h
   obtain⟨k1,k2⟩:=Mq h2
   refine⟨by simp[k1],?_⟩
   intro i x hx
   cases i with
   | zero=>simp at hx; subst hx; exact⟨p,rfl,h1⟩
   | succ i=>exact k2 i x (by simpa using hx)
theorem c0e {w:World} {G:GS} {heap:List PObj} (h:HR N w G heap) {ns:List Nat} {v:Value} {p q:PV} (gh:∀x∈p.cells,∀m sz agg len,x = .rowp m sz agg len→m∈ns) (hv:VR N w G.fix G.heap v p) (hp:ym heap p=some q):
  VR N w (G.shut ns heap).fix (G.shut ns heap).heap v q:=by
 by_cases ha:∃ps,p = .agg ps
 ·obtain⟨ps,rfl⟩:=ha
  simp only[ym,ab] at hp
  obtain⟨qs,jW,rfl⟩:=hp
  obtain⟨f1,f2⟩:=Mq jW
  cases hv with
  | agg cs _ cI cS eS hcell =>
    refine .agg cs qs (by rw[f1]; exact cI) ?_ ?_ ?_
    ·intro y hy
     obtain⟨i,hi⟩:=be.1 hy
     obtain⟨x,hx,mA⟩:=f2 i y hi
     have cO:i<cs.size:=by have:=(aj.1 hx).1; omega
     exact(IR h (gh x (aw hx)) (hcell i cs[i] x (by simp[cO]) hx) mA).2.1 (cS x (aw hx))
    ·intro i c es hc hy
     obtain⟨x,hx,mA⟩:=f2 i _ hy
     have:=(IR h (gh x (aw hx)) (hcell i c x hc hx) mA).2.2 es rfl
     subst this
     exact eS i c es hc hx
    ·intro i c y hc hy
     obtain⟨x,hx,mA⟩:=f2 i y hy
     exact(IR h (gh x (aw hx)) (hcell i c x hc hx) mA).1
 ·have:ym heap p=some p:=by cases p<;>first|rfl|exact absurd ⟨_,rfl⟩ ha
  rw[this] at hp
  simp only[aa] at hp
  subst hp
  exact hv.shut
theorem c1G {size off n sz len:Nat} {agg ag:Bool} {cs:List PV} {u:PV} (hf:∀x∈cs,x.flat=true) (h:wD size agg cs off=some u) (hx : .rowp n sz ag len∈u.cells):n∈B1 cs:=by
 unfold wD at h
 split at h
 ·split at h
  ·simp only[aa] at h; subst h
   simp only[PV.cells,a8] at hx
   obtain⟨y,hy,e⟩:=hx
   have:y = .rowp n sz ag len:=by cases y<;>simp_all [dem]
   subst this
   exact IQ (ct (List.mem_of_mem_take hy))
  ·simp at h
 ·split at h
  ·rename_i y hy
   have hu:y = .rowp n sz ag len:=by
    have fW:=hf y (aw hy)
    cases y<;>simp[cp] at h<;>subst h<;>simp_all [PV.cells,PV.flat]
   subst hu
   exact IQ (aw hy)
  ·simp at h
def E4 (a:Act) (r:ResultVar):Sem Value:=
 match r with
 | .tmp t=>pure (a.tmps.getD t undef)
 | .cell t ty=>do loadVar ty (← asAddr (a.tmps.getD t undef))
theorem b4Y {kp:Bool} {vs:List Tmp} {nt:Nat} {w:World} {G:GS} {st:St} {a:Act} (hb:BI N w G st a vs nt) {ns:List Nat} {r:ResultVar} {p:PRes} {u:PV} (gh:∀n,n∈Be st.vars p→n∈ns) (hc:D4 P kp vs r=some p) (hr:As st p=some u):
  ∃v,(E4 a r).run P w = .ok v w∧VR N w (G.shut ns st.heap).fix (G.shut ns st.heap).heap v u:=by
 cases r with
 | tmp t =>
   simp only[D4,ab] at hc
   obtain⟨i,hi,rfl⟩:=hc
   obtain⟨_,dS⟩:=CB hi
   cases kp with
   | true =>
     simp only[if_true,As,ai] at hr
     obtain⟨x,hx,hr⟩:=hr
     have hs:=hb.fi.var i t x (by simpa using dS) hx
     exact⟨a.tmps.getD t undef,rfl,(hs.read hr).1.shut⟩
   | false=>
   simp only[ay,if_false] at gh hr
   simp only[As,ai] at hr
   obtain⟨x,hx,hr⟩:=hr
   have hs:=hb.fi.var i t x (by simpa using dS) hx
   refine⟨a.tmps.getD t undef,rfl,?_⟩
   split at hr
   ·simp at hr; subst hr
    exact hs.1.shut
   ·rename_i n sz agg len
    split at hr
    ·rename_i cQ
     simp only[ai,ab] at hr
     obtain⟨cs,ea,es,fX,rfl⟩:=hr
     have cR:=(hs.read (r := .rowp n sz agg len) rfl).1
     generalize hg:a.eval (.tmp t)=v at cR
     have qQ:a.tmps.getD t undef=v:=hg
     rw[qQ]
     cases cR with
     | rowp _ _ _ _ b cap cW cT _ =>
       unfold xF at ea
       split at ea
       ·rename_i cs' hh
        simp at ea; subst ea
        exact Mp hb.fi.heap cT (gh n (by simp[Be,Iy,hx,xN])) cW hh cQ fX
       ·simp at ea
    ·simp at hr
   ·simp at hr; subst hr
    have cR:=(hs.read (r := .nils) rfl).1
    have qQ:a.tmps.getD t undef=a.eval (.tmp t):=rfl
    rw[qQ]
    generalize a.eval (.tmp t)=v at cR
    cases cR with
    | nils'=>exact .nils false
   ·exact(hs.read hr).1.shut
 | cell t ty =>
   simp only[D4,ai,ab] at hc
   obtain⟨i,hi,n,hn,rfl⟩:=hc
   obtain⟨_,dS⟩:=CB hi
   simp only[As] at hr
   split at hr
   ·rename_i g cs hv
    simp only[ai] at hr
    obtain⟨u0,hr,hz⟩:=hr
    have hs:=hb.fi.var i t _ (by simpa using dS) hv
    obtain⟨b,i',_,eh,_,_,_,cv,T,hh,hl,i8⟩:=hs
    obtain⟨hR,hcell⟩:=IS hh hl i8
    have eP:n≠0:=by obtain⟨_,_,_,_,h,_⟩:=zu hn; exact h
    obtain⟨k1,k2,k3⟩:=Dj hR hr eP (B4 hn)
    have ke:a.tmps.getD t undef = .pointer (some ⟨b,0,none⟩):=eh
    have:=E5 (w:=w) hn b 0 cv.toList (by simpa using k1) (λj v hv=>by rw[aK]; exact hcell j v hv)
    refine⟨_,?_,c0e hb.fi.heap (λx hx m sz agg len e=>gh m ?_) k2 hz⟩
    rotate_left
    ·subst e
     simp only[Be,hv]
     exact c1G hR.2.1 hr hx
    simp only[E4,ke,asAddr,Sem.run_bind,Sem.run_pure,Result.andThen_ok,this]
    simp
   ·rename_i m hv
    simp only[ai] at hr
    obtain⟨cs,ea,hr⟩:=hr
    have hs:=(hb.fi.var i t _ (by simpa using dS) hv)
    have hs:VR N w G.fix G.heap (a.eval (.tmp t)) (.ptr m 0):=hs
    generalize eh:a.eval (.tmp t)=pv at hs
    cases hs with
    | ptr _ _ b cW =>
      unfold xF at ea
      split at ea
      ·rename_i cs' oa
       simp only[aa] at ea
       subst ea
       rcases hb.fi.heap.1 m _ oa with nq|⟨b',k1,k2,f,cv,T,hh,hl,i8⟩
       ·simp at nq
       have:b'=b:=by rw[cW] at k1; simpa using k1.symm
       subst this
       obtain⟨hR,hcell⟩:=Mr hh hl i8
       have eP:n≠0:=by obtain⟨_,_,_,_,h,_⟩:=zu hn; exact h
       obtain⟨k1,k2,k3⟩:=Dj hR hr eP (B4 hn)
       have ke:a.tmps.getD t undef = .pointer (some ⟨b',0,none⟩):=eh
       have:=E5 (w:=w) hn b' 0 (cv.toList.take cs'.length) (by simpa using k1) (λj v hv=>by rw[aK]; exact hcell j v hv)
       refine⟨_,?_,k2.shut⟩
       simp only[E4,ke,asAddr,Sem.run_bind,Sem.run_pure,Result.andThen_ok,this]
       simp
      ·simp at ea
   ·simp at hr
theorem Ms {kp:Bool} {vs:List Tmp} {nt:Nat} {w:World} {G:GS} {st:St} {a:Act} (hb:BI N w G st a vs nt) {ns:List Nat}:∀{rs:List ResultVar} {ps:List PRes} {us:List PV},(∀p∈ps,∀n,n∈Be st.vars p→n∈ns)→Bh P kp vs rs=some ps→AC st ps=some us →
  ∃ vals : List Value, (rs.mapM (E4 a)).run P w = .ok vals w ∧ vals.length = us.length ∧
    ∀(i:Nat) (v:Value) (u:PV),vals[i]? = some v→us[i]? = some u→VR N w (G.shut ns st.heap).fix (G.shut ns st.heap).heap v u
 | [], ps, us, _, hc, hr => by
   simp[Bh] at hc; subst hc
   simp[AC] at hr; subst hr
   exact⟨[],by simp,rfl,by simp⟩
 | r :: rs, ps, us, gh, hc, hr => by
   simp only[Bh,ai,ab] at hc
   obtain⟨p,hp,ps',d9,rfl⟩:=hc
   simp only[AC,ai,ab] at hr
   obtain⟨u,hu,us',eT,rfl⟩:=hr
   obtain⟨v,h1,h2⟩:=b4Y hb (gh p (bV ..)) hp hu
   obtain⟨vals,h3,h4,h5⟩:=Ms hb (λp e=>gh p (bD _ e)) d9 eT
   refine⟨v::vals,?_,by simp[h4],?_⟩
   ·rw[List.mapM_cons]
    simp only[Sem.run_bind,h1,Result.andThen_ok,h3,Sem.run_pure]
   ·intro i x y hx hy
    cases i with
    | zero=>simp at hx hy; subst hx hy; exact h2
    | succ i=>exact h5 i x y (by simpa using hx) (by simpa using hy)
structure DefW (w w':World):Prop where
 os:w'.os=w.os
 tape:w'.tape=w.tape
 output:w'.output=w.output
 size:w'.heap.size=w.heap.size
 heap:∀b:Nat,w'.heap[b]? = w.heap[b]?∨((∃x,w.heap[b]? = some (Obj.deferred x))∧∃y,w'.heap[b]? = some (Obj.deferred y))
theorem DefW.refl (w:World):DefW w w:=⟨rfl,rfl,rfl,rfl,λ_ => .inl rfl⟩
theorem DefW.get {w w':World} (h:DefW w w') {b:Nat} {ob:Obj} (hb:w.heap[b]? = some ob) (hn:∀x,ob≠Obj.deferred x):w'.heap[b]? = some ob:=by
 rcases h.heap b with e|⟨⟨x,e⟩,_⟩
 ·rw[e]; exact hb
 ·rw[hb] at e
  exact absurd (by simpa using e) (hn x)
theorem DefW.cell {w w':World} (h:DefW w w') (b o:Nat):w'.cell? ⟨b,o,none⟩=w.cell? ⟨b,o,none⟩:=by
 rcases h.heap b with e|⟨⟨x,e1⟩,y,e2⟩
 ·simp only[World.cell?,e]
 ·simp[World.cell?,e1,e2]
theorem DefW.shape {w w':World} (h:DefW w w'):ShapeLe w w':=by
 refine⟨?_,?_⟩
 ·intro b s hb
  rcases h.heap b with e|⟨⟨x,e1⟩,y,e2⟩
  ·unfold World.shape? at hb ⊢; rw[e]; exact hb
  ·simp[World.shape?,e1] at hb
 ·intro b s hb
  rcases h.heap b with e|⟨⟨x,e1⟩,y,e2⟩
  ·unfold zk at hb ⊢; rw[e]; exact hb
  ·simp[zk,e1] at hb
theorem VR.def' {w w':World} {G:GS} {v:Value} {p:PV} (h:VR N w G.fix G.heap v p) (d:DefW w w'):VR N w' G.fix G.heap v p:=
 h.mono (λb o hf=>⟨hf,d.cell b o⟩) (λ_ _ h=>h) d.shape
theorem Room.def' {w w':World} {G:GS} {key:Key} {v:Value} {es:List PV} (h:Room w G key v es) (d:DefW w w'):Room w' G key v es:=by
 unfold Room at *
 split at h
 ·rcases h with h|⟨h1,sz,cs,T,h2,⟨fz,h3,eF⟩,h4⟩
  ·exact .inl h
  ·exact .inr ⟨h1,sz,cs,T,h2,⟨fz,d.get h3 (by simp),eF⟩,h4⟩
 ·trivial
theorem CR.def' {w w':World} {G:GS} {key:Key} {v:Value} {p:PV} (h:CR N w G key v p) (d:DefW w w'):CR N w' G key v p:=by
 obtain⟨h1,h2,h3⟩:=h
 refine⟨h1.def' d,h2,?_⟩
 split at h3
 ·exact Room.def' h3 d
 ·trivial
theorem MR.def' {w w':World} {G:GS} {key:Key} {v:Value} {p:PV} (h:MR N w G key v p) (d:DefW w w'):MR N w' G key v p:=by
 obtain⟨h1,h3⟩:=h
 refine⟨h1.def' d,?_⟩
 split at h3
 ·exact Room.def' h3 d
 ·trivial
theorem SR.def' {w w':World} {G:GS} {key:Key} {v:Value} {p:PV} (h:SR N w G key v p) (d:DefW w w'):SR N w' G key v p:=by
 unfold SR at *
 split at h
 ·trivial
 ·obtain⟨b,i,fF,hv,hb,ho,hf,cv,T,h1,h2,h3⟩:=h
  exact⟨b,i,fF,hv,hb,ho,hf,cv,T,d.get h1 (by simp),h2,λk c x hc hx=>(h3 k c x hc hx).def' d⟩
 ·exact h
 ·exact⟨h.1.def' d,Room.def' h.2 d⟩
 ·exact h.def' d
theorem ObjR.def' {w w':World} {G:GS} {n b:Nat} {ob:PObj} (h:ObjR N w G n b ob) (d:DefW w w'):ObjR N w' G n b ob:=by
 cases ob with
 | cells cs =>
   obtain⟨f,cv,T,a1,a2,a3⟩:=h
   exact⟨f,cv,T,d.get a1 (by simp),a2,λk c x hc hx=>(a3 k c x hc hx).def' d⟩
 | map es =>
   obtain⟨mes,clock,a1,a2,a3,a4,a5⟩:=h
   exact⟨mes,clock,d.get a1 (by simp),a2,a3,a4,λi en p hi hp=>⟨(a5 i en p hi hp).1.def' d,(a5 i en p hi hp).2.def' d⟩⟩
 | bld bs =>
   obtain⟨f,p,v,a1,a2,a3⟩:=h
   refine⟨f,p,v,d.get a1 (by simp),a2,?_⟩
   rcases a3 with a3|⟨g,cap,cur,b1,b2,b3,b4,b5⟩
   ·exact .inl a3
   ·exact .inr ⟨g,cap,cur,b1,b2,b3,d.get b4 (by simp),b5⟩
 | siter s pos =>
   obtain⟨f,s',a1,a2⟩:=h
   exact⟨f,s',d.get a1 (by simp),a2⟩
 | gone=>trivial
 | loop ready =>
   obtain⟨f,r,a1,a2⟩:=h
   exact⟨f,r,d.get a1 (by simp),a2⟩
 | over id =>
   obtain⟨f,r,a1,a2⟩:=h
   exact⟨f,r,d.get a1 (by simp),a2⟩
theorem BI.def' {w w':World} {G:GS} {st:St} {a:Act} {vs:List Tmp} {nt:Nat} (h:BI N w G st a vs nt) (d:DefW w w'):BI N w' G st a vs nt:=by
 obtain⟨hf,hs⟩:=h
 refine⟨⟨hf.len,λi t u h1 h2=>(hf.var i t u h1 h2).def' d,λj t u h1 h2=>by simp at h1,hf.tv,hf.tl,hf.defers,hf.gen,by rw[d.size]; exact hf.owlt,by rw[d.size]; exact hf.fixlt,⟨?_,?_⟩,hf.hdom⟩,hs⟩
 ·intro n ob dF
  rcases hf.heap.1 n ob dF with h|⟨b,h1,h2,h3⟩
  ·exact .inl h
  ·exact .inr ⟨b,h1,h2,h3.def' d⟩
 ·refine⟨λt ht=>⟨(hf.heap.2.1 t ht).1,?_⟩,λr hr=>d.shape.1 _ _ (hf.heap.2.2 r hr)⟩
  rw[d.cell]; exact(hf.heap.2.1 t ht).2
theorem IT {fn:Func} {tmps:Array Value} {R:Ending→World→Prop} {u:FrameMode} (hu:u≠.run) {G:GS} {w0:World}:
  ∀ {bs : List Nat} {w : World}, bs.Nodup → (∀ b ∈ bs, w0.heap.size ≤ b ∧ w.heap[b]? = some (.deferred (some [])) ∧ G.ow b = none) →
    (∀w',DefW w w'→(∀b,b<w0.heap.size→w'.heap[b]? = w.heap[b]?)→LeavesIn (W none) 0 P fn tmps R [] u w')→LeavesInM (W none) 0 P fn tmps R (bs.map λb=>{ target := .collected b,args := #[] }) u w
 | [],w,_,_,h=>h w (DefW.refl w) (λ_ _=>rfl)
 | b :: bs, w, hn, hb, h => by
   obtain⟨n1,n2⟩:=cu.1 hn
   obtain⟨k1,k2,k3⟩:=hb b (by simp)
   have cO:b<w.heap.size:=(aX.1 k2).1
   have iA:∀x,x≠b→(w.putObj b (.deferred none)).heap[x]? = w.heap[x]? := λx hx=>World.putObj_heap_other hx
   have hd:DefW w (w.putObj b (.deferred none)):=by
    refine⟨rfl,rfl,rfl,by simp[World.putObj],?_⟩
    intro x
    by_cases hx:x=b
    ·subst hx
     exact .inr ⟨⟨_,k2⟩,none,World.putObj_heap_same cO⟩
    ·exact .inl (iA x hx)
   refine⟨hu,.inl ⟨b,_,rfl,run_takeDeferred k2,?_⟩⟩
   refine IT (w0:=w0) (G:=G) hu n2 ?_ ?_
   ·intro x hx
    have c9:x≠b:=by rintro rfl; exact n1 hx
    obtain⟨j1,j2,j3⟩:=hb x (by simp[hx])
    exact⟨j1,(iA x c9).trans j2,j3⟩
   ·intro w' d2 ee
    refine h w' ?_ ?_
    ·refine⟨d2.os.trans hd.os,d2.tape.trans hd.tape,d2.output.trans hd.output,d2.size.trans hd.size,?_⟩
     intro x
     rcases d2.heap x with e|⟨⟨y,e1⟩,z,e2⟩
     ·rcases hd.heap x with e' | ⟨e1',z,e2'⟩
      ·exact .inl (e.trans e')
      ·exact .inr ⟨e1',z,e.trans e2'⟩
     ·rcases hd.heap x with e' | ⟨e1',_⟩
      ·exact .inr ⟨⟨y,by rw[← e']; exact e1⟩,z,e2⟩
      ·exact .inr ⟨e1',z,e2⟩
    ·intro x hx
     have c9:x≠b:=by omega
     rw[ee x hx,iA x c9]
theorem D5 {w w1 w':World} {G G':GS} {st:St} {a:Act} {vs:List Tmp} {nt:Nat} (he:ExtD w G w1 G') (hb:BI N w1 G' st a vs nt) (d:DefW w1 w') (hs:∀b,b<w.heap.size→w'.heap[b]? = w1.heap[b]?) (vars:List PV) (rs:List PRes):
  Ext w G w' { fix:=(G'.shut (zQ vars rs) st.heap).fix,heap:=G'.heap,box:=λ_=>none,ow:=zC G'.ow,df:=G.df }∧Between N w' { fix:=(G'.shut (zQ vars rs) st.heap).fix,heap:=G'.heap,box:=λ_=>none,ow:=zC G'.ow,df:=G.df } (xj vars rs st.heap):=by
 have dI:=hb.def' d
 have he:Ext w { G with df:=G'.df } w1 G':=he
 refine⟨⟨d.os.trans he.os,d.tape.trans he.tape,d.output.trans he.output,by rw[d.size]; exact he.size,λb cO h=>(hs b cO).trans (he.same b cO h),λb o h=>⟨.inl (he.fix b o h).1,(d.cell b o).trans (he.fix b o h).2⟩,?_,?_,he.heap,he.shape.trans d.shape,rfl⟩,⟨λb k h=>(D6 h).2,λ_=>rfl⟩,?_,λb k h=>dI.fi.owlt b k (D6 h).1,(dI.fi.heap.shut vars rs).sub rfl rfl (λb k hk h=>IU h hk),?_⟩
 ·rintro b o (h|⟨n,_,cs,h1,h2,_⟩)
  ·exact he.newfix b o h
  ·rcases hb.fi.heap.1 n _ h2 with h3|⟨b',k1,k2,_⟩
   ·simp at h3
   rw[h1] at k1; cases k1
   exact .inr (he.own b (by rw[k2]; simp))
 ·intro b h
  refine he.own b ?_
  intro e
  exact h (by simp[zC,e])
 ·rintro b o (h|⟨n,_,cs,h1,h2,_⟩)
  ·exact dI.fi.fixlt b o h
  ·rcases dI.fi.heap.1 n _ h2 with h3|⟨b',k1,k2,_⟩
   ·simp at h3
   rw[h1] at k1; cases k1
   exact dI.fi.owlt b _ k2
 ·rw[Mn]; exact dI.fi.hdom
theorem IV {kp:Bool} {fn:Func} {vs:List Tmp} {nt:Nat} {w:World} {G:GS} {st:St} {a:Act} {rs:List PRes} {r:PV} (hb:BI N w G st a vs nt) (hc:Bh P kp vs fn.results.toList=some rs) (hr:x9 st rs=some r):
  ∃v,(results fn a.tmps).run P w = .ok v w∧VR N w (G.shut (zQ st.vars rs) st.heap).fix (G.shut (zQ st.vars rs) st.heap).heap v r:=by
 simp only[x9,ab] at hr
 obtain⟨us,eT,fl⟩:=hr
 obtain⟨rvals,h1,h2,h3⟩:=Ms (P:=P) (ns:=zQ st.vars rs) hb (λp hp n hn=>Mo hn hp) hc eT
 have hm:results fn a.tmps=(do let vs←fn.results.mapM (E4 a); pure (if h:vs.size=1 then vs[0] else .tuple vs)):=rfl
 rw[hm,Array.mapM_eq_mapM_toList]
 simp only[Sem.run_bind,Sem.run_map]
 rw[h1]
 simp only[Result.andThen_ok,Sem.run_pure]
 subst fl
 cases us with
 | nil =>
   have:rvals=[]:=by simpa using h2
   subst this
   exact⟨.tuple #[],by simp,.tuple #[] _ rfl (by simp)⟩
 | cons u us2 =>
   cases us2 with
   | nil =>
     obtain⟨v,rfl⟩:=List.length_eq_one_iff.1 (by simpa using h2)
     exact⟨v,by simp,h3 0 v u rfl rfl⟩
   | cons u2 us3 =>
     refine⟨.tuple rvals.toArray,?_,.tuple _ _ ?_ ?_⟩
     ·have:¬rvals.toArray.size=1:=by
       intro e
       have e':rvals.length=1:=e
       rw[h2] at e'
       simp at e'
      rw[dif_neg this]
     ·simpa using h2
     ·intro i v p hv hp
      simp only[aB,ab] at hp
      obtain⟨q,hq,rfl⟩:=hp
      exact(h3 i v q (by simpa using hv) hq).dem
theorem c3I {L:Nat→Option PFunc} (hE:EnvOk E N) (hP:E.P=P) (dy:P.follows .mixedOrders=true) (hF:ze N P L) (hL:∀k pf,L k=some pf→FnS E N k pf) {n:Nat} (cL:∀m,m<n→Runs N P L m)
  {k:Nat} {pf:PFunc} {fn:Func} {vs:List Tmp} (mB:FnC E N k pf fn vs) (iy:pf.code.isRound=false) {args:List PV} {o:Out} {h0 h':List PObj} (hc:zN (wB L n) (yU L) pf args h0=some (o,h')) (dt:args.length=pf.params)
  {w:World} {G:GS} {vals:Array Value} (d7:Between N w G h0) (cQ:vals.size=args.length) (cR:∀(i:Nat) (v:Value) (p:PV),vals[i]? = some v→args[i]? = some p→VR N w G.fix G.heap v p):
  Calls P (N.fn k) vals w λe w'=>∃G',AF N w' G' e o∧Ext w G w' G'∧Between N w' G' h':=by
 obtain⟨f1,f2,f3,f4,f5,f6,f7,opt,f8,f8',f9⟩:=mB
 simp only[ab] at f8
 obtain⟨c,fZ,kg⟩:=f8
 rw[hP] at f1
 rw[hP] at f9
 have nu:LpOK (E.opt opt) N fn.ntmps (N.fn k) c:=by
  rcases f8' with h|h
  ·intro ps kb vars hl
   simp only[Env.opt,h] at hl
   simp at hl
  ·exact h c fZ
 let st0:St:={ vars:=args.map dem++List.replicate (pf.nv - pf.params) .dead,locs:=[],gen:=0,heap:=h0 }
 let a0:Act:={ tmps:=vals++Array.replicate (fn.ntmps - vals.size) undef,defers:=[] }
 let G0:GS:={ G with df:=[] }
 have iB:BI N w G0 st0 a0 vs fn.ntmps:=by
  refine⟨⟨?_,?_,(by intro j t u hj; simp at hj),?_,(by intro j t hj; simp at hj),rfl,(by intro g b h; have h:G.box g=some b:=h; rw[d7.only.box] at h; simp at h),d7.owlt,d7.fixlt,d7.heap,d7.hdom⟩,?_⟩
  ·simp only[st0,av,aS,List.length_replicate,f5,dt]; omega
  ·intro i t u h1 h2
   by_cases hi:i<pf.params
   ·have ht:t=i:=by rw[f7 i hi] at h1; simpa using h1.symm
    subst ht
    have hZ:t<args.length:=by rw[dt]; exact hi
    simp only[st0] at h2
    rw[am (by simpa using hZ)] at h2
    simp only[aB,an hZ,az,aa] at h2
    subst h2
    have jX:t<vals.size:=by rw[cQ]; exact hZ
    have eO:a0.eval (.tmp t)=vals[t]:=by
     simp only[a0,Act.eval,aM]
     rw[bo jX]
     simp[jX]
    rw[eO]
    have hv:=cR t vals[t] args[t] (by simp[jX]) (an hZ)
    exact SR.of_pure hv.dem hv.cp_dem
   ·simp only[st0] at h2
    rw[ap (by rw[aS,dt]; omega)] at h2
    rw[cr] at h2
    split at h2
    ·simp at h2; subst h2; trivial
    ·simp at h2
  ·intro i t h1
   have h3:=f4 t (aw h1)
   simp only[a0,bL,cw]
   exact aO h3 ((Nat.sub_le_iff_le_add').1 (aq _))
  ·simp only[a0,bL,cw]
   exact(Nat.sub_le_iff_le_add').1 (aq _)
 have walk:∀(x:PExit) (st':St),wB L n pf.code st0=some (x,st')→(∀a' w' G' e,zz N w' G' x e→BI N w' G' st' a' vs fn.ntmps→ExtD w G w' G'→DfR pf.code x w G0 w' G'→Mt P fn (λe w'=>∃G',AF N w' G' e o∧Ext w G w' G'∧Between N w' G' h') e a' w') →
   Calls P (N.fn k) vals w λe w'=>∃G',AF N w' G' e o∧Ext w G w' G'∧Between N w' G' h':=by
  intro x st' hx hq
  refine Mu f1 fZ ?_
  exact Cx (rd':=none) hF (hE.opt opt) hP dy f3 n cL (by rw[← kg]; exact EX) hx iB nu (.inl rfl) (fun⟨_,_,h⟩=>h) hq
 have marks:∀{x:PExit} {w':World} {G':GS} {st':St} {a':Act} {R:Ending→World→Prop} {u:FrameMode},u≠.run→x.plain=true→BI N w' G' st' a' vs fn.ntmps→DfR pf.code x w G0 w' G' →
   (∀w'',DefW w' w''→(∀b,b<w.heap.size→w''.heap[b]? = w'.heap[b]?)→LeavesIn (W none) 0 P fn a'.tmps R [] u w'')→LeavesInM (W none) 0 P fn a'.tmps R a'.defers u w':=by
  intro x w' G' st' a' R u hu hx hb hd hK
  have key:(∃ms,G'.df=ms++G0.df∧Marks w w' G' ms∧(pf.code.NR=true→ms=[]))→LeavesInM (W none) 0 P fn a'.tmps R a'.defers u w':=by
   rintro⟨ms,h1,⟨bs,rfl,h2,h3⟩,_⟩
   have ja:a'.defers=bs.map λb=>{ target := .collected b,args := #[] }:=by
    rw[hb.fi.defers,h1]; exact aL _
   rw[ja]
   exact IT (G:=G') (w0:=w) hu h2 h3 hK
  cases x with
  | after _ _ _=>simp[PExit.plain] at hx
  | normal=>exact key hd
  | exit _=>exact key hd
  | ret=>exact key hd
  | boom _=>exact key hd
 have fin:∀(x:PExit) (st':St),wB L n pf.code st0=some (x,st')→(x = .normal∨x = .ret)→(x9 st' pf.results).map (λr=>(Out.val r,xj st'.vars pf.results st'.heap))=some (o,h') →
   Calls P (N.fn k) vals w λe w'=>∃G',AF N w' G' e o∧Ext w G w' G'∧Between N w' G' h':=by
  intro x st' hx pZ dl
  simp only[ab,ac] at dl
  obtain⟨r,hr,rfl,rfl⟩:=dl
  refine walk x st' hx ?_
  intro a' w' G' e he cW cH ec
  have hp:x.plain=true:=by rcases pZ with rfl|rfl<;>rfl
  have hL:=marks (R:=λe w'=>∃G',AF N w' G' e (.val r)∧Ext w G w' G'∧Between N w' G' (xj st'.vars pf.results st'.heap)) (u := .returning) (by simp) hp cW ec (by
   intro w'' d ee
   obtain⟨v,jb,jN⟩:=IV (cW.def' d) f9 hr
   obtain⟨l1,l2⟩:=D5 cH cW d ee st'.vars pf.results
   exact⟨v,jb,_,by exact⟨v,rfl,jN⟩,l1,l2⟩)
  rcases pZ with rfl|rfl<;>(simp only[zz] at he; subst he; exact hL)
 unfold zN at hc
 split at hc
 ·rename_i heq; rw[heq] at iy; simp[PC.isRound] at iy
 ·split at hc
  ·rename_i st' hx
   exact fin .normal st' hx (.inl rfl) hc
  ·rename_i st' hx
   exact fin .ret st' hx (.inr rfl) hc
  ·rename_i p st' hx
   simp only[aa,ac] at hc
   obtain⟨rfl,rfl⟩:=hc
   refine walk _ st' hx ?_
   rintro a' w' G' e ⟨v,rfl,hv⟩ cW cH ec
   refine marks (x := .boom p) (by simp) rfl cW ec ?_
   intro w'' d ee
   obtain⟨l1,l2⟩:=D5 cH cW d ee st'.vars []
   exact⟨_,by exact⟨v,rfl,(hv.def' d).shut⟩,l1,l2⟩
  ·rename_i kd caps vo st' hx
   split at hc
   ·simp at hc
   ·rename_i qR
    have qS:pf.code.NR=true:=by simpa using qR
    simp only[ai,ab,ac] at hc
    obtain⟨h1,jV,r,hr,rfl,rfl⟩:=hc
    obtain⟨g,fd,iW,hg,uy⟩:∃g fd,L kd=some fd∧g (vo.getD .nilIface::caps) st'.heap=some h1∧CY N P kd g:=by
     unfold yU at jV
     split at jV
     ·rename_i f hf
      split at jV
      ·rename_i g hg
       have gl:FnF E N kd f:=by
        rcases hL kd f hf with h|⟨y,fn,vs,o,a,b,h⟩
        ·exact h
        ·rw[h.dfr] at hg; simp at hg
       rcases gl.2.2.2 with⟨_,h,_⟩|⟨_,_,_,h,_⟩|⟨g',fd,_,_,h3,h4,h5,h6,h7⟩
       ·rw[h] at hg; simp at hg
       ·rw[h] at hg; simp at hg
       ·rw[hg] at h3
        simp only[aa] at h3
        subst h3
        exact⟨g,f,hf,jV,by rw[← hP]; exact h7⟩
      ·simp at jV
     ·simp at jV
    refine walk _ st' hx ?_
    intro a' w' G' e he cW cH ec
    obtain⟨d1,iC⟩:∃d,G'.df=d::G0.df:=ec qS
    have last:∀(u:FrameMode),Clo N w' G' kd caps→u≠.run→(u = .returning∧vo.getD .nilIface = .nilIface∨∃v,u = .panicking [{ v,recovered:=false }]∧VR N w' G'.fix G'.heap v (vo.getD .nilIface)) →
      LeavesInM (W none) 0 P fn a'.tmps (λe w'=>∃G',AF N w' G' e (.val r)∧Ext w G w' G'∧Between N w' G' (xj st'.vars pf.results h1)) a'.defers u w':=by
     rintro u ⟨d,ds,vals',k1,rfl,k3,k4⟩ hu eU
     have qT:ds=[]:=by
      rw[iC] at k1
      simp only[bx] at k1
      exact k1.2.symm
     subst qT
     have ja:a'.defers=[{ target := .fn (.func (N.fn kd)) vals',args := #[] }]:=by rw[cW.fi.defers,k1]
     rw[ja]
     have jK:(invoke (.fn (.func (N.fn kd)) vals') #[]).run P w' = .ok (.enter (N.fn kd) vals') w':=by
      simp only[invoke,Array.empty_append]
      exact Cy hF iW _ _
     refine⟨hu,.inr ⟨D7,_,_,_,_,rfl,jK,λ_ _=>AE _,?_⟩⟩
     refine(uy _ _ _ _ hg w' G'.callee vals' (DY cW.fi) k3 k4 u eU).mono ?_
     rintro e u' w'' ⟨⟨v,rfl⟩,wV,G2,qU,dI⟩
     obtain⟨G3,kh,uz,_,_⟩:=GC cW.fi qU dI
     have jY:BI N w'' G3 { st' with heap:=h1 } a' vs fn.ntmps:=⟨uz,cW.size⟩
     simp only[wV]
     obtain⟨v2,jb,jN⟩:=IV jY f9 hr
     obtain⟨l1,l2⟩:=D5 (ExtD.trans cH (.of kh)) jY (DefW.refl _) (λ_ _=>rfl) st'.vars pf.results
     exact⟨v2,jb,_,by exact⟨v2,rfl,jN⟩,l1,l2⟩
    cases vo with
    | none =>
      obtain⟨he,i7⟩:=he
      have:=last .returning i7 (by simp) (.inl ⟨rfl,rfl⟩)
      rcases he with rfl|rfl<;>exact this
    | some p =>
      obtain⟨⟨v,rfl,hv⟩,i7⟩:=he
      exact last _ i7 (by simp) (.inr ⟨v,rfl,hv⟩)
  ·simp at hc
theorem c3J {kp:Bool} {fn:Func} {vs:List Tmp} {nt:Nat} {w:World} {G:GS} {st:St} {a:Act} {rs:List PRes} {es:List PV} {v:Value} (hb:BI N w G st a vs nt) (hc:Bh P kp vs fn.results.toList=some rs) (hr:x9 st rs=some (.list true es))
  (hv:(results fn a.tmps).run P w = .ok v w):∃i,Room w G (.var i) v es:=by
 simp only[x9,ab] at hr
 obtain⟨us,eT,fl⟩:=hr
 have mC:us=[.list true es]:=by
  cases us with
  | nil=>simp at fl
  | cons u us => cases us with
    | nil=>simp at fl; subst fl; rfl
    | cons _ _=>simp at fl
 subst mC
 cases rs with
 | nil=>simp[AC] at eT
 | cons p ps =>
   simp only[AC,ai,ab] at eT
   obtain⟨u,hp,us',d9,he⟩:=eT
   simp only[bx] at he
   obtain⟨rfl,rfl⟩:=he
   have qV:ps=[]:=by
    cases ps with
    | nil=>rfl
    | cons q qs =>
      simp only[AC,ai,ab] at d9
      obtain⟨_,_,_,_,h⟩:=d9
      simp at h
   subst qV
   cases hl:fn.results.toList with
   | nil=>rw[hl] at hc; simp[Bh] at hc
   | cons r0 rl =>
     rw[hl] at hc
     simp only[Bh,ai,ab] at hc
     obtain⟨q,hq,qs,jW,he⟩:=hc
     simp only[bx] at he
     obtain⟨rfl,rfl⟩:=he
     have mD:rl=[]:=by
      cases rl with
      | nil=>rfl
      | cons x xs =>
        simp only[Bh,ai,ab] at jW
        obtain⟨_,_,_,_,h⟩:=jW
        simp at h
     subst mD
     have noList:∀{x:Option PV},x.bind cp=some (.list true es)→False:=by
      intro x h
      cases x with
      | none=>simp at h
      | some y=>cases y<;>simp[cp] at h
     have qW:∃i,q = .var i∧st.vars[i]? = some (.list true es):=by
      cases q with
      | keep i=>simp only[As] at hp; exact(noList hp).elim
      | cell i size agg =>
        have noLoad:∀{size agg cs off},wD size agg cs off=some (.list true es)→False:=by
         intro size agg cs off h
         unfold wD at h
         split at h
         ·split at h<;>simp at h
         ·split at h
          ·rename_i y _; cases y<;>simp[cp] at h
          ·simp at h
        simp only[As] at hp
        split at hp
        ·simp only[ai] at hp
         obtain⟨y,hy,hf⟩:=hp
         have:y = .list true es:=by
          cases y<;>simp[ym] at hf
          simp[hf]
         subst this
         exact(noLoad hy).elim
        ·simp only[ai] at hp
         obtain⟨cs,_,hy⟩:=hp
         exact(noLoad hy).elim
        ·simp at hp
      | var i =>
        refine⟨i,rfl,?_⟩
        simp only[As,ai] at hp
        obtain⟨x,hx,gZ⟩:=hp
        split at gZ
        ·simp at gZ; subst gZ; exact hx
        ·split at gZ
         ·simp only[ai,ab] at gZ
          obtain⟨_,_,_,_,h⟩:=gZ
          simp at h
         ·simp at gZ
        ·simp at gZ
        ·exact(noList (x:=some _) (by simpa using gZ)).elim
     obtain⟨i,rfl,hi⟩:=qW
     cases r0 with
     | cell t ty =>
       simp only[D4,ai,ab] at hq
       obtain⟨_,_,_,_,h⟩:=hq
       simp at h
     | tmp t =>
       simp only[D4,ab] at hq
       obtain⟨i',jZ,fG⟩:=hq
       obtain⟨_,dS⟩:=CB jZ
       have:i'=i:=by cases kp<;>simp at fG; exact fG
       subst this
       have hs:=hb.fi.var i' t _ (by simpa using dS) hi
       have dl:fn.results = #[.tmp t]:=by
        have:=aH List.toArray hl
        simpa using this
       have p5:v=a.eval (.tmp t):=by
        simp[results,dl] at hv
        simp[Act.eval]
        exact hv.symm
       rw[p5]
       exact⟨i',hs.2⟩
theorem c1H {L:Nat→Option PFunc} (hE:EnvOk E N) (hP:E.P=P) (dy:P.follows .mixedOrders=true) (hF:ze N P L) {n:Nat} (cL:∀m,m<n→Runs N P L m)
  {k:Nat} {pf:PFunc} {fn:Func} {vs:List Tmp} (mB:FnC E N k pf fn vs) {own:Option Nat} {args:List PV} {r:PV} {h':List PObj} (hc:zO (wB L n) pf own args []=some (r,h')) (dt:args.length=pf.params)
  {w:World} {G:GS} {vals:Array Value} (dO:OwnIn N w G own args vals):
  Calls P (N.fn k) vals w λe w'=>∃v G',e = .returned v∧VR N w' G'.fix G'.heap v r∧Ext w G w' G'∧(∀b o,G'.fix b o→b<w'.heap.size)∧∀es,r = .list true es→Dk w G w' G' v es:=by
 obtain⟨f1,f2,f3,f4,f5,f6,f7,opt,f8,f8',f9⟩:=mB
 simp only[ab] at f8
 obtain⟨c,fZ,kg⟩:=f8
 rw[hP] at f1
 rw[hP] at f9
 have nu:LpOK (E.opt opt) N fn.ntmps (N.fn k) c:=by
  rcases f8' with h|h
  ·intro ps kb vars hl
   simp only[Env.opt,h] at hl
   simp at hl
  ·exact h c fZ
 have oc:(BD own args).length=args.length:=by cases own<;>simp[BD]
 let st0:St:={ vars:=BD own args++List.replicate (pf.nv - pf.params) .dead,locs:=[],gen:=0,heap:=[] }
 let a0:Act:={ tmps:=vals++Array.replicate (fn.ntmps - vals.size) undef,defers:=[] }
 let G0:GS:={ G with df:=[] }
 have iB:BI N w G0 st0 a0 vs fn.ntmps:=by
  refine⟨⟨?_,?_,(by intro j t u hj; simp at hj),?_,(by intro j t hj; simp at hj),rfl,(by intro g b h; have h:G.box g=some b:=h; rw[dO.box] at h; simp at h),dO.owlt,dO.fixlt,⟨by intro n ob h; simp[st0] at h,dO.tab⟩,(by intro n b h; have h:G.heap n=some b:=h; rw[dO.heap] at h; simp at h)⟩,?_⟩
  ·simp only[st0,av,oc,List.length_replicate,f5,dt]; omega
  ·intro i t u h1 h2
   by_cases hi:i<pf.params
   ·have ht:t=i:=by rw[f7 i hi] at h1; simpa using h1.symm
    subst ht
    have hZ:t<args.length:=by rw[dt]; exact hi
    simp only[st0] at h2
    rw[am (by rw[oc]; exact hZ)] at h2
    have jX:t<vals.size:=by rw[dO.size]; exact hZ
    have eO:a0.eval (.tmp t)=vals[t]:=by
     simp only[a0,Act.eval,aM]
     rw[bo jX]
     simp[jX]
    rw[eO]
    have hv:=dO.vr t vals[t] args[t] (by simp[jX]) (an hZ)
    have plain:u=dem args[t]→SR N w G0 (.var t) vals[t] u:=by
     rintro rfl
     exact SR.of_pure hv.dem hv.cp_dem
    cases own with
    | none =>
      refine plain ?_
      simp only[BD,aB,an hZ,az,aa] at h2
      exact h2.symm
    | some i =>
      simp only[BD,aJ,aS] at h2
      split at h2
      ·rename_i uA
       subst uA
       rw[ah hZ] at h2
       simp only[cF,an hZ,bJ,aa] at h2
       subst h2
       rcases hv.cp_or with h|⟨es,h⟩
       ·exact SR.of_pure hv h
       ·rw[h] at hv ⊢
        exact⟨hv,dO.room i vals[i] es rfl (by simp[jX]) (by rw[an hZ,h])⟩
      ·refine plain ?_
       simp only[aB,an hZ,az,aa] at h2
       exact h2.symm
   ·simp only[st0] at h2
    rw[ap (by rw[oc,dt]; omega)] at h2
    rw[cr] at h2
    split at h2
    ·simp at h2; subst h2; trivial
    ·simp at h2
  ·intro i t h1
   have h3:=f4 t (aw h1)
   simp only[a0,bL,cw]
   exact aO h3 ((Nat.sub_le_iff_le_add').1 (aq _))
  ·simp only[a0,bL,cw]
   exact(Nat.sub_le_iff_le_add').1 (aq _)
 have fin:∀(x:PExit) (st':St),wB L n pf.code st0=some (x,st')→(x = .normal∨x = .ret)→(x9 st' pf.results).map (λr=>(r,xj st'.vars pf.results st'.heap))=some (r,h') →
   Calls P (N.fn k) vals w λe w'=>∃v G',e = .returned v∧VR N w' G'.fix G'.heap v r∧Ext w G w' G'∧(∀b o,G'.fix b o→b<w'.heap.size)∧∀es,r = .list true es→Dk w G w' G' v es:=by
  intro x st' hx pZ dl
  simp only[ab,ac] at dl
  obtain⟨r,hr,rfl,rfl⟩:=dl
  refine Mu f1 fZ ?_
  refine Cx (rd':=none) hF (hE.opt opt) hP dy f3 n cL (by rw[← kg]; exact EX) hx iB nu (.inl rfl) (fun⟨_,_,h⟩=>h) ?_
  intro a' w' G' e he cW cH ec
  have cH:ExtD w G w' G':=cH
  have key:(∃ms,G'.df=ms++G0.df∧Marks w w' G' ms∧(pf.code.NR=true→ms=[]))→LeavesInM (W none) 0 P fn a'.tmps (λe w'=>∃v G',e = .returned v∧VR N w' G'.fix G'.heap v r∧Ext w G w' G'∧(∀b o,G'.fix b o→b<w'.heap.size)∧∀es,r = .list true es→Dk w G w' G' v es) a'.defers .returning w':=by
   rintro⟨ms,h1,⟨bs,rfl,h2,h3⟩,_⟩
   have ja:a'.defers=bs.map λb=>{ target := .collected b,args := #[] }:=by
    rw[cW.fi.defers,h1]; exact aL _
   rw[ja]
   refine IT (G:=G') (w0:=w) (by simp) h2 h3 ?_
   intro w'' d ee
   obtain⟨v,jb,jN⟩:=IV (cW.def' d) f9 hr
   obtain⟨l1,l2⟩:=D5 cH cW d ee st'.vars pf.results
   refine⟨v,jb,v,{ fix:=(G'.shut (zQ st'.vars pf.results) st'.heap).fix,heap:=G'.heap,box:=λ_=>none,ow:=zC G'.ow,df:=G.df },rfl,jN,l1,l2.fixlt,?_⟩
   rintro es rfl
   obtain⟨i,hi⟩:=c3J (cW.def' d) f9 hr jb
   unfold Dk
   unfold Room at hi
   split at hi
   ·rename_i a1 len cap
    rcases hi with hi|⟨i1,sz,cs,T,i2,i3,i4,i5,i6⟩
    ·exact .inl hi
    ·refine .inr ⟨?_,sz,cs,T,i2,i3,i4,i5,?_⟩
     ·exact cH.own a1.block (by rw[i1]; simp)
     ·rintro o ho (h|⟨m,hm,cs',j1,j2,_⟩)
      ·exact i6 o ho h
      ·rcases cW.fi.heap.1 m _ j2 with h3|⟨b',k1,k2,_⟩
       ·simp at h3
       ·rw[j1] at k1
        simp only[aa] at k1
        subst k1
        rw[i1] at k2
        simp at k2
   ·rename_i c9
    split
    ·rename_i a1 len cap; exact absurd rfl (c9 _ _ _)
    ·trivial
  rcases pZ with rfl|rfl<;>(simp only[zz] at he; subst he; exact key ec)
 unfold zO at hc
 split at hc
 ·simp at hc
 ·split at hc
  ·rename_i st' hx
   exact fin .normal st' hx (.inl rfl) hc
  ·rename_i st' hx
   exact fin .ret st' hx (.inr rfl) hc
  ·simp at hc
theorem Mv:∀(ps:List (Tmp×Value)) (a:Array Value),(ps.foldl (λtmps x=>tmps.setIfInBounds x.1 x.2) a).size=a.size∧(∀t,t∉ps.map (·.1)→(ps.foldl (λtmps x=>tmps.setIfInBounds x.1 x.2) a).getD t undef=a.getD t undef) ∧
  ((ps.map (·.1)).Nodup→∀x∈ps,x.1<a.size→(ps.foldl (λtmps x=>tmps.setIfInBounds x.1 x.2) a).getD x.1 undef=x.2)
 | [],a=>⟨rfl,λ_ _=>rfl,by simp⟩
 | (t0, v0) :: ps, a => by
   obtain⟨h1,h2,h3⟩:=Mv ps (a.setIfInBounds t0 v0)
   simp only[List.foldl_cons,aG,aA,not_or,cu]
   refine⟨by rw[h1]; simp,?_,?_⟩
   ·rintro t ⟨n1,n2⟩
    rw[h2 t n2]
    simp only[aM,aY]
    rw[af (λe=>n1 e.symm)]
   ·rintro⟨n1,n2⟩ x (rfl|hx) cO
    ·rw[h2 _ n1]
     simp only[aM,aY,if_true]
     simp[cO]
    ·exact h3 n2 x hx (by simpa using cO)
theorem b8F {L:Nat→Option PFunc} (hE:EnvOk E N) (hP:E.P=P) (dy:P.follows .mixedOrders=true) (hF:ze N P L) {n:Nat} (cL:∀m,m<n→Runs N P L m)
  {k:Nat} {pf:PFunc} {y:YL} {fn:Func} {vs:List Tmp} {opt:Opts} {ca cb:PC} (hR:RdC E N k pf y fn vs opt ca cb) {n0 l:Nat} {caps args:List PV} {o:Out} {h0 h':List PObj}
  (hc:B2 (wB L n) pf.nv ca cb (.ptr n0 0::caps++args) h0=some (o,h')) (dt:(PV.ptr n0 0::caps++args).length=1+(y.vars.length+y.params.size))
  {w:World} {G:GS} {vals:Array Value} (d7:Between N w G h0) (hy:VR N w G.fix G.heap (.func (.yield l) #[] #[]) (.func k (.ptr n0 0::caps) [])) (cQ:vals.size=args.length)
  (cR:∀(i:Nat) (v:Value) (p:PV),vals[i]? = some v→args[i]? = some p→VR N w G.fix G.heap v p):
  ∃tmps',(Instr.yield l vals).run P w = .ok (.round l y.fn tmps' y.assign y.body) w∧∀r n',RoundIn (W r) n' P l y.fn tmps' y.assign y.body w λe w'=>∃G',AF N w' G' e o∧Ext w G w' G'∧Between N w' G' h':=by
 have eB:P.funcs[y.fn]? = some fn:=by rw[← hP]; exact hR.inP
 generalize lS:Value.func (.yield l) #[] #[]=xv at hy
 generalize gZ:PV.func k (.ptr n0 0::caps) []=xp at hy
 cases hy with
 | yield k' n' l' y' tmps caps' q0 ql qr qlen qsz qc =>
   simp only[PV.func.injEq,bx,PV.ptr.injEq] at gZ
   obtain⟨rfl,⟨⟨rfl,_⟩,rfl⟩,_⟩:=gZ
   simp only[Value.func.injEq,Fn.yield.injEq] at lS
   obtain⟨rfl,_⟩:=lS
   have:y'=y:=by have:=hR.yl; rw[q0] at this; simpa using this
   subst this
   obtain⟨r0,p6,e1,e2,e3,e4,e5⟩:∃r0:Go.Loop,w.heap[l]? = some (.loop r0)∧r0.fn=y'.fn∧r0.tmps=tmps∧r0.params=y'.params∧r0.assign=y'.assign∧r0.body=y'.body:=by
    unfold zk at qr
    split at qr
    ·rename_i r0 h
     simp only[aa,ac] at qr
     exact⟨r0,h,qr⟩
    ·simp at qr
   have p7:args.length=y'.params.size:=by simp at dt; omega
   have oe:=run_yield (P:=P) (args:=vals) p6 (by rw[cQ,e3]; exact p7)
   rw[e1,e4,e5,e2,e3] at oe
   refine⟨_,oe,?_⟩
   intro r n'
   have eC:(y'.params.zip vals).foldl (λtmps x=>tmps.setIfInBounds x.1 x.2) tmps=(y'.params.toList.zip vals.toList).foldl (λtmps x=>tmps.setIfInBounds x.1 x.2) tmps:=by
    rw[← Array.foldl_toList,Array.toList_zip]
   obtain⟨z1,z2,z3⟩:=Mv (y'.params.toList.zip vals.toList) tmps
   have qX:(y'.params.toList.zip vals.toList).map (·.1)=y'.params.toList:=by
    rw[List.map_fst_zip]; simp; omega
   rw[qX] at z2 z3
   have qY:(y'.vars++y'.params.toList).Nodup:=by rw[← hR.head]; exact hR.nd.sublist (List.take_sublist _ _)
   obtain⟨_,nd2,nd3⟩:=cy.1 qY
   have dp:y'.vars.length+y'.params.size≤vs.length:=by
    have:=aH List.length hR.head
    simp at this; omega
   generalize s8:(y'.params.zip vals).foldl (λtmps x=>tmps.setIfInBounds x.1 x.2) tmps=tmps'
   rw[eC] at s8
   rw[s8] at z1 z2 z3
   have p5:∀i,i<y'.vars.length+y'.params.size→vs[i]? = (y'.vars++y'.params.toList)[i]? := by
    intro i hi
    rw[← hR.head,aQ,ah hi]
   let st0:St:={ vars:=(caps++args).map dem++List.replicate (pf.nv - (caps++args).length) .dead,locs:=[],gen:=0,heap:=h0 }
   let a0:Act:={ tmps:=tmps',defers:=[] }
   let G0:GS:={ G with df:=[] }
   have mE:(caps++args).length=y'.vars.length+y'.params.size:=by simp; omega
   have iB:BI N w G0 st0 a0 vs y'.nt:=by
    refine⟨⟨?_,?_,(by intro j t u hj; simp at hj),?_,(by intro j t hj; simp at hj),rfl,(by intro g b h; have h:G.box g=some b:=h; rw[d7.only.box] at h; simp at h),d7.owlt,d7.fixlt,d7.heap,d7.hdom⟩,?_⟩
    ·have:=hR.len
     simp only[st0,av,aS,List.length_replicate] at mE ⊢
     omega
    ·intro i t u h1 h2
     by_cases hi:i<(caps++args).length
     ·rw[p5 i (by omega)] at h1
      simp only[st0] at h2
      rw[am (by simpa using hi)] at h2
      simp only[aB,an hi,az,aa] at h2
      subst h2
      have eh:VR N w G.fix G.heap (tmps'.getD t undef) (caps++args)[i]:=by
       by_cases dS:i<y'.vars.length
       ·rw[am dS] at h1
        have s9:i<caps.length:=by omega
        have hq:=qc i t caps[i] h1 (by simp[s9])
        have ki:t∉y'.params.toList:=λhm=>nd3 t (aw h1) t hm rfl
        rw[z2 t ki]
        rw[List.getElem_append_left s9]
        exact hq
       ·rw[ap (by omega)] at h1
        have uB:i - caps.length<args.length:=by rw[av] at hi; omega
        have ta:i - caps.length<vals.size:=by omega
        rw[List.getElem_append_right (by omega)]
        have oh:y'.params.toList[i - caps.length]? = some t:=by rw[qlen]; exact h1
        have eI:(t,vals[i - caps.length])∈y'.params.toList.zip vals.toList:=by
         refine be.2 ⟨i - caps.length,?_⟩
         rw[List.getElem?_zip_eq_some]
         exact⟨oh,by simp[ta]⟩
        have jy:t<tmps.size:=by
         have hm:t∈vs:=by
          have h3:=p5 i (by omega)
          rw[ap (by omega)] at h3
          rw[h1] at h3
          exact aw h3
         exact aO (hR.lt t hm) qsz
        rw[z3 nd2 _ eI jy]
        exact cR (i - caps.length) _ _ (by simp[ta]) (by simp[uB])
      have eO:a0.eval (.tmp t)=tmps'.getD t undef:=rfl
      rw[eO]
      exact SR.of_pure eh.dem eh.cp_dem
     ·simp only[st0] at h2
      rw[ap (by simpa using hi)] at h2
      rw[cr] at h2
      split at h2
      ·simp at h2; subst h2; trivial
      ·simp at h2
    ·intro i t h1
     have:=hR.lt t (aw h1)
     show t<tmps'.size
     rw[z1]; exact aO this qsz
    ·show y'.nt≤tmps'.size
     rw[z1]; exact qsz
   have nu:∀c,LpOK (E.opt opt) N y'.nt y'.fn c:=by
    intro c ps kb vars hl
    simp only[Env.opt,hR.lps] at hl
    simp at hl
   have rec1:∀{w':World} {G':GS} {st:St} {a:Act} {ready:Bool},ExtD w G0 w' G'→BI N w' G' st a vs y'.nt→st.heap[n0]? = some (.loop ready) →
     ∃r1:Go.Loop,G'.heap n0=some l∧G'.ow l=some (.hobj n0)∧(∀o,¬G'.fix l o)∧w'.heap[l]? = some (.loop r1)∧r1.pending=none∧r1.state=(if ready then .ready else .busy):=by
    intro w' G' st a ready cH hb hl
    rcases hb.fi.heap.1 n0 _ hl with h|⟨b,k1,k2,k3,r1,k4,k5⟩
    ·simp at h
    ·have:b=l:=by
      have:=Ext.heap cH n0 l ql
      rw[k1] at this; simpa using this
     subst this
     exact⟨r1,k1,k2,k3,k4,k5⟩
   have turn:∀{w':World} {G':GS} {st:St} {a:Act} {ob:PObj} {r1 r2:Go.Loop},ExtD w G0 w' G'→BI N w' G' st a vs y'.nt→G'.heap n0=some l→G'.ow l=some (.hobj n0)→(∀o,¬G'.fix l o)→w'.heap[l]? = some (.loop r1) →
     (r2.fn,r2.tmps,r2.params,r2.assign,r2.body)=(r1.fn,r1.tmps,r1.params,r1.assign,r1.body)→ObjR N (w'.putObj l (.loop r2)) G' n0 l ob→ExtD w G0 (w'.putObj l (.loop r2)) G'∧BI N (w'.putObj l (.loop r2)) G' (wV st n0 ob) a vs y'.nt:=by
    intro w' G' st a ob r1 r2 cH hb k1 k2 k3 k4 d8 dF
    have cO:l<w'.heap.size:=(aX.1 k4).1
    obtain⟨x1,x2⟩:=Mf (ob':=ob) (mob := .loop r2) hb.fi k1 k2 k3 (by simp[World.shape?,k4]) (by
     intro s hs
     simp only[zk,k4] at hs
     simp only[zk,aY,cO,if_true]
     simp only[aa] at hs ⊢
     rw[d8]; exact hs) (.inr dF)
    exact⟨cH.trans (.of x1),⟨x2,hb.size⟩⟩
   have hobj:∀{w':World} {G':GS} {r1 r2:Go.Loop},w'.heap[l]? = some (.loop r1)→(w'.putObj l (.loop r2)).heap[l]? = some (.loop r2):=by
    intro w' G' r1 r2 k4
    exact World.putObj_heap_same (aX.1 k4).1
   have nr:∀{p:PC},p.RO=true→p.NR=true:=by
    intro p
    induction p<;>simp_all [PC.RO,PC.NR]
   have last:∀{w':World} {G':GS} {st:St} {a:Act} {e:Ending},ExtD w G0 w' G'→BI N w' G' st a vs y'.nt→(∀G2,G2.heap=G'.heap→(∀b o,G'.fix b o→G2.fix b o)→AF N w' G2 e o)→st.heap=h'→∃G',AF N w' G' e o∧Ext w G w' G'∧Between N w' G' h':=by
    intro w' G' st a e cH hb ho hh
    obtain⟨l1,l2⟩:=D5 (w:=w) (G:=G) cH hb (DefW.refl w') (λ_ _=>rfl) st.vars []
    refine⟨{ fix:=(G'.shut (zQ st.vars []) st.heap).fix,heap:=G'.heap,box:=λ_=>none,ow:=zC G'.ow,df:=G.df },ho _ rfl (λb o h=>Or.inl h),l1,?_⟩
    rw[← hh]; exact l2
   refine d1P eB ?_
   unfold B2 at hc
   simp only[aW] at hc
   split at hc
   ·rename_i st1 jz kj
    refine Cx (rd':=some l) hF (hE.opt opt) hP dy hR.nd n cL (by rw[← hR.ca]; exact EX) kj iB (nu _) (.inr hR.ra) (fun⟨_,_,h⟩=>h) ?_
    intro a1 w1 G1 e he eJ dW jV
    simp only[zz] at he
    subst he
    have body:∀{x:PExit} {st2:St},st1.heap[n0]? = some (.loop true)→wB L n cb (wV st1 n0 (.loop false))=some (x,st2) →
      (∀a2 w2 G2 e2,zz N w2 G2 x e2→BI N w2 G2 st2 a2 vs y'.nt→ExtD w G0 w2 G2→(G2.df=[])→IW P l (λe w'=>∃G',AF N w' G' e o∧Ext w G w' G'∧Between N w' G' h') e2 a2 w2) →
      ∃w2,(Instr.beginRound l).run P w1 = .ok () w2∧wpN (some l) y'.fn P y'.body (IW P l (λe w'=>∃G',AF N w' G' e o∧Ext w G w' G'∧Between N w' G' h')) a1 w2:=by
     intro x st2 eb gn hq
     obtain⟨r1,k1,k2,k3,k4,k5,k6⟩:=rec1 dW eJ eb
     refine⟨_,run_beginRound k4 (by rw[k6]; rfl),?_⟩
     obtain⟨t1,t2⟩:=turn (ob := .loop false) (r2:={ r1 with state := .busy }) dW eJ k1 k2 k3 k4 rfl ⟨k3,_,hobj (G':=G1) k4,k5,rfl⟩
     refine Cx (rd':=some l) hF (hE.opt opt) hP dy hR.nd n cL (by rw[← hR.cb]; exact EX) gn t2 (nu _) (.inr hR.rb) (fun⟨_,_,h⟩=>h) ?_
     intro a2 w2 G2 e2 h1 h2 h3 h4
     have hd:G2.df=[]:=by
      have d1:G1.df=[]:=by
       obtain⟨ms,m1,_,m3⟩:=jV
       rw[m1,m3 (nr hR.ra)]; rfl
      have d2:(∃ms,G2.df=ms++G1.df∧Marks (w1.putObj l (.loop { r1 with state := .busy })) w2 G2 ms∧(cb.NR=true→ms=[]))∨∃d,G2.df=d::G1.df:=by
       unfold DfR at h4
       cases x with
       | after kd cs v=>exact .inr (h4 (nr hR.rb))
       | _=>exact .inl h4
      rcases d2 with⟨ms,m1,_,m3⟩|⟨d,hd⟩
      ·rw[m1,m3 (nr hR.rb),d1]; rfl
      ·exfalso
       cases x with
       | after kd cs v=>exact B3 hR.rb gn
       | _ =>
         obtain⟨ms,m1,_,m3⟩:=h4
         rw[m1,m3 (nr hR.rb)] at hd
         simp at hd
     exact hq a2 w2 G2 e2 h1 h2 (t1.trans h3) hd
    split at hc
    ·rename_i st2 eb gn
     split at hc
     ·rename_i ei
      simp only[aa,ac] at hc
      obtain⟨rfl,rfl⟩:=hc
      refine body eb gn ?_
      intro a2 w2 G2 e2 h1 h2 h3 _
      simp only[zz] at h1
      subst h1
      obtain⟨r2,k1,k2,k3,k4,k5,k6⟩:=rec1 h3 h2 ei
      refine⟨_,_,run_endRound none k4,?_⟩
      obtain⟨t1,t2⟩:=turn (ob := .loop true) (r2:={ r2 with state:=if (none:Option Code).isNone then .ready else .done,pending:=none }) h3 h2 k1 k2 k3 k4 rfl ⟨k3,_,hobj (G':=G2) k4,rfl,rfl⟩
      exact last t1 t2 (λG3 _ _=>⟨_,rfl,.bool true⟩) rfl
     ·simp at hc
    ·rename_i v st2 eb gn
     simp only[aa,ac] at hc
     obtain⟨rfl,rfl⟩:=hc
     refine body eb gn ?_
     rintro a2 w2 G2 e2 ⟨v',rfl,hv⟩ h2 h3 h4
     refine⟨by rw[h2.fi.defers]; exact h4,?_⟩
     exact last h3 h2 (λG3 g1 g2=>⟨v',rfl,by rw[g1]; exact hv.mono (λb o hf=>⟨g2 b o hf,rfl⟩) (λ_ _ h=>h) (ShapeLe.refl _)⟩) rfl
    ·rename_i id st2 eb gn
     split at hc
     ·rename_i ei
      simp only[aa,ac] at hc
      obtain⟨rfl,rfl⟩:=hc
      refine body eb gn ?_
      intro a2 w2 G2 e2 h1 h2 h3 _
      simp only[zz] at h1
      subst h1
      obtain⟨r2,k1,k2,k3,k4,k5,k6⟩:=rec1 h3 h2 ei
      refine⟨_,_,run_endRound (some (.exit id)) k4,?_⟩
      obtain⟨t1,t2⟩:=turn (ob := .over (some id)) (r2:={ r2 with state:=if (some (Code.exit id)).isNone then .ready else .done,pending:=some (.exit id) }) h3 h2 k1 k2 k3 k4 rfl ⟨k3,_,hobj (G':=G2) k4,rfl,rfl⟩
      exact last t1 t2 (λG3 _ _=>⟨_,rfl,.bool false⟩) rfl
     ·simp at hc
    ·rename_i st2 eb gn
     split at hc
     ·rename_i ei
      simp only[aa,ac] at hc
      obtain⟨rfl,rfl⟩:=hc
      refine body eb gn ?_
      intro a2 w2 G2 e2 h1 h2 h3 _
      simp only[zz] at h1
      subst h1
      obtain⟨r2,k1,k2,k3,k4,k5,k6⟩:=rec1 h3 h2 ei
      refine⟨_,_,run_endRound (some .ret) k4,?_⟩
      obtain⟨t1,t2⟩:=turn (ob := .over none) (r2:={ r2 with state:=if (some Code.ret).isNone then .ready else .done,pending:=some .ret }) h3 h2 k1 k2 k3 k4 rfl ⟨k3,_,hobj (G':=G2) k4,rfl,rfl⟩
      exact last t1 t2 (λG3 _ _=>⟨_,rfl,.bool false⟩) rfl
     ·simp at hc
    ·simp at hc
   ·simp at hc
 | _=>simp at lS
theorem b61 {ex:PC→St→Option (PExit×St)} {f:PFunc} {args:List PV} {h:List PObj} {r} (hc:AY ex f args h=some r):∃rest,args = .dead::rest:=by
 unfold AY at hc
 split at hc
 ·exact⟨_,rfl⟩
 ·cases hc
theorem Mw {ex:PC→St→Option (PExit×St)} {f:PFunc} {args:List PV} {h:List PObj} {r} (hc:AY ex f args h=some r):f.code.isRound=false:=by
 unfold AY at hc
 have one:∀{o:Option Nat} {args:List PV},zO ex f o args h=some r→f.code.isRound=false:=by
  intro o args hr
  unfold zO at hr
  split at hr
  ·simp at hr
  ·rename_i hn; simpa using hn
 split at hc
 ·split at hc
  ·split at hc
   ·split at hc
    ·exact one (BG.1 hc).1
    ·exact one hc
   ·simp at hc
  ·simp at hc
 ·simp at hc
theorem c0f {L:Nat→Option PFunc} (hE:EnvOk E N) (hP:E.P=P) (dy:P.follows .mixedOrders=true) (hL:∀k pf,L k=some pf→FnS E N k pf):∀n,Runs N P L n:=by
 have hF:ze N P L:=by
  intro k pf hk
  rcases hL k pf hk with hL|⟨y,fn,vs,o,a,b,h⟩
  rcases hL.2.2.2 with⟨_,_,fn,vs,h1,h2,_,_,_,_,_,_,h3,_⟩|⟨g,fn,_,_,h1,h2,h3,_⟩|⟨g,fn,_,_,_,h1,h2,h3,_⟩
  ·refine⟨fn,by rw[← hP]; exact h1,h2,?_⟩
   cases hb:fn.body with
   | none=>rw[hb] at h3; simp at h3
   | some c=>rfl
  ·exact⟨fn,by rw[← hP]; exact h1,h2,h3⟩
  ·exact⟨fn,by rw[← hP]; exact h1,h2,h3⟩
  ·exact⟨fn,by rw[← hP,h.no]; exact h.inP,h.name,h.body⟩
 intro n
 induction n using Nat.strongRecOn with
 | _ n ihn =>
   have prim:∀{k:Nat} {pf:PFunc} {g} {args:List PV} {r:PV} {h0 h':List PObj},L k=some pf→pf.prim=some g→g (args.map dem) h0=some (r,h')→∀(w:World) (G:GS) (vals:Array Value),Between N w G h0→vals.size=args.length →
     (∀(i:Nat) (v:Value) (p:PV),vals[i]? = some v→args[i]? = some p→VR N w G.fix G.heap v p) →
     Calls P (N.fn k) vals w λe w'=>∃v G',e = .returned v∧VR N w' G'.fix G'.heap v r∧Ext w G w' G'∧Between N w' G' h':=by
    intro k pf g args r h0 h' ia fN hc w G vals d7 cQ cR
    have gl:FnF E N k pf:=by
     rcases hL k pf ia with h|⟨y,fn,vs,o,a,b,h⟩
     ·exact h
     ·rw[h.prim] at fN; simp at fN
    rcases gl.2.2.2 with⟨h,_⟩|⟨g',fn,h,_,_,_,_,lT⟩|⟨_,_,h,_⟩
    ·rw[h] at fN; simp at fN
    ·rw[h] at fN
     simp only[aa] at fN
     subst fN
     rw[hP] at lT
     refine lT (args.map dem) r h0 h' hc w G vals d7 (by simpa using cQ) ?_
     intro i v p hv hp
     simp only[aB,ab] at hp
     obtain⟨q,hq,rfl⟩:=hp
     exact(cR i v q hv hq).dem
    ·rw[h] at fN; simp at fN
   have code:∀{k:Nat} {pf:PFunc} {args:List PV} {o:Out} {h0 h':List PObj},L k=some pf→pf.code.isRound=false→pf.prim=none→zN (wB L n) (yU L) pf args h0=some (o,h')→args.length=pf.params→∀(w:World) (G:GS) (vals:Array Value),Between N w G h0→vals.size=args.length →
     (∀(i:Nat) (v:Value) (p:PV),vals[i]? = some v→args[i]? = some p→VR N w G.fix G.heap v p) →
     Calls P (N.fn k) vals w λe w'=>∃G',AF N w' G' e o∧Ext w G w' G'∧Between N w' G' h':=by
    intro k pf args o h0 h' ia lu fN hc dt w G vals d7 cQ cR
    obtain⟨_,iy,_,kl⟩:=(hL k pf ia).plain lu
    rcases kl with⟨_,_,fn,vs,mB⟩|⟨g',fn,h,_⟩|⟨_,_,_,hx,_⟩
    ·exact c3I hE hP dy hF hL ihn mB iy hc dt d7 cQ cR
    ·rw[h] at fN; simp at fN
    ·unfold zN at hc
     rw[hx] at hc
     cases n with
     | zero=>simp[wB] at hc
     | succ n=>simp[wB] at hc
   refine⟨⟨?_,?_⟩,?_,?_,?_⟩
   ·intro k args r h0 h' hc
    unfold yc at hc
    split at hc
    ·simp at hc
    ·rename_i pf ia
     have lu:pf.prim=none→pf.code.isRound=false:=by
      intro fN
      cases hx:pf.code.isRound with
      | false=>rfl
      | true =>
        exfalso
        split at hc
        ·rw[fN] at hc
         simp only at hc
         split at hc
         ·simp only[Ac,hx,if_true] at hc
          unfold CM at hc
          split at hc<;>simp at hc
         ·simp only[Ac,hx,if_true] at hc
          simp at hc
        ·have:=Mw hc
         rw[hx] at this; simp at this
     have gl:FnF E N k pf:=by
      rcases hL k pf ia with h|⟨y,fn,vs,o,a,b,h⟩
      ·exact h
      ·have:=lu h.prim
       rw[h.code] at this; simp[PC.isRound] at this
     refine⟨gl.1,?_⟩
     intro w G vals d7 cQ cR
     split at hc
     ·rename_i dt
      split at hc
      ·rename_i g fN
       simp only[ab,ac] at hc
       obtain⟨⟨r1,h1⟩,hg,rfl,rfl⟩:=hc
       refine(prim ia fN hg w G vals d7 cQ cR).mono ?_
       rintro e w' ⟨v,G',rfl,hv,h2,h3⟩
       exact⟨v,G',rfl,hv.dem,h2,h3⟩
      ·rename_i fN
       have iy:=gl.2.1
       suffices H:∀args:List PV,args.length=pf.params→Ac (wB L n) (yU L) pf args h0=some (r,h')→vals.size=args.length →
         (∀(i:Nat) (v:Value) (p:PV),vals[i]? = some v→args[i]? = some p→VR N w G.fix G.heap v p) →
         Calls P (N.fn k) vals w λe w'=>∃v G',e = .returned v∧VR N w' G'.fix G'.heap v r∧Ext w G w' G'∧Between N w' G' h' by
        split at hc
        ·rename_i fw
         simp only[al] at fw
         have mF:Ac (wB L n) (yU L) pf (.nils::args.tail) h0=some (r,h')∧Ac (wB L n) (yU L) pf (.void::args.tail) h0=some (r,h'):=by
          unfold CM at hc
          split at hc
          ·rename_i he; exact⟨hc,he▸hc⟩
          ·simp at hc
         cases args with
         | nil=>simp[vague] at fw
         | cons p ps =>
           have jt:∃v,vals[0]? = some v:=by
            have h0:0<vals.size:=by rw[cQ]; simp
            exact⟨vals[0],by simp[h0]⟩
           obtain⟨v0,jt⟩:=jt
           have f0:∀q,VR N w G.fix G.heap v0 q→∀(i:Nat) (v:Value) (p':PV),vals[i]? = some v→(q::ps)[i]? = some p'→VR N w G.fix G.heap v p':=by
            intro q hq i v p' h1 h2
            cases i with
            | zero=>rw[jt] at h1; simp at h1 h2; subst h1 h2; exact hq
            | succ i=>exact cR (i+1) v p' h1 (by simpa using h2)
           rcases(cR 0 v0 p jt rfl).vague fw.2 with h|h
           ·exact H _ (by simpa using dt) mF.1 (by simpa using cQ) (f0 _ h)
           ·exact H _ (by simpa using dt) mF.2 (by simpa using cQ) (f0 _ h)
        ·exact H args dt hc cQ cR
       clear hc dt cQ cR lu args
       intro args dt hc cQ cR
       unfold Ac at hc
       rw[iy] at hc
       simp only[ay,if_false] at hc
       unfold Gp at hc
       split at hc
       ·rename_i r' h1 dY
        simp only[aa,ac] at hc
        obtain⟨rfl,rfl⟩:=hc
        refine(code ia iy fN dY dt w G vals d7 cQ cR).mono ?_
        rintro e w' ⟨G',⟨v,rfl,hv⟩,h2,h3⟩
        exact⟨v,G',rfl,hv,h2,h3⟩
       ·simp at hc
     ·
      exfalso
      obtain⟨ps,rfl⟩:=b61 hc
      ·have h0:0<vals.size:=by rw[cQ]; simp
       have h1:=cR 0 vals[0] .dead (by simp[h0]) rfl
       generalize vals[0]=v0 at h1
       cases h1
   ·intro k own args r h' hc
    unfold yc at hc
    split at hc
    ·simp at hc
    ·rename_i pf ia
     have iP:(Ar own args).length=pf.params→False:=by
      intro hl
      rcases hL k pf ia with h|⟨y,fn,vs,o,a,b,h⟩
      ·have:=h.2.2.1
       rw[Mx] at hl
       omega
      ·rw[ah hl,h.prim] at hc
       simp only[Ac,h.code,PC.isRound,if_true] at hc
       split at hc
       ·unfold CM at hc
        split at hc<;>simp at hc
       ·simp at hc
     rw[af iP] at hc
     have iy:=Mw hc
     have gl:=(hL k pf ia).plain iy
     refine⟨gl.1,?_⟩
     intro w G vals dO
     rw[My] at hc
     split at hc
     ·rename_i dt
      obtain⟨dt,fN⟩:=dt
      suffices H:∀args:List PV,args.length=pf.params→zO (wB L n) pf own args []=some (r,h')→OwnIn N w G own args vals →
        Calls P (N.fn k) vals w λe w'=>∃v G',e = .returned v∧VR N w' G'.fix G'.heap v r∧Ext w G w' G'∧(∀b o,G'.fix b o→b<w'.heap.size)∧∀es,r = .list true es→Dk w G w' G' v es by
       split at hc
       ·rename_i fw
        simp only[al] at fw
        have mF:=BG.1 hc
        cases args with
        | nil=>simp[vague] at fw
        | cons p ps =>
          have jt:∃v,vals[0]? = some v:=by
           have h0:0<vals.size:=by rw[dO.size]; simp
           exact⟨vals[0],by simp[h0]⟩
          obtain⟨v0,jt⟩:=jt
          have f0:∀q,(∀es,q≠.list true es)→VR N w G.fix G.heap v0 q→OwnIn N w G own (q::ps) vals:=by
           intro q uC hq
           refine⟨dO.ow,dO.box,dO.heap,dO.fixlt,dO.owlt,dO.tab,by simpa using dO.size,?_,?_⟩
           ·intro i v p' h1 h2
            cases i with
            | zero=>rw[jt] at h1; simp at h1 h2; subst h1 h2; exact hq
            | succ i=>exact dO.vr (i+1) v p' h1 (by simpa using h2)
           ·intro i v es hi h1 h2
            cases i with
            | zero=>simp at h2; exact absurd h2 (uC es)
            | succ i=>exact dO.room (i+1) v es hi h1 (by simpa using h2)
          rcases(dO.vr 0 v0 p jt rfl).vague fw.2 with h|h
          ·exact H _ (by simpa using dt) mF.1 (f0 _ (by intro es; simp) h)
          ·exact H _ (by simpa using dt) mF.2 (f0 _ (by intro es; simp) h)
       ·exact H args dt hc dO
      clear hc dt dO iP args
      intro args dt hc dO
      rcases gl.2.2.2 with⟨_,_,fn,vs,mB⟩|⟨g',fn,h,_⟩|⟨_,_,_,hx,_⟩
      ·exact c1H hE hP dy hF ihn mB hc dt dO
      ·rw[h] at fN; simp at fN
      ·unfold zO at hc
       rw[hx] at hc
       cases n with
       | zero=>simp[wB] at hc
       | succ n=>simp[wB] at hc
     ·simp at hc
   ·intro k args o h0 h' hc jx w G vals d7 cQ cR
    unfold yB at hc
    split at hc
    ·simp at hc
    ·rename_i pf ia
     split at hc
     ·rename_i dt
      split at hc
      ·rename_i g fN
       simp only[ab,ac] at hc
       obtain⟨⟨r,h1⟩,hg,rfl,rfl⟩:=hc
       refine(prim ia fN hg w G vals d7 cQ cR).mono ?_
       rintro e w' ⟨v,G',rfl,hv,h2,h3⟩
       exact⟨G',⟨v,rfl,hv.dem⟩,h2,h3⟩
      ·rename_i fN
       exact code ia ((hL k pf ia).plainY jx).2.1 fN hc dt.1 w G vals d7 cQ cR
     ·simp at hc
   ·intro k y n0 l tmps caps args o h0 h' hy hc w G vals d7 qI cQ cR
    unfold yB at hc
    split at hc
    ·simp at hc
    ·rename_i pf ia
     rcases hL k pf ia with h|⟨y',fn,vs,o',ca,cb,h⟩
     ·have:=h.1
      rw[hy] at this
      simp at this
     ·have:y'=y:=by have:=h.yl; rw[hy] at this; simpa using this.symm
      subst this
      split at hc
      ·rename_i dt
       rw[h.prim] at hc
       simp only[zN,h.code] at hc
       exact b8F hE hP dy hF ihn h hc (by rw[dt.1,h.params]) d7 qI cQ cR
      ·simp at hc
   ·intro k hk
    unfold CL at hk
    split at hk
    ·rename_i f hf
     exact((hL k f hf).plain (by simpa using hk)).1
    ·simp at hk
theorem c0g {L:Nat→Option PFunc} (hE:EnvOk E N) (hP:E.P=P) (dy:P.follows .mixedOrders=true) (hL:∀k pf,L k=some pf→FnS E N k pf):
  ∀n,CallOK N P (yc (wB L n) L):=λn=>(c0f hE hP dy hL n).call
end
end PI
