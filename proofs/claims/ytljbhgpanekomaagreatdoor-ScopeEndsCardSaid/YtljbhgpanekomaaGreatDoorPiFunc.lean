import Derived.Test.YtljbhgpanekomaaGreatDoorPiCodeT
import Derived.Test.YtljbhgpanekomaaGreatDoorPiRun
set_option linter.unusedSimpArgs false
set_option linter.unusedVariables false
set_option linter.unusedSectionVars false
namespace PI
open Go Go.RowKit
def c4R (P:Program) (kp:Bool) (vs:List Tmp):ResultVar→Option PRes
 | .tmp t=>(a3O t vs 0).map (if kp then .keep else .var)
 | .cell t ty=>(a3O t vs 0).bind λi=>(a05 P ty).map λn => .cell i n (a0T P ty)
def b0F (P:Program) (kp:Bool) (vs:List Tmp):List ResultVar→Option (List PRes)
 | []=>some []
 | r::rs=>(c4R P kp vs r).bind λp=>(b0F P kp vs rs).map (p::·)
structure Opts where
 hs:List Tmp:=[]
 hf:List FuncId:=[]
 hv:List Tmp:=[]
 rs:List TypeId:=[]
 bf:List FuncId:=[]
 bv:List Tmp:=[]
 lps:List (Array Tmp×Nat×List Tmp):=[]
 sr:Bool:=false
 nl:Bool:=false
 kp:Bool:=false
 ox:List (FuncId×Option Nat):=[]
 rf:List FuncId:=[]
 lv:Bool:=false
def Env.opt (E:Env) (o:Opts):Env:={ E with hs:=o.hs,hf:=o.hf,hv:=o.hv,rs:=o.rs,bf:=o.bf,bv:=o.bv,lps:=o.lps,sr:=o.sr,nl:=o.nl,ox:=o.ox,rf:=o.rf,lv:=o.lv }
theorem EnvOk.opt {E:Env} {N:Nm} (h:EnvOk E N) (o:Opts):EnvOk (E.opt o) N:=⟨h.fn,h.yl,h.pt,h.bt⟩
def FnC (E:Env) (N:Nm) (k:Nat) (pf:PFunc) (fn:Func) (vs:List Tmp):Prop:=
 E.P.funcs[N.fn k]? = some fn∧fn.name ≠ "runtime.NumGoroutine" ∧ vs.Nodup∧(∀t∈vs,t<fn.ntmps)∧vs.length=pf.nv∧pf.params≤pf.nv∧(∀i,i<pf.params→vs[i]? = some i) ∧
  (∃o:Opts,(fn.body.map λc=>a37 (E.opt o) fn.ntmps vs c)=some pf.code∧(o.lps=[]∨∀c,fn.body=some c→LpOK (E.opt o) N fn.ntmps (N.fn k) c)∧b0F E.P o.kp vs fn.results.toList=some pf.results)
def b1b (N:Nm) (P:Program) (k:Nat) (g:List PV→List PObj→Option (PV×List PObj)):Prop:=
 ∀ (args : List PV) (r : PV) (h h' : List PObj), g args h = some (r, h') → ∀ (w : World) (G : GS) (vals : Array Value), Between N w G h → vals.size = args.length →
   (∀(i:Nat) (v:Value) (p:PV),vals[i]? = some v→args[i]? = some p→VR N w G.fix G.heap v p) →
   Calls P (N.fn k) vals w λe w'=>∃v G',e = .returned v∧VR N w' G'.fix G'.heap v r∧Ext w G w' G'∧Between N w' G' h'
def b4f (N:Nm) (P:Program) (k:Nat) (g:List PV→List PObj→Option (List PObj)):Prop:=
 ∀ (p : PV) (caps : List PV) (h h' : List PObj), g (p :: caps) h = some h' → ∀ (w : World) (G : GS) (vals : Array Value), Between N w G h → vals.size = caps.length →
   (∀(i:Nat) (v:Value) (p:PV),vals[i]? = some v→caps[i]? = some p→VR N w G.fix G.heap v p) →
   ∀u,(u = .returning∧p = .nilIface∨∃v,u = .panicking [{ v,recovered:=false }]∧VR N w G.fix G.heap v p) →
   CallsDIn (W none) 0 P (N.fn k) vals u w λe u' w'=>(∃v,e = .returned v)∧settle u' = .returning∧∃G',Ext w G w' G'∧Between N w' G' h'
structure RdC (E:Env) (N:Nm) (k:Nat) (pf:PFunc) (y:YL) (fn:Func) (vs:List Tmp) (o:Opts) (a b:PC):Prop where
 yl:N.yl k=some y
 code:pf.code = .round a b
 ra:a.RO=true
 rb:b.RO=true
 prim:pf.prim=none
 dfr:pf.defer=none
 inP:E.P.funcs[y.fn]? = some fn
 no:N.fn k=y.fn
 name:fn.name ≠ "runtime.NumGoroutine"
 body:fn.body.isNone=false
 nd:vs.Nodup
 lt:∀t∈vs,t<y.nt
 len:vs.length=pf.nv
 params:pf.params=1+(y.vars.length+y.params.size)
 head:vs.take (y.vars.length+y.params.size)=y.vars++y.params.toList
 lps:o.lps=[]
 ca:a37 (E.opt o) y.nt vs y.assign=a
 cb:a37 (E.opt o) y.nt vs y.body=b
def FnF (E:Env) (N:Nm) (k:Nat) (pf:PFunc):Prop:=
 N.yl k=none∧pf.code.isRound=false∧pf.params<1000 ∧
 ((pf.prim=none∧pf.defer=none∧∃fn vs,FnC E N k pf fn vs) ∨
 (∃g fn,pf.prim=some g∧pf.defer=none∧E.P.funcs[N.fn k]? = some fn∧fn.name ≠ "runtime.NumGoroutine" ∧ fn.body.isNone=false∧b1b N E.P k g) ∨
 ∃g fn,pf.prim=none∧pf.code = .exit 0∧pf.defer=some g∧E.P.funcs[N.fn k]? = some fn∧fn.name ≠ "runtime.NumGoroutine" ∧ fn.body.isNone=false∧b4f N E.P k g)
def FnS (E:Env) (N:Nm) (k:Nat) (pf:PFunc):Prop:=FnF E N k pf∨∃y fn vs o a b,RdC E N k pf y fn vs o a b
theorem FnS.plain {E:Env} {N:Nm} {k:Nat} {pf:PFunc} (h:FnS E N k pf) (hr:pf.code.isRound=false):FnF E N k pf:=by
 rcases h with h|⟨y,fn,vs,o,a,b,h⟩
 ·exact h
 ·rw[h.code] at hr; simp[PC.isRound] at hr
theorem FnS.plainY {E:Env} {N:Nm} {k:Nat} {pf:PFunc} (h:FnS E N k pf) (hr:N.yl k=none):FnF E N k pf:=by
 rcases h with h|⟨y,fn,vs,o,a,b,h⟩
 ·exact h
 ·rw[h.yl] at hr; simp at hr
def a3D (vars:List PV):List PRes→List Nat
 | []=>[]
 | r::rs=>a6S vars r++a3D vars rs
theorem b4g:∀(ns:List Nat) (h:List PObj) (n:Nat),(n∈ns→(a9t ns h)[n]? = h[n]?.map (λ_ => .gone))∧(n∉ns→(a9t ns h)[n]? = h[n]?)
 | [],h,n=>by simp[a9t]
 | m :: ns, h, n => by
   simp only[a9t]
   obtain⟨i1,i2⟩:=b4g ns (h.set m .gone) n
   rw[List.getElem?_set] at i1 i2
   by_cases hm:m=n
   ·subst hm
    refine⟨λ_ =>?_,λhn=>absurd (by simp) hn⟩
    by_cases hr:m∈ns
    ·rw[i1 hr]
     by_cases hlt:m<h.length<;>simp[hlt]
    ·rw[i2 hr]
     by_cases hlt:m<h.length<;>simp[hlt]
   ·have hne:¬n=m:=λe=>hm e.symm
    rw[if_neg hm] at i1 i2
    simp only[List.mem_cons,hne,false_or]
    exact⟨i1,i2⟩
theorem b4h:∀(ns:List Nat) (h:List PObj),(a9t ns h).length=h.length
 | [],h=>rfl
 | n::ns,h=>by simp only[a9t]; rw[b4h ns]; simp
theorem a8o (vars:List PV):∀(rs:List PRes) (h:List PObj) (n:Nat),(n∈a3D vars rs→(a0w vars rs h)[n]? = h[n]?.map (λ_ => .gone))∧(n∉a3D vars rs→(a0w vars rs h)[n]? = h[n]?)
 | [],h,n=>by simp[a0w,a3D]
 | r :: rs, h, n => by
   simp only[a0w,a3D]
   obtain⟨i1,i2⟩:=a8o vars rs (a9t (a6S vars r) h) n
   obtain⟨g1,g2⟩:=b4g (a6S vars r) h n
   simp only[List.mem_append]
   by_cases hr:n∈a3D vars rs
   ·refine⟨λ_ =>?_,λhn=>absurd (.inr hr) hn⟩
    rw[i1 hr]
    by_cases hq:n∈a6S vars r
    ·rw[g1 hq]; cases h[n]?<;>rfl
    ·rw[g2 hq]
   ·refine⟨λhn =>?_,λhn =>?_⟩
    ·rw[i2 hr,g1 (hn.resolve_right hr)]
    ·rw[i2 hr,g2 (λe=>hn (.inl e))]
theorem b1c (vars:List PV):∀(rs:List PRes) (h:List PObj),(a0w vars rs h).length=h.length
 | [],h=>rfl
 | r::rs,h=>by simp only[a0w]; rw[b1c vars rs,b4h]
theorem b4i {vars:List PV} {n:Nat} {r:PRes} (hv:n∈a6S vars r):∀{rs:List PRes},r∈rs→n∈a3D vars rs
 | r' :: rs, h => by
   simp only[a3D,List.mem_append]
   rcases List.mem_cons.1 h with h|h
   ·subst h; exact .inl hv
   ·exact .inr (b4i hv h)
theorem a9w {n sz len:Nat} {agg:Bool}:∀{ps:List PV},.rowp n sz agg len∈ps→n∈a8a ps
 | p :: ps, h => by
   simp only[a8a,List.mem_append]
   rcases List.mem_cons.1 h with h|h
   ·subst h; exact .inl (by simp[a1g])
   ·exact .inr (a9w h)
def GS.shut (G:GS) (ns:List Nat) (heap:List PObj):GS:=
 { G with fix:=λb o=>G.fix b o∨∃n∈ns,∃cs:List PV,G.heap n=some b∧heap[n]? = some (.cells cs)∧o<cs.length }
section
variable {E:Env} {N:Nm} {P:Program}
theorem VR.shut {w:World} {G:GS} {ns:List Nat} {heap:List PObj} {v:Value} {p:PV} (h:VR N w G.fix G.heap v p):VR N w (G.shut ns heap).fix (G.shut ns heap).heap v p:=
 h.mono (λ_ _ h=>⟨.inl h,rfl⟩) (λ_ _ h=>h) (ShapeLe.refl w)
theorem HR.shut {w:World} {G:GS} {heap:List PObj} (h:HR N w G heap) (vars:List PV) (rs:List PRes):HR N w (G.shut (a3D vars rs) heap) (a0w vars rs heap):=by
 have own:∀n b,n∈a3D vars rs→∀cs,G.heap n=some b→heap[n]? = some (.cells cs)→G.ow b=some (.hobj n):=by
  intro n b _ cs h1 h2
  rcases h.1 n _ h2 with h3|⟨b',k1,k2,_⟩
  ·simp at h3
  rw[h1] at k1; cases k1; exact k2
 have room:∀{n k:Nat} {v:Value} {es:List PV},Room w G (.hcell n k) v es→Room w (G.shut (a3D vars rs) heap) (.hcell n k) v es:=by
  intro n k v es hr
  unfold Room at *
  split at hr
  ·rename_i a len cap
   rcases hr with hr|⟨h1,sz,cs,T,h2,h3,h4,h5,h6⟩
   ·exact .inl hr
   ·refine .inr ⟨h1,sz,cs,T,h2,h3,h4,h5,?_⟩
    rintro o ho (hf|⟨m,hm,cs',k1,k2,_⟩)
    ·exact h6 o ho hf
    ·have:=own m _ hm cs' k1 k2
     rw[h1] at this; simp at this
  ·trivial
 refine⟨?_,⟨λt ht=>⟨.inl (h.2.1 t ht).1,(h.2.1 t ht).2⟩,h.2.2⟩⟩
 intro n ob hob
 by_cases hn:n∈a3D vars rs
 ·rw[(a8o vars rs heap n).1 hn] at hob
  simp only[Option.map_eq_some_iff] at hob
  obtain⟨ob0,h0,rfl⟩:=hob
  exact .inl rfl
 ·rw[(a8o vars rs heap n).2 hn] at hob
  rcases h.1 n _ hob with rfl|⟨b,k1,k2,k3⟩
  ·exact .inl rfl
  refine .inr ⟨b,k1,k2,?_⟩
  have nofix:(∀o,¬G.fix b o)→∀o,¬(G.shut (a3D vars rs) heap).fix b o:=by
   rintro hf o (h1|⟨m,hm,cs',j1,j2,_⟩)
   ·exact hf o h1
   ·have:=own m _ hm cs' j1 j2
    rw[k2] at this
    simp at this; subst this; exact hn hm
  cases ob with
  | cells cs =>
    obtain⟨f,cv,T,a1,a2,a3⟩:=k3
    refine⟨nofix f,cv,T,a1,a2,?_⟩
    intro k c x hc hx
    obtain⟨b1,b2,b3⟩:=a3 k c x hc hx
    refine⟨b1.shut,b2,?_⟩
    split at b3
    ·exact room b3
    ·trivial
  | map es =>
    obtain⟨mes,clock,a1,a2,a3,a4,a5⟩:=k3
    refine⟨mes,clock,a1,a2,a3,a4,?_⟩
    intro i e p hi hp
    obtain⟨b1,b2,b3⟩:=a5 i e p hi hp
    refine⟨b1.shut,b2.shut,?_⟩
    split at b3
    ·exact room b3
    ·trivial
  | bld bs =>
    obtain⟨f,p,v,a1,a2,a3⟩:=k3
    refine⟨nofix f,p,v,a1,a2,?_⟩
    rcases a3 with a3|⟨g,cap,cur,b1,b2,b3,b4⟩
    ·exact .inl a3
    ·refine .inr ⟨g,cap,cur,b1,b2,?_,b4⟩
     rintro o (h1|⟨m,hm,cs',j1,j2,_⟩)
     ·exact b3 o h1
     ·have:=own m _ hm cs' j1 j2
      rw[b2] at this; simp at this
  | siter s pos =>
    obtain⟨f,s',a1,a2⟩:=k3
    exact⟨nofix f,s',a1,a2⟩
  | gone=>trivial
  | loop ready =>
    obtain⟨f,r,a1,a2⟩:=k3
    exact⟨nofix f,r,a1,a2⟩
  | over id =>
    obtain⟨f,r,a1,a2⟩:=k3
    exact⟨nofix f,r,a1,a2⟩
theorem b6P {w:World} {G:GS} {heap:List PObj} (h:HR N w G heap) {ns:List Nat} {n sz len b cap:Nat} (hcap:len≤cap) {agg:Bool} {cs es:List PV} (hn:n∈ns) (hb:G.heap n=some b) (hc:heap[n]? = some (.cells cs)) (hsz:agg=true∨sz=1)
  (he:a3A sz agg cs len 0=some es):VR N w (G.shut ns heap).fix (G.shut ns heap).heap (.slice (some ⟨b,0,none⟩) len cap) (.list false es):=by
 rcases h.1 n _ hc with hg|⟨b',k1,k2,f,cv,T,a1,a2,a3⟩
 ·simp at hg
 have:b'=b:=by rw[hb] at k1; cases k1; rfl
 subst this
 obtain⟨e1,e2⟩:=a7S he
 have hels:∀(i:Nat) (e:PV),es[i]? = some e→i*sz+sz≤cs.length∧e.cells.length=sz∧∀(j:Nat) (x:PV),e.cells[j]? = some x→∃y,cs[i*sz+j]? = some y∧x=dem y∧j<sz:=by
  intro i e hi
  have:=e2 i e hi
  rw[Nat.zero_add] at this
  unfold a0a at this
  split at this
  ·split at this
   ·rename_i hle
    simp only[Option.some.injEq] at this; subst this
    refine⟨hle,by simp[PV.cells]; omega,?_⟩
    intro j x hx
    simp only[PV.cells,List.getElem?_map,Option.map_eq_some_iff] at hx
    obtain⟨y,hy,rfl⟩:=hx
    rw[List.getElem?_take] at hy
    split at hy
    ·rw[List.getElem?_drop] at hy
     exact⟨y,hy,rfl,by assumption⟩
    ·simp at hy
   ·simp at this
  ·rename_i hagg
   have h1:sz=1:=by rcases hsz with h|h; exact absurd h (by simpa using hagg); exact h
   subst h1
   split at this
   ·rename_i y hy
    have hlt:i*1<cs.length:=(List.getElem?_eq_some_iff.1 hy).1
    have hfl:y.flat=true:=(a3 _ cv[i*1] y (by simp[a2,hlt]) hy).2.1
    have hcp:e=dem y∧y.cells=[y]:=by
     cases y<;>simp_all [cp,dem,PV.cells,PV.flat]
    obtain⟨rfl,_⟩:=hcp
    have hdc:(dem y).cells=[dem y]:=by cases y<;>simp_all [dem,PV.cells,PV.flat]
    refine⟨by omega,by rw[hdc]; rfl,?_⟩
    intro j x hx
    rw[hdc] at hx
    cases j with
    | zero=>simp at hx; subst hx; exact⟨y,hy,rfl,by omega⟩
    | succ j=>simp at hx
   ·simp at this
 have hbound:∀k,k<len*sz→k<cs.length:=by
  intro k hk
  have hs0:0<sz:=by
   rcases Nat.eq_zero_or_pos sz with h|h
   ·subst h; simp at hk
   ·exact h
  have hi:k / sz<len:=by rw[Nat.div_lt_iff_lt_mul hs0]; exact hk
  have:=(hels (k / sz) es[k / sz] (List.getElem?_eq_getElem (by omega))).1
  have h2:k / sz*sz+k % sz=k:=by rw[Nat.mul_comm]; exact Nat.div_add_mod k sz
  have h3:k % sz<sz:=Nat.mod_lt _ hs0
  omega
 refine .list false b' 0 len cap sz es (λk=>cv.getD k undef) e1 hcap ?_ ?_ ?_ ?_
 ·intro e he
  obtain⟨i,hi⟩:=List.mem_iff_getElem?.1 he
  exact(hels i e hi).2.1
 ·intro e he x hx
  obtain⟨i,hi⟩:=List.mem_iff_getElem?.1 he
  obtain⟨j,hj⟩:=List.mem_iff_getElem?.1 hx
  obtain⟨y,hy,rfl,_⟩:=(hels i e hi).2.2 j x hj
  rw[a6A]
  have hlt:i*sz+j<cs.length:=(List.getElem?_eq_some_iff.1 hy).1
  exact(a3 _ cv[i*sz+j] y (by simp[a2,hlt]) hy).2.1
 ·intro k hk
  have hlt:=hbound k hk
  refine⟨?_,.inr ⟨n,hn,cs,hb,hc,by omega⟩⟩
  have:k<cv.size:=by omega
  simp[World.cell?,a1,this]
 ·intro i e hi j x hx
  obtain⟨y,hy,rfl,_⟩:=(hels i e hi).2.2 j x hx
  have hlt:i*sz+j<cs.length:=(List.getElem?_eq_some_iff.1 hy).1
  have hlt2:i*sz+j<cv.size:=by omega
  have:=(a3 _ cv[i*sz+j] y (by simp[hlt2]) hy).1
  simp only[Array.getD_eq_getD_getElem?,Array.getElem?_eq_getElem hlt2,Option.getD_some]
  exact this.dem.shut
theorem a8p {w:World} {G:GS} {heap:List PObj} (h:HR N w G heap) {ns:List Nat} {v:Value} {p q:PV} (hns:∀m sz agg len,p = .rowp m sz agg len→m∈ns) (hv:VR N w G.fix G.heap v p) (hp:b5P heap p=some q):
  VR N w (G.shut ns heap).fix (G.shut ns heap).heap v q∧(p.flat=true→q.flat=true)∧(∀es,q = .list true es→p = .list true es):=by
 by_cases hr:∃m sz agg len,p = .rowp m sz agg len
 ·obtain⟨m,sz,agg,len,rfl⟩:=hr
  simp only[b5P] at hp
  split at hp
  ·rename_i hsz
   split at hp
   ·rename_i cs hh
    simp only[Option.map_eq_some_iff] at hp
    obtain⟨es,hes,rfl⟩:=hp
    refine⟨?_,λ_=>rfl,λes e=>by simp at e⟩
    cases hv with
    | rowp _ _ _ _ b cap hb' hcap _=>exact b6P h hcap (hns m sz agg len rfl) hb' hh hsz hes
   ·simp at hp
  ·simp at hp
 ·have:b5P heap p=some p:=by cases p<;>first|rfl|exact absurd ⟨_,_,_,_,rfl⟩ hr
  rw[this] at hp
  simp only[Option.some.injEq] at hp
  subst hp
  exact⟨hv.shut,id,λes e=>e⟩
theorem b4j {heap:List PObj}:∀{ps qs:List PV},a8F heap ps=some qs→qs.length=ps.length∧∀(i:Nat) (q:PV),qs[i]? = some q→∃p,ps[i]? = some p∧b5P heap p=some q
 | [],qs,h=>by simp[a8F] at h; subst h; simp
 | p :: ps, qs, h => by
   simp only[a8F,Option.bind_eq_some_iff,Option.map_eq_some_iff] at h
   obtain⟨q,h1,qs',h2,rfl⟩:=h
   obtain⟨k1,k2⟩:=b4j h2
   refine⟨by simp[k1],?_⟩
   intro i x hx
   cases i with
   | zero=>simp at hx; subst hx; exact⟨p,rfl,h1⟩
   | succ i=>exact k2 i x (by simpa using hx)
theorem b7p {w:World} {G:GS} {heap:List PObj} (h:HR N w G heap) {ns:List Nat} {v:Value} {p q:PV} (hns:∀x∈p.cells,∀m sz agg len,x = .rowp m sz agg len→m∈ns) (hv:VR N w G.fix G.heap v p) (hp:a8n heap p=some q):
  VR N w (G.shut ns heap).fix (G.shut ns heap).heap v q:=by
 by_cases ha:∃ps,p = .agg ps
 ·obtain⟨ps,rfl⟩:=ha
  simp only[a8n,Option.map_eq_some_iff] at hp
  obtain⟨qs,hqs,rfl⟩:=hp
  obtain⟨f1,f2⟩:=b4j hqs
  cases hv with
  | agg cs _ hlen hflat hown hcell =>
    refine .agg cs qs (by rw[f1]; exact hlen) ?_ ?_ ?_
    ·intro y hy
     obtain⟨i,hi⟩:=List.mem_iff_getElem?.1 hy
     obtain⟨x,hx,hxy⟩:=f2 i y hi
     have hlt:i<cs.size:=by have:=(List.getElem?_eq_some_iff.1 hx).1; omega
     exact(a8p h (hns x (List.mem_of_getElem? hx)) (hcell i cs[i] x (by simp[hlt]) hx) hxy).2.1 (hflat x (List.mem_of_getElem? hx))
    ·intro i c es hc hy
     obtain⟨x,hx,hxy⟩:=f2 i _ hy
     have:=(a8p h (hns x (List.mem_of_getElem? hx)) (hcell i c x hc hx) hxy).2.2 es rfl
     subst this
     exact hown i c es hc hx
    ·intro i c y hc hy
     obtain⟨x,hx,hxy⟩:=f2 i y hy
     exact(a8p h (hns x (List.mem_of_getElem? hx)) (hcell i c x hc hx) hxy).1
 ·have:a8n heap p=some p:=by cases p<;>first|rfl|exact absurd ⟨_,rfl⟩ ha
  rw[this] at hp
  simp only[Option.some.injEq] at hp
  subst hp
  exact hv.shut
theorem b8A {size off n sz len:Nat} {agg ag:Bool} {cs:List PV} {u:PV} (hf:∀x∈cs,x.flat=true) (h:a0a size agg cs off=some u) (hx : .rowp n sz ag len∈u.cells):n∈a8a cs:=by
 unfold a0a at h
 split at h
 ·split at h
  ·simp only[Option.some.injEq] at h; subst h
   simp only[PV.cells,List.mem_map] at hx
   obtain⟨y,hy,e⟩:=hx
   have:y = .rowp n sz ag len:=by cases y<;>simp_all [dem]
   subst this
   exact a9w (List.mem_of_mem_drop (List.mem_of_mem_take hy))
  ·simp at h
 ·split at h
  ·rename_i y hy
   have hu:y = .rowp n sz ag len:=by
    have hfl:=hf y (List.mem_of_getElem? hy)
    cases y<;>simp[cp] at h<;>subst h<;>simp_all [PV.cells,PV.flat]
   subst hu
   exact a9w (List.mem_of_getElem? hy)
  ·simp at h
def c6v (a:Act) (r:ResultVar):Sem Value:=
 match r with
 | .tmp t=>pure (a.tmps.getD t undef)
 | .cell t ty=>do loadVar ty (← asAddr (a.tmps.getD t undef))
theorem b2m {kp:Bool} {vs:List Tmp} {nt:Nat} {w:World} {G:GS} {st:St} {a:Act} (hb:BI N w G st a vs nt) {ns:List Nat} {r:ResultVar} {p:PRes} {u:PV} (hns:∀n,n∈a6S st.vars p→n∈ns) (hc:c4R P kp vs r=some p) (hr:a2e st p=some u):
  ∃v,(c6v a r).run P w = .ok v w∧VR N w (G.shut ns st.heap).fix (G.shut ns st.heap).heap v u:=by
 cases r with
 | tmp t =>
   simp only[c4R,Option.map_eq_some_iff] at hc
   obtain⟨i,hi,rfl⟩:=hc
   obtain⟨_,hi2⟩:=a28 hi
   cases kp with
   | true =>
     simp only[if_true,a2e,Option.bind_eq_some_iff] at hr
     obtain⟨x,hx,hr⟩:=hr
     have hs:=hb.fi.var i t x (by simpa using hi2) hx
     exact⟨a.tmps.getD t undef,rfl,(hs.read hr).1.shut⟩
   | false=>
   simp only[Bool.false_eq_true,if_false] at hns hr
   simp only[a2e,Option.bind_eq_some_iff] at hr
   obtain⟨x,hx,hr⟩:=hr
   have hs:=hb.fi.var i t x (by simpa using hi2) hx
   refine⟨a.tmps.getD t undef,rfl,?_⟩
   split at hr
   ·simp at hr; subst hr
    exact hs.1.shut
   ·rename_i n sz agg len
    split at hr
    ·rename_i hsz
     simp only[Option.bind_eq_some_iff,Option.map_eq_some_iff] at hr
     obtain⟨cs,hcs,es,hes,rfl⟩:=hr
     have hvr:=(hs.read (r := .rowp n sz agg len) rfl).1
     generalize hg:a.eval (.tmp t)=v at hvr
     have hg':a.tmps.getD t undef=v:=hg
     rw[hg']
     cases hvr with
     | rowp _ _ _ _ b cap hb' hcap _ =>
       unfold a57 at hcs
       split at hcs
       ·rename_i cs' hh
        simp at hcs; subst hcs
        exact b6P hb.fi.heap hcap (hns n (by simp[a6S,c2O,hx,a1g])) hb' hh hsz hes
       ·simp at hcs
    ·simp at hr
   ·simp at hr; subst hr
    have hvr:=(hs.read (r := .nils) rfl).1
    have hg':a.tmps.getD t undef=a.eval (.tmp t):=rfl
    rw[hg']
    generalize a.eval (.tmp t)=v at hvr
    cases hvr with
    | nils'=>exact .nils false
   ·exact(hs.read hr).1.shut
 | cell t ty =>
   simp only[c4R,Option.bind_eq_some_iff,Option.map_eq_some_iff] at hc
   obtain⟨i,hi,n,hn,rfl⟩:=hc
   obtain⟨_,hi2⟩:=a28 hi
   simp only[a2e] at hr
   split at hr
   ·rename_i g cs hv
    simp only[Option.bind_eq_some_iff] at hr
    obtain⟨u0,hr,hz⟩:=hr
    have hs:=hb.fi.var i t _ (by simpa using hi2) hv
    obtain⟨b,i',_,hval,_,_,_,cv,T,hh,hl,hcr⟩:=hs
    obtain⟨hR,hcell⟩:=a7H hh hl hcr
    have hn0:n≠0:=by obtain⟨_,_,_,_,h,_⟩:=a0n hn; exact h
    obtain⟨k1,k2,k3⟩:=a18 hR hr hn0 (a3q hn)
    have hval':a.tmps.getD t undef = .pointer (some ⟨b,0,none⟩):=hval
    have:=a4O (w:=w) hn b 0 cv.toList (by simpa using k1) (λj v hv=>by rw[Nat.zero_add]; exact hcell j v hv)
    refine⟨_,?_,b7p hb.fi.heap (λx hx m sz agg len e=>hns m ?_) k2 hz⟩
    rotate_left
    ·subst e
     simp only[a6S,hv]
     exact b8A hR.2.1 hr hx
    simp only[c6v,hval',asAddr,Sem.run_bind,Sem.run_pure,Result.andThen_ok,this]
    simp
   ·rename_i m hv
    simp only[Option.bind_eq_some_iff] at hr
    obtain⟨cs,hcs,hr⟩:=hr
    have hs:=(hb.fi.var i t _ (by simpa using hi2) hv)
    have hs:VR N w G.fix G.heap (a.eval (.tmp t)) (.ptr m 0):=hs
    generalize hval:a.eval (.tmp t)=pv at hs
    cases hs with
    | ptr _ _ b hb' =>
      unfold a57 at hcs
      split at hcs
      ·rename_i cs' hhp
       simp only[Option.some.injEq] at hcs
       subst hcs
       rcases hb.fi.heap.1 m _ hhp with hgo|⟨b',k1,k2,f,cv,T,hh,hl,hcr⟩
       ·simp at hgo
       have:b'=b:=by rw[hb'] at k1; simpa using k1.symm
       subst this
       obtain⟨hR,hcell⟩:=b0z hh hl hcr
       have hn0:n≠0:=by obtain⟨_,_,_,_,h,_⟩:=a0n hn; exact h
       obtain⟨k1,k2,k3⟩:=a18 hR hr hn0 (a3q hn)
       have hval':a.tmps.getD t undef = .pointer (some ⟨b',0,none⟩):=hval
       have:=a4O (w:=w) hn b' 0 (cv.toList.take cs'.length) (by simpa using k1) (λj v hv=>by rw[Nat.zero_add]; exact hcell j v hv)
       refine⟨_,?_,k2.shut⟩
       simp only[c6v,hval',asAddr,Sem.run_bind,Sem.run_pure,Result.andThen_ok,this]
       simp
      ·simp at hcs
   ·simp at hr
theorem a8K {kp:Bool} {vs:List Tmp} {nt:Nat} {w:World} {G:GS} {st:St} {a:Act} (hb:BI N w G st a vs nt) {ns:List Nat}:∀{rs:List ResultVar} {ps:List PRes} {us:List PV},(∀p∈ps,∀n,n∈a6S st.vars p→n∈ns)→b0F P kp vs rs=some ps→a1O st ps=some us →
  ∃ vals : List Value, (rs.mapM (c6v a)).run P w = .ok vals w ∧ vals.length = us.length ∧
    ∀(i:Nat) (v:Value) (u:PV),vals[i]? = some v→us[i]? = some u→VR N w (G.shut ns st.heap).fix (G.shut ns st.heap).heap v u
 | [], ps, us, _, hc, hr => by
   simp[b0F] at hc; subst hc
   simp[a1O] at hr; subst hr
   exact⟨[],by simp,rfl,by simp⟩
 | r :: rs, ps, us, hns, hc, hr => by
   simp only[b0F,Option.bind_eq_some_iff,Option.map_eq_some_iff] at hc
   obtain⟨p,hp,ps',hps,rfl⟩:=hc
   simp only[a1O,Option.bind_eq_some_iff,Option.map_eq_some_iff] at hr
   obtain⟨u,hu,us',hus,rfl⟩:=hr
   obtain⟨v,h1,h2⟩:=b2m hb (hns p (List.mem_cons_self ..)) hp hu
   obtain⟨vals,h3,h4,h5⟩:=a8K hb (λp e=>hns p (List.mem_cons_of_mem _ e)) hps hus
   refine⟨v::vals,?_,by simp[h4],?_⟩
   ·rw[List.mapM_cons]
    simp only[Sem.run_bind,h1,Result.andThen_ok,h3,Sem.run_pure]
   ·intro i x y hx hy
    cases i with
    | zero=>simp at hx hy; subst hx hy; exact h2
    | succ i=>exact h5 i x y (by simpa using hx) (by simpa using hy)
structure DefW (w w':World):Prop where
 os:w'.os=w.os
 tape:w'.tape=w.tape
 output:w'.output=w.output
 size:w'.heap.size=w.heap.size
 heap:∀b:Nat,w'.heap[b]? = w.heap[b]?∨((∃x,w.heap[b]? = some (Obj.deferred x))∧∃y,w'.heap[b]? = some (Obj.deferred y))
theorem DefW.refl (w:World):DefW w w:=⟨rfl,rfl,rfl,rfl,λ_ => .inl rfl⟩
theorem DefW.get {w w':World} (h:DefW w w') {b:Nat} {ob:Obj} (hb:w.heap[b]? = some ob) (hn:∀x,ob≠Obj.deferred x):w'.heap[b]? = some ob:=by
 rcases h.heap b with e|⟨⟨x,e⟩,_⟩
 ·rw[e]; exact hb
 ·rw[hb] at e
  exact absurd (by simpa using e) (hn x)
theorem DefW.cell {w w':World} (h:DefW w w') (b o:Nat):w'.cell? ⟨b,o,none⟩=w.cell? ⟨b,o,none⟩:=by
 rcases h.heap b with e|⟨⟨x,e1⟩,y,e2⟩
 ·simp only[World.cell?,e]
 ·simp[World.cell?,e1,e2]
theorem DefW.shape {w w':World} (h:DefW w w'):ShapeLe w w':=by
 refine⟨?_,?_⟩
 ·intro b s hb
  rcases h.heap b with e|⟨⟨x,e1⟩,y,e2⟩
  ·unfold World.shape? at hb ⊢; rw[e]; exact hb
  ·simp[World.shape?,e1] at hb
 ·intro b s hb
  rcases h.heap b with e|⟨⟨x,e1⟩,y,e2⟩
  ·unfold a2J at hb ⊢; rw[e]; exact hb
  ·simp[a2J,e1] at hb
theorem VR.def' {w w':World} {G:GS} {v:Value} {p:PV} (h:VR N w G.fix G.heap v p) (d:DefW w w'):VR N w' G.fix G.heap v p:=
 h.mono (λb o hf=>⟨hf,d.cell b o⟩) (λ_ _ h=>h) d.shape
theorem Room.def' {w w':World} {G:GS} {key:Key} {v:Value} {es:List PV} (h:Room w G key v es) (d:DefW w w'):Room w' G key v es:=by
 unfold Room at *
 split at h
 ·rcases h with h|⟨h1,sz,cs,T,h2,⟨fz,h3,h3'⟩,h4⟩
  ·exact .inl h
  ·exact .inr ⟨h1,sz,cs,T,h2,⟨fz,d.get h3 (by simp),h3'⟩,h4⟩
 ·trivial
theorem CR.def' {w w':World} {G:GS} {key:Key} {v:Value} {p:PV} (h:CR N w G key v p) (d:DefW w w'):CR N w' G key v p:=by
 obtain⟨h1,h2,h3⟩:=h
 refine⟨h1.def' d,h2,?_⟩
 split at h3
 ·exact Room.def' h3 d
 ·trivial
theorem MR.def' {w w':World} {G:GS} {key:Key} {v:Value} {p:PV} (h:MR N w G key v p) (d:DefW w w'):MR N w' G key v p:=by
 obtain⟨h1,h3⟩:=h
 refine⟨h1.def' d,?_⟩
 split at h3
 ·exact Room.def' h3 d
 ·trivial
theorem SR.def' {w w':World} {G:GS} {key:Key} {v:Value} {p:PV} (h:SR N w G key v p) (d:DefW w w'):SR N w' G key v p:=by
 unfold SR at *
 split at h
 ·trivial
 ·obtain⟨b,i,hkey,hv,hb,ho,hf,cv,T,h1,h2,h3⟩:=h
  exact⟨b,i,hkey,hv,hb,ho,hf,cv,T,d.get h1 (by simp),h2,λk c x hc hx=>(h3 k c x hc hx).def' d⟩
 ·exact h
 ·exact⟨h.1.def' d,Room.def' h.2 d⟩
 ·exact h.def' d
theorem ObjR.def' {w w':World} {G:GS} {n b:Nat} {ob:PObj} (h:ObjR N w G n b ob) (d:DefW w w'):ObjR N w' G n b ob:=by
 cases ob with
 | cells cs =>
   obtain⟨f,cv,T,a1,a2,a3⟩:=h
   exact⟨f,cv,T,d.get a1 (by simp),a2,λk c x hc hx=>(a3 k c x hc hx).def' d⟩
 | map es =>
   obtain⟨mes,clock,a1,a2,a3,a4,a5⟩:=h
   exact⟨mes,clock,d.get a1 (by simp),a2,a3,a4,λi en p hi hp=>⟨(a5 i en p hi hp).1.def' d,(a5 i en p hi hp).2.def' d⟩⟩
 | bld bs =>
   obtain⟨f,p,v,a1,a2,a3⟩:=h
   refine⟨f,p,v,d.get a1 (by simp),a2,?_⟩
   rcases a3 with a3|⟨g,cap,cur,b1,b2,b3,b4,b5⟩
   ·exact .inl a3
   ·exact .inr ⟨g,cap,cur,b1,b2,b3,d.get b4 (by simp),b5⟩
 | siter s pos =>
   obtain⟨f,s',a1,a2⟩:=h
   exact⟨f,s',d.get a1 (by simp),a2⟩
 | gone=>trivial
 | loop ready =>
   obtain⟨f,r,a1,a2⟩:=h
   exact⟨f,r,d.get a1 (by simp),a2⟩
 | over id =>
   obtain⟨f,r,a1,a2⟩:=h
   exact⟨f,r,d.get a1 (by simp),a2⟩
theorem BI.def' {w w':World} {G:GS} {st:St} {a:Act} {vs:List Tmp} {nt:Nat} (h:BI N w G st a vs nt) (d:DefW w w'):BI N w' G st a vs nt:=by
 obtain⟨hf,hs⟩:=h
 refine⟨⟨hf.len,λi t u h1 h2=>(hf.var i t u h1 h2).def' d,λj t u h1 h2=>by simp at h1,hf.tv,hf.tl,hf.defers,hf.gen,by rw[d.size]; exact hf.owlt,by rw[d.size]; exact hf.fixlt,⟨?_,?_⟩,hf.hdom⟩,hs⟩
 ·intro n ob hob
  rcases hf.heap.1 n ob hob with h|⟨b,h1,h2,h3⟩
  ·exact .inl h
  ·exact .inr ⟨b,h1,h2,h3.def' d⟩
 ·refine⟨λt ht=>⟨(hf.heap.2.1 t ht).1,?_⟩,λr hr=>d.shape.1 _ _ (hf.heap.2.2 r hr)⟩
  rw[d.cell]; exact(hf.heap.2.1 t ht).2
theorem a7e {fn:Func} {tmps:Array Value} {R:Ending→World→Prop} {u:FrameMode} (hu:u≠.run) {G:GS} {w0:World}:
  ∀ {bs : List Nat} {w : World}, bs.Nodup → (∀ b ∈ bs, w0.heap.size ≤ b ∧ w.heap[b]? = some (.deferred (some [])) ∧ G.ow b = none) →
    (∀w',DefW w w'→(∀b,b<w0.heap.size→w'.heap[b]? = w.heap[b]?)→LeavesIn (W none) 0 P fn tmps R [] u w')→LeavesInM (W none) 0 P fn tmps R (bs.map λb=>{ target := .collected b,args := #[] }) u w
 | [],w,_,_,h=>h w (DefW.refl w) (λ_ _=>rfl)
 | b :: bs, w, hn, hb, h => by
   obtain⟨n1,n2⟩:=List.nodup_cons.1 hn
   obtain⟨k1,k2,k3⟩:=hb b (by simp)
   have hlt:b<w.heap.size:=(Array.getElem?_eq_some_iff.1 k2).1
   have hoth:∀x,x≠b→(w.putObj b (.deferred none)).heap[x]? = w.heap[x]? := λx hx=>World.putObj_heap_other hx
   have hd:DefW w (w.putObj b (.deferred none)):=by
    refine⟨rfl,rfl,rfl,by simp[World.putObj],?_⟩
    intro x
    by_cases hx:x=b
    ·subst hx
     exact .inr ⟨⟨_,k2⟩,none,World.putObj_heap_same hlt⟩
    ·exact .inl (hoth x hx)
   refine⟨hu,.inl ⟨b,_,rfl,run_takeDeferred k2,?_⟩⟩
   refine a7e (w0:=w0) (G:=G) hu n2 ?_ ?_
   ·intro x hx
    have hne:x≠b:=by rintro rfl; exact n1 hx
    obtain⟨j1,j2,j3⟩:=hb x (by simp[hx])
    exact⟨j1,(hoth x hne).trans j2,j3⟩
   ·intro w' d2 hsame
    refine h w' ?_ ?_
    ·refine⟨d2.os.trans hd.os,d2.tape.trans hd.tape,d2.output.trans hd.output,d2.size.trans hd.size,?_⟩
     intro x
     rcases d2.heap x with e|⟨⟨y,e1⟩,z,e2⟩
     ·rcases hd.heap x with e' | ⟨e1',z,e2'⟩
      ·exact .inl (e.trans e')
      ·exact .inr ⟨e1',z,e.trans e2'⟩
     ·rcases hd.heap x with e' | ⟨e1',_⟩
      ·exact .inr ⟨⟨y,by rw[← e']; exact e1⟩,z,e2⟩
      ·exact .inr ⟨e1',z,e2⟩
    ·intro x hx
     have hne:x≠b:=by omega
     rw[hsame x hx,hoth x hne]
theorem a5c {w w1 w':World} {G G':GS} {st:St} {a:Act} {vs:List Tmp} {nt:Nat} (he:ExtD w G w1 G') (hb:BI N w1 G' st a vs nt) (d:DefW w1 w') (hs:∀b,b<w.heap.size→w'.heap[b]? = w1.heap[b]?) (vars:List PV) (rs:List PRes):
  Ext w G w' { fix:=(G'.shut (a3D vars rs) st.heap).fix,heap:=G'.heap,box:=λ_=>none,ow:=a56 G'.ow,df:=G.df }∧Between N w' { fix:=(G'.shut (a3D vars rs) st.heap).fix,heap:=G'.heap,box:=λ_=>none,ow:=a56 G'.ow,df:=G.df } (a0w vars rs st.heap):=by
 have hb2:=hb.def' d
 have he:Ext w { G with df:=G'.df } w1 G':=he
 refine⟨⟨d.os.trans he.os,d.tape.trans he.tape,d.output.trans he.output,by rw[d.size]; exact he.size,λb hlt h=>(hs b hlt).trans (he.same b hlt h),λb o h=>⟨.inl (he.fix b o h).1,(d.cell b o).trans (he.fix b o h).2⟩,?_,?_,he.heap,he.shape.trans d.shape,rfl⟩,⟨λb k h=>(a5e h).2,λ_=>rfl⟩,?_,λb k h=>hb2.fi.owlt b k (a5e h).1,(hb2.fi.heap.shut vars rs).sub rfl rfl (λb k hk h=>b3S h hk),?_⟩
 ·rintro b o (h|⟨n,_,cs,h1,h2,_⟩)
  ·exact he.newfix b o h
  ·rcases hb.fi.heap.1 n _ h2 with h3|⟨b',k1,k2,_⟩
   ·simp at h3
   rw[h1] at k1; cases k1
   exact .inr (he.own b (by rw[k2]; simp))
 ·intro b h
  refine he.own b ?_
  intro e
  exact h (by simp[a56,e])
 ·rintro b o (h|⟨n,_,cs,h1,h2,_⟩)
  ·exact hb2.fi.fixlt b o h
  ·rcases hb2.fi.heap.1 n _ h2 with h3|⟨b',k1,k2,_⟩
   ·simp at h3
   rw[h1] at k1; cases k1
   exact hb2.fi.owlt b _ k2
 ·rw[b1c]; exact hb2.fi.hdom
theorem b1d {kp:Bool} {fn:Func} {vs:List Tmp} {nt:Nat} {w:World} {G:GS} {st:St} {a:Act} {rs:List PRes} {r:PV} (hb:BI N w G st a vs nt) (hc:b0F P kp vs fn.results.toList=some rs) (hr:a0Y st rs=some r):
  ∃v,(results fn a.tmps).run P w = .ok v w∧VR N w (G.shut (a3D st.vars rs) st.heap).fix (G.shut (a3D st.vars rs) st.heap).heap v r:=by
 simp only[a0Y,Option.map_eq_some_iff] at hr
 obtain⟨us,hus,hr'⟩:=hr
 obtain⟨rvals,h1,h2,h3⟩:=a8K (P:=P) (ns:=a3D st.vars rs) hb (λp hp n hn=>b4i hn hp) hc hus
 have hm:results fn a.tmps=(do let vs←fn.results.mapM (c6v a); pure (if h:vs.size=1 then vs[0] else .tuple vs)):=rfl
 rw[hm,Array.mapM_eq_mapM_toList]
 simp only[Sem.run_bind,Sem.run_map]
 rw[h1]
 simp only[Result.andThen_ok,Sem.run_pure]
 subst hr'
 cases us with
 | nil =>
   have:rvals=[]:=by simpa using h2
   subst this
   exact⟨.tuple #[],by simp,.tuple #[] _ rfl (by simp)⟩
 | cons u us2 =>
   cases us2 with
   | nil =>
     obtain⟨v,rfl⟩:=List.length_eq_one_iff.1 (by simpa using h2)
     exact⟨v,by simp,h3 0 v u rfl rfl⟩
   | cons u2 us3 =>
     refine⟨.tuple rvals.toArray,?_,.tuple _ _ ?_ ?_⟩
     ·have:¬rvals.toArray.size=1:=by
       intro e
       have e':rvals.length=1:=e
       rw[h2] at e'
       simp at e'
      rw[dif_neg this]
     ·simpa using h2
     ·intro i v p hv hp
      simp only[List.getElem?_map,Option.map_eq_some_iff] at hp
      obtain⟨q,hq,rfl⟩:=hp
      exact(h3 i v q (by simpa using hv) hq).dem
theorem c0s {L:Nat→Option PFunc} (hE:EnvOk E N) (hP:E.P=P) (hmix:P.follows .mixedOrders=true) (hF:a4X N P L) (hL:∀k pf,L k=some pf→FnS E N k pf) {n:Nat} (hrun:∀m,m<n→Runs N P L m)
  {k:Nat} {pf:PFunc} {fn:Func} {vs:List Tmp} (hLk:FnC E N k pf fn vs) (hnr:pf.code.isRound=false) {args:List PV} {o:Out} {h0 h':List PObj} (hc:a3B (a1e L n) (a4A L) pf args h0=some (o,h')) (hal:args.length=pf.params)
  {w:World} {G:GS} {vals:Array Value} (hbt:Between N w G h0) (hsz:vals.size=args.length) (hvr:∀(i:Nat) (v:Value) (p:PV),vals[i]? = some v→args[i]? = some p→VR N w G.fix G.heap v p):
  Calls P (N.fn k) vals w λe w'=>∃G',b6C N w' G' e o∧Ext w G w' G'∧Between N w' G' h':=by
 obtain⟨f1,f2,f3,f4,f5,f6,f7,opt,f8,f8',f9⟩:=hLk
 simp only[Option.map_eq_some_iff] at f8
 obtain⟨c,hbody,hcomp⟩:=f8
 rw[hP] at f1
 rw[hP] at f9
 have hLp:LpOK (E.opt opt) N fn.ntmps (N.fn k) c:=by
  rcases f8' with h|h
  ·intro ps kb vars hl
   simp only[Env.opt,h] at hl
   simp at hl
  ·exact h c hbody
 let st0:St:={ vars:=args.map dem++List.replicate (pf.nv - pf.params) .dead,locs:=[],gen:=0,heap:=h0 }
 let a0:Act:={ tmps:=vals++Array.replicate (fn.ntmps - vals.size) undef,defers:=[] }
 let G0:GS:={ G with df:=[] }
 have hb0:BI N w G0 st0 a0 vs fn.ntmps:=by
  refine⟨⟨?_,?_,(by intro j t u hj; simp at hj),?_,(by intro j t hj; simp at hj),rfl,(by intro g b h; have h:G.box g=some b:=h; rw[hbt.only.box] at h; simp at h),hbt.owlt,hbt.fixlt,hbt.heap,hbt.hdom⟩,?_⟩
  ·simp only[st0,List.length_append,List.length_map,List.length_replicate,f5,hal]; omega
  ·intro i t u h1 h2
   by_cases hi:i<pf.params
   ·have ht:t=i:=by rw[f7 i hi] at h1; simpa using h1.symm
    subst ht
    have hia:t<args.length:=by rw[hal]; exact hi
    simp only[st0] at h2
    rw[List.getElem?_append_left (by simpa using hia)] at h2
    simp only[List.getElem?_map,List.getElem?_eq_getElem hia,Option.map_some,Option.some.injEq] at h2
    subst h2
    have hiv:t<vals.size:=by rw[hsz]; exact hia
    have hev:a0.eval (.tmp t)=vals[t]:=by
     simp only[a0,Act.eval,Array.getD_eq_getD_getElem?]
     rw[Array.getElem?_append_left hiv]
     simp[hiv]
    rw[hev]
    have hv:=hvr t vals[t] args[t] (by simp[hiv]) (List.getElem?_eq_getElem hia)
    exact SR.of_pure hv.dem hv.cp_dem
   ·simp only[st0] at h2
    rw[List.getElem?_append_right (by rw[List.length_map,hal]; omega)] at h2
    rw[List.getElem?_replicate] at h2
    split at h2
    ·simp at h2; subst h2; trivial
    ·simp at h2
  ·intro i t h1
   have h3:=f4 t (List.mem_of_getElem? h1)
   simp only[a0,Array.size_append,Array.size_replicate]
   exact Nat.lt_of_lt_of_le h3 ((Nat.sub_le_iff_le_add').1 (Nat.le_refl _))
  ·simp only[a0,Array.size_append,Array.size_replicate]
   exact(Nat.sub_le_iff_le_add').1 (Nat.le_refl _)
 have walk:∀(x:PExit) (st':St),a1e L n pf.code st0=some (x,st')→(∀a' w' G' e,a5S N w' G' x e→BI N w' G' st' a' vs fn.ntmps→ExtD w G w' G'→DfR pf.code x w G0 w' G'→d1F P fn (λe w'=>∃G',b6C N w' G' e o∧Ext w G w' G'∧Between N w' G' h') e a' w') →
   Calls P (N.fn k) vals w λe w'=>∃G',b6C N w' G' e o∧Ext w G w' G'∧Between N w' G' h':=by
  intro x st' hx hq
  refine b0D f1 hbody ?_
  exact a21 (rd':=none) hF (hE.opt opt) hP hmix f3 n hrun (by rw[← hcomp]; exact a7c) hx hb0 hLp (.inl rfl) (fun⟨_,_,h⟩=>h) hq
 have marks:∀{x:PExit} {w':World} {G':GS} {st':St} {a':Act} {R:Ending→World→Prop} {u:FrameMode},u≠.run→x.plain=true→BI N w' G' st' a' vs fn.ntmps→DfR pf.code x w G0 w' G' →
   (∀w'',DefW w' w''→(∀b,b<w.heap.size→w''.heap[b]? = w'.heap[b]?)→LeavesIn (W none) 0 P fn a'.tmps R [] u w'')→LeavesInM (W none) 0 P fn a'.tmps R a'.defers u w':=by
  intro x w' G' st' a' R u hu hx hb hd hK
  have key:(∃ms,G'.df=ms++G0.df∧Marks w w' G' ms∧(pf.code.NR=true→ms=[]))→LeavesInM (W none) 0 P fn a'.tmps R a'.defers u w':=by
   rintro⟨ms,h1,⟨bs,rfl,h2,h3⟩,_⟩
   have hdef:a'.defers=bs.map λb=>{ target := .collected b,args := #[] }:=by
    rw[hb.fi.defers,h1]; exact List.append_nil _
   rw[hdef]
   exact a7e (G:=G') (w0:=w) hu h2 h3 hK
  cases x with
  | after _ _ _=>simp[PExit.plain] at hx
  | normal=>exact key hd
  | exit _=>exact key hd
  | ret=>exact key hd
  | boom _=>exact key hd
 have fin:∀(x:PExit) (st':St),a1e L n pf.code st0=some (x,st')→(x = .normal∨x = .ret)→(a0Y st' pf.results).map (λr=>(Out.val r,a0w st'.vars pf.results st'.heap))=some (o,h') →
   Calls P (N.fn k) vals w λe w'=>∃G',b6C N w' G' e o∧Ext w G w' G'∧Between N w' G' h':=by
  intro x st' hx hxn hres
  simp only[Option.map_eq_some_iff,Prod.mk.injEq] at hres
  obtain⟨r,hr,rfl,rfl⟩:=hres
  refine walk x st' hx ?_
  intro a' w' G' e he hb' hext hdf
  have hp:x.plain=true:=by rcases hxn with rfl|rfl<;>rfl
  have hL:=marks (R:=λe w'=>∃G',b6C N w' G' e (.val r)∧Ext w G w' G'∧Between N w' G' (a0w st'.vars pf.results st'.heap)) (u := .returning) (by simp) hp hb' hdf (by
   intro w'' d hsame
   obtain⟨v,hv1,hv2⟩:=b1d (hb'.def' d) f9 hr
   obtain⟨l1,l2⟩:=a5c hext hb' d hsame st'.vars pf.results
   exact⟨v,hv1,_,by exact⟨v,rfl,hv2⟩,l1,l2⟩)
  rcases hxn with rfl|rfl<;>(simp only[a5S] at he; subst he; exact hL)
 unfold a3B at hc
 split at hc
 ·rename_i heq; rw[heq] at hnr; simp[PC.isRound] at hnr
 ·split at hc
  ·rename_i st' hx
   exact fin .normal st' hx (.inl rfl) hc
  ·rename_i st' hx
   exact fin .ret st' hx (.inr rfl) hc
  ·rename_i p st' hx
   simp only[Option.some.injEq,Prod.mk.injEq] at hc
   obtain⟨rfl,rfl⟩:=hc
   refine walk _ st' hx ?_
   rintro a' w' G' e ⟨v,rfl,hv⟩ hb' hext hdf
   refine marks (x := .boom p) (by simp) rfl hb' hdf ?_
   intro w'' d hsame
   obtain⟨l1,l2⟩:=a5c hext hb' d hsame st'.vars []
   exact⟨_,by exact⟨v,rfl,(hv.def' d).shut⟩,l1,l2⟩
  ·rename_i kd caps vo st' hx
   split at hc
   ·simp at hc
   ·rename_i hnrr
    have hNR:pf.code.NR=true:=by simpa using hnrr
    simp only[Option.bind_eq_some_iff,Option.map_eq_some_iff,Prod.mk.injEq] at hc
    obtain⟨h1,hd1,r,hr,rfl,rfl⟩:=hc
    obtain⟨g,fd,hfd,hg,hDf⟩:∃g fd,L kd=some fd∧g (vo.getD .nilIface::caps) st'.heap=some h1∧b4f N P kd g:=by
     unfold a4A at hd1
     split at hd1
     ·rename_i f hf
      split at hd1
      ·rename_i g hg
       have hpl:FnF E N kd f:=by
        rcases hL kd f hf with h|⟨y,fn,vs,o,a,b,h⟩
        ·exact h
        ·rw[h.dfr] at hg; simp at hg
       rcases hpl.2.2.2 with⟨_,h,_⟩|⟨_,_,_,h,_⟩|⟨g',fd,_,_,h3,h4,h5,h6,h7⟩
       ·rw[h] at hg; simp at hg
       ·rw[h] at hg; simp at hg
       ·rw[hg] at h3
        simp only[Option.some.injEq] at h3
        subst h3
        exact⟨g,f,hf,hd1,by rw[← hP]; exact h7⟩
      ·simp at hd1
     ·simp at hd1
    refine walk _ st' hx ?_
    intro a' w' G' e he hb' hext hdf
    obtain⟨d1,hd2⟩:∃d,G'.df=d::G0.df:=hdf hNR
    have last:∀(u:FrameMode),Clo N w' G' kd caps→u≠.run→(u = .returning∧vo.getD .nilIface = .nilIface∨∃v,u = .panicking [{ v,recovered:=false }]∧VR N w' G'.fix G'.heap v (vo.getD .nilIface)) →
      LeavesInM (W none) 0 P fn a'.tmps (λe w'=>∃G',b6C N w' G' e (.val r)∧Ext w G w' G'∧Between N w' G' (a0w st'.vars pf.results h1)) a'.defers u w':=by
     rintro u ⟨d,ds,vals',k1,rfl,k3,k4⟩ hu hu'
     have hds:ds=[]:=by
      rw[hd2] at k1
      simp only[List.cons.injEq] at k1
      exact k1.2.symm
     subst hds
     have hdef:a'.defers=[{ target := .fn (.func (N.fn kd)) vals',args := #[] }]:=by rw[hb'.fi.defers,k1]
     rw[hdef]
     have hinv:(invoke (.fn (.func (N.fn kd)) vals') #[]).run P w' = .ok (.enter (N.fn kd) vals') w':=by
      simp only[invoke,Array.empty_append]
      exact a15 hF hfd _ _
     refine⟨hu,.inr ⟨a9x,_,_,_,_,rfl,hinv,λ_ _=>b5U _,?_⟩⟩
     refine(hDf _ _ _ _ hg w' G'.callee vals' (a2H hb'.fi) k3 k4 u hu').mono ?_
     rintro e u' w'' ⟨⟨v,rfl⟩,a3L,G2,he2,hb2⟩
     obtain⟨G3,hext3,hf3,_,_⟩:=a9m hb'.fi he2 hb2
     have hb3:BI N w'' G3 { st' with heap:=h1 } a' vs fn.ntmps:=⟨hf3,hb'.size⟩
     simp only[a3L]
     obtain⟨v2,hv1,hv2⟩:=b1d hb3 f9 hr
     obtain⟨l1,l2⟩:=a5c (ExtD.trans hext (.of hext3)) hb3 (DefW.refl _) (λ_ _=>rfl) st'.vars pf.results
     exact⟨v2,hv1,_,by exact⟨v2,rfl,hv2⟩,l1,l2⟩
    cases vo with
    | none =>
      obtain⟨he,hclo⟩:=he
      have:=last .returning hclo (by simp) (.inl ⟨rfl,rfl⟩)
      rcases he with rfl|rfl<;>exact this
    | some p =>
      obtain⟨⟨v,rfl,hv⟩,hclo⟩:=he
      exact last _ hclo (by simp) (.inr ⟨v,rfl,hv⟩)
  ·simp at hc
theorem c0t {kp:Bool} {fn:Func} {vs:List Tmp} {nt:Nat} {w:World} {G:GS} {st:St} {a:Act} {rs:List PRes} {es:List PV} {v:Value} (hb:BI N w G st a vs nt) (hc:b0F P kp vs fn.results.toList=some rs) (hr:a0Y st rs=some (.list true es))
  (hv:(results fn a.tmps).run P w = .ok v w):∃i,Room w G (.var i) v es:=by
 simp only[a0Y,Option.map_eq_some_iff] at hr
 obtain⟨us,hus,hr'⟩:=hr
 have hu1:us=[.list true es]:=by
  cases us with
  | nil=>simp at hr'
  | cons u us => cases us with
    | nil=>simp at hr'; subst hr'; rfl
    | cons _ _=>simp at hr'
 subst hu1
 cases rs with
 | nil=>simp[a1O] at hus
 | cons p ps =>
   simp only[a1O,Option.bind_eq_some_iff,Option.map_eq_some_iff] at hus
   obtain⟨u,hp,us',hps,he⟩:=hus
   simp only[List.cons.injEq] at he
   obtain⟨rfl,rfl⟩:=he
   have hps0:ps=[]:=by
    cases ps with
    | nil=>rfl
    | cons q qs =>
      simp only[a1O,Option.bind_eq_some_iff,Option.map_eq_some_iff] at hps
      obtain⟨_,_,_,_,h⟩:=hps
      simp at h
   subst hps0
   cases hl:fn.results.toList with
   | nil=>rw[hl] at hc; simp[b0F] at hc
   | cons r0 rl =>
     rw[hl] at hc
     simp only[b0F,Option.bind_eq_some_iff,Option.map_eq_some_iff] at hc
     obtain⟨q,hq,qs,hqs,he⟩:=hc
     simp only[List.cons.injEq] at he
     obtain⟨rfl,rfl⟩:=he
     have hrl:rl=[]:=by
      cases rl with
      | nil=>rfl
      | cons x xs =>
        simp only[b0F,Option.bind_eq_some_iff,Option.map_eq_some_iff] at hqs
        obtain⟨_,_,_,_,h⟩:=hqs
        simp at h
     subst hrl
     have noList:∀{x:Option PV},x.bind cp=some (.list true es)→False:=by
      intro x h
      cases x with
      | none=>simp at h
      | some y=>cases y<;>simp[cp] at h
     have hvar:∃i,q = .var i∧st.vars[i]? = some (.list true es):=by
      cases q with
      | keep i=>simp only[a2e] at hp; exact(noList hp).elim
      | cell i size agg =>
        have noLoad:∀{size agg cs off},a0a size agg cs off=some (.list true es)→False:=by
         intro size agg cs off h
         unfold a0a at h
         split at h
         ·split at h<;>simp at h
         ·split at h
          ·rename_i y _; cases y<;>simp[cp] at h
          ·simp at h
        simp only[a2e] at hp
        split at hp
        ·simp only[Option.bind_eq_some_iff] at hp
         obtain⟨y,hy,hf⟩:=hp
         have:y = .list true es:=by
          cases y<;>simp[a8n] at hf
          simp[hf]
         subst this
         exact(noLoad hy).elim
        ·simp only[Option.bind_eq_some_iff] at hp
         obtain⟨cs,_,hy⟩:=hp
         exact(noLoad hy).elim
        ·simp at hp
      | var i =>
        refine⟨i,rfl,?_⟩
        simp only[a2e,Option.bind_eq_some_iff] at hp
        obtain⟨x,hx,hx2⟩:=hp
        split at hx2
        ·simp at hx2; subst hx2; exact hx
        ·split at hx2
         ·simp only[Option.bind_eq_some_iff,Option.map_eq_some_iff] at hx2
          obtain⟨_,_,_,_,h⟩:=hx2
          simp at h
         ·simp at hx2
        ·simp at hx2
        ·exact(noList (x:=some _) (by simpa using hx2)).elim
     obtain⟨i,rfl,hi⟩:=hvar
     cases r0 with
     | cell t ty =>
       simp only[c4R,Option.bind_eq_some_iff,Option.map_eq_some_iff] at hq
       obtain⟨_,_,_,_,h⟩:=hq
       simp at h
     | tmp t =>
       simp only[c4R,Option.map_eq_some_iff] at hq
       obtain⟨i',hi',hii⟩:=hq
       obtain⟨_,hi2⟩:=a28 hi'
       have:i'=i:=by cases kp<;>simp at hii; exact hii
       subst this
       have hs:=hb.fi.var i' t _ (by simpa using hi2) hi
       have hres:fn.results = #[.tmp t]:=by
        have:=congrArg List.toArray hl
        simpa using this
       have hvv:v=a.eval (.tmp t):=by
        simp[results,hres] at hv
        simp[Act.eval]
        exact hv.symm
       rw[hvv]
       exact⟨i',hs.2⟩
theorem b8B {L:Nat→Option PFunc} (hE:EnvOk E N) (hP:E.P=P) (hmix:P.follows .mixedOrders=true) (hF:a4X N P L) {n:Nat} (hrun:∀m,m<n→Runs N P L m)
  {k:Nat} {pf:PFunc} {fn:Func} {vs:List Tmp} (hLk:FnC E N k pf fn vs) {own:Option Nat} {args:List PV} {r:PV} {h':List PObj} (hc:a4c (a1e L n) pf own args []=some (r,h')) (hal:args.length=pf.params)
  {w:World} {G:GS} {vals:Array Value} (hin:OwnIn N w G own args vals):
  Calls P (N.fn k) vals w λe w'=>∃v G',e = .returned v∧VR N w' G'.fix G'.heap v r∧Ext w G w' G'∧(∀b o,G'.fix b o→b<w'.heap.size)∧∀es,r = .list true es→b6y w G w' G' v es:=by
 obtain⟨f1,f2,f3,f4,f5,f6,f7,opt,f8,f8',f9⟩:=hLk
 simp only[Option.map_eq_some_iff] at f8
 obtain⟨c,hbody,hcomp⟩:=f8
 rw[hP] at f1
 rw[hP] at f9
 have hLp:LpOK (E.opt opt) N fn.ntmps (N.fn k) c:=by
  rcases f8' with h|h
  ·intro ps kb vars hl
   simp only[Env.opt,h] at hl
   simp at hl
  ·exact h c hbody
 have hel:(b36 own args).length=args.length:=by cases own<;>simp[b36]
 let st0:St:={ vars:=b36 own args++List.replicate (pf.nv - pf.params) .dead,locs:=[],gen:=0,heap:=[] }
 let a0:Act:={ tmps:=vals++Array.replicate (fn.ntmps - vals.size) undef,defers:=[] }
 let G0:GS:={ G with df:=[] }
 have hb0:BI N w G0 st0 a0 vs fn.ntmps:=by
  refine⟨⟨?_,?_,(by intro j t u hj; simp at hj),?_,(by intro j t hj; simp at hj),rfl,(by intro g b h; have h:G.box g=some b:=h; rw[hin.box] at h; simp at h),hin.owlt,hin.fixlt,⟨by intro n ob h; simp[st0] at h,hin.tab⟩,(by intro n b h; have h:G.heap n=some b:=h; rw[hin.heap] at h; simp at h)⟩,?_⟩
  ·simp only[st0,List.length_append,hel,List.length_replicate,f5,hal]; omega
  ·intro i t u h1 h2
   by_cases hi:i<pf.params
   ·have ht:t=i:=by rw[f7 i hi] at h1; simpa using h1.symm
    subst ht
    have hia:t<args.length:=by rw[hal]; exact hi
    simp only[st0] at h2
    rw[List.getElem?_append_left (by rw[hel]; exact hia)] at h2
    have hiv:t<vals.size:=by rw[hin.size]; exact hia
    have hev:a0.eval (.tmp t)=vals[t]:=by
     simp only[a0,Act.eval,Array.getD_eq_getD_getElem?]
     rw[Array.getElem?_append_left hiv]
     simp[hiv]
    rw[hev]
    have hv:=hin.vr t vals[t] args[t] (by simp[hiv]) (List.getElem?_eq_getElem hia)
    have plain:u=dem args[t]→SR N w G0 (.var t) vals[t] u:=by
     rintro rfl
     exact SR.of_pure hv.dem hv.cp_dem
    cases own with
    | none =>
      refine plain ?_
      simp only[b36,List.getElem?_map,List.getElem?_eq_getElem hia,Option.map_some,Option.some.injEq] at h2
      exact h2.symm
    | some i =>
      simp only[b36,List.getElem?_set,List.length_map] at h2
      split at h2
      ·rename_i hit
       subst hit
       rw[if_pos hia] at h2
       simp only[List.getD_eq_getElem?_getD,List.getElem?_eq_getElem hia,Option.getD_some,Option.some.injEq] at h2
       subst h2
       rcases hv.cp_or with h|⟨es,h⟩
       ·exact SR.of_pure hv h
       ·rw[h] at hv ⊢
        exact⟨hv,hin.room i vals[i] es rfl (by simp[hiv]) (by rw[List.getElem?_eq_getElem hia,h])⟩
      ·refine plain ?_
       simp only[List.getElem?_map,List.getElem?_eq_getElem hia,Option.map_some,Option.some.injEq] at h2
       exact h2.symm
   ·simp only[st0] at h2
    rw[List.getElem?_append_right (by rw[hel,hal]; omega)] at h2
    rw[List.getElem?_replicate] at h2
    split at h2
    ·simp at h2; subst h2; trivial
    ·simp at h2
  ·intro i t h1
   have h3:=f4 t (List.mem_of_getElem? h1)
   simp only[a0,Array.size_append,Array.size_replicate]
   exact Nat.lt_of_lt_of_le h3 ((Nat.sub_le_iff_le_add').1 (Nat.le_refl _))
  ·simp only[a0,Array.size_append,Array.size_replicate]
   exact(Nat.sub_le_iff_le_add').1 (Nat.le_refl _)
 have fin:∀(x:PExit) (st':St),a1e L n pf.code st0=some (x,st')→(x = .normal∨x = .ret)→(a0Y st' pf.results).map (λr=>(r,a0w st'.vars pf.results st'.heap))=some (r,h') →
   Calls P (N.fn k) vals w λe w'=>∃v G',e = .returned v∧VR N w' G'.fix G'.heap v r∧Ext w G w' G'∧(∀b o,G'.fix b o→b<w'.heap.size)∧∀es,r = .list true es→b6y w G w' G' v es:=by
  intro x st' hx hxn hres
  simp only[Option.map_eq_some_iff,Prod.mk.injEq] at hres
  obtain⟨r,hr,rfl,rfl⟩:=hres
  refine b0D f1 hbody ?_
  refine a21 (rd':=none) hF (hE.opt opt) hP hmix f3 n hrun (by rw[← hcomp]; exact a7c) hx hb0 hLp (.inl rfl) (fun⟨_,_,h⟩=>h) ?_
  intro a' w' G' e he hb' hext hdf
  have hext:ExtD w G w' G':=hext
  have key:(∃ms,G'.df=ms++G0.df∧Marks w w' G' ms∧(pf.code.NR=true→ms=[]))→LeavesInM (W none) 0 P fn a'.tmps (λe w'=>∃v G',e = .returned v∧VR N w' G'.fix G'.heap v r∧Ext w G w' G'∧(∀b o,G'.fix b o→b<w'.heap.size)∧∀es,r = .list true es→b6y w G w' G' v es) a'.defers .returning w':=by
   rintro⟨ms,h1,⟨bs,rfl,h2,h3⟩,_⟩
   have hdef:a'.defers=bs.map λb=>{ target := .collected b,args := #[] }:=by
    rw[hb'.fi.defers,h1]; exact List.append_nil _
   rw[hdef]
   refine a7e (G:=G') (w0:=w) (by simp) h2 h3 ?_
   intro w'' d hsame
   obtain⟨v,hv1,hv2⟩:=b1d (hb'.def' d) f9 hr
   obtain⟨l1,l2⟩:=a5c hext hb' d hsame st'.vars pf.results
   refine⟨v,hv1,v,{ fix:=(G'.shut (a3D st'.vars pf.results) st'.heap).fix,heap:=G'.heap,box:=λ_=>none,ow:=a56 G'.ow,df:=G.df },rfl,hv2,l1,l2.fixlt,?_⟩
   rintro es rfl
   obtain⟨i,hi⟩:=c0t (hb'.def' d) f9 hr hv1
   unfold b6y
   unfold Room at hi
   split at hi
   ·rename_i a1 len cap
    rcases hi with hi|⟨i1,sz,cs,T,i2,i3,i4,i5,i6⟩
    ·exact .inl hi
    ·refine .inr ⟨?_,sz,cs,T,i2,i3,i4,i5,?_⟩
     ·exact hext.own a1.block (by rw[i1]; simp)
     ·rintro o ho (h|⟨m,hm,cs',j1,j2,_⟩)
      ·exact i6 o ho h
      ·rcases hb'.fi.heap.1 m _ j2 with h3|⟨b',k1,k2,_⟩
       ·simp at h3
       ·rw[j1] at k1
        simp only[Option.some.injEq] at k1
        subst k1
        rw[i1] at k2
        simp at k2
   ·rename_i hne
    split
    ·rename_i a1 len cap; exact absurd rfl (hne _ _ _)
    ·trivial
  rcases hxn with rfl|rfl<;>(simp only[a5S] at he; subst he; exact key hdf)
 unfold a4c at hc
 split at hc
 ·simp at hc
 ·split at hc
  ·rename_i st' hx
   exact fin .normal st' hx (.inl rfl) hc
  ·rename_i st' hx
   exact fin .ret st' hx (.inr rfl) hc
  ·simp at hc
theorem b6Q:∀(ps:List (Tmp×Value)) (a:Array Value),(ps.foldl (λtmps x=>tmps.setIfInBounds x.1 x.2) a).size=a.size∧(∀t,t∉ps.map (·.1)→(ps.foldl (λtmps x=>tmps.setIfInBounds x.1 x.2) a).getD t undef=a.getD t undef) ∧
  ((ps.map (·.1)).Nodup→∀x∈ps,x.1<a.size→(ps.foldl (λtmps x=>tmps.setIfInBounds x.1 x.2) a).getD x.1 undef=x.2)
 | [],a=>⟨rfl,λ_ _=>rfl,by simp⟩
 | (t0, v0) :: ps, a => by
   obtain⟨h1,h2,h3⟩:=b6Q ps (a.setIfInBounds t0 v0)
   simp only[List.foldl_cons,List.map_cons,List.mem_cons,not_or,List.nodup_cons]
   refine⟨by rw[h1]; simp,?_,?_⟩
   ·rintro t ⟨n1,n2⟩
    rw[h2 t n2]
    simp only[Array.getD_eq_getD_getElem?,Array.getElem?_setIfInBounds]
    rw[if_neg (λe=>n1 e.symm)]
   ·rintro⟨n1,n2⟩ x (rfl|hx) hlt
    ·rw[h2 _ n1]
     simp only[Array.getD_eq_getD_getElem?,Array.getElem?_setIfInBounds,if_true]
     simp[hlt]
    ·exact h3 n2 x hx (by simpa using hlt)
theorem b5T {L:Nat→Option PFunc} (hE:EnvOk E N) (hP:E.P=P) (hmix:P.follows .mixedOrders=true) (hF:a4X N P L) {n:Nat} (hrun:∀m,m<n→Runs N P L m)
  {k:Nat} {pf:PFunc} {y:YL} {fn:Func} {vs:List Tmp} {opt:Opts} {ca cb:PC} (hR:RdC E N k pf y fn vs opt ca cb) {n0 l:Nat} {caps args:List PV} {o:Out} {h0 h':List PObj}
  (hc:a4p (a1e L n) pf.nv ca cb (.ptr n0 0::caps++args) h0=some (o,h')) (hal:(PV.ptr n0 0::caps++args).length=1+(y.vars.length+y.params.size))
  {w:World} {G:GS} {vals:Array Value} (hbt:Between N w G h0) (hy:VR N w G.fix G.heap (.func (.yield l) #[] #[]) (.func k (.ptr n0 0::caps) [])) (hsz:vals.size=args.length)
  (hvr:∀(i:Nat) (v:Value) (p:PV),vals[i]? = some v→args[i]? = some p→VR N w G.fix G.heap v p):
  ∃tmps',(Instr.yield l vals).run P w = .ok (.round l y.fn tmps' y.assign y.body) w∧∀r n',RoundIn (W r) n' P l y.fn tmps' y.assign y.body w λe w'=>∃G',b6C N w' G' e o∧Ext w G w' G'∧Between N w' G' h':=by
 have hfn:P.funcs[y.fn]? = some fn:=by rw[← hP]; exact hR.inP
 generalize hx1:Value.func (.yield l) #[] #[]=xv at hy
 generalize hx2:PV.func k (.ptr n0 0::caps) []=xp at hy
 cases hy with
 | yield k' n' l' y' tmps caps' q0 ql qr qlen qsz qc =>
   simp only[PV.func.injEq,List.cons.injEq,PV.ptr.injEq] at hx2
   obtain⟨rfl,⟨⟨rfl,_⟩,rfl⟩,_⟩:=hx2
   simp only[Value.func.injEq,Fn.yield.injEq] at hx1
   obtain⟨rfl,_⟩:=hx1
   have:y'=y:=by have:=hR.yl; rw[q0] at this; simpa using this
   subst this
   obtain⟨r0,hr0,e1,e2,e3,e4,e5⟩:∃r0:Go.Loop,w.heap[l]? = some (.loop r0)∧r0.fn=y'.fn∧r0.tmps=tmps∧r0.params=y'.params∧r0.assign=y'.assign∧r0.body=y'.body:=by
    unfold a2J at qr
    split at qr
    ·rename_i r0 h
     simp only[Option.some.injEq,Prod.mk.injEq] at qr
     exact⟨r0,h,qr⟩
    ·simp at qr
   have hpa:args.length=y'.params.size:=by simp at hal; omega
   have hyl:=run_yield (P:=P) (args:=vals) hr0 (by rw[hsz,e3]; exact hpa)
   rw[e1,e4,e5,e2,e3] at hyl
   refine⟨_,hyl,?_⟩
   intro r n'
   have hfold:(y'.params.zip vals).foldl (λtmps x=>tmps.setIfInBounds x.1 x.2) tmps=(y'.params.toList.zip vals.toList).foldl (λtmps x=>tmps.setIfInBounds x.1 x.2) tmps:=by
    rw[← Array.foldl_toList,Array.toList_zip]
   obtain⟨z1,z2,z3⟩:=b6Q (y'.params.toList.zip vals.toList) tmps
   have hmap:(y'.params.toList.zip vals.toList).map (·.1)=y'.params.toList:=by
    rw[List.map_fst_zip]; simp; omega
   rw[hmap] at z2 z3
   have hnd2:(y'.vars++y'.params.toList).Nodup:=by rw[← hR.head]; exact hR.nd.sublist (List.take_sublist _ _)
   obtain⟨_,nd2,nd3⟩:=List.nodup_append.1 hnd2
   have hlen2:y'.vars.length+y'.params.size≤vs.length:=by
    have:=congrArg List.length hR.head
    simp at this; omega
   generalize htm:(y'.params.zip vals).foldl (λtmps x=>tmps.setIfInBounds x.1 x.2) tmps=tmps'
   rw[hfold] at htm
   rw[htm] at z1 z2 z3
   have hvv:∀i,i<y'.vars.length+y'.params.size→vs[i]? = (y'.vars++y'.params.toList)[i]? := by
    intro i hi
    rw[← hR.head,List.getElem?_take,if_pos hi]
   let st0:St:={ vars:=(caps++args).map dem++List.replicate (pf.nv - (caps++args).length) .dead,locs:=[],gen:=0,heap:=h0 }
   let a0:Act:={ tmps:=tmps',defers:=[] }
   let G0:GS:={ G with df:=[] }
   have hca:(caps++args).length=y'.vars.length+y'.params.size:=by simp; omega
   have hb0:BI N w G0 st0 a0 vs y'.nt:=by
    refine⟨⟨?_,?_,(by intro j t u hj; simp at hj),?_,(by intro j t hj; simp at hj),rfl,(by intro g b h; have h:G.box g=some b:=h; rw[hbt.only.box] at h; simp at h),hbt.owlt,hbt.fixlt,hbt.heap,hbt.hdom⟩,?_⟩
    ·have:=hR.len
     simp only[st0,List.length_append,List.length_map,List.length_replicate] at hca ⊢
     omega
    ·intro i t u h1 h2
     by_cases hi:i<(caps++args).length
     ·rw[hvv i (by omega)] at h1
      simp only[st0] at h2
      rw[List.getElem?_append_left (by simpa using hi)] at h2
      simp only[List.getElem?_map,List.getElem?_eq_getElem hi,Option.map_some,Option.some.injEq] at h2
      subst h2
      have hval:VR N w G.fix G.heap (tmps'.getD t undef) (caps++args)[i]:=by
       by_cases hi2:i<y'.vars.length
       ·rw[List.getElem?_append_left hi2] at h1
        have hic:i<caps.length:=by omega
        have hq:=qc i t caps[i] h1 (by simp[hic])
        have hnp:t∉y'.params.toList:=λhm=>nd3 t (List.mem_of_getElem? h1) t hm rfl
        rw[z2 t hnp]
        rw[List.getElem_append_left hic]
        exact hq
       ·rw[List.getElem?_append_right (by omega)] at h1
        have hja:i - caps.length<args.length:=by rw[List.length_append] at hi; omega
        have hjv:i - caps.length<vals.size:=by omega
        rw[List.getElem_append_right (by omega)]
        have hpt:y'.params.toList[i - caps.length]? = some t:=by rw[qlen]; exact h1
        have hmem:(t,vals[i - caps.length])∈y'.params.toList.zip vals.toList:=by
         refine List.mem_iff_getElem?.2 ⟨i - caps.length,?_⟩
         rw[List.getElem?_zip_eq_some]
         exact⟨hpt,by simp[hjv]⟩
        have htl:t<tmps.size:=by
         have hm:t∈vs:=by
          have h3:=hvv i (by omega)
          rw[List.getElem?_append_right (by omega)] at h3
          rw[h1] at h3
          exact List.mem_of_getElem? h3
         exact Nat.lt_of_lt_of_le (hR.lt t hm) qsz
        rw[z3 nd2 _ hmem htl]
        exact hvr (i - caps.length) _ _ (by simp[hjv]) (by simp[hja])
      have hev:a0.eval (.tmp t)=tmps'.getD t undef:=rfl
      rw[hev]
      exact SR.of_pure hval.dem hval.cp_dem
     ·simp only[st0] at h2
      rw[List.getElem?_append_right (by simpa using hi)] at h2
      rw[List.getElem?_replicate] at h2
      split at h2
      ·simp at h2; subst h2; trivial
      ·simp at h2
    ·intro i t h1
     have:=hR.lt t (List.mem_of_getElem? h1)
     show t<tmps'.size
     rw[z1]; exact Nat.lt_of_lt_of_le this qsz
    ·show y'.nt≤tmps'.size
     rw[z1]; exact qsz
   have hLp:∀c,LpOK (E.opt opt) N y'.nt y'.fn c:=by
    intro c ps kb vars hl
    simp only[Env.opt,hR.lps] at hl
    simp at hl
   have rec1:∀{w':World} {G':GS} {st:St} {a:Act} {ready:Bool},ExtD w G0 w' G'→BI N w' G' st a vs y'.nt→st.heap[n0]? = some (.loop ready) →
     ∃r1:Go.Loop,G'.heap n0=some l∧G'.ow l=some (.hobj n0)∧(∀o,¬G'.fix l o)∧w'.heap[l]? = some (.loop r1)∧r1.pending=none∧r1.state=(if ready then .ready else .busy):=by
    intro w' G' st a ready hext hb hl
    rcases hb.fi.heap.1 n0 _ hl with h|⟨b,k1,k2,k3,r1,k4,k5⟩
    ·simp at h
    ·have:b=l:=by
      have:=Ext.heap hext n0 l ql
      rw[k1] at this; simpa using this
     subst this
     exact⟨r1,k1,k2,k3,k4,k5⟩
   have turn:∀{w':World} {G':GS} {st:St} {a:Act} {ob:PObj} {r1 r2:Go.Loop},ExtD w G0 w' G'→BI N w' G' st a vs y'.nt→G'.heap n0=some l→G'.ow l=some (.hobj n0)→(∀o,¬G'.fix l o)→w'.heap[l]? = some (.loop r1) →
     (r2.fn,r2.tmps,r2.params,r2.assign,r2.body)=(r1.fn,r1.tmps,r1.params,r1.assign,r1.body)→ObjR N (w'.putObj l (.loop r2)) G' n0 l ob→ExtD w G0 (w'.putObj l (.loop r2)) G'∧BI N (w'.putObj l (.loop r2)) G' (a3L st n0 ob) a vs y'.nt:=by
    intro w' G' st a ob r1 r2 hext hb k1 k2 k3 k4 hrec hob
    have hlt:l<w'.heap.size:=(Array.getElem?_eq_some_iff.1 k4).1
    obtain⟨x1,x2⟩:=b6V (ob':=ob) (mob := .loop r2) hb.fi k1 k2 k3 (by simp[World.shape?,k4]) (by
     intro s hs
     simp only[a2J,k4] at hs
     simp only[a2J,Array.getElem?_setIfInBounds,hlt,if_true]
     simp only[Option.some.injEq] at hs ⊢
     rw[hrec]; exact hs) (.inr hob)
    exact⟨hext.trans (.of x1),⟨x2,hb.size⟩⟩
   have hobj:∀{w':World} {G':GS} {r1 r2:Go.Loop},w'.heap[l]? = some (.loop r1)→(w'.putObj l (.loop r2)).heap[l]? = some (.loop r2):=by
    intro w' G' r1 r2 k4
    exact World.putObj_heap_same (Array.getElem?_eq_some_iff.1 k4).1
   have nr:∀{p:PC},p.RO=true→p.NR=true:=by
    intro p
    induction p<;>simp_all [PC.RO,PC.NR]
   have last:∀{w':World} {G':GS} {st:St} {a:Act} {e:Ending},ExtD w G0 w' G'→BI N w' G' st a vs y'.nt→(∀G2,G2.heap=G'.heap→(∀b o,G'.fix b o→G2.fix b o)→b6C N w' G2 e o)→st.heap=h'→∃G',b6C N w' G' e o∧Ext w G w' G'∧Between N w' G' h':=by
    intro w' G' st a e hext hb ho hh
    obtain⟨l1,l2⟩:=a5c (w:=w) (G:=G) hext hb (DefW.refl w') (λ_ _=>rfl) st.vars []
    refine⟨{ fix:=(G'.shut (a3D st.vars []) st.heap).fix,heap:=G'.heap,box:=λ_=>none,ow:=a56 G'.ow,df:=G.df },ho _ rfl (λb o h=>Or.inl h),l1,?_⟩
    rw[← hh]; exact l2
   refine c8L hfn ?_
   unfold a4p at hc
   simp only[List.cons_append] at hc
   split at hc
   ·rename_i st1 hl0 hst1
    refine a21 (rd':=some l) hF (hE.opt opt) hP hmix hR.nd n hrun (by rw[← hR.ca]; exact a7c) hst1 hb0 (hLp _) (.inr hR.ra) (fun⟨_,_,h⟩=>h) ?_
    intro a1 w1 G1 e he hb1 hext1 hd1
    simp only[a5S] at he
    subst he
    have body:∀{x:PExit} {st2:St},st1.heap[n0]? = some (.loop true)→a1e L n cb (a3L st1 n0 (.loop false))=some (x,st2) →
      (∀a2 w2 G2 e2,a5S N w2 G2 x e2→BI N w2 G2 st2 a2 vs y'.nt→ExtD w G0 w2 G2→(G2.df=[])→a9z P l (λe w'=>∃G',b6C N w' G' e o∧Ext w G w' G'∧Between N w' G' h') e2 a2 w2) →
      ∃w2,(Instr.beginRound l).run P w1 = .ok () w2∧wpN (some l) y'.fn P y'.body (a9z P l (λe w'=>∃G',b6C N w' G' e o∧Ext w G w' G'∧Between N w' G' h')) a1 w2:=by
     intro x st2 hl1 hst2 hq
     obtain⟨r1,k1,k2,k3,k4,k5,k6⟩:=rec1 hext1 hb1 hl1
     refine⟨_,run_beginRound k4 (by rw[k6]; rfl),?_⟩
     obtain⟨t1,t2⟩:=turn (ob := .loop false) (r2:={ r1 with state := .busy }) hext1 hb1 k1 k2 k3 k4 rfl ⟨k3,_,hobj (G':=G1) k4,k5,rfl⟩
     refine a21 (rd':=some l) hF (hE.opt opt) hP hmix hR.nd n hrun (by rw[← hR.cb]; exact a7c) hst2 t2 (hLp _) (.inr hR.rb) (fun⟨_,_,h⟩=>h) ?_
     intro a2 w2 G2 e2 h1 h2 h3 h4
     have hd:G2.df=[]:=by
      have d1:G1.df=[]:=by
       obtain⟨ms,m1,_,m3⟩:=hd1
       rw[m1,m3 (nr hR.ra)]; rfl
      have d2:(∃ms,G2.df=ms++G1.df∧Marks (w1.putObj l (.loop { r1 with state := .busy })) w2 G2 ms∧(cb.NR=true→ms=[]))∨∃d,G2.df=d::G1.df:=by
       unfold DfR at h4
       cases x with
       | after kd cs v=>exact .inr (h4 (nr hR.rb))
       | _=>exact .inl h4
      rcases d2 with⟨ms,m1,_,m3⟩|⟨d,hd⟩
      ·rw[m1,m3 (nr hR.rb),d1]; rfl
      ·exfalso
       cases x with
       | after kd cs v=>exact a5T hR.rb hst2
       | _ =>
         obtain⟨ms,m1,_,m3⟩:=h4
         rw[m1,m3 (nr hR.rb)] at hd
         simp at hd
     exact hq a2 w2 G2 e2 h1 h2 (t1.trans h3) hd
    split at hc
    ·rename_i st2 hl1 hst2
     split at hc
     ·rename_i hl2
      simp only[Option.some.injEq,Prod.mk.injEq] at hc
      obtain⟨rfl,rfl⟩:=hc
      refine body hl1 hst2 ?_
      intro a2 w2 G2 e2 h1 h2 h3 _
      simp only[a5S] at h1
      subst h1
      obtain⟨r2,k1,k2,k3,k4,k5,k6⟩:=rec1 h3 h2 hl2
      refine⟨_,_,run_endRound none k4,?_⟩
      obtain⟨t1,t2⟩:=turn (ob := .loop true) (r2:={ r2 with state:=if (none:Option Code).isNone then .ready else .done,pending:=none }) h3 h2 k1 k2 k3 k4 rfl ⟨k3,_,hobj (G':=G2) k4,rfl,rfl⟩
      exact last t1 t2 (λG3 _ _=>⟨_,rfl,.bool true⟩) rfl
     ·simp at hc
    ·rename_i v st2 hl1 hst2
     simp only[Option.some.injEq,Prod.mk.injEq] at hc
     obtain⟨rfl,rfl⟩:=hc
     refine body hl1 hst2 ?_
     rintro a2 w2 G2 e2 ⟨v',rfl,hv⟩ h2 h3 h4
     refine⟨by rw[h2.fi.defers]; exact h4,?_⟩
     exact last h3 h2 (λG3 g1 g2=>⟨v',rfl,by rw[g1]; exact hv.mono (λb o hf=>⟨g2 b o hf,rfl⟩) (λ_ _ h=>h) (ShapeLe.refl _)⟩) rfl
    ·rename_i id st2 hl1 hst2
     split at hc
     ·rename_i hl2
      simp only[Option.some.injEq,Prod.mk.injEq] at hc
      obtain⟨rfl,rfl⟩:=hc
      refine body hl1 hst2 ?_
      intro a2 w2 G2 e2 h1 h2 h3 _
      simp only[a5S] at h1
      subst h1
      obtain⟨r2,k1,k2,k3,k4,k5,k6⟩:=rec1 h3 h2 hl2
      refine⟨_,_,run_endRound (some (.exit id)) k4,?_⟩
      obtain⟨t1,t2⟩:=turn (ob := .over (some id)) (r2:={ r2 with state:=if (some (Code.exit id)).isNone then .ready else .done,pending:=some (.exit id) }) h3 h2 k1 k2 k3 k4 rfl ⟨k3,_,hobj (G':=G2) k4,rfl,rfl⟩
      exact last t1 t2 (λG3 _ _=>⟨_,rfl,.bool false⟩) rfl
     ·simp at hc
    ·rename_i st2 hl1 hst2
     split at hc
     ·rename_i hl2
      simp only[Option.some.injEq,Prod.mk.injEq] at hc
      obtain⟨rfl,rfl⟩:=hc
      refine body hl1 hst2 ?_
      intro a2 w2 G2 e2 h1 h2 h3 _
      simp only[a5S] at h1
      subst h1
      obtain⟨r2,k1,k2,k3,k4,k5,k6⟩:=rec1 h3 h2 hl2
      refine⟨_,_,run_endRound (some .ret) k4,?_⟩
      obtain⟨t1,t2⟩:=turn (ob := .over none) (r2:={ r2 with state:=if (some Code.ret).isNone then .ready else .done,pending:=some .ret }) h3 h2 k1 k2 k3 k4 rfl ⟨k3,_,hobj (G':=G2) k4,rfl,rfl⟩
      exact last t1 t2 (λG3 _ _=>⟨_,rfl,.bool false⟩) rfl
     ·simp at hc
    ·simp at hc
   ·simp at hc
 | _=>simp at hx1
theorem b4k {ex:PC→St→Option (PExit×St)} {f:PFunc} {args:List PV} {h:List PObj} {r} (hc:a4g ex f args h=some r):∃rest,args = .dead::rest:=by
 unfold a4g at hc
 split at hc
 ·exact⟨_,rfl⟩
 ·cases hc
theorem a8L {ex:PC→St→Option (PExit×St)} {f:PFunc} {args:List PV} {h:List PObj} {r} (hc:a4g ex f args h=some r):f.code.isRound=false:=by
 unfold a4g at hc
 have one:∀{o:Option Nat} {args:List PV},a4c ex f o args h=some r→f.code.isRound=false:=by
  intro o args hr
  unfold a4c at hr
  split at hr
  ·simp at hr
  ·rename_i hn; simpa using hn
 split at hc
 ·split at hc
  ·split at hc
   ·split at hc
    ·exact one (a2k.1 hc).1
    ·exact one hc
   ·simp at hc
  ·simp at hc
 ·simp at hc
theorem b7q {L:Nat→Option PFunc} (hE:EnvOk E N) (hP:E.P=P) (hmix:P.follows .mixedOrders=true) (hL:∀k pf,L k=some pf→FnS E N k pf):∀n,Runs N P L n:=by
 have hF:a4X N P L:=by
  intro k pf hk
  rcases hL k pf hk with hL|⟨y,fn,vs,o,a,b,h⟩
  rcases hL.2.2.2 with⟨_,_,fn,vs,h1,h2,_,_,_,_,_,_,h3,_⟩|⟨g,fn,_,_,h1,h2,h3,_⟩|⟨g,fn,_,_,_,h1,h2,h3,_⟩
  ·refine⟨fn,by rw[← hP]; exact h1,h2,?_⟩
   cases hb:fn.body with
   | none=>rw[hb] at h3; simp at h3
   | some c=>rfl
  ·exact⟨fn,by rw[← hP]; exact h1,h2,h3⟩
  ·exact⟨fn,by rw[← hP]; exact h1,h2,h3⟩
  ·exact⟨fn,by rw[← hP,h.no]; exact h.inP,h.name,h.body⟩
 intro n
 induction n using Nat.strongRecOn with
 | _ n ihn =>
   have prim:∀{k:Nat} {pf:PFunc} {g} {args:List PV} {r:PV} {h0 h':List PObj},L k=some pf→pf.prim=some g→g (args.map dem) h0=some (r,h')→∀(w:World) (G:GS) (vals:Array Value),Between N w G h0→vals.size=args.length →
     (∀(i:Nat) (v:Value) (p:PV),vals[i]? = some v→args[i]? = some p→VR N w G.fix G.heap v p) →
     Calls P (N.fn k) vals w λe w'=>∃v G',e = .returned v∧VR N w' G'.fix G'.heap v r∧Ext w G w' G'∧Between N w' G' h':=by
    intro k pf g args r h0 h' hpf hpn hc w G vals hbt hsz hvr
    have hpl:FnF E N k pf:=by
     rcases hL k pf hpf with h|⟨y,fn,vs,o,a,b,h⟩
     ·exact h
     ·rw[h.prim] at hpn; simp at hpn
    rcases hpl.2.2.2 with⟨h,_⟩|⟨g',fn,h,_,_,_,_,hprim⟩|⟨_,_,h,_⟩
    ·rw[h] at hpn; simp at hpn
    ·rw[h] at hpn
     simp only[Option.some.injEq] at hpn
     subst hpn
     rw[hP] at hprim
     refine hprim (args.map dem) r h0 h' hc w G vals hbt (by simpa using hsz) ?_
     intro i v p hv hp
     simp only[List.getElem?_map,Option.map_eq_some_iff] at hp
     obtain⟨q,hq,rfl⟩:=hp
     exact(hvr i v q hv hq).dem
    ·rw[h] at hpn; simp at hpn
   have code:∀{k:Nat} {pf:PFunc} {args:List PV} {o:Out} {h0 h':List PObj},L k=some pf→pf.code.isRound=false→pf.prim=none→a3B (a1e L n) (a4A L) pf args h0=some (o,h')→args.length=pf.params→∀(w:World) (G:GS) (vals:Array Value),Between N w G h0→vals.size=args.length →
     (∀(i:Nat) (v:Value) (p:PV),vals[i]? = some v→args[i]? = some p→VR N w G.fix G.heap v p) →
     Calls P (N.fn k) vals w λe w'=>∃G',b6C N w' G' e o∧Ext w G w' G'∧Between N w' G' h':=by
    intro k pf args o h0 h' hpf hnr0 hpn hc hal w G vals hbt hsz hvr
    obtain⟨_,hnr,_,hcase⟩:=(hL k pf hpf).plain hnr0
    rcases hcase with⟨_,_,fn,vs,hLk⟩|⟨g',fn,h,_⟩|⟨_,_,_,hx,_⟩
    ·exact c0s hE hP hmix hF hL ihn hLk hnr hc hal hbt hsz hvr
    ·rw[h] at hpn; simp at hpn
    ·unfold a3B at hc
     rw[hx] at hc
     cases n with
     | zero=>simp[a1e] at hc
     | succ n=>simp[a1e] at hc
   refine⟨⟨?_,?_⟩,?_,?_,?_⟩
   ·intro k args r h0 h' hc
    unfold a0I at hc
    split at hc
    ·simp at hc
    ·rename_i pf hpf
     have hnr0:pf.prim=none→pf.code.isRound=false:=by
      intro hpn
      cases hx:pf.code.isRound with
      | false=>rfl
      | true =>
        exfalso
        split at hc
        ·rw[hpn] at hc
         simp only at hc
         split at hc
         ·simp only[a6v,hx,if_true] at hc
          unfold b37 at hc
          split at hc<;>simp at hc
         ·simp only[a6v,hx,if_true] at hc
          simp at hc
        ·have:=a8L hc
         rw[hx] at this; simp at this
     have hpl:FnF E N k pf:=by
      rcases hL k pf hpf with h|⟨y,fn,vs,o,a,b,h⟩
      ·exact h
      ·have:=hnr0 h.prim
       rw[h.code] at this; simp[PC.isRound] at this
     refine⟨hpl.1,?_⟩
     intro w G vals hbt hsz hvr
     split at hc
     ·rename_i hal
      split at hc
      ·rename_i g hpn
       simp only[Option.map_eq_some_iff,Prod.mk.injEq] at hc
       obtain⟨⟨r1,h1⟩,hg,rfl,rfl⟩:=hc
       refine(prim hpf hpn hg w G vals hbt hsz hvr).mono ?_
       rintro e w' ⟨v,G',rfl,hv,h2,h3⟩
       exact⟨v,G',rfl,hv.dem,h2,h3⟩
      ·rename_i hpn
       have hnr:=hpl.2.1
       suffices H:∀args:List PV,args.length=pf.params→a6v (a1e L n) (a4A L) pf args h0=some (r,h')→vals.size=args.length →
         (∀(i:Nat) (v:Value) (p:PV),vals[i]? = some v→args[i]? = some p→VR N w G.fix G.heap v p) →
         Calls P (N.fn k) vals w λe w'=>∃v G',e = .returned v∧VR N w' G'.fix G'.heap v r∧Ext w G w' G'∧Between N w' G' h' by
        split at hc
        ·rename_i hsp
         simp only[Bool.and_eq_true] at hsp
         have hag:a6v (a1e L n) (a4A L) pf (.nils::args.tail) h0=some (r,h')∧a6v (a1e L n) (a4A L) pf (.void::args.tail) h0=some (r,h'):=by
          unfold b37 at hc
          split at hc
          ·rename_i he; exact⟨hc,he▸hc⟩
          ·simp at hc
         cases args with
         | nil=>simp[vague] at hsp
         | cons p ps =>
           have hv0:∃v,vals[0]? = some v:=by
            have h0:0<vals.size:=by rw[hsz]; simp
            exact⟨vals[0],by simp[h0]⟩
           obtain⟨v0,hv0⟩:=hv0
           have hrest:∀q,VR N w G.fix G.heap v0 q→∀(i:Nat) (v:Value) (p':PV),vals[i]? = some v→(q::ps)[i]? = some p'→VR N w G.fix G.heap v p':=by
            intro q hq i v p' h1 h2
            cases i with
            | zero=>rw[hv0] at h1; simp at h1 h2; subst h1 h2; exact hq
            | succ i=>exact hvr (i+1) v p' h1 (by simpa using h2)
           rcases(hvr 0 v0 p hv0 rfl).vague hsp.2 with h|h
           ·exact H _ (by simpa using hal) hag.1 (by simpa using hsz) (hrest _ h)
           ·exact H _ (by simpa using hal) hag.2 (by simpa using hsz) (hrest _ h)
        ·exact H args hal hc hsz hvr
       clear hc hal hsz hvr hnr0 args
       intro args hal hc hsz hvr
       unfold a6v at hc
       rw[hnr] at hc
       simp only[Bool.false_eq_true,if_false] at hc
       unfold c0q at hc
       split at hc
       ·rename_i r' h1 hro
        simp only[Option.some.injEq,Prod.mk.injEq] at hc
        obtain⟨rfl,rfl⟩:=hc
        refine(code hpf hnr hpn hro hal w G vals hbt hsz hvr).mono ?_
        rintro e w' ⟨G',⟨v,rfl,hv⟩,h2,h3⟩
        exact⟨v,G',rfl,hv,h2,h3⟩
       ·simp at hc
     ·
      exfalso
      obtain⟨ps,rfl⟩:=b4k hc
      ·have h0:0<vals.size:=by rw[hsz]; simp
       have h1:=hvr 0 vals[0] .dead (by simp[h0]) rfl
       generalize vals[0]=v0 at h1
       cases h1
   ·intro k own args r h' hc
    unfold a0I at hc
    split at hc
    ·simp at hc
    ·rename_i pf hpf
     have hnl:(a5f own args).length=pf.params→False:=by
      intro hl
      rcases hL k pf hpf with h|⟨y,fn,vs,o,a,b,h⟩
      ·have:=h.2.2.1
       rw[b53] at hl
       omega
      ·rw[if_pos hl,h.prim] at hc
       simp only[a6v,h.code,PC.isRound,if_true] at hc
       split at hc
       ·unfold b37 at hc
        split at hc<;>simp at hc
       ·simp at hc
     rw[if_neg hnl] at hc
     have hnr:=a8L hc
     have hpl:=(hL k pf hpf).plain hnr
     refine⟨hpl.1,?_⟩
     intro w G vals hin
     rw[b4F] at hc
     split at hc
     ·rename_i hal
      obtain⟨hal,hpn⟩:=hal
      suffices H:∀args:List PV,args.length=pf.params→a4c (a1e L n) pf own args []=some (r,h')→OwnIn N w G own args vals →
        Calls P (N.fn k) vals w λe w'=>∃v G',e = .returned v∧VR N w' G'.fix G'.heap v r∧Ext w G w' G'∧(∀b o,G'.fix b o→b<w'.heap.size)∧∀es,r = .list true es→b6y w G w' G' v es by
       split at hc
       ·rename_i hsp
        simp only[Bool.and_eq_true] at hsp
        have hag:=a2k.1 hc
        cases args with
        | nil=>simp[vague] at hsp
        | cons p ps =>
          have hv0:∃v,vals[0]? = some v:=by
           have h0:0<vals.size:=by rw[hin.size]; simp
           exact⟨vals[0],by simp[h0]⟩
          obtain⟨v0,hv0⟩:=hv0
          have hrest:∀q,(∀es,q≠.list true es)→VR N w G.fix G.heap v0 q→OwnIn N w G own (q::ps) vals:=by
           intro q hq1 hq
           refine⟨hin.ow,hin.box,hin.heap,hin.fixlt,hin.owlt,hin.tab,by simpa using hin.size,?_,?_⟩
           ·intro i v p' h1 h2
            cases i with
            | zero=>rw[hv0] at h1; simp at h1 h2; subst h1 h2; exact hq
            | succ i=>exact hin.vr (i+1) v p' h1 (by simpa using h2)
           ·intro i v es hi h1 h2
            cases i with
            | zero=>simp at h2; exact absurd h2 (hq1 es)
            | succ i=>exact hin.room (i+1) v es hi h1 (by simpa using h2)
          rcases(hin.vr 0 v0 p hv0 rfl).vague hsp.2 with h|h
          ·exact H _ (by simpa using hal) hag.1 (hrest _ (by intro es; simp) h)
          ·exact H _ (by simpa using hal) hag.2 (hrest _ (by intro es; simp) h)
       ·exact H args hal hc hin
      clear hc hal hin hnl args
      intro args hal hc hin
      rcases hpl.2.2.2 with⟨_,_,fn,vs,hLk⟩|⟨g',fn,h,_⟩|⟨_,_,_,hx,_⟩
      ·exact b8B hE hP hmix hF ihn hLk hc hal hin
      ·rw[h] at hpn; simp at hpn
      ·unfold a4c at hc
       rw[hx] at hc
       cases n with
       | zero=>simp[a1e] at hc
       | succ n=>simp[a1e] at hc
     ·simp at hc
   ·intro k args o h0 h' hc hky w G vals hbt hsz hvr
    unfold a1j at hc
    split at hc
    ·simp at hc
    ·rename_i pf hpf
     split at hc
     ·rename_i hal
      split at hc
      ·rename_i g hpn
       simp only[Option.map_eq_some_iff,Prod.mk.injEq] at hc
       obtain⟨⟨r,h1⟩,hg,rfl,rfl⟩:=hc
       refine(prim hpf hpn hg w G vals hbt hsz hvr).mono ?_
       rintro e w' ⟨v,G',rfl,hv,h2,h3⟩
       exact⟨G',⟨v,rfl,hv.dem⟩,h2,h3⟩
      ·rename_i hpn
       exact code hpf ((hL k pf hpf).plainY hky).2.1 hpn hc hal.1 w G vals hbt hsz hvr
     ·simp at hc
   ·intro k y n0 l tmps caps args o h0 h' hy hc w G vals hbt hyv hsz hvr
    unfold a1j at hc
    split at hc
    ·simp at hc
    ·rename_i pf hpf
     rcases hL k pf hpf with h|⟨y',fn,vs,o',ca,cb,h⟩
     ·have:=h.1
      rw[hy] at this
      simp at this
     ·have:y'=y:=by have:=h.yl; rw[hy] at this; simpa using this.symm
      subst this
      split at hc
      ·rename_i hal
       rw[h.prim] at hc
       simp only[a3B,h.code] at hc
       exact b5T hE hP hmix hF ihn h hc (by rw[hal.1,h.params]) hbt hyv hsz hvr
      ·simp at hc
   ·intro k hk
    unfold a7a at hk
    split at hk
    ·rename_i f hf
     exact((hL k f hf).plain (by simpa using hk)).1
    ·simp at hk
theorem b7r {L:Nat→Option PFunc} (hE:EnvOk E N) (hP:E.P=P) (hmix:P.follows .mixedOrders=true) (hL:∀k pf,L k=some pf→FnS E N k pf):
  ∀n,CallOK N P (a0I (a1e L n) L):=λn=>(b7q hE hP hmix hL n).call
end
end PI
