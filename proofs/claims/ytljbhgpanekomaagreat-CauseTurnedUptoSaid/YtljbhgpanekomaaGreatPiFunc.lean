import Derived.Test.YtljbhgpanekomaaGreatPiSoundN
import Derived.Test.YtljbhgpanekomaaGreatPiSoundN
set_option linter.unusedSimpArgs false
set_option linter.unusedVariables false
set_option linter.unusedSectionVars false
namespace PI
open Go Go.RowKit
def Gn (P:Program) (kp:Bool) (vs:List Tmp):ResultVar→Option PRes
 | .tmp t=>(zG t vs 0).map (if kp then .keep else .var)
 | .cell t ty=>(zG t vs 0).bind λi=>(yN P ty).map λn => .cell i n (yY P ty)
def C5 (P:Program) (kp:Bool) (vs:List Tmp):List ResultVar→Option (List PRes)
 | []=>some []
 | r::rs=>(Gn P kp vs r).bind λp=>(C5 P kp vs rs).map (p::·)
structure Opts where
 hs:List Tmp:=[]
 hf:List FuncId:=[]
 hv:List Tmp:=[]
 rs:List TypeId:=[]
 bf:List FuncId:=[]
 bv:List Tmp:=[]
 lps:List (Array Tmp×Nat×List Tmp):=[]
 sr:Bool:=false
 nl:Bool:=false
 kp:Bool:=false
 ox:List (FuncId×Option Nat):=[]
 rf:List FuncId:=[]
 zd:List Tmp:=[]
 fr:List Tmp:=[]
 pa:List TypeId:=[]
 pz:List FuncId:=[]
def Env.opt (E:Env) (o:Opts):Env:={ E with hs:=o.hs,hf:=o.hf,hv:=o.hv,rs:=o.rs,bf:=o.bf,bv:=o.bv,lps:=o.lps,sr:=o.sr,nl:=o.nl,ox:=o.ox,rf:=o.rf,zd:=o.zd,fr:=o.fr,pa:=o.pa,pz:=o.pz }
theorem EnvOk.opt {E:Env} {N:Nm} (h:EnvOk E N) (o:Opts):EnvOk (E.opt o) N:=⟨h.fn,h.yl,h.pt,h.bt⟩
def FnC (E:Env) (N:Nm) (k:Nat) (pf:PFunc) (fn:Func) (vs:List Tmp):Prop:=
 E.P.funcs[N.fn k]? = some fn∧fn.name ≠ "runtime.NumGoroutine" ∧ vs.Nodup∧(∀t∈vs,t<fn.ntmps)∧vs.length=pf.nv∧pf.params≤pf.nv∧(∀i,i<pf.params→vs[i]? = some i) ∧
  (∃o:Opts,(fn.body.map λc=>Af (E.opt o) fn.ntmps vs c)=some pf.code∧(o.lps=[]∨∀c,fn.body=some c→LpOK (E.opt o) N fn.ntmps (N.fn k) c)∧C5 E.P o.kp vs fn.results.toList=some pf.results)
def EG (N:Nm) (P:Program) (k:Nat) (g:List PV→List PObj→Option (PV×List PObj)):Prop:=
 ∀ (args : List PV) (r : PV) (h h' : List PObj), g args h = some (r, h') → ∀ (w : World) (G : GS) (vals : Array Value), Between N w G h → vals.size = args.length →
   (∀(i:Nat) (v:Value) (p:PV),vals[i]? = some v→args[i]? = some p→VR N w G.fix G.heap v p) →
   Calls P (N.fn k) vals w λe w'=>∃v G',e = .returned v∧VR N w' G'.fix G'.heap v r∧Ext w G w' G'∧Between N w' G' h'
def EF (N:Nm) (P:Program) (k:Nat) (g:List PV→List PObj→Option (List PObj)):Prop:=
 ∀ (p : PV) (caps : List PV) (h h' : List PObj), g (p :: caps) h = some h' → ∀ (w : World) (G : GS) (vals : Array Value), Between N w G h → vals.size = caps.length →
   (∀(i:Nat) (v:Value) (p:PV),vals[i]? = some v→caps[i]? = some p→VR N w G.fix G.heap v p) →
   ∀u,(u = .returning∧p = .nilIface∨∃v,u = .panicking [{ v,recovered:=false }]∧VR N w G.fix G.heap v p) →
   CallsDIn (W none) 0 P (N.fn k) vals u w λe u' w'=>(∃v,e = .returned v)∧settle u' = .returning∧∃G',Ext w G w' G'∧Between N w' G' h'
structure RdC (E:Env) (N:Nm) (k:Nat) (pf:PFunc) (y:YL) (fn:Func) (vs:List Tmp) (o:Opts) (a b:PC):Prop where
 yl:N.yl k=some y
 code:pf.code = .round a b
 ra:a.RO=true
 rb:b.RO=true
 prim:pf.prim=none
 dfr:pf.defer=none
 inP:E.P.funcs[y.fn]? = some fn
 no:N.fn k=y.fn
 name:fn.name ≠ "runtime.NumGoroutine"
 body:fn.body.isNone=false
 nd:vs.Nodup
 lt:∀t∈vs,t<y.nt
 len:vs.length=pf.nv
 params:pf.params=1+(y.vars.length+y.params.size)
 head:vs.take (y.vars.length+y.params.size)=y.vars++y.params.toList
 lps:o.lps=[]
 ca:Af (E.opt o) y.nt vs y.assign=a
 cb:Af (E.opt o) y.nt vs y.body=b
def FnF (E:Env) (N:Nm) (k:Nat) (pf:PFunc):Prop:=
 N.yl k=none∧pf.code.isRound=false∧pf.params<1000 ∧
 ((pf.prim=none∧pf.defer=none∧∃fn vs,FnC E N k pf fn vs) ∨
 (∃g fn,pf.prim=some g∧pf.defer=none∧E.P.funcs[N.fn k]? = some fn∧fn.name ≠ "runtime.NumGoroutine" ∧ fn.body.isNone=false∧EG N E.P k g) ∨
 ∃g fn,pf.prim=none∧pf.code = .exit 0∧pf.defer=some g∧E.P.funcs[N.fn k]? = some fn∧fn.name ≠ "runtime.NumGoroutine" ∧ fn.body.isNone=false∧EF N E.P k g)
def FnS (E:Env) (N:Nm) (k:Nat) (pf:PFunc):Prop:=FnF E N k pf∨∃y fn vs o a b,RdC E N k pf y fn vs o a b
theorem FnS.plain {E:Env} {N:Nm} {k:Nat} {pf:PFunc} (h:FnS E N k pf) (hr:pf.code.isRound=false):FnF E N k pf:=by
 rcases h with h|⟨y,fn,vs,o,a,b,h⟩
 ·exact h
 ·rw[h.code] at hr; simp[PC.isRound] at hr
theorem FnS.plainY {E:Env} {N:Nm} {k:Nat} {pf:PFunc} (h:FnS E N k pf) (hr:N.yl k=none):FnF E N k pf:=by
 rcases h with h|⟨y,fn,vs,o,a,b,h⟩
 ·exact h
 ·rw[h.yl] at hr; simp at hr
def Cl (vars:List PV):List PRes→List Nat
 | []=>[]
 | r::rs=>C9 vars r++Cl vars rs
theorem Ta (vars:List PV):∀(rs:List PRes) (h:List PObj) (n:Nat),(n∈Cl vars rs→(yV vars rs h)[n]? = h[n]?.map (λ_ => .gone))∧(n∉Cl vars rs→(yV vars rs h)[n]? = h[n]?)
 | [],h,n=>by simp[yV,Cl]
 | r :: rs, h, n => by
   simp only[yV,Cl]
   obtain⟨i1,i2⟩:=Ta vars rs (BT (C9 vars r) h) n
   obtain⟨g1,g2⟩:=NN (C9 vars r) h n
   grind
theorem Tb (vars:List PV):∀(rs:List PRes) (h:List PObj),(yV vars rs h).length=h.length
 | [],h=>rfl
 | r::rs,h=>by simp_all [yV,Tb,NO]
theorem Tc {vars:List PV} {n:Nat} {r:PRes} (hv:n∈C9 vars r):∀{rs:List PRes},r∈rs→n∈Cl vars rs
 | r' :: rs, h => by
   simp only[Cl,ay]
   rcases aA.1 h with h|h
   ·subst h; exact .inl hv
   ·exact .inr (Tc hv h)
section
variable {E:Env} {N:Nm} {P:Program}
theorem HR.shut {w:World} {G:GS} {heap:List PObj} (h:HR N w G heap) (vars:List PV) (rs:List PRes):HR N w (G.shut (Cl vars rs) heap) (yV vars rs heap):=
 h.shutG (Ta vars rs heap)
theorem c3r {size off n sz len:Nat} {agg ag:Bool} {cs:List PV} {u:PV} (hf:∀x∈cs,x.flat=true) (h:yh size agg cs off=some u) (hx : .rowp n sz ag len∈u.cells):n∈Dx cs:=by
 unfold yh at h
 split at h
 ·split at h
  ·simp only[aa] at h; subst h
   simp only[PV.cells,bc] at hx
   obtain⟨y,hy,e⟩:=hx
   have:y = .rowp n sz ag len:=by cases y<;>simp_all [dem]
   grind [NP,List.mem_of_mem_drop,List.mem_of_mem_take]
  grind
 ·split at h
  ·rename_i y hy
   have hu:y = .rowp n sz ag len:=by
    have fG:=hf y (ax hy)
    cases y<;>simp[cp] at h<;>subst h<;>simp_all [PV.cells,PV.flat]
   grind [NP,List.mem_of_getElem?]
  grind
def Ir (a:Act) (r:ResultVar):Sem Value:=
 match r with
 | .tmp t=>pure (a.tmps.getD t undef)
 | .cell t ty=>do loadVar ty (← asAddr (a.tmps.getD t undef))
theorem b4K {kp:Bool} {vs:List Tmp} {nt:Nat} {w:World} {G:GS} {st:St} {a:Act} (hb:BI N w G st a vs nt) {ns:List Nat} {r:ResultVar} {p:PRes} {u:PV} (eN:∀n,n∈C9 st.vars p→n∈ns) (hc:Gn P kp vs r=some p) (hr:BY st p=some u):
  ∃v,(Ir a r).run P w = .ok v w∧VR N w (G.shut ns st.heap).fix (G.shut ns st.heap).heap v u:=by
 cases r with
 | tmp t =>
   simp only[Gn,ab] at hc
   obtain⟨i,hi,rfl⟩:=hc
   obtain⟨_,eH⟩:=Ep hi
   cases kp with
   | true =>
     simp only[if_true,BY,aj] at hr
     obtain⟨x,hx,hr⟩:=hr
     have hs:=hb.fi.var i t x (by omega) hx
     exact⟨a.tmps.getD t undef,rfl,(hs.read hr).1.shut⟩
   | false=>
   simp only[aL,if_false] at eN hr
   simp only[BY,aj] at hr
   obtain⟨x,hx,hr⟩:=hr
   have hs:=hb.fi.var i t x (by omega) hx
   refine⟨a.tmps.getD t undef,rfl,?_⟩
   split at hr
   ·simp at hr; subst hr
    exact hs.1.shut
   ·rename_i n sz agg len
    split at hr
    ·rename_i dc
     simp only[aj,ab] at hr
     obtain⟨cs,dS,es,ga,rfl⟩:=hr
     have cZ:=(hs.read (r := .rowp n sz agg len) rfl).1
     generalize hg:a.eval (.tmp t)=v at cZ
     have tF:a.tmps.getD t undef=v:=hg
     rw[tF]
     cases cZ with
     | rowp _ _ _ _ b cap di db _ =>
       unfold yC at dS
       split at dS
       ·rename_i cs' hh
        simp at dS; subst dS
        exact Td hb.fi.heap db (eN n (by simp[C9,KR,hx,zp])) di hh dc ga
       grind
    grind
   ·simp at hr; subst hr
    have cZ:=(hs.read (r := .nils) rfl).1
    have tF:a.tmps.getD t undef=a.eval (.tmp t):=rfl
    rw[tF]
    generalize a.eval (.tmp t)=v at cZ
    cases cZ with
    | nils'=>exact .nils false
   ·exact(hs.read hr).1.shut
 | cell t ty =>
   simp only[Gn,aj,ab] at hc
   obtain⟨i,hi,n,hn,rfl⟩:=hc
   obtain⟨_,eH⟩:=Ep hi
   simp only[BY] at hr
   split at hr
   ·rename_i g cs hv
    simp only[aj] at hr
    obtain⟨u0,hr,hz⟩:=hr
    have hs:=hb.fi.var i t _ (by omega) hv
    obtain⟨b,i',_,ey,_,_,_,cv,T,hh,hl,jn⟩:=hs
    obtain⟨hR,hcell⟩:=Te hh hl jn
    have eW:n≠0:=by grind [A8]
    obtain⟨k1,k2,k3⟩:=Gp hR hr eW (Ev hn)
    have qE:a.tmps.getD t undef = .pointer (some ⟨b,0,none⟩):=ey
    have:=Gq (w:=w) hn b 0 cv.toList (by omega) (λj v hv=>by simp_all)
    refine⟨_,?_,c15 hb.fi.heap (λx hx m sz agg len e=>eN m ?_) k2 hz⟩
    rotate_left
    ·subst e
     simp only[C9,hv]
     exact c3r hR.2.1 hr hx
    simp_all [Ir,asAddr]
   ·rename_i m hv
    simp only[aj] at hr
    obtain⟨cs,dS,hr⟩:=hr
    have hs:=(hb.fi.var i t _ (by omega) hv)
    generalize ey:a.eval (.tmp t)=pv at hs
    cases hs with
    | ptr _ _ b di =>
      unfold yC at dS
      split at dS
      ·rename_i cs' mt
       simp only[aa] at dS
       subst dS
       rcases hb.fi.heap.1 m _ mt with vl|⟨b',k1,k2,f,cv,T,hh,hl,jn⟩
       ·grind
       have:b'=b:=by simp_all
       subst this
       obtain⟨hR,hcell⟩:=NQ hh hl jn
       have eW:n≠0:=by grind [A8]
       obtain⟨k1,k2,k3⟩:=Gp hR hr eW (Ev hn)
       have qE:a.tmps.getD t undef = .pointer (some ⟨b',0,none⟩):=ey
       have:=Gq (w:=w) hn b' 0 (cv.toList.take cs'.length) (by omega) (λj v hv=>by simp_all)
       refine⟨_,?_,k2.shut⟩
       simp_all [Ir,asAddr]
      grind
   grind
theorem Tf {kp:Bool} {vs:List Tmp} {nt:Nat} {w:World} {G:GS} {st:St} {a:Act} (hb:BI N w G st a vs nt) {ns:List Nat}:∀{rs:List ResultVar} {ps:List PRes} {us:List PV},(∀p∈ps,∀n,n∈C9 st.vars p→n∈ns)→C5 P kp vs rs=some ps→B9 st ps=some us →
  ∃ vals : List Value, (rs.mapM (Ir a)).run P w = .ok vals w ∧ vals.length = us.length ∧
    ∀(i:Nat) (v:Value) (u:PV),vals[i]? = some v→us[i]? = some u→VR N w (G.shut ns st.heap).fix (G.shut ns st.heap).heap v u
 | [], ps, us, _, hc, hr => by
   simp[C5] at hc; subst hc
   simp[B9] at hr; subst hr
   exact⟨[],by simp,rfl,by simp⟩
 | r :: rs, ps, us, eN, hc, hr => by
   simp only[C5,aj,ab] at hc
   obtain⟨p,hp,ps',fo,rfl⟩:=hc
   simp only[B9,aj,ab] at hr
   obtain⟨u,hu,us',eF,rfl⟩:=hr
   obtain⟨v,h1,h2⟩:=b4K hb (eN p (bS ..)) hp hu
   obtain⟨vals,h3,h4,h5⟩:=Tf hb (λp e=>eN p (bl _ e)) fo eF
   refine⟨v::vals,?_,by simp[h4],?_⟩
   ·simp_all
   grind
structure DefW (w w':World):Prop where
 os:w'.os=w.os
 tape:w'.tape=w.tape
 output:w'.output=w.output
 size:w'.heap.size=w.heap.size
 heap:∀b:Nat,w'.heap[b]? = w.heap[b]?∨((∃x,w.heap[b]? = some (Obj.deferred x))∧∃y,w'.heap[b]? = some (Obj.deferred y))
theorem DefW.refl (w:World):DefW w w:=⟨rfl,rfl,rfl,rfl,λ_ => .inl rfl⟩
theorem DefW.get {w w':World} (h:DefW w w') {b:Nat} {ob:Obj} (hb:w.heap[b]? = some ob) (hn:∀x,ob≠Obj.deferred x):w'.heap[b]? = some ob:=by
 rcases h.heap b with e|⟨⟨x,e⟩,_⟩<;>grind
theorem DefW.cell {w w':World} (h:DefW w w') (b o:Nat):w'.cell? ⟨b,o,none⟩=w.cell? ⟨b,o,none⟩:=by
 rcases h.heap b with e|⟨⟨x,e1⟩,y,e2⟩<;>simp_all [World.cell?]
theorem DefW.shape {w w':World} (h:DefW w w'):ShapeLe w w':=by
 refine⟨?_,?_⟩
 ·intro b s hb
  rcases h.heap b with e|⟨⟨x,e1⟩,y,e2⟩<;>simp_all [World.shape?]
 ·intro b s hb
  rcases h.heap b with e|⟨⟨x,e1⟩,y,e2⟩<;>simp_all [Bj]
theorem VR.def' {w w':World} {G:GS} {v:Value} {p:PV} (h:VR N w G.fix G.heap v p) (d:DefW w w'):VR N w' G.fix G.heap v p:=
 h.mono (λb o hf=>⟨hf,d.cell b o⟩) (λ_ _ h=>h) d.shape
theorem Room.def' {w w':World} {G:GS} {key:Key} {v:Value} {es:List PV} (h:Room w G key v es) (d:DefW w w'):Room w' G key v es:=by
 unfold Room at *
 split at h
 ·rcases h with h|⟨h1,sz,cs,T,h2,⟨fz,h3,eU⟩,h4⟩
  ·omega
  ·exact .inr ⟨h1,sz,cs,T,h2,⟨fz,d.get h3 (by simp),eU⟩,h4⟩
 ·trivial
theorem CR.def' {w w':World} {G:GS} {key:Key} {v:Value} {p:PV} (h:CR N w G key v p) (d:DefW w w'):CR N w' G key v p:=by
 obtain⟨h1,h2,h3⟩:=h
 refine⟨h1.def' d,h2,?_⟩
 grind [Room.def']
theorem MR.def' {w w':World} {G:GS} {key:Key} {v:Value} {p:PV} (h:MR N w G key v p) (d:DefW w w'):MR N w' G key v p:=by
 obtain⟨h1,h3⟩:=h
 refine⟨h1.def' d,?_⟩
 grind [Room.def']
theorem SR.def' {w w':World} {G:GS} {key:Key} {v:Value} {p:PV} (h:SR N w G key v p) (d:DefW w w'):SR N w' G key v p:=by
 unfold SR at *
 split at h
 ·trivial
 ·obtain⟨b,i,gS,hv,hb,ho,hf,cv,T,h1,h2,h3⟩:=h
  exact⟨b,i,gS,hv,hb,ho,hf,cv,T,d.get h1 (by simp),h2,λk c x hc hx=>(h3 k c x hc hx).def' d⟩
 ·exact h
 ·obtain⟨b,hv,ho,hf,cv,T,h1,h2,h4,h3⟩:=h
  exact⟨b,hv,ho,hf,cv,T,d.get h1 (by simp),h2,h4,λk c x hc hx=>⟨(h3 k c x hc hx).1.def' d,(h3 k c x hc hx).2⟩⟩
 ·exact⟨h.1.def' d,Room.def' h.2 d⟩
 ·exact h.def' d
theorem ObjR.def' {w w':World} {G:GS} {n b:Nat} {ob:PObj} (h:ObjR N w G n b ob) (d:DefW w w'):ObjR N w' G n b ob:=by
 cases ob with
 | cells cs =>
   obtain⟨f,cv,T,a1,a2,a3⟩:=h
   exact⟨f,cv,T,d.get a1 (by simp),a2,λk c x hc hx=>(a3 k c x hc hx).def' d⟩
 | map es =>
   obtain⟨mes,clock,a1,a2,a3,a4,a5⟩:=h
   exact⟨mes,clock,d.get a1 (by simp),a2,a3,a4,λi en p hi hp=>⟨(a5 i en p hi hp).1.def' d,(a5 i en p hi hp).2.def' d⟩⟩
 | gone=>trivial
 | loop ready =>
   obtain⟨f,r,a1,a2⟩:=h
   exact⟨f,r,d.get a1 (by simp),a2⟩
 | over id =>
   obtain⟨f,r,a1,a2⟩:=h
   exact⟨f,r,d.get a1 (by simp),a2⟩
theorem BI.def' {w w':World} {G:GS} {st:St} {a:Act} {vs:List Tmp} {nt:Nat} (h:BI N w G st a vs nt) (d:DefW w w'):BI N w' G st a vs nt:=by
 obtain⟨hf,hs⟩:=h
 refine⟨⟨hf.len,λi t u h1 h2=>(hf.var i t u h1 h2).def' d,λj t u h1 h2=>by simp at h1,hf.tv,hf.tl,hf.defers,hf.gen,by rw[d.size]; exact hf.owlt,by rw[d.size]; exact hf.fixlt,⟨?_,?_⟩,hf.hdom⟩,hs⟩
 ·intro n ob dO
  rcases hf.heap.1 n ob dO with h|⟨b,h1,h2,h3⟩
  ·grind
  ·exact .inr ⟨b,h1,h2,h3.def' d⟩
 ·refine⟨λt ht=>⟨(hf.heap.2.1 t ht).1,?_⟩,λr hr=>d.shape.1 _ _ (hf.heap.2.2 r hr)⟩
  rw[d.cell]; exact(hf.heap.2.1 t ht).2
theorem NT {fn:Func} {tmps:Array Value} {R:Ending→World→Prop} {u:FrameMode} (hu:u≠.run) {G:GS} {w0:World}:
  ∀ {bs : List Nat} {w : World}, bs.Nodup → (∀ b ∈ bs, w0.heap.size ≤ b ∧ w.heap[b]? = some (.deferred (some [])) ∧ G.ow b = none) →
    (∀w',DefW w w'→(∀b,b<w0.heap.size→w'.heap[b]? = w.heap[b]?)→LeavesIn (W none) 0 P fn tmps R [] u w')→LeavesInM (W none) 0 P fn tmps R (bs.map λb=>{ target := .collected b,args := #[] }) u w
 | [],w,_,_,h=>h w (DefW.refl w) (λ_ _=>rfl)
 | b :: bs, w, hn, hb, h => by
   obtain⟨n1,n2⟩:=b8.1 hn
   obtain⟨k1,k2,k3⟩:=hb b (by simp)
   have gV:∀x,x≠b→(w.putObj b (.deferred none)).heap[x]? = w.heap[x]? := λx hx=>World.putObj_heap_other hx
   have hd:DefW w (w.putObj b (.deferred none)):=by
    refine⟨rfl,rfl,rfl,by simp ,?_⟩
    grind [World.putObj_heap_same]
   refine⟨hu,.inl ⟨b,_,rfl,run_takeDeferred k2,?_⟩⟩
   refine NT (w0:=w0) (G:=G) hu n2 ?_ ?_
   ·grind
   ·intro w' d2 dz
    refine h w' ?_ ?_
    ·refine⟨d2.os.trans hd.os,d2.tape.trans hd.tape,d2.output.trans hd.output,d2.size.trans hd.size,?_⟩
     intro x
     rcases d2.heap x with e|⟨⟨y,e1⟩,z,e2⟩
     ·rcases hd.heap x with e' | ⟨e1',z,e2'⟩<;>simp_all
     grind
    grind
theorem Gr {w w1 w':World} {G G':GS} {st:St} {a:Act} {vs:List Tmp} {nt:Nat} (he:ExtD w G w1 G') (hb:BI N w1 G' st a vs nt) (d:DefW w1 w') (hs:∀b,b<w.heap.size→w'.heap[b]? = w1.heap[b]?) (vars:List PV) (rs:List PRes):
  Ext w G w' { fix:=(G'.shut (Cl vars rs) st.heap).fix,heap:=G'.heap,box:=λ_=>none,ow:=Bk G'.ow,df:=G.df }∧Between N w' { fix:=(G'.shut (Cl vars rs) st.heap).fix,heap:=G'.heap,box:=λ_=>none,ow:=Bk G'.ow,df:=G.df } (yV vars rs st.heap):=by
 have dE:=hb.def' d
 refine⟨⟨d.os.trans he.os,d.tape.trans he.tape,d.output.trans he.output,by rw[d.size]; exact he.size,λb cV h=>(hs b cV).trans (he.same b cV h),λb o h=>⟨.inl (he.fix b o h).1,(d.cell b o).trans (he.fix b o h).2⟩,?_,?_,he.heap,he.shape.trans d.shape,rfl⟩,⟨λb k h=>(Gs h).2,λ_=>rfl⟩,?_,λb k h=>dE.fi.owlt b k (Gs h).1,(dE.fi.heap.shut vars rs).sub rfl rfl (λb k hk h=>NU h hk),?_⟩
 ·rintro b o (h|⟨n,_,cs,h1,h2,_⟩)
  ·exact he.newfix b o h
  ·rcases hb.fi.heap.1 n _ h2 with h3|⟨b',k1,k2,_⟩
   ·simp at h3
   exact .inr (he.own b (by grind))
 ·intro b h
  refine he.own b ?_
  grind [Bk]
 ·rintro b o (h|⟨n,_,cs,h1,h2,_⟩)
  ·exact dE.fi.fixlt b o h
  ·rcases dE.fi.heap.1 n _ h2 with h3|⟨b',k1,k2,_⟩
   ·simp at h3
   rw[h1] at k1; cases k1
   exact dE.fi.owlt b _ k2
 ·rw[Tb]; exact dE.fi.hdom
theorem NV {kp:Bool} {fn:Func} {vs:List Tmp} {nt:Nat} {w:World} {G:GS} {st:St} {a:Act} {rs:List PRes} {r:PV} (hb:BI N w G st a vs nt) (hc:C5 P kp vs fn.results.toList=some rs) (hr:zS st rs=some r):
  ∃v,(results fn a.tmps).run P w = .ok v w∧VR N w (G.shut (Cl st.vars rs) st.heap).fix (G.shut (Cl st.vars rs) st.heap).heap v r:=by
 simp only[zS,ab] at hr
 obtain⟨us,eF,gL⟩:=hr
 obtain⟨rvals,h1,h2,h3⟩:=Tf (P:=P) (ns:=Cl st.vars rs) hb (λp hp n hn=>Tc hn hp) hc eF
 have hm:results fn a.tmps=(do let vs←fn.results.mapM (Ir a); pure (if h:vs.size=1 then vs[0] else .tuple vs)):=rfl
 rw[hm,Array.mapM_eq_mapM_toList]
 simp only[Sem.run_bind,Sem.run_map]
 rw[h1]
 subst gL
 cases us with
 | nil =>
   have:rvals=[]:=by simp_all
   subst this
   exact⟨.tuple #[],by simp,.tuple #[] _ rfl (by simp)⟩
 | cons u us2 =>
   cases us2 with
   | nil =>
     obtain⟨v,rfl⟩:=List.length_eq_one_iff.1 (by omega)
     exact⟨v,by simp,h3 0 v u rfl rfl⟩
   | cons u2 us3 =>
     refine⟨.tuple rvals.toArray,?_,.tuple _ _ ?_ ?_⟩
     ·simp_all
     ·simp_all
     ·intro i v p hv hp
      simp only[aF,ab] at hp
      obtain⟨q,hq,rfl⟩:=hp
      exact(h3 i v q (by simp_all) hq).dem
theorem c5A {L:Nat→Option PFunc} (hE:EnvOk E N) (hP:E.P=P) (dL:P.follows .mixedOrders=true) (hF:Ag N P L) (hL:∀k pf,L k=some pf→FnS E N k pf) {n:Nat} (cT:∀m,m<n→Runs N P L m)
  {k:Nat} {pf:PFunc} {fn:Func} {vs:List Tmp} (qF:FnC E N k pf fn vs) (kA:pf.code.isRound=false) {args:List PV} {o:Out} {h0 h':List PObj} (hc:Bn (yf L n) (Ar L) pf args h0=some (o,h')) (el:args.length=pf.params)
  {w:World} {G:GS} {vals:Array Value} (dW:Between N w G h0) (dc:vals.size=args.length) (cZ:∀(i:Nat) (v:Value) (p:PV),vals[i]? = some v→args[i]? = some p→VR N w G.fix G.heap v p):
  Calls P (N.fn k) vals w λe w'=>∃G',OutR N w' G' e o∧Ext w G w' G'∧Between N w' G' h':=by
 obtain⟨f1,f2,f3,f4,f5,f6,f7,opt,f8,f8',f9⟩:=qF
 simp only[ab] at f8
 obtain⟨c,iJ,qG⟩:=f8
 rw[hP] at f1
 rw[hP] at f9
 have pe:LpOK (E.opt opt) N fn.ntmps (N.fn k) c:=by
  rcases f8' with h|h
  ·intro ps kb vars hl
   simp_all [Env.opt]
  simp_all
 let st0:St:={ vars:=args.map dem++List.replicate (pf.nv - pf.params) .dead,locs:=[],gen:=0,heap:=h0 }
 let a0:Act:={ tmps:=vals++Array.replicate (fn.ntmps - vals.size) undef,defers:=[] }
 let G0  := { G with df:=[] }
 have ji:BI N w G0 st0 a0 vs fn.ntmps:=by
  refine⟨⟨?_,?_,(by simp),?_,(by simp),rfl,(by intro g b h; have h  := h; rw[dW.only.box] at h; simp at h),dW.owlt,dW.fixlt,dW.heap,dW.hdom⟩,?_⟩
  ·grind
  ·intro i t u h1 h2
   by_cases hi:i<pf.params
   ·have ht:t=i:=by simp_all
    subst ht
    have kD:t<args.length:=by simp_all
    simp only[st0] at h2
    rw[al (by simp_all)] at h2
    simp only[aF,am kD,aH,aa] at h2
    subst h2
    have oc:t<vals.size:=by simp_all
    have fB:a0.eval (.tmp t)=vals[t]:=by
     simp only[a0,Act.eval,aV]
     grind
    rw[fB]
    have hv:=cZ t vals[t] args[t] (by simp[oc]) (am kD)
    exact SR.of_pure hv.dem hv.cp_dem
   ·simp only[st0] at h2
    rw[aq (by simp_all)] at h2
    rw[cu] at h2
    split at h2
    ·simp at h2; subst h2; trivial
    grind
  ·intro i t h1
   have h3:=f4 t (ax h1)
   grind
  grind
 have walk:∀(x:PExit) (st':St),yf L n pf.code st0=some (x,st')→(∀a' w' G' e,Bw N w' G' x e→BI N w' G' st' a' vs fn.ntmps→ExtD w G w' G'→DfR pf.code x w G0 w' G'→Tg P fn (λe w'=>∃G',OutR N w' G' e o∧Ext w G w' G'∧Between N w' G' h') e a' w') →
   Calls P (N.fn k) vals w λe w'=>∃G',OutR N w' G' e o∧Ext w G w' G'∧Between N w' G' h':=by
  intro x st' hx hq
  refine Th f1 iJ ?_
  exact Es (rd':=none) hF (hE.opt opt) hP dL f3 n cT (by grind [Ii]) hx ji pe (.inl rfl) (fun⟨_,_,h⟩=>h) hq
 have marks:∀{x:PExit} {w':World} {G':GS} {st':St} {a':Act} {R:Ending→World→Prop} {u:FrameMode},u≠.run→x.plain=true→BI N w' G' st' a' vs fn.ntmps→DfR pf.code x w G0 w' G' →
   (∀w'',DefW w' w''→(∀b,b<w.heap.size→w''.heap[b]? = w'.heap[b]?)→LeavesIn (W none) 0 P fn a'.tmps R [] u w'')→LeavesInM (W none) 0 P fn a'.tmps R a'.defers u w':=by
  intro x w' G' st' a' R u hu hx hb hd hK
  have key:(∃ms,G'.df=ms++G0.df∧Marks w w' G' ms∧(pf.code.NR=true→ms=[]))→LeavesInM (W none) 0 P fn a'.tmps R a'.defers u w':=by
   rintro⟨ms,h1,⟨bs,rfl,h2,h3⟩,_⟩
   have jg:a'.defers=bs.map λb=>{ target := .collected b,args := #[] }:=by
    rw[hb.fi.defers,h1]; grind
   rw[jg]
   exact NT (G:=G') (w0:=w) hu h2 h3 hK
  cases x with
  | after _ _ _=>simp[PExit.plain] at hx
  | normal=>exact key hd
  | exit _=>exact key hd
  | ret=>exact key hd
  | boom _=>exact key hd
 have fin:∀(x:PExit) (st':St),yf L n pf.code st0=some (x,st')→(x = .normal∨x = .ret)→(zS st' pf.results).map (λr=>(Out.val r,yV st'.vars pf.results st'.heap))=some (o,h') →
   Calls P (N.fn k) vals w λe w'=>∃G',OutR N w' G' e o∧Ext w G w' G'∧Between N w' G' h':=by
  intro x st' hx rP dQ
  simp only[ab,ac] at dQ
  obtain⟨r,hr,rfl,rfl⟩:=dQ
  refine walk x st' hx ?_
  intro a' w' G' e he di cR fj
  have hp:x.plain=true:=by rcases rP with rfl|rfl<;>rfl
  have hL:=marks (R:=λe w'=>∃G',OutR N w' G' e (.val r)∧Ext w G w' G'∧Between N w' G' (yV st'.vars pf.results st'.heap)) (u := .returning) (by simp) hp di fj (by
   intro w'' d dz
   obtain⟨v,jo,iV⟩:=NV (di.def' d) f9 hr
   obtain⟨l1,l2⟩:=Gr cR di d dz st'.vars pf.results
   exact⟨v,jo,_,by exact⟨v,rfl,iV⟩,l1,l2⟩)
  rcases rP with rfl|rfl<;>(simp only[Bw] at he; subst he; exact hL)
 unfold Bn at hc
 split at hc
 ·simp_all [PC.isRound]
 ·split at hc
  ·grind
  ·grind
  ·rename_i p st' hx
   simp only[aa] at hc
   obtain⟨rfl,rfl⟩:=hc
   refine walk _ st' hx ?_
   rintro a' w' G' e ⟨v,rfl,hv⟩ di cR fj
   refine marks (x := .boom p) (by simp) rfl di fj ?_
   intro w'' d dz
   obtain⟨l1,l2⟩:=Gr cR di d dz st'.vars []
   exact⟨_,by exact⟨v,rfl,(hv.def' d).shut⟩,l1,l2⟩
  ·rename_i kd caps vo st' hx
   split at hc
   ·simp at hc
   ·rename_i xi
    have tG:pf.code.NR=true:=by simp_all
    simp only[aj,ab] at hc
    obtain⟨h1,mr,r,hr,rfl,rfl⟩:=hc
    obtain⟨g,fd,mR,hg,xj⟩:∃g fd,L kd=some fd∧g (vo.getD .nilIface::caps) st'.heap=some h1∧EF N P kd g:=by
     unfold Ar at mr
     split at mr
     ·rename_i f hf
      split at mr
      ·rename_i g hg
       have fH:FnF E N kd f:=by
        rcases hL kd f hf with h|⟨y,fn,vs,o,a,b,h⟩
        ·exact h
        ·rw[h.dfr] at hg; simp at hg
       rcases fH.2.2.2 with⟨_,h,_⟩|⟨_,_,_,h,_⟩|⟨g',fd,_,_,h3,h4,h5,h6,h7⟩<;>grind
      grind
     grind
    refine walk _ st' hx ?_
    intro a' w' G' e he di cR fj
    obtain⟨d1,iR⟩:∃d,G'.df=d::G0.df:=fj tG
    have last:∀(u:FrameMode),Clo N w' G' kd caps→u≠.run→(u = .returning∧vo.getD .nilIface = .nilIface∨∃v,u = .panicking [{ v,recovered:=false }]∧VR N w' G'.fix G'.heap v (vo.getD .nilIface)) →
      LeavesInM (W none) 0 P fn a'.tmps (λe w'=>∃G',OutR N w' G' e (.val r)∧Ext w G w' G'∧Between N w' G' (yV st'.vars pf.results h1)) a'.defers u w':=by
     rintro u ⟨d,ds,vals',k1,rfl,k3,k4⟩ hu ij
     have vm:ds=[]:=by
      grind
     subst vm
     have jg:a'.defers=[{ target := .fn (.func (N.fn kd)) vals',args := #[] }]:=by rw[di.fi.defers,k1]
     rw[jg]
     have j7:(invoke (.fn (.func (N.fn kd)) vals') #[]).run P w' = .ok (.enter (N.fn kd) vals') w':=by
      grind [invoke,C4]
     refine⟨hu,.inr ⟨Gt,_,_,_,_,rfl,j7,λ_ _=>Cj _,?_⟩⟩
     refine(xj _ _ _ _ hg w' G'.callee vals' (Gi di.fi) k3 k4 u ij).mono ?_
     rintro e u' w'' ⟨⟨v,rfl⟩,yw,G2,xk,dE⟩
     obtain⟨G3,lc,xl,_,_⟩:=Ke di.fi xk dE
     have jJ:BI N w'' G3 { st' with heap:=h1 } a' vs fn.ntmps:=⟨xl,di.size⟩
     simp only[yw]
     obtain⟨v2,jo,iV⟩:=NV jJ f9 hr
     obtain⟨l1,l2⟩:=Gr (ExtD.trans cR (.of lc)) jJ (DefW.refl _) (λ_ _=>rfl) st'.vars pf.results
     exact⟨v2,jo,_,by exact⟨v2,rfl,iV⟩,l1,l2⟩
    cases vo with
    | none =>
      obtain⟨he,jw⟩:=he
      have:=last .returning jw (by simp) (.inl ⟨rfl,rfl⟩)
      rcases he with rfl|rfl<;>exact this
    | some p =>
      obtain⟨⟨v,rfl,hv⟩,jw⟩:=he
      exact last _ jw (by simp) (.inr ⟨v,rfl,hv⟩)
  grind
theorem c5B {kp:Bool} {fn:Func} {vs:List Tmp} {nt:Nat} {w:World} {G:GS} {st:St} {a:Act} {rs:List PRes} {es:List PV} {v:Value} (hb:BI N w G st a vs nt) (hc:C5 P kp vs fn.results.toList=some rs) (hr:zS st rs=some (.list true es))
  (hv:(results fn a.tmps).run P w = .ok v w):∃i,Room w G (.var i) v es:=by
 simp only[zS,ab] at hr
 obtain⟨us,eF,gL⟩:=hr
 have oe:us=[.list true es]:=by
  grind
 subst oe
 cases rs with
 | nil=>simp[B9] at eF
 | cons p ps =>
   simp only[B9,aj,ab] at eF
   obtain⟨u,hp,us',fo,he⟩:=eF
   simp only[bJ] at he
   obtain⟨rfl,rfl⟩:=he
   have tI:ps=[]:=by
    cases ps<;>simp_all [B9,aj]
   subst tI
   cases hl:fn.results.toList with
   | nil=>simp_all [C5]
   | cons r0 rl =>
     rw[hl] at hc
     simp only[C5,aj,ab] at hc
     obtain⟨q,hq,qs,lZ,he⟩:=hc
     simp only[bJ] at he
     obtain⟨rfl,rfl⟩:=he
     have mK:rl=[]:=by
      cases rl<;>simp_all [C5,aj]
     subst mK
     have noList:∀{x:Option PV},x.bind cp=some (.list true es)→False:=by
      intro x h
      cases x with
      | none=>simp at h
      | some y=>cases y<;>simp[cp] at h
     have tJ:∃i,q = .var i∧st.vars[i]? = some (.list true es):=by
      cases q with
      | keep i=>simp_all [BY]
      | cell i size agg =>
        have noLoad:∀{size agg cs off},yh size agg cs off=some (.list true es)→False:=by
         intro size agg cs off h
         unfold yh at h
         split at h
         ·simp_all
         ·split at h
          ·rename_i y _; cases y<;>simp[cp] at h
          grind
        simp only[BY] at hp
        split at hp
        ·simp only[aj] at hp
         obtain⟨y,hy,hf⟩:=hp
         have:y = .list true es:=by
          cases y<;>simp[zN] at hf
          simp[hf]
         grind
        ·simp only[aj] at hp
         obtain⟨cs,_,hy⟩:=hp
         exact(noLoad hy).elim
        ·simp at hp
      | var i =>
        simp only[BY,aj] at hp
        obtain⟨x,hx,lF⟩:=hp
        split at lF<;>simp_all [aj]
     obtain⟨i,rfl,hi⟩:=tJ
     cases r0 with
     | cell t ty =>
       simp_all [Gn,aj]
     | tmp t =>
       simp only[Gn,ab] at hq
       obtain⟨i',iU,oh⟩:=hq
       obtain⟨_,eH⟩:=Ep iU
       have:i'=i:=by grind
       subst this
       have dQ:fn.results = #[.tmp t]:=by
        grind
       have rQ:v=a.eval (.tmp t):=by
        simp_all [results,Act.eval]
       rw[rQ]
       exact⟨i',(hb.fi.var i' t _ (by omega) hi).2⟩
theorem c3s {L:Nat→Option PFunc} (hE:EnvOk E N) (hP:E.P=P) (dL:P.follows .mixedOrders=true) (hF:Ag N P L) {n:Nat} (cT:∀m,m<n→Runs N P L m)
  {k:Nat} {pf:PFunc} {fn:Func} {vs:List Tmp} (qF:FnC E N k pf fn vs) {own:Option Nat} {args:List PV} {r:PV} {h':List PObj} (hc:Bo (yf L n) pf own args []=some (r,h')) (el:args.length=pf.params)
  {w:World} {G:GS} {vals:Array Value} (dI:OwnIn N w G own args vals):
  Calls P (N.fn k) vals w λe w'=>∃v G',e = .returned v∧VR N w' G'.fix G'.heap v r∧Ext w G w' G'∧(∀b o,G'.fix b o→b<w'.heap.size)∧∀es,r = .list true es→FJ w G w' G' v es:=by
 obtain⟨f1,f2,f3,f4,f5,f6,f7,opt,f8,f8',f9⟩:=qF
 simp only[ab] at f8
 obtain⟨c,iJ,qG⟩:=f8
 rw[hP] at f1
 rw[hP] at f9
 have pe:LpOK (E.opt opt) N fn.ntmps (N.fn k) c:=by
  rcases f8' with h|h
  ·intro ps kb vars hl
   simp_all [Env.opt]
  simp_all
 have vn:(CW own args).length=args.length:=by cases own<;>simp[CW]
 let st0:St:={ vars:=CW own args++List.replicate (pf.nv - pf.params) .dead,locs:=[],gen:=0,heap:=[] }
 let a0:Act:={ tmps:=vals++Array.replicate (fn.ntmps - vals.size) undef,defers:=[] }
 let G0  := { G with df:=[] }
 have ji:BI N w G0 st0 a0 vs fn.ntmps:=by
  refine⟨⟨?_,?_,(by simp),?_,(by simp),rfl,(by intro g b h; have h  := h; rw[dI.box] at h; simp at h),dI.owlt,dI.fixlt,⟨by grind,dI.tab⟩,(by intro n b h; have h  := h; rw[dI.heap] at h; simp at h)⟩,?_⟩
  ·grind
  ·intro i t u h1 h2
   by_cases hi:i<pf.params
   ·have ht:t=i:=by simp_all
    subst ht
    have kD:t<args.length:=by simp_all
    simp only[st0] at h2
    rw[al (by omega)] at h2
    have oc:t<vals.size:=by rw[dI.size]; exact kD
    have fB:a0.eval (.tmp t)=vals[t]:=by
     simp only[a0,Act.eval,aV]
     grind
    rw[fB]
    have hv:=dI.vr t vals[t] args[t] (by simp[oc]) (am kD)
    have plain:u=dem args[t]→SR N w G0 (.var t) vals[t] u:=by
     rintro rfl
     exact SR.of_pure hv.dem hv.cp_dem
    cases own with
    | none =>
      simp_all [CW,aF,am]
    | some i =>
      simp only[CW,aU,aG] at h2
      split at h2
      ·rename_i xm
       subst xm
       rw[ai kD] at h2
       simp only[cO,am kD,aa] at h2
       subst h2
       rcases hv.cp_or with h|⟨es,h⟩
       ·exact SR.of_pure hv h
       ·rw[h] at hv ⊢
        exact⟨hv,dI.room i vals[i] es rfl (by simp ) (by grind)⟩
      simp_all
   ·simp only[st0] at h2
    rw[aq (by omega)] at h2
    rw[cu] at h2
    split at h2
    ·simp at h2; subst h2; trivial
    grind
  ·intro i t h1
   have h3:=f4 t (ax h1)
   grind
  grind
 have fin:∀(x:PExit) (st':St),yf L n pf.code st0=some (x,st')→(x = .normal∨x = .ret)→(zS st' pf.results).map (λr=>(r,yV st'.vars pf.results st'.heap))=some (r,h') →
   Calls P (N.fn k) vals w λe w'=>∃v G',e = .returned v∧VR N w' G'.fix G'.heap v r∧Ext w G w' G'∧(∀b o,G'.fix b o→b<w'.heap.size)∧∀es,r = .list true es→FJ w G w' G' v es:=by
  intro x st' hx rP dQ
  simp only[ab] at dQ
  obtain⟨r,hr,rfl,rfl⟩:=dQ
  refine Th f1 iJ ?_
  refine Es (rd':=none) hF (hE.opt opt) hP dL f3 n cT (by grind [Ii]) hx ji pe (.inl rfl) (fun⟨_,_,h⟩=>h) ?_
  intro a' w' G' e he di cR fj
  have cR:ExtD w G w' G':=cR
  have key:(∃ms,G'.df=ms++G0.df∧Marks w w' G' ms∧(pf.code.NR=true→ms=[]))→LeavesInM (W none) 0 P fn a'.tmps (λe w'=>∃v G',e = .returned v∧VR N w' G'.fix G'.heap v r∧Ext w G w' G'∧(∀b o,G'.fix b o→b<w'.heap.size)∧∀es,r = .list true es→FJ w G w' G' v es) a'.defers .returning w':=by
   rintro⟨ms,h1,⟨bs,rfl,h2,h3⟩,_⟩
   have jg:a'.defers=bs.map λb=>{ target := .collected b,args := #[] }:=by
    rw[di.fi.defers,h1]; grind
   rw[jg]
   refine NT (G:=G') (w0:=w) (by simp) h2 h3 ?_
   intro w'' d dz
   obtain⟨v,jo,iV⟩:=NV (di.def' d) f9 hr
   obtain⟨l1,l2⟩:=Gr cR di d dz st'.vars pf.results
   refine⟨v,jo,v,{ fix:=(G'.shut (Cl st'.vars pf.results) st'.heap).fix,heap:=G'.heap,box:=λ_=>none,ow:=Bk G'.ow,df:=G.df },rfl,iV,l1,l2.fixlt,?_⟩
   rintro es rfl
   obtain⟨i,hi⟩:=c5B (di.def' d) f9 hr jo
   unfold FJ
   unfold Room at hi
   split at hi
   ·rename_i a1 len cap
    rcases hi with hi|⟨i1,sz,cs,T,i2,i3,i4,i5,i6⟩
    ·omega
    ·refine .inr ⟨?_,sz,cs,T,i2,i3,i4,i5,?_⟩
     ·exact cR.own a1.block (by grind)
     ·rintro o ho (h|⟨m,hm,cs',j1,j2,_⟩)
      ·simp_all
      ·rcases di.fi.heap.1 m _ j2 with h3|⟨b',k1,k2,_⟩<;>simp_all
   simp
  rcases rP with rfl|rfl<;>(subst he; exact key fj)
 grind [Bo]
theorem Ti:∀(ps:List (Tmp×Value)) (a:Array Value),(ps.foldl (λtmps x=>tmps.setIfInBounds x.1 x.2) a).size=a.size∧(∀t,t∉ps.map (·.1)→(ps.foldl (λtmps x=>tmps.setIfInBounds x.1 x.2) a).getD t undef=a.getD t undef) ∧
  ((ps.map (·.1)).Nodup→∀x∈ps,x.1<a.size→(ps.foldl (λtmps x=>tmps.setIfInBounds x.1 x.2) a).getD x.1 undef=x.2)
 | [],a=>⟨rfl,λ_ _=>rfl,by simp⟩
 | (t0, v0) :: ps, a => by
   obtain⟨h1,h2,h3⟩:=Ti ps (a.setIfInBounds t0 v0)
   simp only[cD,az,aA,not_or,b8]
   refine⟨by grind,?_,?_⟩
   ·rintro t ⟨n1,n2⟩
    rw[h2 t n2]
    simp only[aV]
    grind
   ·rintro⟨n1,n2⟩ x (rfl|hx) cV
    ·rw[h2 _ n1]
     simp_all
    simp_all
theorem b9t {L:Nat→Option PFunc} (hE:EnvOk E N) (hP:E.P=P) (dL:P.follows .mixedOrders=true) (hF:Ag N P L) {n:Nat} (cT:∀m,m<n→Runs N P L m)
  {k:Nat} {pf:PFunc} {y:YL} {fn:Func} {vs:List Tmp} {opt:Opts} {ca cb:PC} (hR:RdC E N k pf y fn vs opt ca cb) {n0 l:Nat} {caps args:List PV} {o:Out} {h0 h':List PObj}
  (hc:Dy (yf L n) pf.nv ca cb (.ptr n0 0::caps++args) h0=some (o,h')) (el:(PV.ptr n0 0::caps++args).length=1+(y.vars.length+y.params.size))
  {w:World} {G:GS} {vals:Array Value} (dW:Between N w G h0) (hy:VR N w G.fix G.heap (.func (.yield l) #[] #[]) (.func k (.ptr n0 0::caps) [])) (dc:vals.size=args.length)
  (cZ:∀(i:Nat) (v:Value) (p:PV),vals[i]? = some v→args[i]? = some p→VR N w G.fix G.heap v p):
  ∃tmps',(Instr.yield l vals).run P w = .ok (.round l y.fn tmps' y.assign y.body) w∧∀r n',RoundIn (W r) n' P l y.fn tmps' y.assign y.body w λe w'=>∃G',OutR N w' G' e o∧Ext w G w' G'∧Between N w' G' h':=by
 have fK:P.funcs[y.fn]? = some fn:=by rw[← hP]; exact hR.inP
 generalize mG:Value.func (.yield l) #[] #[]=xv at hy
 generalize lF:PV.func k (.ptr n0 0::caps) []=xp at hy
 cases hy with
 | yield k' n' l' y' tmps caps' q0 ql qr qlen qsz qc =>
   simp only[PV.func.injEq,bJ,PV.ptr.injEq] at lF
   obtain⟨rfl,⟨⟨rfl,_⟩,rfl⟩,_⟩:=lF
   simp only[Value.func.injEq,Fn.yield.injEq] at mG
   obtain⟨rfl,_⟩:=mG
   have:y'=y:=by have:=hR.yl; rw[q0] at this; simpa using this
   subst this
   obtain⟨r0,rR,e1,e2,e3,e4,e5⟩:∃r0:Go.Loop,w.heap[l]? = some (.loop r0)∧r0.fn=y'.fn∧r0.tmps=tmps∧r0.params=y'.params∧r0.assign=y'.assign∧r0.body=y'.body:=by
    unfold Bj at qr
    split at qr
    ·rename_i r0 h
     simp only[aa,ac] at qr
     exact⟨r0,h,qr⟩
    ·simp at qr
   have rA:args.length=y'.params.size:=by grind
   have qH:=run_yield (P:=P) (args:=vals) rR (by rw[dc,e3]; exact rA)
   rw[e1,e4,e5,e2,e3] at qH
   refine⟨_,qH,?_⟩
   intro r n'
   have dY:(y'.params.zip vals).foldl (λtmps x=>tmps.setIfInBounds x.1 x.2) tmps=(y'.params.toList.zip vals.toList).foldl (λtmps x=>tmps.setIfInBounds x.1 x.2) tmps:=by
    rw[← Array.foldl_toList,Array.toList_zip]
   obtain⟨z1,z2,z3⟩:=Ti (y'.params.toList.zip vals.toList) tmps
   have nI:(y'.params.toList.zip vals.toList).map (·.1)=y'.params.toList:=by
    rw[List.map_fst_zip]; simp; omega
   rw[nI] at z2 z3
   have tK:(y'.vars++y'.params.toList).Nodup:=by rw[← hR.head]; exact hR.nd.sublist (List.take_sublist _ _)
   obtain⟨_,nd2,nd3⟩:=bW.1 tK
   have ej:y'.vars.length+y'.params.size≤vs.length:=by
    have:=aI List.length hR.head
    simp at this; omega
   generalize vp:(y'.params.zip vals).foldl (λtmps x=>tmps.setIfInBounds x.1 x.2) tmps=tmps'
   rw[dY] at vp
   rw[vp] at z1 z2 z3
   have rQ:∀i,i<y'.vars.length+y'.params.size→vs[i]? = (y'.vars++y'.params.toList)[i]? := by
    intro i hi
    rw[← hR.head,aW,ai hi]
   let st0:St:={ vars:=(caps++args).map dem++List.replicate (pf.nv - (caps++args).length) .dead,locs:=[],gen:=0,heap:=h0 }
   let a0:Act:={ tmps:=tmps',defers:=[] }
   let G0:GS:={ G with df:=[] }
   have oj:(caps++args).length=y'.vars.length+y'.params.size:=by simp; omega
   have ji:BI N w G0 st0 a0 vs y'.nt:=by
    refine⟨⟨?_,?_,(by simp),?_,(by simp),rfl,(by intro g b h; have h:G.box g=some b:=h; rw[dW.only.box] at h; simp at h),dW.owlt,dW.fixlt,dW.heap,dW.hdom⟩,?_⟩
    ·have:=hR.len
     simp only[st0,ap,aG,List.length_replicate] at oj ⊢
     omega
    ·intro i t u h1 h2
     by_cases hi:i<(caps++args).length
     ·rw[rQ i (by omega)] at h1
      simp only[st0] at h2
      rw[al (by simpa using hi)] at h2
      simp only[aF,am hi,aH,aa] at h2
      subst h2
      have ey:VR N w G.fix G.heap (tmps'.getD t undef) (caps++args)[i]:=by
       by_cases eH:i<y'.vars.length
       ·rw[al eH] at h1
        have vq:i<caps.length:=by omega
        have hq:=qc i t caps[i] h1 (by simp[vq])
        have pD:t∉y'.params.toList:=λhm=>nd3 t (ax h1) t hm rfl
        rw[z2 t pD]
        rw[List.getElem_append_left vq]
        exact hq
       ·rw[aq (by omega)] at h1
        have xn:i - caps.length<args.length:=by omega
        have vt:i - caps.length<vals.size:=by omega
        rw[List.getElem_append_right (by omega)]
        have xo:y'.params.toList[i - caps.length]? = some t:=by rw[qlen]; exact h1
        have dT:(t,vals[i - caps.length])∈y'.params.toList.zip vals.toList:=by
         refine bj.2 ⟨i - caps.length,?_⟩
         rw[List.getElem?_zip_eq_some]
         exact⟨xo,by simp[vt]⟩
        have pH:t<tmps.size:=by
         have hm:t∈vs:=by
          have h3:=rQ i (by omega)
          rw[aq (by omega)] at h3
          rw[h1] at h3
          exact ax h3
         exact aT (hR.lt t hm) qsz
        rw[z3 nd2 _ dT pH]
        exact cZ (i - caps.length) _ _ (by simp[vt]) (by simp[xn])
      have fB:a0.eval (.tmp t)=tmps'.getD t undef:=rfl
      rw[fB]
      exact SR.of_pure ey.dem ey.cp_dem
     ·simp only[st0] at h2
      rw[aq (by simpa using hi)] at h2
      rw[cu] at h2
      split at h2
      ·simp at h2; subst h2; trivial
      ·simp at h2
    ·intro i t h1
     have:=hR.lt t (ax h1)
     show t<tmps'.size
     rw[z1]; exact aT this qsz
    grind
   have pe:∀c,LpOK (E.opt opt) N y'.nt y'.fn c:=by
    intro c ps kb vars hl
    simp only[Env.opt,hR.lps] at hl
    simp at hl
   have rec1:∀{w':World} {G':GS} {st:St} {a:Act} {ready:Bool},ExtD w G0 w' G'→BI N w' G' st a vs y'.nt→st.heap[n0]? = some (.loop ready) →
     ∃r1:Go.Loop,G'.heap n0=some l∧G'.ow l=some (.hobj n0)∧(∀o,¬G'.fix l o)∧w'.heap[l]? = some (.loop r1)∧r1.pending=none∧r1.state=(if ready then .ready else .busy):=by
    intro w' G' st a ready cR hb hl
    rcases hb.fi.heap.1 n0 _ hl with h|⟨b,k1,k2,k3,r1,k4,k5⟩
    ·simp at h
    ·have:b=l:=by
      have:=Ext.heap cR n0 l ql
      rw[k1] at this; simpa using this
     subst this
     exact⟨r1,k1,k2,k3,k4,k5⟩
   have turn:∀{w':World} {G':GS} {st:St} {a:Act} {ob:PObj} {r1 r2:Go.Loop},ExtD w G0 w' G'→BI N w' G' st a vs y'.nt→G'.heap n0=some l→G'.ow l=some (.hobj n0)→(∀o,¬G'.fix l o)→w'.heap[l]? = some (.loop r1) →
     (r2.fn,r2.tmps,r2.params,r2.assign,r2.body)=(r1.fn,r1.tmps,r1.params,r1.assign,r1.body)→ObjR N (w'.putObj l (.loop r2)) G' n0 l ob→ExtD w G0 (w'.putObj l (.loop r2)) G'∧BI N (w'.putObj l (.loop r2)) G' (yw st n0 ob) a vs y'.nt:=by
    intro w' G' st a ob r1 r2 cR hb k1 k2 k3 k4 eo dO
    have cV:l<w'.heap.size:=(aZ.1 k4).1
    obtain⟨x1,x2⟩:=S5 (ob':=ob) (mob := .loop r2) hb.fi k1 k2 k3 (by simp[World.shape?,k4]) (by
     intro s hs
     simp only[Bj,k4] at hs
     simp only[Bj,bx,cV,if_true]
     simp only[aa] at hs ⊢
     rw[eo]; exact hs) (.inr dO)
    exact⟨cR.trans (.of x1),⟨x2,hb.size⟩⟩
   have hobj:∀{w':World} {G':GS} {r1 r2:Go.Loop},w'.heap[l]? = some (.loop r1)→(w'.putObj l (.loop r2)).heap[l]? = some (.loop r2):=by
    grind [World.putObj_heap_same,Array.getElem?_eq_some_iff]
   have nr:∀{p:PC},p.RO=true→p.NR=true:=by
    intro p
    induction p<;>simp_all [PC.RO,PC.NR]
   have last:∀{w':World} {G':GS} {st:St} {a:Act} {e:Ending},ExtD w G0 w' G'→BI N w' G' st a vs y'.nt→(∀G2,G2.heap=G'.heap→(∀b o,G'.fix b o→G2.fix b o)→OutR N w' G2 e o)→st.heap=h'→∃G',OutR N w' G' e o∧Ext w G w' G'∧Between N w' G' h':=by
    intro w' G' st a e cR hb ho hh
    obtain⟨l1,l2⟩:=Gr (w:=w) (G:=G) cR hb (DefW.refl w') (λ_ _=>rfl) st.vars []
    refine⟨{ fix:=(G'.shut (Cl st.vars []) st.heap).fix,heap:=G'.heap,box:=λ_=>none,ow:=Bk G'.ow,df:=G.df },ho _ rfl (λb o h=>Or.inl h),l1,?_⟩
    rw[← hh]; exact l2
   refine d3u fK ?_
   unfold Dy at hc
   simp only[aK] at hc
   split at hc
   ·rename_i st1 jF kJ
    refine Es (rd':=some l) hF (hE.opt opt) hP dL hR.nd n cT (by rw[← hR.ca]; exact Ii) kJ ji (pe _) (.inr hR.ra) (fun⟨_,_,h⟩=>h) ?_
    intro a1 w1 G1 e he eP dZ mr
    simp only[Bw] at he
    subst he
    have body:∀{x:PExit} {st2:St},st1.heap[n0]? = some (.loop true)→yf L n cb (yw st1 n0 (.loop false))=some (x,st2) →
      (∀a2 w2 G2 e2,Bw N w2 G2 x e2→BI N w2 G2 st2 a2 vs y'.nt→ExtD w G0 w2 G2→(G2.df=[])→NX P l (λe w'=>∃G',OutR N w' G' e o∧Ext w G w' G'∧Between N w' G' h') e2 a2 w2) →
      ∃w2,(Instr.beginRound l).run P w1 = .ok () w2∧wpN (some l) y'.fn P y'.body (NX P l (λe w'=>∃G',OutR N w' G' e o∧Ext w G w' G'∧Between N w' G' h')) a1 w2:=by
     intro x st2 d8 gW hq
     obtain⟨r1,k1,k2,k3,k4,k5,k6⟩:=rec1 dZ eP d8
     refine⟨_,run_beginRound k4 (by rw[k6]; rfl),?_⟩
     obtain⟨t1,t2⟩:=turn (ob := .loop false) (r2:={ r1 with state := .busy }) dZ eP k1 k2 k3 k4 rfl ⟨k3,_,hobj (G':=G1) k4,k5,rfl⟩
     refine Es (rd':=some l) hF (hE.opt opt) hP dL hR.nd n cT (by rw[← hR.cb]; exact Ii) gW t2 (pe _) (.inr hR.rb) (fun⟨_,_,h⟩=>h) ?_
     intro a2 w2 G2 e2 h1 h2 h3 h4
     have hd:G2.df=[]:=by
      have d1:G1.df=[]:=by
       obtain⟨ms,m1,_,m3⟩:=mr
       rw[m1,m3 (nr hR.ra)]; rfl
      have d2:(∃ms,G2.df=ms++G1.df∧Marks (w1.putObj l (.loop { r1 with state := .busy })) w2 G2 ms∧(cb.NR=true→ms=[]))∨∃d,G2.df=d::G1.df:=by
       unfold DfR at h4
       cases x with
       | after kd cs v=>exact .inr (h4 (nr hR.rb))
       | _=>grind
      rcases d2 with⟨ms,m1,_,m3⟩|⟨d,hd⟩
      ·rw[m1,m3 (nr hR.rb),d1]; rfl
      ·exfalso
       cases x with
       | after kd cs v=>exact DV hR.rb gW
       | _ =>
         obtain⟨ms,m1,_,m3⟩:=h4
         rw[m1,m3 (nr hR.rb)] at hd
         simp at hd
     exact hq a2 w2 G2 e2 h1 h2 (t1.trans h3) hd
    split at hc
    ·rename_i st2 d8 gW
     split at hc
     ·rename_i eK
      simp only[aa,ac] at hc
      obtain⟨rfl,rfl⟩:=hc
      refine body d8 gW ?_
      intro a2 w2 G2 e2 h1 h2 h3 _
      simp only[Bw] at h1
      subst h1
      obtain⟨r2,k1,k2,k3,k4,k5,k6⟩:=rec1 h3 h2 eK
      refine⟨_,_,run_endRound none k4,?_⟩
      obtain⟨t1,t2⟩:=turn (ob := .loop true) (r2:={ r2 with state:=if (none:Option Code).isNone then .ready else .done,pending:=none }) h3 h2 k1 k2 k3 k4 rfl ⟨k3,_,hobj (G':=G2) k4,rfl,rfl⟩
      exact last t1 t2 (λG3 _ _=>⟨_,rfl,.bool true⟩) rfl
     grind
    ·rename_i v st2 d8 gW
     simp only[aa,ac] at hc
     obtain⟨rfl,rfl⟩:=hc
     refine body d8 gW ?_
     rintro a2 w2 G2 e2 ⟨v',rfl,hv⟩ h2 h3 h4
     refine⟨by rw[h2.fi.defers]; exact h4,?_⟩
     exact last h3 h2 (λG3 g1 g2=>⟨v',rfl,by rw[g1]; exact hv.mono (λb o hf=>⟨g2 b o hf,rfl⟩) (λ_ _ h=>h) (ShapeLe.refl _)⟩) rfl
    ·rename_i id st2 d8 gW
     split at hc
     ·rename_i eK
      simp only[aa,ac] at hc
      obtain⟨rfl,rfl⟩:=hc
      refine body d8 gW ?_
      intro a2 w2 G2 e2 h1 h2 h3 _
      simp only[Bw] at h1
      subst h1
      obtain⟨r2,k1,k2,k3,k4,k5,k6⟩:=rec1 h3 h2 eK
      refine⟨_,_,run_endRound (some (.exit id)) k4,?_⟩
      obtain⟨t1,t2⟩:=turn (ob := .over (some id)) (r2:={ r2 with state:=if (some (Code.exit id)).isNone then .ready else .done,pending:=some (.exit id) }) h3 h2 k1 k2 k3 k4 rfl ⟨k3,_,hobj (G':=G2) k4,rfl,rfl⟩
      exact last t1 t2 (λG3 _ _=>⟨_,rfl,.bool false⟩) rfl
     grind
    ·rename_i st2 d8 gW
     split at hc
     ·rename_i eK
      simp only[aa,ac] at hc
      obtain⟨rfl,rfl⟩:=hc
      refine body d8 gW ?_
      intro a2 w2 G2 e2 h1 h2 h3 _
      simp only[Bw] at h1
      subst h1
      obtain⟨r2,k1,k2,k3,k4,k5,k6⟩:=rec1 h3 h2 eK
      refine⟨_,_,run_endRound (some .ret) k4,?_⟩
      obtain⟨t1,t2⟩:=turn (ob := .over none) (r2:={ r2 with state:=if (some Code.ret).isNone then .ready else .done,pending:=some .ret }) h3 h2 k1 k2 k3 k4 rfl ⟨k3,_,hobj (G':=G2) k4,rfl,rfl⟩
      exact last t1 t2 (λG3 _ _=>⟨_,rfl,.bool false⟩) rfl
     grind
    grind
   grind
 | _=>simp at mG
theorem b7M {ex:PC→St→Option (PExit×St)} {f:PFunc} {args:List PV} {h:List PObj} {r} (hc:CJ ex f args h=some r):∃rest,args = .dead::rest:=by
 unfold CJ at hc
 grind
theorem Tj {ex:PC→St→Option (PExit×St)} {f:PFunc} {args:List PV} {h:List PObj} {r} (hc:CJ ex f args h=some r):f.code.isRound=false:=by
 unfold CJ at hc
 have one:∀{o:Option Nat} {args:List PV},Bo ex f o args h=some r→f.code.isRound=false:=by
  simp_all [Bo]
 grind [Dq]
theorem c1D {L:Nat→Option PFunc} (hE:EnvOk E N) (hP:E.P=P) (dL:P.follows .mixedOrders=true) (hL:∀k pf,L k=some pf→FnS E N k pf):∀n,Runs N P L n:=by
 have hF:Ag N P L:=by
  intro k pf hk
  rcases hL k pf hk with hL|⟨y,fn,vs,o,a,b,h⟩
  rcases hL.2.2.2 with⟨_,_,fn,vs,h1,h2,_,_,_,_,_,_,h3,_⟩|⟨g,fn,_,_,h1,h2,h3,_⟩|⟨g,fn,_,_,_,h1,h2,h3,_⟩
  ·refine⟨fn,by simp_all,h2,?_⟩
   cases hb:fn.body<;>simp_all
  ·simp_all
  ·simp_all
  ·exact⟨fn,by rw[← hP,h.no]; exact h.inP,h.name,h.body⟩
 intro n
 induction n using Nat.strongRecOn with
 | _ n ihn =>
   have prim:∀{k:Nat} {pf:PFunc} {g} {args:List PV} {r:PV} {h0 h':List PObj},L k=some pf→pf.prim=some g→g (args.map dem) h0=some (r,h')→∀(w:World) (G:GS) (vals:Array Value),Between N w G h0→vals.size=args.length →
     (∀(i:Nat) (v:Value) (p:PV),vals[i]? = some v→args[i]? = some p→VR N w G.fix G.heap v p) →
     Calls P (N.fn k) vals w λe w'=>∃v G',e = .returned v∧VR N w' G'.fix G'.heap v r∧Ext w G w' G'∧Between N w' G' h':=by
    intro k pf g args r h0 h' iu gJ hc w G vals dW dc cZ
    have fH:FnF E N k pf:=by
     rcases hL k pf iu with h|⟨y,fn,vs,o,a,b,h⟩
     ·exact h
     ·rw[h.prim] at gJ; grind
    rcases fH.2.2.2 with⟨h,_⟩|⟨g',fn,h,_,_,_,_,mU⟩|⟨_,_,h,_⟩
    ·simp_all
    ·rw[h] at gJ
     simp only[aa] at gJ
     subst gJ
     rw[hP] at mU
     refine mU (args.map dem) r h0 h' hc w G vals dW (by simp_all) ?_
     intro i v p hv hp
     simp only[aF,ab] at hp
     obtain⟨q,hq,rfl⟩:=hp
     exact(cZ i v q hv hq).dem
    simp_all
   have code:∀{k:Nat} {pf:PFunc} {args:List PV} {o:Out} {h0 h':List PObj},L k=some pf→pf.code.isRound=false→pf.prim=none→Bn (yf L n) (Ar L) pf args h0=some (o,h')→args.length=pf.params→∀(w:World) (G:GS) (vals:Array Value),Between N w G h0→vals.size=args.length →
     (∀(i:Nat) (v:Value) (p:PV),vals[i]? = some v→args[i]? = some p→VR N w G.fix G.heap v p) →
     Calls P (N.fn k) vals w λe w'=>∃G',OutR N w' G' e o∧Ext w G w' G'∧Between N w' G' h':=by
    intro k pf args o h0 h' iu mu gJ hc el w G vals dW dc cZ
    obtain⟨_,kA,_,lf⟩:=(hL k pf iu).plain mu
    rcases lf with⟨_,_,fn,vs,qF⟩|⟨g',fn,h,_⟩|⟨_,_,_,hx,_⟩
    ·grind [c5A]
    ·simp_all
    ·unfold Bn at hc
     rw[hx] at hc
     cases n<;>simp_all [yf]
   refine⟨⟨?_,?_⟩,?_,?_,?_⟩
   ·intro k args r h0 h' hc
    unfold zI at hc
    split at hc
    ·simp at hc
    ·rename_i pf iu
     have mu:pf.prim=none→pf.code.isRound=false:=by
      intro gJ
      cases hx:pf.code.isRound with
      | false=>rfl
      | true =>
        grind [BM,EC,Tj]
     have fH:FnF E N k pf:=by
      rcases hL k pf iu with h|⟨y,fn,vs,o,a,b,h⟩
      ·exact h
      ·have:=mu h.prim
       rw[h.code] at this; grind [PC.isRound]
     refine⟨fH.1,?_⟩
     intro w G vals dW dc cZ
     split at hc
     ·rename_i el
      split at hc
      ·rename_i g gJ
       simp only[ab,ac] at hc
       obtain⟨⟨r1,h1⟩,hg,rfl,rfl⟩:=hc
       refine(prim iu gJ hg w G vals dW dc cZ).mono ?_
       rintro e w' ⟨v,G',rfl,hv,h2,h3⟩
       exact⟨v,G',rfl,hv.dem,h2,h3⟩
      ·rename_i gJ
       have kA:=fH.2.1
       suffices H:∀args:List PV,args.length=pf.params→BM (yf L n) (Ar L) pf args h0=some (r,h')→vals.size=args.length →
         (∀(i:Nat) (v:Value) (p:PV),vals[i]? = some v→args[i]? = some p→VR N w G.fix G.heap v p) →
         Calls P (N.fn k) vals w λe w'=>∃v G',e = .returned v∧VR N w' G'.fix G'.heap v r∧Ext w G w' G'∧Between N w' G' h' by
        split at hc
        ·rename_i i9
         simp only[ao] at i9
         have pg:BM (yf L n) (Ar L) pf (.nils::args.tail) h0=some (r,h')∧BM (yf L n) (Ar L) pf (.void::args.tail) h0=some (r,h'):=by
          simp_all [EC]
         cases args with
         | nil=>simp[vague] at i9
         | cons p ps =>
           have jK:∃v,vals[0]? = some v:=by
            have h0:0<vals.size:=by grind
            simp_all
           obtain⟨v0,jK⟩:=jK
           have kQ:∀q,VR N w G.fix G.heap v0 q→∀(i:Nat) (v:Value) (p':PV),vals[i]? = some v→(q::ps)[i]? = some p'→VR N w G.fix G.heap v p':=by
            grind
           rcases(cZ 0 v0 p jK rfl).vague i9.2 with h|h<;>grind
        grind
       clear hc el dc cZ mu args
       intro args el hc dc cZ
       unfold BM at hc
       rw[kA] at hc
       simp only[aL,if_false] at hc
       unfold IN at hc
       split at hc
       ·rename_i r' h1 ef
        simp only[aa,ac] at hc
        obtain⟨rfl,rfl⟩:=hc
        refine(code iu kA gJ ef el w G vals dW dc cZ).mono ?_
        rintro e w' ⟨G',⟨v,rfl,hv⟩,h2,h3⟩
        grind
       grind
     ·
      exfalso
      obtain⟨ps,rfl⟩:=b7M hc
      ·have h0:0<vals.size:=by grind
       have h1:=cZ 0 vals[0] .dead (by simp[h0]) rfl
       generalize vals[0]=v0 at h1
       cases h1
   ·intro k own args r h' hc
    unfold zI at hc
    split at hc
    ·simp at hc
    ·rename_i pf iu
     have fx:(BX own args).length=pf.params→False:=by
      intro hl
      rcases hL k pf iu with h|⟨y,fn,vs,o,a,b,h⟩
      ·have:=h.2.2.1
       grind [Tk]
      ·rw[ai hl,h.prim] at hc
       simp only[BM,h.code,PC.isRound,if_true] at hc
       simp_all [EC]
     rw[ae fx] at hc
     have fH:=(hL k pf iu).plain (Tj hc)
     refine⟨fH.1,?_⟩
     intro w G vals dI
     rw[Tl] at hc
     split at hc
     ·rename_i el
      obtain⟨el,gJ⟩:=el
      suffices H:∀args:List PV,args.length=pf.params→Bo (yf L n) pf own args []=some (r,h')→OwnIn N w G own args vals →
        Calls P (N.fn k) vals w λe w'=>∃v G',e = .returned v∧VR N w' G'.fix G'.heap v r∧Ext w G w' G'∧(∀b o,G'.fix b o→b<w'.heap.size)∧∀es,r = .list true es→FJ w G w' G' v es by
       split at hc
       ·rename_i i9
        simp only[ao] at i9
        have pg:=Dq.1 hc
        cases args with
        | nil=>simp[vague] at i9
        | cons p ps =>
          have jK:∃v,vals[0]? = some v:=by
           have h0:0<vals.size:=by rw[dI.size]; simp
           simp_all
          obtain⟨v0,jK⟩:=jK
          have kQ:∀q,(∀es,q≠.list true es)→VR N w G.fix G.heap v0 q→OwnIn N w G own (q::ps) vals:=by
           intro q jG hq
           refine⟨dI.ow,dI.box,dI.heap,dI.fixlt,dI.owlt,dI.tab,by simpa using dI.size,?_,?_⟩
           ·intro i v p' h1 h2
            cases i with
            | zero=>grind
            | succ i=>exact dI.vr (i+1) v p' h1 (by simp_all)
           ·intro i v es hi h1 h2
            cases i with
            | zero=>grind
            | succ i=>exact dI.room (i+1) v es hi h1 (by simp_all)
          rcases(dI.vr 0 v0 p jK rfl).vague i9.2 with h|h<;>grind
       grind
      clear hc el dI fx args
      intro args el hc dI
      rcases fH.2.2.2 with⟨_,_,fn,vs,qF⟩|⟨g',fn,h,_⟩|⟨_,_,_,hx,_⟩
      ·grind [c3s]
      ·simp_all
      ·unfold Bo at hc
       rw[hx] at hc
       cases n<;>grind [yf]
     grind
   ·intro k args o h0 h' hc ki w G vals dW dc cZ
    unfold z6 at hc
    split at hc
    ·simp at hc
    ·rename_i pf iu
     split at hc
     ·rename_i el
      split at hc
      ·rename_i g gJ
       simp only[ab] at hc
       obtain⟨⟨r,h1⟩,hg,rfl,rfl⟩:=hc
       refine(prim iu gJ hg w G vals dW dc cZ).mono ?_
       rintro e w' ⟨v,G',rfl,hv,h2,h3⟩
       exact⟨G',⟨v,rfl,hv.dem⟩,h2,h3⟩
      ·rename_i gJ
       exact code iu ((hL k pf iu).plainY ki).2.1 gJ hc el.1 w G vals dW dc cZ
     grind
   ·intro k y n0 l tmps caps args o h0 h' hy hc w G vals dW tr dc cZ
    unfold z6 at hc
    split at hc
    ·simp at hc
    ·rename_i pf iu
     rcases hL k pf iu with h|⟨y',fn,vs,o',ca,cb,h⟩
     ·have:=h.1
      simp_all
     ·have:y'=y:=by have:=h.yl; simp_all
      subst this
      split at hc
      ·rename_i el
       rw[h.prim] at hc
       simp only[Bn,h.code] at hc
       exact b9t hE hP dL hF ihn h hc (by rw[el.1,h.params]) dW tr dc cZ
      grind
   ·intro k hk
    unfold EB at hk
    split at hk
    ·rename_i f hf
     exact((hL k f hf).plain (by simp_all)).1
    grind
theorem c1E {L:Nat→Option PFunc} (hE:EnvOk E N) (hP:E.P=P) (dL:P.follows .mixedOrders=true) (hL:∀k pf,L k=some pf→FnS E N k pf):
  ∀n,CallOK N P (zI (yf L n) L):=λn=>(c1D hE hP dL hL n).call
end
end PI
