import Derived.Test.YtljbhgpanekomaaGreatDoorPiComp
set_option linter.unusedSimpArgs false
set_option linter.unusedVariables false
set_option linter.unusedSectionVars false
namespace PI
def w8:POp→Nat
 | .h (.store ..) | .h (.mset ..) | .h (.bcall ..) | .h (.bcallv ..)=>2
 | .h (.mkfunc _ a b)=>if (a++b).isEmpty then 0 else 4
 | .load _ _ _ tk=>if tk then 3 else 1
 | .store .. | .newloc _ | .boxloc .. | .sliceLoc .. => 2
 | _=>0
def x6:POp→Nat
 | .h (.newobj ..) | .h .newbld | .h (.boxobj ..) | .h (.mkarr ..) | .h (.range ..) | .h (.next ..) | .h .mkmap | .h (.call ..) | .h (.callv ..) | .h (.bcall ..) | .h (.bcallv ..) | .h (.happ ..) | .h (.happz ..) | .h (.clear ..) | .h (.store ..) | .h (.storer ..) | .h (.mset ..)=>2
 | .h (.load _ _ _ tk)=>if tk then 2 else 1
 | .h (.lookup _ tk _ _ _ _ _)=>if tk then 2 else 1
 | .h (.mlen ..) | .h (.rcall ..) | .h (.lcall ..)=>1
 | _=>0
def CI:POp→List PX
 | .h (.mkfunc _ a b)=>a++b
 | _=>[]
def yg:POp→List PX
 | .take x=>[x]
 | .append _ _ s _=>[s]
 | .appstr s _=>[s]
 | .h (.happ _ _ _ s _)=>[s]
 | .pcallx _ xs (some i)=>xs[i]?.toList
 | _=>[]
def yh:PX→PX→Bool
 | .v i,.v j=>i==j
 | .l i,.l j=>i==j
 | _,_=>false
def isX (d:PD) (j:Nat) (x:PX):Bool:=
 match d with
 | .v i=>yh (.v i) x
 | .l=>yh (.l j) x
 | .n=>false
def zU (p:PO):List PX:=(match p.guard with | some (x,_)=>[x] | none=>[])++wQ p.op
def isV:PD→Bool
 | .v _=>true
 | _=>false
def Dx (j:Nat) (p q:PO):Bool:=(zU q).all (λx => !isX p.dst j x)&&(!isV p.dst||w8 q.op==0)
def C6 (d d':PD):Bool:=
 match d,d' with
 | .v i,.v j=>i==j
 | _,_=>false
def DN (jp:Nat) (p:PO) (jq:Nat) (q:PO):Bool:=
 w8 p.op != 2&&w8 q.op != 2 && !(w8 p.op==3&&w8 q.op==3) && !(w8 p.op==4&&w8 q.op != 0) && !(w8 q.op==4&&w8 p.op != 0) &&
 !(x6 p.op==2&&x6 q.op != 0) && !(x6 q.op==2&&x6 p.op != 0)&&(CI p.op).all (λx => !(zU q).any (yh x))&&(CI q.op).all (λx => !(zU p).any (yh x))&&Dx jp p q&&Dx jq q p && !C6 p.dst q.dst&&(yg p.op).all (λx => !(yg q.op).any (yh x))
def vw:PV→PV
 | .list _ es => .list false es
 | .loc g _ => .loc g []
 | v=>v
theorem DO (v:PV):cp v=cp (vw v):=by cases v<;>rfl
inductive Dm where
 | none
 | src (x:PX)
 | cell (s off:Nat)
 | heap (h:List PObj)
 | shut (xs:List PX)
def BN (off:Nat):PV→PV
 | .loc g cs => .loc g (cs.modify off dem)
 | v=>v
def BO:PV→PV
 | .loc _ cs => .cptr (cs.map dem)
 | v=>v
def yy (x:PX) (st:St):St:=
 match x with
 | .v i=>{ st with vars:=st.vars.modify i BO }
 | _=>st
def x7:List PX→St→St
 | [],st=>st
 | x::xs,st=>x7 xs (yy x st)
def Dm.app:Dm→St→St
 | .heap h,st=>{ st with heap:=h }
 | .shut xs,st=>x7 xs st
 | .none,st=>st
 | .src (.v i),st=>{ st with vars:=st.vars.modify i dem }
 | .src (.l j),st=>{ st with locs:=st.locs.modify j dem }
 | .src (.c _),st=>st
 | .cell s off,st=>{ st with vars:=st.vars.modify s (BN off) }
def Bl (exact:Bool) (st st':St):Prop:=
 ∀(s g:Nat) (cs:List PV),st.vars[s]? = some (.loc g cs)→∃cs',st'.vars[s]? = some (.loc g cs')∧cs'.map dem=cs.map dem∧(exact=true→cs'=cs)
def Iz:POp→Option Nat
 | .loadv s _ _ _=>some s
 | _=>none
def CJ (s:Nat) (st st':St):Prop:=∀(g:Nat) (cs:List PV),st.vars[s]? = some (.loc g cs)→∃cs',st'.vars[s]? = some (.loc g cs')∧cs'.map dem=cs.map dem
structure Sim (o:POp) (rs:List PX) (st st':St):Prop where
 reads:∀x∈rs,(raw st x).map vw=(raw st' x).map vw
 takes:∀x∈yg o,∀es,raw st x=some (.list true es)↔raw st' x=some (.list true es)
 mem:1≤w8 o→Bl (w8 o==3) st st'
 heap:1≤x6 o→st'.heap=st.heap
 slot:∀s,Iz o=some s→CJ s st st'∧CJ s st' st
section
variable {o:POp} {rs:List PX} {st st':St}
theorem Sim.rd (h:Sim o rs st st') {x:PX} (hx:x∈rs):rd st x=rd st' x:=by
 have:=h.reads x hx
 unfold PI.rd
 cases h1:raw st x<;>cases h2:raw st' x<;>simp[h1,h2] at this ⊢
 rw[DO,this,← DO]
theorem Sim.rdInt (h:Sim o rs st st') {x:PX} (hx:x∈rs):rdInt st x=rdInt st' x:=by
 unfold PI.rdInt; rw[h.rd hx]
theorem IA (h:Sim o rs st st') {x:PX} (hx:x∈rs) (hm:1≤x6 o):b1Q st x=b1Q st' x:=by
 unfold PI.b1Q
 rw[h.rd hx]
 unfold xh
 rw[h.heap hm]
def IB (x:PX) (r:Option PV):Option PV:=
 match x,r with
 | .v i,some (.loc g _)=>some (.lptr i g 0)
 | _,some (.lptr s g off)=>some (.lptr s g off)
 | _,some v=>cp v
 | _,none=>none
theorem LT (st:St) (x:PX):addr st x=IB x (raw st x):=rfl
theorem LU (x:PX) (v:PV):IB x (some v)=IB x (some (vw v)):=by
 cases v<;>cases x<;>rfl
theorem Sim.addr (h:Sim o rs st st') {x:PX} (hx:x∈rs):addr st x=addr st' x:=by
 have:=h.reads x hx
 rw[LT,LT]
 cases h1:raw st x<;>cases h2:raw st' x<;>simp[h1,h2] at this ⊢
 rw[LU,this,← LU]
theorem Sim.rdAll (h:Sim o rs st st'):∀{xs:List PX},(∀x∈xs,x∈rs)→rdAll st xs=rdAll st' xs
 | [],_=>rfl
 | x :: xs, hx => by
   simp only[PI.rdAll]
   rw[h.rd (hx x (by simp)),h.rdAll (xs:=xs) (λy hy=>hx y (by simp[hy]))]
theorem Sim.rdParts (h:Sim o rs st st'):∀{xs:List (Nat×Nat×PX)},(∀x∈xs,x.2.2∈rs)→rdParts st xs=rdParts st' xs
 | [],_=>rfl
 | (a, b, x) :: xs, hx => by
   simp only[PI.rdParts]
   rw[h.rd (hx (a,b,x) (by simp)),h.rdParts (xs:=xs) (λy hy=>hx y (by simp[hy]))]
theorem Sim.rdElems (h:Sim o rs st st'):∀{xs:List (Nat×PX)},(∀x∈xs,x.2∈rs)→rdElems st xs=rdElems st' xs
 | [],_=>rfl
 | (a, x) :: xs, hx => by
   simp only[PI.rdElems]
   rw[h.rd (hx (a,x) (by simp)),h.rdElems (xs:=xs) (λy hy=>hx y (by simp[hy]))]
theorem Sim.bound (h:Sim o rs st st') {x:Option PX} (hx:∀y∈x.toList,y∈rs) (d m:Nat):bound st x d m=bound st' x d m:=by
 cases x with
 | none=>rfl
 | some y=>simp only[PI.bound]; rw[h.rdInt (hx y (by simp))]
theorem DP {l:List PV} {i:Nat} {v:PV} (h:l[i]? = some v) (f:PV→PV):l.modify i f=l.set i (f v):=by
 apply cg
 intro k
 rw[bg,aL]
 by_cases hk:i=k
 ·subst hk
  obtain⟨cQ,rfl⟩:=aj.1 h
  simp[cQ]
 ·simp[hk]
theorem IC {l:List PV} {i:Nat} {f:PV→PV} (h:∀v,l[i]? = some v→f v=v):l.modify i f=l:=by
 apply cg
 intro k
 rw[bg]
 by_cases hk:i=k
 ·subst hk
  cases hv:l[i]? with
  | none=>simp
  | some v=>simp[h v hv]
 ·simp[hk]
theorem Gb {x:PX} {u:PV} {st1:St} (h:tk st x=some (u,st1)):st1=(Dm.src x).app st∧∀st',(raw st x).map vw=(raw st' x).map vw→(∀es,raw st x=some (.list true es)↔raw st' x=some (.list true es))→tk st' x=some (u,(Dm.src x).app st'):=by
 have app_own:∀(st:St) (es:List PV),raw st x=some (.list true es)→Bd st x (.list false es)=(Dm.src x).app st:=by
  intro st es hr
  cases x with
  | v i=>simp only[Bd,Dm.app]; rw[DP hr]; rfl
  | l i=>simp only[Bd,Dm.app]; rw[DP hr]; rfl
  | c p=>rfl
 have app_id:∀(st:St),(∀v,raw st x=some v→dem v=v)→(Dm.src x).app st=st:=by
  intro st hv
  cases x with
  | v i=>simp only[Dm.app]; rw[IC hv]
  | l i=>simp only[Dm.app]; rw[IC hv]
  | c p=>rfl
 have dem_id:∀v:PV,(∀es,v≠.list true es)→dem v=v:=by
  intro v hv
  cases v<;>try rfl
  rename_i own es
  cases own with
  | true=>exact absurd rfl (hv es)
  | false=>rfl
 unfold tk at h
 split at h
 ·rename_i es hr
  simp only[aa,ac] at h
  obtain⟨rfl,rfl⟩:=h
  refine⟨app_own st es hr,?_⟩
  intro st' _ h2
  have eY:=(h2 es).1 hr
  unfold tk
  rw[eY]
  simp only[aa,ac,true_and]
  exact app_own st' es eY
 ·rename_i v mu hr
  simp only[ab,ac] at h
  obtain⟨r,el,rfl,rfl⟩:=h
  refine⟨(app_id _ (λv' dI=>by rw[hr] at dI; simp at dI; subst dI; exact dem_id _ mu)).symm,?_⟩
  intro st' h1 h2
  have oa:∀es,raw st' x≠some (.list true es):=λes e=>by
   have:=(h2 es).2 e
   rw[hr] at this; simp at this; exact mu es this
  cases hv:raw st' x with
  | none=>rw[hr,hv] at h1; simp at h1
  | some v' =>
    have uE:vw v=vw v':=by rw[hr,hv] at h1; simpa using h1
    have fu:cp v'=some r:=by rw[DO,← uE,← DO]; exact el
    have da:∀es,v'≠.list true es:=λes e=>oa es (by rw[hv,e])
    have ge:=app_id st' (λv2 jv=>by rw[hv] at jv; simp at jv; subst jv; exact dem_id _ da)
    unfold tk
    rw[hv]
    split
    ·rename_i es he; simp at he; exact absurd he (da es)
    ·rename_i v2 _ he
     simp at he; subst he
     simp[fu,ge]
    ·rename_i he; simp at he
 ·simp at h
theorem LV {size:Nat} {agg:Bool} {cs cs':List PV} {off:Nat} (h:cs'.map dem=cs.map dem):wz size agg cs off=wz size agg cs' off:=by
 have hl:cs'.length=cs.length:=by simpa using aE List.length h
 unfold wz
 rw[hl]
 split
 ·split
  ·congr 2
   have:=aE (λl=>(l.drop off).take size) h
   simpa using this.symm
  ·rfl
 ·have hg:(cs[off]?).map dem=(cs'[off]?).map dem:=by
   have:=aE (λl=>l[off]?) h
   simpa using this.symm
  cases h1:cs[off]? with
  | none => cases h2 : cs'[off]? with
    | none=>rfl
    | some v=>rw[h1,h2] at hg; simp at hg
  | some v => cases h2 : cs'[off]? with
    | none=>rw[h1,h2] at hg; simp at hg
    | some v' =>
      rw[h1,h2] at hg
      simp at hg
      have:∀x,cp x=cp (dem x):=λx=>by cases x<;>rfl
      simp only
      rw[this v,hg,← this v']
def zG (o:POp) (d:Dm):Prop:=
 match d with
 | .none=>True
 | .src x=>x∈yg o
 | .cell _ _=>w8 o=3
 | .heap _=>x6 o=2
 | .shut xs=>w8 o=4∧xs=CI o
theorem ID:∀{xs:List PX} {st st1:St} {us:List PV},xW st xs=some (us,st1)→st1=x7 xs st ∧
  ∀st',(∀x∈xs,(raw st x).map vw=(raw st' x).map vw)→Bl false st st'→xW st' xs=some (us,x7 xs st')
 | [], st, st1, us, h => by
   simp only[xW,aa,ac] at h
   obtain⟨rfl,rfl⟩:=h
   exact ⟨rfl,λst' _ _=>rfl⟩
 | x :: xs, st, st1, us, h => by
   simp only[xW,ae,ab,ac] at h
   obtain⟨⟨v,st2⟩,h1,⟨q,st3⟩,h2,rfl,rfl⟩:=h
   obtain⟨i1,i2⟩:=ID h2
   have one:st2=yy x st∧∀st',(raw st x).map vw=(raw st' x).map vw→Bl false st st'→zz st' x=some (v,yy x st'):=by
    by_cases j9:∃i g cs,x = .v i∧raw st x=some (.loc g cs)
    ·obtain⟨i,g,cs,rfl,hr⟩:=j9
     simp only[zz,hr,aa,ac] at h1
     obtain⟨rfl,rfl⟩:=h1
     have eY:st.vars[i]? = some (.loc g cs):=hr
     refine⟨by simp only[yy]; rw[DP eY]; rfl,?_⟩
     intro st' _ hl
     obtain⟨cs',e1,e2,_⟩:=hl i g cs eY
     have e1':raw st' (.v i)=some (.loc g cs'):=e1
     unfold zz
     rw[e1']
     simp only[yy]
     rw[DP e1]
     simp only[BO,e2]
    ·have fp:∀i g cs,x = .v i→raw st x=some (.loc g cs)→False:=λi g cs e h=>j9 ⟨i,g,cs,e,h⟩
     have fu:∀st:St,(∀i g cs,x = .v i→raw st x=some (.loc g cs)→False)→zz st x=(rd st x).map (·,st):=by
      intro st hn
      unfold zz
      split
      ·rename_i i g cs h; exact absurd h (λh=>hn i g cs rfl h)
      ·rfl
     rw[fu st fp] at h1
     simp only[ab,ac] at h1
     obtain⟨r,hr,rfl,rfl⟩:=h1
     have ge:∀st:St,(∀i g cs,x = .v i→st.vars[i]?≠some (.loc g cs))→yy x st=st:=by
      intro st hn
      cases x with
      | v i =>
        simp only[yy]
        rw[IC]
        intro u hu
        cases u<;>first|rfl|exact absurd hu (hn i _ _ rfl)
      | l i=>rfl
      | c p=>rfl
     refine⟨(ge st (λi g cs e h=>fp i g cs e (by rw[e]; exact h))).symm,?_⟩
     intro st' hv hl
     have oc:∀i g cs,x = .v i→st'.vars[i]?≠some (.loc g cs):=by
      intro i g cs e h
      subst e
      have h':raw st' (.v i)=some (.loc g cs):=h
      rw[h'] at hv
      cases hq:raw st (.v i) with
      | none=>rw[hq] at hv; simp at hv
      | some u =>
        rw[hq] at hv
        simp only[aA,aa] at hv
        cases u<;>simp[vw] at hv
        exact fp i _ _ rfl hq
     have iZ:rd st' x=some r:=by
      unfold rd at hr ⊢
      cases h3:raw st x<;>cases h4:raw st' x<;>simp[h3,h4] at hv hr ⊢
      rw[DO,← hv,← DO]; exact hr
     rw[ge st' oc,fu st' (λi g cs e h=>oc i g cs e (by rw[e] at h; exact h))]
     simp[iZ]
   obtain⟨o1,o2⟩:=one
   subst o1
   refine⟨i1,?_⟩
   intro st' hv hl
   have oe:=o2 st' (hv x (bW ..)) hl
   have jv:∀y∈xs,(raw (yy x st) y).map vw=(raw (yy x st') y).map vw:=by
    intro y hy
    have fN:=hv y (bC _ hy)
    cases x with
    | l i=>exact fN
    | c p=>exact fN
    | v i =>
      cases y with
      | l k=>exact fN
      | c p=>rfl
      | v k =>
        simp only[yy,raw,bg] at fN ⊢
        by_cases fT:i=k
        ·subst fT
         cases h3:st.vars[i]? with
         | none=>rw[h3] at fN; cases h4:st'.vars[i]?<;>simp[h4] at fN ⊢
         | some u =>
           rw[h3] at fN
           cases h4:st'.vars[i]? with
           | none=>rw[h4] at fN; simp at fN
           | some u' =>
             rw[h4] at fN
             simp only[aA,aa] at fN
             simp only[if_true,cI,aA,aa]
             cases u with
             | loc g cs =>
               obtain⟨cs',e1,e2,_⟩:=hl i g cs h3
               rw[h4] at e1
               simp at e1; subst e1
               simp[BO,e2]
             | _=>cases u'<;>simp[vw] at fN<;>simp_all [BO,vw]
        ·simp only[fT,if_false]
         cases h3:st.vars[k]?<;>cases h4:st'.vars[k]?<;>simp[h3,h4] at fN ⊢
         exact fN
   have et:Bl false (yy x st) (yy x st'):=by
    cases x with
    | l i=>exact hl
    | c p=>exact hl
    | v i =>
      intro s g cs hs
      simp only[yy,bg] at hs ⊢
      by_cases s8:i=s
      ·subst s8
       cases h3:st.vars[i]? with
       | none=>rw[h3] at hs; simp at hs
       | some u=>rw[h3] at hs; cases u<;>simp[BO] at hs
      ·simp only[s8,if_false] at hs ⊢
       cases h3:st.vars[s]? with
       | none=>rw[h3] at hs; simp at hs
       | some u =>
         rw[h3] at hs
         simp at hs; subst hs
         obtain⟨cs',e1,e2,e3⟩:=hl s g cs h3
         exact ⟨cs',by simp[e1],e2,e3⟩
   have:=i2 _ jv et
   simp only[xW,oe,aw,this,aA,x7]
theorem b5p:∀(a b:List PX) (st:St),x7 (a++b) st=x7 b (x7 a st)
 | [],_,_=>rfl
 | x::a,b,st=>by simp only[aJ,x7]; exact b5p a b _
theorem IE:∀{a b:List PX} {st:St},xW st (a++b)=(xW st a).bind λf=>(xW f.2 b).map λc=>(f.1++c.1,c.2)
 | [],b,st=>by simp only[aY,xW,aw]; cases xW st b<;>rfl
 | x :: a, b, st => by
   simp only[aJ,xW,IE (a:=a)]
   cases zz st x with
   | none=>rfl
   | some r =>
     simp only[aw]
     cases xW r.2 a with
     | none=>rfl
     | some f =>
       simp only[aw,aA]
       cases xW f.2 b<;>rfl
theorem b98 {cf:wu} {k:Nat} {a b:List PX} {u:PV} {st st1:St} (h:wo cf (.mkfunc k a b) st=some (u,st1)):
  st1=x7 (a++b) st∧∀st',(∀x∈a++b,(raw st x).map vw=(raw st' x).map vw)→Bl false st st'→wo cf (.mkfunc k a b) st'=some (u,x7 (a++b) st'):=by
 simp only[wo,ae,ab,ac] at h
 obtain⟨⟨f,st2⟩,h1,⟨c,st3⟩,h2,rfl,rfl⟩:=h
 have np:xW st (a++b)=some (f++c,st3):=by rw[IE,h1]; simp[h2]
 obtain⟨e1,e2⟩:=ID np
 obtain⟨e3,e4⟩:=ID h1
 refine⟨e1,?_⟩
 intro st' hv hl
 have g1:=e4 st' (λx hx=>hv x (bq _ hx)) hl
 have g2:=e2 st' hv hl
 rw[IE,g1] at g2
 simp only[aw,ab,ac] at g2
 obtain⟨⟨c',st4⟩,g3,g4,g5⟩:=g2
 have hc:c'=c:=List.append_cancel_left g4
 subst hc
 simp only[wo,g1,aw,g3,aA]
 simp only at g5
 rw[g5]
theorem c8f {cf:wu} {u:PV} {st1:St} (hm:w8 o≠2) (c9:∀x∈wQ o,x∈rs) (h:opv cf o st=some (u,st1)):
  ∃d:Dm,st1=d.app st∧zG o d∧∀st',Sim o rs st st'→opv cf o st'=some (u,d.app st'):=by
 have pure:st1=st→(∀st',Sim o rs st st'→opv cf o st'=(opv cf o st).map λr=>(r.1,st'))→∃d:Dm,st1=d.app st∧zG o d∧∀st',Sim o rs st st'→opv cf o st'=some (u,d.app st'):=by
  intro e hs
  refine⟨.none,e,trivial,?_⟩
  intro st' dz
  rw[hs st' dz,h]; rfl
 cases o with
 | h o =>
   have ef:x6 (.h o)=2→(∀st',st'.heap=st.heap→(∀x∈xw o,rd st x=rd st' x)→(∀x∈xw o,addr st x=addr st' x)→wo cf o st'=(wo cf o st).map λr=>(r.1,{ st' with heap:=r.2.heap }))→(∀u st1,wo cf o st=some (u,st1)→st1={ st with heap:=st1.heap }) →
     ∃d:Dm,st1=d.app st∧zG (.h o) d∧∀st',Sim (.h o) rs st st'→opv cf (.h o) st'=some (u,d.app st'):=by
    intro h2 hs he
    have h':wo cf o st=some (u,st1):=h
    refine⟨.heap st1.heap,he _ _ h',h2,?_⟩
    intro st' dz
    show wo cf o st'=_
    rw[hs st' (dz.heap (by omega)) (λx hx=>dz.rd (c9 x hx)) (λx hx=>dz.addr (c9 x hx)),h']
    rfl
   have eI:(∀u st1,wo cf o st=some (u,st1)→st1=st)→(∀st',(1≤x6 (.h o)→st'.heap=st.heap)→(∀x∈xw o,rd st x=rd st' x)→(∀x∈xw o,addr st x=addr st' x)→wo cf o st'=(wo cf o st).map λr=>(r.1,st')) →
     ∃d:Dm,st1=d.app st∧zG (.h o) d∧∀st',Sim (.h o) rs st st'→opv cf (.h o) st'=some (u,d.app st'):=by
    intro e hs
    refine pure (e _ _ h) ?_
    intro st' dz
    exact hs st' dz.heap (λx hx=>dz.rd (c9 x hx)) (λx hx=>dz.addr (c9 x hx))
   have rdI:∀{st st':St} {x:PX},rd st x=rd st' x→rdInt st x=rdInt st' x:=by intro st st' x hx; unfold PI.rdInt; rw[hx]
   have rdA:∀{st st':St} {xs:List PX},(∀x∈xs,rd st x=rd st' x)→rdAll st xs=rdAll st' xs:=by
    intro st st' xs
    induction xs with
    | nil=>intro _; rfl
    | cons x xs ih=>intro hx; simp only[PI.rdAll]; rw[hx x (by simp),ih (λy hy=>hx y (by simp[hy]))]
   cases o with
   | happ size agg by' a x =>
     have h':wo cf (.happ size agg by' a x) st=some (u,st1):=h
     simp only[wo] at h'
     split at h'
     ·rename_i xs n sz ag len hx oh
      have key:∀st',Sim (.h (.happ size agg by' a x)) rs st st'→b1Q st' x=some xs∧raw st' a=some (.rowp n sz ag len)∧st'.heap=st.heap:=by
       intro st' dz
       refine⟨by rw[← hx]; exact (IA dz (c9 x (by simp[wQ,xw])) (by simp[x6])).symm,?_,dz.heap (by simp[x6])⟩
       have:=dz.reads a (c9 a (by simp[wQ,xw]))
       rw[oh] at this
       cases eY:raw st' a with
       | none=>rw[eY] at this; simp at this
       | some v' =>
         rw[eY] at this
         cases v'<;>simp[vw] at this
         obtain⟨rfl,rfl,rfl,rfl⟩:=this
         rfl
      split at h'
      ·rename_i cs dB
       split at h'
       ·rename_i hc
        simp only[aa,ac] at h'
        obtain⟨rfl,rfl⟩:=h'
        refine⟨.heap _,rfl,rfl,?_⟩
        intro st' dz
        obtain⟨k1,k2,k3⟩:=key st' dz
        simp only[opv,wo,k1,k2,k3,dB]
        rw[ah hc]
        rfl
       ·simp at h'
      ·simp at h'
     ·rename_i xs hx oh
      have key:∀st',Sim (.h (.happ size agg by' a x)) rs st st'→b1Q st' x=some xs∧raw st' a=some (.list true [])∧st'.heap=st.heap:=by
       intro st' dz
       exact ⟨by rw[← hx]; exact (IA dz (c9 x (by simp[wQ,xw])) (by simp[x6])).symm,(dz.takes a (by simp[yg]) []).1 oh,dz.heap (by simp[x6])⟩
      split at h'
      ·rename_i iL
       simp only[aa,ac] at h'
       obtain⟨rfl,rfl⟩:=h'
       refine⟨.heap st.heap,rfl,rfl,?_⟩
       intro st' dz
       obtain⟨k1,k2,k3⟩:=key st' dz
       simp only[opv,wo,k1,k2,k3]
       rw[ah iL]
       simp only[Dm.app,← k3]
      ·rename_i iL
       split at h'
       ·rename_i hc
        simp only[aa,ac] at h'
        obtain⟨rfl,rfl⟩:=h'
        refine⟨.heap _,rfl,rfl,?_⟩
        intro st' dz
        obtain⟨k1,k2,k3⟩:=key st' dz
        simp only[opv,wo,k1,k2,k3]
        rw[af iL,ah hc]
        rfl
       ·simp at h'
     ·rename_i xs hx oh
      have key:∀st',Sim (.h (.happ size agg by' a x)) rs st st'→b1Q st' x=some xs∧raw st' a=some .nils∧st'.heap=st.heap:=by
       intro st' dz
       refine⟨by rw[← hx]; exact (IA dz (c9 x (by simp[wQ,xw])) (by simp[x6])).symm,?_,dz.heap (by simp[x6])⟩
       have:=dz.reads a (c9 a (by simp[wQ,xw]))
       rw[oh] at this
       cases eY:raw st' a with
       | none=>rw[eY] at this; simp at this
       | some v' =>
         rw[eY] at this
         cases v'<;>simp[vw] at this
         rfl
      split at h'
      ·rename_i iL
       simp only[aa,ac] at h'
       obtain⟨rfl,rfl⟩:=h'
       refine⟨.heap st.heap,rfl,rfl,?_⟩
       intro st' dz
       obtain⟨k1,k2,k3⟩:=key st' dz
       simp only[opv,wo,k1,k2,k3]
       rw[ah iL]
       simp only[Dm.app,← k3]
      ·rename_i iL
       split at h'
       ·rename_i hc
        simp only[aa,ac] at h'
        obtain⟨rfl,rfl⟩:=h'
        refine⟨.heap _,rfl,rfl,?_⟩
        intro st' dz
        obtain⟨k1,k2,k3⟩:=key st' dz
        simp only[opv,wo,k1,k2,k3]
        rw[af iL,ah hc]
        rfl
       ·simp at h'
     ·simp at h'
   | happz size agg by' z a x =>
     refine ef rfl (λst' hh hr _ =>?_) (λu st1 h =>?_)
     ·simp only[wo,hh,← rdI (hr x (by simp[xw])),← hr a (by simp[xw])]
      (repeat' split)<;>rfl
     ·simp only[wo] at h
      (repeat' split at h)<;>simp at h
      rw[← h.2]
   | clear size x =>
     refine ef rfl (λst' hh hr _ =>?_) (λu st1 h =>?_)
     ·simp only[wo,hh,← hr x (by simp[xw])]
      (repeat' split)<;>rfl
     ·simp only[wo] at h
      (repeat' split at h)<;>simp at h
      rw[← h.2]
   | mkarr size agg by' z x =>
     refine ef rfl (λst' hh hr _ =>?_) (λu st1 h =>?_)
     ·simp only[wo,hh,← rdI (hr x (by simp[xw]))]
      (repeat' split)<;>rfl
     ·simp only[wo] at h
      (repeat' split at h)<;>simp at h
      rw[← h.2]
   | range x =>
     refine ef rfl (λst' hh hr _ =>?_) (λu st1 h =>?_)
     ·simp only[wo,hh,← hr x (by simp[xw])]
      (repeat' split)<;>rfl
     ·simp only[wo] at h
      (repeat' split at h)<;>simp at h
      rw[← h.2]
   | next x =>
     refine ef rfl (λst' hh hr _ =>?_) (λu st1 h =>?_)
     ·simp only[wo,← hr x (by simp[xw])]
      split
      ·rw[hh]
       split
       ·split
        ·simp only[wT,hh]; rfl
        ·simp only[aA,← hh]
       ·rfl
      ·rfl
     ·simp only[wo] at h
      (repeat' split at h)<;>simp at h
      ·rw[← h.2]; rfl
      ·rw[← h.2]
   | storer size agg a x =>
     refine ef rfl (λst' hh hr ha =>?_) (λu st1 h =>?_)
     ·have hg:∀n,xh st' n=xh st n:=λn=>by unfold xh; rw[hh]
      simp only[wo,← ha a (by simp[xw]),← hr x (by simp[xw]),hg]
      split
      ·rename_i n off v _ _
       split
       ·rfl
       ·cases xh st n with
        | none=>rfl
        | some cs =>
          simp only[aw]
          cases wS size agg cs off v with
          | none=>rfl
          | some cs'=>simp only[aA,wT,hh]
      ·rfl
     ·simp only[wo] at h
      split at h
      ·split at h
       ·simp at h
       ·simp only[ae,ab,ac] at h
        obtain⟨_,_,_,_,_,e⟩:=h
        rw[← e]; rfl
      ·simp at h
   | store size agg a x=>simp[w8] at hm
   | mset kagg ks m k v=>simp[w8] at hm
   | mkfunc k a b =>
     obtain⟨e1,e2⟩:=b98 (st:=st) (by simpa[opv] using h)
     by_cases oi:(a++b).isEmpty=true
     ·have np:a++b=[]:=by simpa using oi
      rw[np] at e1 e2
      refine⟨.none,e1,trivial,?_⟩
      intro st' hs
      have:a=[]∧b=[]:=by simpa using np
      obtain⟨rfl,rfl⟩:=this
      have h':wo cf (.mkfunc k [] []) st=some (u,st1):=h
      simp only[wo,xW,aw,aA,aa,ac] at h'
      obtain⟨rfl,_⟩:=h'
      rfl
     ·have s9:w8 (.h (.mkfunc k a b))=4:=by simp only[w8,oi,if_false]; rfl
      refine⟨.shut (a++b),e1,⟨s9,rfl⟩,?_⟩
      intro st' hs
      have hl:=hs.mem (by omega)
      rw[s9] at hl
      exact e2 st' (λx hx=>hs.reads x (c9 x hx)) hl
   | newobj z=>exact ef rfl (λst' hh _ _=>by simp only[wo,hh]; rfl) (λu st1 h=>by simp only[wo,aa,ac] at h; rw[← h.2])
   | newbld=>exact ef rfl (λst' hh _ _=>by simp only[wo,hh]; rfl) (λu st1 h=>by simp only[wo,aa,ac] at h; rw[← h.2])
   | mkmap=>exact ef rfl (λst' hh _ _=>by simp only[wo,hh]; rfl) (λu st1 h=>by simp only[wo,aa,ac] at h; rw[← h.2])
   | boxobj n x =>
     refine ef rfl (λst' hh hr _ =>?_) (λu st1 h =>?_)
     ·simp only[wo,hh,← hr x (by simp[xw])]
      (repeat' split)<;>rfl
     ·simp only[wo] at h
      (repeat' split at h)<;>simp at h
      rw[← h.2]
   | call k args =>
     refine ef rfl (λst' hh hr _ =>?_) (λu st1 h =>?_)
     ·have e:rdAll st args=rdAll st' args:=rdA hr
      simp only[wo,hh,← e]
      cases rdAll st args with
      | none=>rfl
      | some vs=>simp only[aw,aG]; rfl
     ·simp only[wo,ae,ab,ac] at h
      obtain⟨_,_,_,_,_,e⟩:=h
      rw[← e]
   | rcall k args =>
     refine eI (λu st1 h =>?_) (λst' hh hr _ =>?_)
     ·simp only[wo,ae,same] at h
      obtain⟨_,_,_,_,e⟩:=h
      split at e
      ·simp only[aa,ac] at e; exact e.2.symm
      ·simp at e
     ·have e:rdAll st args=rdAll st' args:=rdA hr
      simp only[wo,hh (by simp[x6]),← e]
      cases rdAll st args with
      | none=>rfl
      | some vs =>
        simp only[aw]
        cases cf k vs st.heap with
        | none=>rfl
        | some r =>
          simp only[aw,same,hh (by simp[x6])]
          by_cases he:r.2=st.heap
          ·rw[ah he,ah he]; rfl
          ·rw[af he,af he]; rfl
   | lcall k args =>
     refine eI (λu st1 h =>?_) (λst' hh hr _ =>?_)
     ·simp only[wo,Cu,ae] at h
      obtain⟨_,_,_,_,e⟩:=h
      split at e
      ·simp only[ae] at e
       obtain⟨_,_,e⟩:=e
       split at e
       ·simp only[aa,ac] at e; exact e.2.symm
       ·simp at e
      ·simp at e
     ·have e:rdAll st args=rdAll st' args:=rdA hr
      simp only[wo,← e]
      cases rdAll st args with
      | none=>rfl
      | some vs =>
        simp only[aw,Cu,hh (by simp[x6])]
        cases AS st.heap vs with
        | none=>rfl
        | some ws =>
          simp only[aw]
          by_cases hw:wK ws=true
          ·rw[ah hw,ah hw]
           cases cf k ws [] with
           | none=>rfl
           | some r =>
             simp only[aw]
             by_cases he:Ae r.1=true
             ·rw[ah he,ah he]; rfl
             ·rw[af he,af he]; rfl
          ·rw[af hw,af hw]; rfl
   | bcall k args=>simp[opv,wo] at h
   | bcallv x args=>simp[opv,wo] at h
   | callv x args =>
     refine ef rfl (λst' hh hr _ =>?_) (λu st1 h =>?_)
     ·have e:=rdA (xs:=args) (st':=st') (λy hy=>hr y (by simp only[xw]; exact bC _ hy))
      simp only[wo,hh,← hr x (by simp[xw]),← e]
      split
      ·simp only[aG]; rfl
      ·rfl
     ·simp only[wo] at h
      split at h
      ·simp only[ab,ac] at h
       obtain⟨_,_,_,e⟩:=h
       rw[← e]
      ·simp at h
   | iaddr len size x i =>
     refine eI (λu st1 h =>?_) (λst' _ hr ha =>?_)
     ·simp only[wo] at h
      (repeat' split at h)<;>simp at h
      exact h.2.symm
     ·simp only[wo,← ha x (by simp[xw]),← rdI (hr i (by simp[xw]))]
      (repeat' split)<;>rfl
   | isnil kd neg x =>
     refine eI (λu st1 h =>?_) (λst' _ hr _ =>?_)
     ·simp only[wo,ab,ac] at h
      obtain⟨_,_,_,e⟩:=h; exact e.symm
     ·simp only[wo,← hr x (by simp[xw]),aG]; rfl
   | nilchk x =>
     refine eI (λu st1 h =>?_) (λst' _ _ ha =>?_)
     ·simp only[wo] at h
      (repeat' split at h)<;>simp at h<;>exact h.2.symm
     ·simp only[wo,← ha x (by simp[xw])]
      (repeat' split)<;>rfl
   | loadc size agg a =>
     refine eI (λu st1 h =>?_) (λst' _ hr _ =>?_)
     ·simp only[wo] at h
      split at h
      ·simp only[ab,ac] at h
       obtain⟨_,_,_,e⟩:=h; exact e.symm
      ·simp at h
     ·simp only[wo,← hr a (by simp[xw])]
      split
      ·simp only[aG]; rfl
      ·rfl
   | barr z ps =>
     refine eI (λu st1 h =>?_) (λst' _ hr _ =>?_)
     ·simp only[wo,ab,ac] at h
      obtain⟨_,_,_,e⟩:=h; exact e.symm
     ·have e:∀xs:List (Nat×Nat×PX),(∀x∈xs,rd st x.2.2=rd st' x.2.2)→rdParts st xs=rdParts st' xs:=by
       intro xs
       induction xs with
       | nil=>intro _; rfl
       | cons x xs ih =>
         obtain⟨a,b,x⟩:=x
         intro hx
         simp only[PI.rdParts]
         rw[hx (a,b,x) (by simp),ih (λy hy=>hx y (by simp[hy]))]
      simp only[wo,← e ps (λx hx=>hr _ (by simp only[xw]; exact List.mem_map_of_mem hx)),aG]; rfl
   | idxA len size agg x i =>
     refine eI (λu st1 h =>?_) (λst' _ hr _ =>?_)
     ·simp only[wo] at h
      split at h
      ·split at h
       ·simp only[ab,ac] at h
        obtain⟨_,_,_,e⟩:=h; exact e.symm
       ·simp at h
      ·simp at h
     ·simp only[wo,← hr x (by simp[xw]),← rdI (hr i (by simp[xw]))]
      split
      ·split
       ·simp only[aG]; rfl
       ·rfl
      ·rfl
   | mlen m =>
     refine eI (λu st1 h =>?_) (λst' hh hr _ =>?_)
     ·simp only[wo] at h
      split at h
      ·simp only[ab,ac] at h
       obtain⟨_,_,_,e⟩:=h; exact e.symm
      ·simp at h
     ·simp only[wo,← hr m (by simp[xw]),wZ,hh (by simp[x6])]
      split
      ·simp only[aG]; rfl
      ·rfl
   | load size agg a tkn =>
     by_cases ej:tkn=true
     ·subst ej
      refine ef rfl (λst' hh _ ha =>?_) (λu st1 h =>?_)
      ·simp only[wo,← ha a (by simp[xw]),xh,hh,wT]
       split
       ·cases wz size agg _ 0<;>simp<;>rw[← hh]
       ·split
        ·simp only[aw]
         split
         ·simp[hh]
         ·cases wz size agg _ _<;>simp<;>rw[← hh]
        ·rfl
       ·rfl
      ·simp only[wo] at h
       split at h
       ·simp only[ab,ac] at h
        obtain⟨_,_,_,e⟩:=h; rw[← e]
       ·simp only[ae] at h
        obtain⟨cs,_,h⟩:=h
        split at h
        ·simp only[aa,ac] at h; rw[← h.2]; rfl
        ·simp only[ab,ac] at h
         obtain⟨_,_,_,e⟩:=h; rw[← e]
       ·simp at h
     ·have mw:tkn=false:=by simpa using ej
      subst mw
      refine eI (λu st1 h =>?_) (λst' hh _ ha =>?_)
      ·simp only[wo] at h
       split at h
       ·simp only[ab,ac] at h
        obtain⟨_,_,_,e⟩:=h; exact e.symm
       ·simp only[ae,bL] at h
        obtain⟨cs,_,h⟩:=h
        simp only[ab,ac] at h
        obtain⟨_,_,_,e⟩:=h; exact e.symm
       ·simp at h
      ·simp only[wo,← ha a (by simp[xw]),xh,hh (by simp[x6]),bL]
       split
       ·simp only[aG]; rfl
       ·split
        ·simp only[aw,aG]; rfl
        ·rfl
       ·rfl
   | lookup ok tkn kagg ks zero m x =>
     by_cases ej:tkn=true
     ·subst ej
      refine ef rfl (λst' hh hr _ =>?_) (λu st1 h =>?_)
      ·have rk:∀n,wZ st' n=wZ st n:=λn=>by unfold wZ; rw[hh]
       simp only[wo,← hr m (by simp[xw]),← hr x (by simp[xw]),rk,hh,wT]
       split
       ·rename_i n k _ _
        cases wZ st n with
        | none=>rfl
        | some es =>
          simp only[aw]
          cases xN kagg ks k es 0 with
          | none=>rfl
          | some r =>
            cases r with
            | none=>simp; rw[← hh]
            | some iv =>
              simp only[aw]
              split
              ·simp
              ·simp; rw[← hh]
       ·rfl
      ·simp only[wo] at h
       split at h
       ·simp only[ae] at h
        obtain⟨es,_,r,_,h⟩:=h
        split at h
        ·split at h
         ·simp only[aa,ac] at h; rw[← h.2]; rfl
         ·simp only[aa,ac] at h; rw[← h.2]
        ·simp only[aa,ac] at h; rw[← h.2]
       ·simp at h
     ·have mw:tkn=false:=by simpa using ej
      subst mw
      refine eI (λu st1 h =>?_) (λst' hh hr _ =>?_)
      ·simp only[wo] at h
       split at h
       ·simp only[ae,bL] at h
        obtain⟨es,_,r,_,h⟩:=h
        split at h
        ·simp at h; exact h.2.symm
        ·simp at h; exact h.2.symm
       ·simp at h
      ·have rk:∀n,wZ st' n=wZ st n:=λn=>by unfold wZ; rw[hh (by simp[x6])]
       simp only[wo,← hr m (by simp[xw]),← hr x (by simp[xw]),rk,bL]
       split
       ·rename_i n k _ _
        cases wZ st n with
        | none=>rfl
        | some es =>
          simp only[aw]
          cases xN kagg ks k es 0 with
          | none=>rfl
          | some r=>cases r<;>rfl
       ·rfl
 | store size agg a x=>simp[w8] at hm
 | newloc z=>simp[w8] at hm
 | boxloc n x=>simp[w8] at hm
 | sliceLoc n x=>simp[w8] at hm
 | take x =>
   obtain⟨h1,h2⟩:=Gb (st:=st) (by simpa[opv] using h)
   refine⟨.src x,h1,by simp[zG,yg],?_⟩
   intro st' hs
   simpa[opv] using h2 st' (hs.reads x (c9 x (by simp[wQ]))) (hs.takes x (by simp[yg]))
 | append size bytes s x =>
   simp only[opv] at h
   split at h
   ·rename_i xs es st2 hr ht
    split at h
    ·rename_i hc
     simp only[aa,ac] at h
     obtain⟨rfl,rfl⟩:=h
     obtain⟨h1,h2⟩:=Gb ht
     refine⟨.src s,h1,by simp[zG,yg],?_⟩
     intro st' hs
     have js:=h2 st' (hs.reads s (c9 s (by simp[wQ]))) (hs.takes s (by simp[yg]))
     have eY:(rd st' x).bind AR=some xs:=by rw[← hs.rd (c9 x (by simp[wQ]))]; exact hr
     simp only[opv,eY,js,ah hc]
    ·simp at h
   ·simp at h
 | loadv s size agg a =>
   simp only[opv] at h
   split at h
   ·rename_i s' g off dD
    split at h
    ·rename_i g' cs hv
     split at h
     ·rename_i hc
      obtain⟨rfl,rfl⟩:=hc
      refine pure (by simp only[ab,ac] at h; obtain⟨_,_,_,e⟩:=h; exact e.symm) ?_
      intro st' hs
      obtain⟨cs',h1,h2⟩:=(hs.slot s' rfl).1 g cs hv
      simp only[opv,(hs.addr (c9 a (by simp[wQ]))).symm,dD,h1,hv,and_self,if_true]
      rw[← LV h2,aG]
      rfl
     ·simp at h
    ·simp at h
   ·simp at h
 | load size agg a tkn =>
   simp only[opv] at h
   have ha:∀st',Sim (.load size agg a tkn) rs st st'→addr st' a=addr st a:=λst' hs=>(hs.addr (c9 a (by simp[wQ]))).symm
   split at h
   ·rename_i cs dD
    refine pure (by simp only[ab,ac] at h; obtain⟨_,_,_,e⟩:=h; exact e.symm) ?_
    intro st' hs
    simp only[opv,ha st' hs,dD,aG]
    rfl
   ·rename_i s g off dD
    split at h
    ·rename_i g' cs hv
     split at h
     ·rename_i hg
      subst hg
      split at h
      ·rename_i es ej hcell
       simp only[aa,ac] at h
       obtain⟨rfl,rfl⟩:=h
       simp only[al,bz] at ej
       have app:∀st:St,st.vars[s]? = some (.loc g cs)→{ st with vars:=st.vars.set s (.loc g (cs.set off (.list false es))) }=(Dm.cell s off).app st:=by
        intro st hv
        simp only[Dm.app]
        rw[DP hv]
        simp only[BN]
        rw[DP hcell]
        rfl
       refine⟨.cell s off,app st hv,by simp[zG,w8,ej.1],?_⟩
       intro st' hs
       obtain⟨cs',h1,_,h3⟩:=hs.mem (by simp[w8,ej.1]) s g cs hv
       have:cs'=cs:=h3 (by simp[w8,ej.1])
       subst this
       simp only[opv,ha st' hs,dD,h1,if_true,ej.1,ej.2,Bool.not_false,Bool.and_self,hcell]
       rw[app st' h1]
      ·rename_i fp
       refine pure (by simp only[ab,ac] at h; obtain⟨_,_,_,e⟩:=h; exact e.symm) ?_
       intro st' hs
       obtain⟨cs',h1,h2,h3⟩:=hs.mem (by simp[w8]; split<;>omega) s g cs hv
       simp only[opv,ha st' hs,dD,h1,hv,if_true]
       have uF:=LV (size:=size) (agg:=agg) (off:=off) h2
       cases my:tkn with
       | false=>simp[my,← uF]; rfl
       | true =>
         have:cs'=cs:=h3 (by simp[w8,my])
         subst this
         subst my
         split
         ·rename_i es' hb kO
          exact absurd kO (by
           intro kO
           exact fp es' hb kO)
         ·simp; rfl
     ·simp at h
    ·simp at h
   ·simp at h
 | mov x =>
   refine pure (by simp only[opv,ab,ac] at h; obtain⟨_,_,_,e⟩:=h; exact e.symm) ?_
   intro st' hs
   simp only[opv,← hs.rd (c9 x (by simp[wQ])),aG]; rfl
 | movs x =>
   refine pure (by simp only[opv] at h; split at h<;>simp at h; exact h.2.symm) ?_
   intro st' hs
   simp only[opv,← hs.rd (c9 x (by simp[wQ]))]
   split<;>rfl
 | pick c x y =>
   refine pure (by simp only[opv] at h; split at h<;>simp at h; obtain⟨_,_,_,e⟩:=h; exact e.symm) ?_
   intro st' hs
   simp only[opv,← hs.rd (c9 c (by simp[wQ])),← hs.rd (c9 x (by simp[wQ])),← hs.rd (c9 y (by simp[wQ]))]
   split
   ·rename_i t _
    cases t
    ·simp only[aH,if_false,← hs.rd (c9 y (by simp[wQ])),aG]; rfl
    ·simp only[if_true,← hs.rd (c9 x (by simp[wQ])),aG]; rfl
   ·rfl
 | build z ps =>
   refine pure (by simp only[opv,ab,ac] at h; obtain⟨_,_,_,e⟩:=h; exact e.symm) ?_
   intro st' hs
   simp only[opv,← hs.rdParts (xs:=ps) (λx hx=>c9 _ (by simp only[wQ]; exact List.mem_map_of_mem hx)),aG]; rfl
 | mkslice size z len ps =>
   refine pure (by simp only[opv,ab,ac] at h; obtain⟨_,_,_,e⟩:=h; exact e.symm) ?_
   intro st' hs
   simp only[opv,← hs.rdElems (xs:=ps) (λx hx=>c9 _ (by simp only[wQ]; exact List.mem_map_of_mem hx)),aG]; rfl
 | faddr off x =>
   refine pure (by simp only[opv] at h; split at h<;>simp at h<;>exact h.2.symm) ?_
   intro st' hs
   simp only[opv,← hs.addr (c9 x (by simp[wQ]))]
   split<;>rfl
 | appstr s x =>
   simp only[opv] at h
   split at h
   ·rename_i xs es st2 hr ht
    split at h
    ·rename_i hc
     simp only[aa,ac] at h
     obtain⟨rfl,rfl⟩:=h
     obtain⟨h1,h2⟩:=Gb ht
     refine⟨.src s,h1,by simp[zG,yg],?_⟩
     intro st' hs
     have js:=h2 st' (hs.reads s (c9 s (by simp[wQ]))) (hs.takes s (by simp[yg]))
     have eY:rd st' x=some (.str xs):=by rw[← hs.rd (c9 x (by simp[wQ]))]; exact hr
     simp only[opv,eY,js,ah hc]
    ·simp at h
   ·simp at h
 | b2s x =>
   refine pure (by simp only[opv] at h; split at h<;>simp at h; obtain⟨_,_,_,e⟩:=h; exact e.symm) ?_
   intro st' hs
   simp only[opv,← hs.rd (c9 x (by simp[wQ]))]
   split
   ·simp only[aG]; rfl
   ·rfl
 | s2b x =>
   refine pure (by simp only[opv] at h; (repeat' split at h)<;>simp at h; exact h.2.symm) ?_
   intro st' hs
   simp only[opv,← hs.rd (c9 x (by simp[wQ]))]
   (repeat' split)<;>rfl
 | iaddrS size x i =>
   refine pure (by simp only[opv] at h; (repeat' split at h)<;>simp at h<;>exact h.2.symm) ?_
   intro st' hs
   simp only[opv,← hs.rd (c9 x (by simp[wQ])),← hs.rdInt (c9 i (by simp[wQ]))]
   (repeat' split)<;>rfl
 | iaddrA len size x i =>
   refine pure (by simp only[opv] at h; (repeat' split at h)<;>simp at h<;>exact h.2.symm) ?_
   intro st' hs
   simp only[opv,← hs.addr (c9 x (by simp[wQ])),← hs.rdInt (c9 i (by simp[wQ]))]
   (repeat' split)<;>rfl
 | field off size agg x =>
   refine pure (by simp only[opv] at h; split at h<;>simp at h; obtain⟨_,_,_,e⟩:=h; exact e.symm) ?_
   intro st' hs
   simp only[opv,← hs.rd (c9 x (by simp[wQ]))]
   split
   ·simp only[aG]; rfl
   ·rfl
 | indexStr x i =>
   refine pure (by simp only[opv] at h; (repeat' split at h)<;>simp at h; exact h.2.symm) ?_
   intro st' hs
   simp only[opv,← hs.rd (c9 x (by simp[wQ])),← hs.rdInt (c9 i (by simp[wQ]))]
   (repeat' split)<;>rfl
 | slice str size x lo hi =>
   have nZ:∀y∈lo.toList,y∈rs:=λy hy=>c9 y (by simp only[wQ,ay,ak]; exact .inr (.inl hy))
   have uG:∀y∈hi.toList,y∈rs:=λy hy=>c9 y (by simp only[wQ,ay,ak]; exact .inr (.inr hy))
   refine pure (by
    simp only[opv] at h
    split at h
    ·simp only[ae,ab,ac] at h
     obtain⟨_,_,_,_,_,e⟩:=h; exact e.symm
    ·split at h
     ·simp only[ae,ab,ac] at h
      obtain⟨_,_,_,_,_,e⟩:=h; exact e.symm
     ·simp at h
    ·simp only[ae,ab,ac] at h
     obtain⟨_,_,_,_,_,e⟩:=h; exact e.symm
    ·split at h
     ·simp only[ae,ab,ac] at h
      obtain⟨_,_,_,_,_,e⟩:=h; exact e.symm
     ·simp at h
    ·simp at h) ?_
   intro st' hs
   simp only[opv,← hs.rd (c9 x (by simp[wQ])),← hs.bound nZ,← hs.bound uG]
   split
   ·simp only[Option.map_bind,Function.comp_def,aG]
   ·split
    ·simp only[Option.map_bind,Function.comp_def,aG]
    ·rfl
   ·simp only[Option.map_bind,Function.comp_def,aG]
   ·split
    ·simp only[Option.map_bind,Function.comp_def,aG]
    ·rfl
   ·rfl
 | bin op x y =>
   refine pure (by simp only[opv] at h; split at h<;>simp at h; obtain⟨_,_,_,e⟩:=h; exact e.symm) ?_
   intro st' hs
   simp only[opv,← hs.rd (c9 x (by simp[wQ])),← hs.rd (c9 y (by simp[wQ]))]
   split
   ·simp only[aG]; rfl
   ·rfl
 | eq neg agg ks x y =>
   refine pure (by
    simp only[opv] at h
    split at h
    ·simp only[ab,ac] at h
     obtain⟨_,_,_,e⟩:=h; exact e.symm
    ·simp at h) ?_
   intro st' hs
   simp only[opv,← hs.rd (c9 x (by simp[wQ])),← hs.rd (c9 y (by simp[wQ]))]
   split
   ·simp only[aG]; rfl
   ·rfl
 | un op x =>
   refine pure (by simp only[opv] at h; split at h<;>simp at h; obtain⟨_,_,_,e⟩:=h; exact e.symm) ?_
   intro st' hs
   simp only[opv,← hs.rd (c9 x (by simp[wQ]))]
   split
   ·simp only[aG]; rfl
   ·rfl
 | convInt k x =>
   refine pure (by simp only[opv,ab,ac] at h; obtain⟨_,_,_,e⟩:=h; exact e.symm) ?_
   intro st' hs
   simp only[opv,← hs.rdInt (c9 x (by simp[wQ])),aG]; rfl
 | extract i x =>
   refine pure (by
    simp only[opv] at h
    split at h
    ·simp only[ab,ac] at h
     obtain⟨_,_,_,e⟩:=h; exact e.symm
    ·simp at h) ?_
   intro st' hs
   simp only[opv,← hs.rd (c9 x (by simp[wQ]))]
   split
   ·simp only[aG]; rfl
   ·rfl
 | len str x =>
   refine pure (by simp only[opv] at h; split at h<;>simp at h<;>exact h.2.symm) ?_
   intro st' hs
   simp only[opv,← hs.rd (c9 x (by simp[wQ]))]
   split<;>rfl
 | cap x =>
   refine pure (by simp only[opv] at h; split at h<;>simp at h<;>exact h.2.symm) ?_
   intro st' hs
   simp only[opv,← hs.rd (c9 x (by simp[wQ]))]
   split<;>rfl
 | minmax mx xs =>
   refine pure (by simp only[opv] at h; split at h<;>simp at h; obtain⟨_,_,_,e⟩:=h; exact e.symm) ?_
   intro st' hs
   simp only[opv,← hs.rdAll (xs:=xs) (λx hx=>c9 x (by simpa[wQ] using hx))]
   split
   ·simp only[aG]; rfl
   ·rfl
 | pcall k xs =>
   refine pure (by simp only[opv] at h; (repeat' split at h)<;>simp at h; exact h.2.symm) ?_
   intro st' hs
   simp only[opv,← hs.rdAll (xs:=xs) (λx hx=>c9 x (by simpa[wQ] using hx))]
   (repeat' split)<;>rfl
 | pcallx k xs own =>
   cases own with
   | none =>
     refine pure (by simp only[opv] at h; (repeat' split at h)<;>simp at h; exact h.2.symm) ?_
     intro st' hs
     simp only[opv,← hs.rdAll (xs:=xs) (λx hx=>c9 x (by simpa[wQ] using hx))]
     (repeat' split)<;>rfl
   | some i =>
     simp only[opv] at h
     split at h
     ·rename_i v st2 us ht eG
      split at h
      ·rename_i cR
       split at h
       ·rename_i r h' hc
        split at h
        ·rename_i hr
         simp only[aa,ac] at h
         obtain⟨rfl,rfl⟩:=h
         simp only[ae] at ht
         obtain⟨x,hx,ht⟩:=ht
         have uH:x∈xs:=ax hx
         obtain⟨h1,h2⟩:=Gb ht
         refine⟨.src x,h1,by simp[zG,yg,hx],?_⟩
         intro st' hs
         have js:=h2 st' (hs.reads x (c9 x (by simpa[wQ] using uH))) (hs.takes x (by simp[yg,hx]))
         simp only[opv,hx,aw,js,← hs.rdAll (xs:=xs) (λx hx=>c9 x (by simpa[wQ] using hx)),eG,ah cR,hc,ah hr]
        ·simp at h
       ·simp at h
      ·simp at h
     ·simp at h
 | callv x xs =>
   refine pure (by simp only[opv] at h; (repeat' split at h)<;>simp at h; exact h.2.symm) ?_
   intro st' hs
   simp only[opv,← hs.rd (c9 x (by simp[wQ])),← hs.rdAll (xs:=xs) (λy hy=>c9 y (by simp only[wQ]; exact bC _ hy))]
   (repeat' split)<;>rfl
end
end PI
