import Derived.Test.YtljbhgpanekomaaGreatDoorPiComp
set_option linter.unusedSimpArgs false
set_option linter.unusedVariables false
set_option linter.unusedSectionVars false
namespace PI
def wH:POp→Nat
 | .h (.store ..) | .h (.mset ..) | .h (.bcall ..) | .h (.bcallv ..)=>2
 | .h (.mkfunc _ a b)=>if (a++b).isEmpty then 0 else 4
 | .load _ _ _ tk=>if tk then 3 else 1
 | .store .. | .newloc _ | .boxloc .. | .sliceLoc .. => 2
 | _=>0
def xO:POp→Nat
 | .h (.newobj ..) | .h .newbld | .h (.boxobj ..) | .h (.mkarr ..) | .h (.range ..) | .h (.next ..) | .h .mkmap | .h (.call ..) | .h (.callv ..) | .h (.bcall ..) | .h (.bcallv ..) | .h (.happ ..) | .h (.happz ..) | .h (.clear ..) | .h (.store ..) | .h (.storer ..) | .h (.mset ..)=>2
 | .h (.load _ _ _ tk)=>if tk then 2 else 1
 | .h (.lookup _ tk _ _ _ _ _)=>if tk then 2 else 1
 | .h (.mlen ..) | .h (.rcall ..)=>1
 | _=>0
def Ce:POp→List PX
 | .h (.mkfunc _ a b)=>a++b
 | _=>[]
def xP:POp→List PX
 | .take x=>[x]
 | .append _ _ s _=>[s]
 | .appstr s _=>[s]
 | .h (.happ _ _ _ s _)=>[s]
 | .pcallx _ xs (some i)=>xs[i]?.toList
 | _=>[]
def xQ:PX→PX→Bool
 | .v i,.v j=>i==j
 | .l i,.l j=>i==j
 | _,_=>false
def isX (d:PD) (j:Nat) (x:PX):Bool:=
 match d with
 | .v i=>xQ (.v i) x
 | .l=>xQ (.l j) x
 | .n=>false
def zD (p:PO):List PX:=(match p.guard with | some (x,_)=>[x] | none=>[])++wy p.op
def isV:PD→Bool
 | .v _=>true
 | _=>false
def C8 (j:Nat) (p q:PO):Bool:=(zD q).all (λx => !isX p.dst j x)&&(!isV p.dst||wH q.op==0)
def CF (d d':PD):Bool:=
 match d,d' with
 | .v i,.v j=>i==j
 | _,_=>false
def Do (jp:Nat) (p:PO) (jq:Nat) (q:PO):Bool:=
 wH p.op != 2&&wH q.op != 2 && !(wH p.op==3&&wH q.op==3) && !(wH p.op==4&&wH q.op != 0) && !(wH q.op==4&&wH p.op != 0) &&
 !(xO p.op==2&&xO q.op != 0) && !(xO q.op==2&&xO p.op != 0)&&(Ce p.op).all (λx => !(zD q).any (xQ x))&&(Ce q.op).all (λx => !(zD p).any (xQ x))&&C8 jp p q&&C8 jq q p && !CF p.dst q.dst&&(xP p.op).all (λx => !(xP q.op).any (xQ x))
def vw:PV→PV
 | .list _ es => .list false es
 | .loc g _ => .loc g []
 | v=>v
theorem Dp (v:PV):cp v=cp (vw v):=by cases v<;>rfl
inductive Dm where
 | none
 | src (x:PX)
 | cell (s off:Nat)
 | heap (h:List PObj)
 | shut (xs:List PX)
def Bl (off:Nat):PV→PV
 | .loc g cs => .loc g (cs.modify off dem)
 | v=>v
def Bm:PV→PV
 | .loc _ cs => .cptr (cs.map dem)
 | v=>v
def x8 (x:PX) (st:St):St:=
 match x with
 | .v i=>{ st with vars:=st.vars.modify i Bm }
 | _=>st
def xI:List PX→St→St
 | [],st=>st
 | x::xs,st=>xI xs (x8 x st)
def Dm.app:Dm→St→St
 | .heap h,st=>{ st with heap:=h }
 | .shut xs,st=>xI xs st
 | .none,st=>st
 | .src (.v i),st=>{ st with vars:=st.vars.modify i dem }
 | .src (.l j),st=>{ st with locs:=st.locs.modify j dem }
 | .src (.c _),st=>st
 | .cell s off,st=>{ st with vars:=st.vars.modify s (Bl off) }
def AZ (exact:Bool) (st st':St):Prop:=
 ∀(s g:Nat) (cs:List PV),st.vars[s]? = some (.loc g cs)→∃cs',st'.vars[s]? = some (.loc g cs')∧cs'.map dem=cs.map dem∧(exact=true→cs'=cs)
def HS:POp→Option Nat
 | .loadv s _ _ _=>some s
 | _=>none
def Cf (s:Nat) (st st':St):Prop:=∀(g:Nat) (cs:List PV),st.vars[s]? = some (.loc g cs)→∃cs',st'.vars[s]? = some (.loc g cs')∧cs'.map dem=cs.map dem
structure Sim (o:POp) (rs:List PX) (st st':St):Prop where
 reads:∀x∈rs,(raw st x).map vw=(raw st' x).map vw
 takes:∀x∈xP o,∀es,raw st x=some (.list true es)↔raw st' x=some (.list true es)
 mem:1≤wH o→AZ (wH o==3) st st'
 heap:1≤xO o→st'.heap=st.heap
 slot:∀s,HS o=some s→Cf s st st'∧Cf s st' st
section
variable {o:POp} {rs:List PX} {st st':St}
theorem Sim.rd (h:Sim o rs st st') {x:PX} (hx:x∈rs):rd st x=rd st' x:=by
 have:=h.reads x hx
 unfold PI.rd
 cases h1:raw st x<;>cases h2:raw st' x<;>simp[h1,h2] at this ⊢
 rw[Dp,this,← Dp]
theorem Sim.rdInt (h:Sim o rs st st') {x:PX} (hx:x∈rs):rdInt st x=rdInt st' x:=by
 unfold PI.rdInt; rw[h.rd hx]
theorem HT (h:Sim o rs st st') {x:PX} (hx:x∈rs) (hm:1≤xO o):b1y st x=b1y st' x:=by
 unfold PI.b1y
 rw[h.rd hx]
 unfold wU
 rw[h.heap hm]
def HU (x:PX) (r:Option PV):Option PV:=
 match x,r with
 | .v i,some (.loc g _)=>some (.lptr i g 0)
 | _,some (.lptr s g off)=>some (.lptr s g off)
 | _,some v=>cp v
 | _,none=>none
theorem Lk (st:St) (x:PX):addr st x=HU x (raw st x):=rfl
theorem Ll (x:PX) (v:PV):HU x (some v)=HU x (some (vw v)):=by
 cases v<;>cases x<;>rfl
theorem Sim.addr (h:Sim o rs st st') {x:PX} (hx:x∈rs):addr st x=addr st' x:=by
 have:=h.reads x hx
 rw[Lk,Lk]
 cases h1:raw st x<;>cases h2:raw st' x<;>simp[h1,h2] at this ⊢
 rw[Ll,this,← Ll]
theorem Sim.rdAll (h:Sim o rs st st'):∀{xs:List PX},(∀x∈xs,x∈rs)→rdAll st xs=rdAll st' xs
 | [],_=>rfl
 | x :: xs, hx => by
   simp only[PI.rdAll]
   rw[h.rd (hx x (by simp)),h.rdAll (xs:=xs) (λy hy=>hx y (by simp[hy]))]
theorem Sim.rdParts (h:Sim o rs st st'):∀{xs:List (Nat×Nat×PX)},(∀x∈xs,x.2.2∈rs)→rdParts st xs=rdParts st' xs
 | [],_=>rfl
 | (a, b, x) :: xs, hx => by
   simp only[PI.rdParts]
   rw[h.rd (hx (a,b,x) (by simp)),h.rdParts (xs:=xs) (λy hy=>hx y (by simp[hy]))]
theorem Sim.rdElems (h:Sim o rs st st'):∀{xs:List (Nat×PX)},(∀x∈xs,x.2∈rs)→rdElems st xs=rdElems st' xs
 | [],_=>rfl
 | (a, x) :: xs, hx => by
   simp only[PI.rdElems]
   rw[h.rd (hx (a,x) (by simp)),h.rdElems (xs:=xs) (λy hy=>hx y (by simp[hy]))]
theorem Sim.bound (h:Sim o rs st st') {x:Option PX} (hx:∀y∈x.toList,y∈rs) (d m:Nat):bound st x d m=bound st' x d m:=by
 cases x with
 | none=>rfl
 | some y=>simp only[PI.bound]; rw[h.rdInt (hx y (by simp))]
theorem Dq {l:List PV} {i:Nat} {v:PV} (h:l[i]? = some v) (f:PV→PV):l.modify i f=l.set i (f v):=by
 apply bY
 intro k
 rw[aZ,aI]
 by_cases hk:i=k
 ·subst hk
  obtain⟨cO,rfl⟩:=aj.1 h
  simp[cO]
 ·simp[hk]
theorem HV {l:List PV} {i:Nat} {f:PV→PV} (h:∀v,l[i]? = some v→f v=v):l.modify i f=l:=by
 apply bY
 intro k
 rw[aZ]
 by_cases hk:i=k
 ·subst hk
  cases hv:l[i]? with
  | none=>simp
  | some v=>simp[h v hv]
 ·simp[hk]
theorem FK {x:PX} {u:PV} {st1:St} (h:tk st x=some (u,st1)):st1=(Dm.src x).app st∧∀st',(raw st x).map vw=(raw st' x).map vw→(∀es,raw st x=some (.list true es)↔raw st' x=some (.list true es))→tk st' x=some (u,(Dm.src x).app st'):=by
 have app_own:∀(st:St) (es:List PV),raw st x=some (.list true es)→AS st x (.list false es)=(Dm.src x).app st:=by
  intro st es hr
  cases x with
  | v i=>simp only[AS,Dm.app]; rw[Dq hr]; rfl
  | l i=>simp only[AS,Dm.app]; rw[Dq hr]; rfl
  | c p=>rfl
 have app_id:∀(st:St),(∀v,raw st x=some v→dem v=v)→(Dm.src x).app st=st:=by
  intro st hv
  cases x with
  | v i=>simp only[Dm.app]; rw[HV hv]
  | l i=>simp only[Dm.app]; rw[HV hv]
  | c p=>rfl
 have dem_id:∀v:PV,(∀es,v≠.list true es)→dem v=v:=by
  intro v hv
  cases v<;>try rfl
  rename_i own es
  cases own with
  | true=>exact absurd rfl (hv es)
  | false=>rfl
 unfold tk at h
 split at h
 ·rename_i es hr
  simp only[aa,ac] at h
  obtain⟨rfl,rfl⟩:=h
  refine⟨app_own st es hr,?_⟩
  intro st' _ h2
  have eU:=(h2 es).1 hr
  unfold tk
  rw[eU]
  simp only[aa,ac,true_and]
  exact app_own st' es eU
 ·rename_i v mf hr
  simp only[ab,ac] at h
  obtain⟨r,eY,rfl,rfl⟩:=h
  refine⟨(app_id _ (λv' dJ=>by rw[hr] at dJ; simp at dJ; subst dJ; exact dem_id _ mf)).symm,?_⟩
  intro st' h1 h2
  have nG:∀es,raw st' x≠some (.list true es):=λes e=>by
   have:=(h2 es).2 e
   rw[hr] at this; simp at this; exact mf es this
  cases hv:raw st' x with
  | none=>rw[hr,hv] at h1; simp at h1
  | some v' =>
    have ug:vw v=vw v':=by rw[hr,hv] at h1; simpa using h1
    have ft:cp v'=some r:=by rw[Dp,← ug,← Dp]; exact eY
    have c9:∀es,v'≠.list true es:=λes e=>nG es (by rw[hv,e])
    have gZ:=app_id st' (λv2 jl=>by rw[hv] at jl; simp at jl; subst jl; exact dem_id _ c9)
    unfold tk
    rw[hv]
    split
    ·rename_i es he; simp at he; exact absurd he (c9 es)
    ·rename_i v2 _ he
     simp at he; subst he
     simp[ft,gZ]
    ·rename_i he; simp at he
 ·simp at h
theorem Lm {size:Nat} {agg:Bool} {cs cs':List PV} {off:Nat} (h:cs'.map dem=cs.map dem):wh size agg cs off=wh size agg cs' off:=by
 have hl:cs'.length=cs.length:=by simpa using aD List.length h
 unfold wh
 rw[hl]
 split
 ·split
  ·congr 2
   have:=aD (λl=>(l.drop off).take size) h
   simpa using this.symm
  ·rfl
 ·have hg:(cs[off]?).map dem=(cs'[off]?).map dem:=by
   have:=aD (λl=>l[off]?) h
   simpa using this.symm
  cases h1:cs[off]? with
  | none => cases h2 : cs'[off]? with
    | none=>rfl
    | some v=>rw[h1,h2] at hg; simp at hg
  | some v => cases h2 : cs'[off]? with
    | none=>rw[h1,h2] at hg; simp at hg
    | some v' =>
      rw[h1,h2] at hg
      simp at hg
      have:∀x,cp x=cp (dem x):=λx=>by cases x<;>rfl
      simp only
      rw[this v,hg,← this v']
def zl (o:POp) (d:Dm):Prop:=
 match d with
 | .none=>True
 | .src x=>x∈xP o
 | .cell _ _=>wH o=3
 | .heap _=>xO o=2
 | .shut xs=>wH o=4∧xs=Ce o
theorem HW:∀{xs:List PX} {st st1:St} {us:List PV},xE st xs=some (us,st1)→st1=xI xs st ∧
  ∀st',(∀x∈xs,(raw st x).map vw=(raw st' x).map vw)→AZ false st st'→xE st' xs=some (us,xI xs st')
 | [], st, st1, us, h => by
   simp only[xE,aa,ac] at h
   obtain⟨rfl,rfl⟩:=h
   exact ⟨rfl,λst' _ _=>rfl⟩
 | x :: xs, st, st1, us, h => by
   simp only[xE,af,ab,ac] at h
   obtain⟨⟨v,st2⟩,h1,⟨q,st3⟩,h2,rfl,rfl⟩:=h
   obtain⟨i1,i2⟩:=HW h2
   have one:st2=x8 x st∧∀st',(raw st x).map vw=(raw st' x).map vw→AZ false st st'→zc st' x=some (v,x8 x st'):=by
    by_cases iD:∃i g cs,x = .v i∧raw st x=some (.loc g cs)
    ·obtain⟨i,g,cs,rfl,hr⟩:=iD
     simp only[zc,hr,aa,ac] at h1
     obtain⟨rfl,rfl⟩:=h1
     have eU:st.vars[i]? = some (.loc g cs):=hr
     refine⟨by simp only[x8]; rw[Dq eU]; rfl,?_⟩
     intro st' _ hl
     obtain⟨cs',e1,e2,_⟩:=hl i g cs eU
     have e1':raw st' (.v i)=some (.loc g cs'):=e1
     unfold zc
     rw[e1']
     simp only[x8]
     rw[Dq e1]
     simp only[Bm,e2]
    ·have fy:∀i g cs,x = .v i→raw st x=some (.loc g cs)→False:=λi g cs e h=>iD ⟨i,g,cs,e,h⟩
     have ft:∀st:St,(∀i g cs,x = .v i→raw st x=some (.loc g cs)→False)→zc st x=(rd st x).map (·,st):=by
      intro st hn
      unfold zc
      split
      ·rename_i i g cs h; exact absurd h (λh=>hn i g cs rfl h)
      ·rfl
     rw[ft st fy] at h1
     simp only[ab,ac] at h1
     obtain⟨r,hr,rfl,rfl⟩:=h1
     have gZ:∀st:St,(∀i g cs,x = .v i→st.vars[i]?≠some (.loc g cs))→x8 x st=st:=by
      intro st hn
      cases x with
      | v i =>
        simp only[x8]
        rw[HV]
        intro u hu
        cases u<;>first|rfl|exact absurd hu (hn i _ _ rfl)
      | l i=>rfl
      | c p=>rfl
     refine⟨(gZ st (λi g cs e h=>fy i g cs e (by rw[e]; exact h))).symm,?_⟩
     intro st' hv hl
     have nH:∀i g cs,x = .v i→st'.vars[i]?≠some (.loc g cs):=by
      intro i g cs e h
      subst e
      have h':raw st' (.v i)=some (.loc g cs):=h
      rw[h'] at hv
      cases hq:raw st (.v i) with
      | none=>rw[hq] at hv; simp at hv
      | some u =>
        rw[hq] at hv
        simp only[ay,aa] at hv
        cases u<;>simp[vw] at hv
        exact fy i _ _ rfl hq
     have iS:rd st' x=some r:=by
      unfold rd at hr ⊢
      cases h3:raw st x<;>cases h4:raw st' x<;>simp[h3,h4] at hv hr ⊢
      rw[Dp,← hv,← Dp]; exact hr
     rw[gZ st' nH,ft st' (λi g cs e h=>nH i g cs e (by rw[e] at h; exact h))]
     simp[iS]
   obtain⟨o1,o2⟩:=one
   subst o1
   refine⟨i1,?_⟩
   intro st' hv hl
   have nI:=o2 st' (hv x (bS ..)) hl
   have jl:∀y∈xs,(raw (x8 x st) y).map vw=(raw (x8 x st') y).map vw:=by
    intro y hy
    have fK:=hv y (bx _ hy)
    cases x with
    | l i=>exact fK
    | c p=>exact fK
    | v i =>
      cases y with
      | l k=>exact fK
      | c p=>rfl
      | v k =>
        simp only[x8,raw,aZ] at fK ⊢
        by_cases fQ:i=k
        ·subst fQ
         cases h3:st.vars[i]? with
         | none=>rw[h3] at fK; cases h4:st'.vars[i]?<;>simp[h4] at fK ⊢
         | some u =>
           rw[h3] at fK
           cases h4:st'.vars[i]? with
           | none=>rw[h4] at fK; simp at fK
           | some u' =>
             rw[h4] at fK
             simp only[ay,aa] at fK
             simp only[if_true,cG,ay,aa]
             cases u with
             | loc g cs =>
               obtain⟨cs',e1,e2,_⟩:=hl i g cs h3
               rw[h4] at e1
               simp at e1; subst e1
               simp[Bm,e2]
             | _=>cases u'<;>simp[vw] at fK<;>simp_all [Bm,vw]
        ·simp only[fQ,if_false]
         cases h3:st.vars[k]?<;>cases h4:st'.vars[k]?<;>simp[h3,h4] at fK ⊢
         exact fK
   have em:AZ false (x8 x st) (x8 x st'):=by
    cases x with
    | l i=>exact hl
    | c p=>exact hl
    | v i =>
      intro s g cs hs
      simp only[x8,aZ] at hs ⊢
      by_cases sI:i=s
      ·subst sI
       cases h3:st.vars[i]? with
       | none=>rw[h3] at hs; simp at hs
       | some u=>rw[h3] at hs; cases u<;>simp[Bm] at hs
      ·simp only[sI,if_false] at hs ⊢
       cases h3:st.vars[s]? with
       | none=>rw[h3] at hs; simp at hs
       | some u =>
         rw[h3] at hs
         simp at hs; subst hs
         obtain⟨cs',e1,e2,e3⟩:=hl s g cs h3
         exact ⟨cs',by simp[e1],e2,e3⟩
   have:=i2 _ jl em
   simp only[xE,nI,ar,this,ay,xI]
theorem b42:∀(a b:List PX) (st:St),xI (a++b) st=xI b (xI a st)
 | [],_,_=>rfl
 | x::a,b,st=>by simp only[ba,xI]; exact b42 a b _
theorem HX:∀{a b:List PX} {st:St},xE st (a++b)=(xE st a).bind λf=>(xE f.2 b).map λc=>(f.1++c.1,c.2)
 | [],b,st=>by simp only[be,xE,ar]; cases xE st b<;>rfl
 | x :: a, b, st => by
   simp only[ba,xE,HX (a:=a)]
   cases zc st x with
   | none=>rfl
   | some r =>
     simp only[ar]
     cases xE r.2 a with
     | none=>rfl
     | some f =>
       simp only[ar,ay]
       cases xE f.2 b<;>rfl
theorem b9E {cf:vZ} {k:Nat} {a b:List PX} {u:PV} {st st1:St} (h:vW cf (.mkfunc k a b) st=some (u,st1)):
  st1=xI (a++b) st∧∀st',(∀x∈a++b,(raw st x).map vw=(raw st' x).map vw)→AZ false st st'→vW cf (.mkfunc k a b) st'=some (u,xI (a++b) st'):=by
 simp only[vW,af,ab,ac] at h
 obtain⟨⟨f,st2⟩,h1,⟨c,st3⟩,h2,rfl,rfl⟩:=h
 have pH:xE st (a++b)=some (f++c,st3):=by rw[HX,h1]; simp[h2]
 obtain⟨e1,e2⟩:=HW pH
 obtain⟨e3,e4⟩:=HW h1
 refine⟨e1,?_⟩
 intro st' hv hl
 have g1:=e4 st' (λx hx=>hv x (cd _ hx)) hl
 have g2:=e2 st' hv hl
 rw[HX,g1] at g2
 simp only[ar,ab,ac] at g2
 obtain⟨⟨c',st4⟩,g3,g4,g5⟩:=g2
 have hc:c'=c:=List.append_cancel_left g4
 subst hc
 simp only[vW,g1,ar,g3,ay]
 simp only at g5
 rw[g5]
theorem c7G {cf:vZ} {u:PV} {st1:St} (hm:wH o≠2) (cZ:∀x∈wy o,x∈rs) (h:opv cf o st=some (u,st1)):
  ∃d:Dm,st1=d.app st∧zl o d∧∀st',Sim o rs st st'→opv cf o st'=some (u,d.app st'):=by
 have pure:st1=st→(∀st',Sim o rs st st'→opv cf o st'=(opv cf o st).map λr=>(r.1,st'))→∃d:Dm,st1=d.app st∧zl o d∧∀st',Sim o rs st st'→opv cf o st'=some (u,d.app st'):=by
  intro e hs
  refine⟨.none,e,trivial,?_⟩
  intro st' dt
  rw[hs st' dt,h]; rfl
 cases o with
 | h o =>
   have eb:xO (.h o)=2→(∀st',st'.heap=st.heap→(∀x∈xd o,rd st x=rd st' x)→(∀x∈xd o,addr st x=addr st' x)→vW cf o st'=(vW cf o st).map λr=>(r.1,{ st' with heap:=r.2.heap }))→(∀u st1,vW cf o st=some (u,st1)→st1={ st with heap:=st1.heap }) →
     ∃d:Dm,st1=d.app st∧zl (.h o) d∧∀st',Sim (.h o) rs st st'→opv cf (.h o) st'=some (u,d.app st'):=by
    intro h2 hs he
    have h':vW cf o st=some (u,st1):=h
    refine⟨.heap st1.heap,he _ _ h',h2,?_⟩
    intro st' dt
    show vW cf o st'=_
    rw[hs st' (dt.heap (by omega)) (λx hx=>dt.rd (cZ x hx)) (λx hx=>dt.addr (cZ x hx)),h']
    rfl
   have eQ:(∀u st1,vW cf o st=some (u,st1)→st1=st)→(∀st',(1≤xO (.h o)→st'.heap=st.heap)→(∀x∈xd o,rd st x=rd st' x)→(∀x∈xd o,addr st x=addr st' x)→vW cf o st'=(vW cf o st).map λr=>(r.1,st')) →
     ∃d:Dm,st1=d.app st∧zl (.h o) d∧∀st',Sim (.h o) rs st st'→opv cf (.h o) st'=some (u,d.app st'):=by
    intro e hs
    refine pure (e _ _ h) ?_
    intro st' dt
    exact hs st' dt.heap (λx hx=>dt.rd (cZ x hx)) (λx hx=>dt.addr (cZ x hx))
   have rdI:∀{st st':St} {x:PX},rd st x=rd st' x→rdInt st x=rdInt st' x:=by intro st st' x hx; unfold PI.rdInt; rw[hx]
   have rdA:∀{st st':St} {xs:List PX},(∀x∈xs,rd st x=rd st' x)→rdAll st xs=rdAll st' xs:=by
    intro st st' xs
    induction xs with
    | nil=>intro _; rfl
    | cons x xs ih=>intro hx; simp only[PI.rdAll]; rw[hx x (by simp),ih (λy hy=>hx y (by simp[hy]))]
   cases o with
   | happ size agg by' a x =>
     have h':vW cf (.happ size agg by' a x) st=some (u,st1):=h
     simp only[vW] at h'
     split at h'
     ·rename_i xs n sz ag len hx nJ
      have key:∀st',Sim (.h (.happ size agg by' a x)) rs st st'→b1y st' x=some xs∧raw st' a=some (.rowp n sz ag len)∧st'.heap=st.heap:=by
       intro st' dt
       refine⟨by rw[← hx]; exact (HT dt (cZ x (by simp[wy,xd])) (by simp[xO])).symm,?_,dt.heap (by simp[xO])⟩
       have:=dt.reads a (cZ a (by simp[wy,xd]))
       rw[nJ] at this
       cases eU:raw st' a with
       | none=>rw[eU] at this; simp at this
       | some v' =>
         rw[eU] at this
         cases v'<;>simp[vw] at this
         obtain⟨rfl,rfl,rfl,rfl⟩:=this
         rfl
      split at h'
      ·rename_i cs dz
       split at h'
       ·rename_i hc
        simp only[aa,ac] at h'
        obtain⟨rfl,rfl⟩:=h'
        refine⟨.heap _,rfl,rfl,?_⟩
        intro st' dt
        obtain⟨k1,k2,k3⟩:=key st' dt
        simp only[opv,vW,k1,k2,k3,dz]
        rw[ah hc]
        rfl
       ·simp at h'
      ·simp at h'
     ·rename_i xs hx nJ
      have key:∀st',Sim (.h (.happ size agg by' a x)) rs st st'→b1y st' x=some xs∧raw st' a=some (.list true [])∧st'.heap=st.heap:=by
       intro st' dt
       exact ⟨by rw[← hx]; exact (HT dt (cZ x (by simp[wy,xd])) (by simp[xO])).symm,(dt.takes a (by simp[xP]) []).1 nJ,dt.heap (by simp[xO])⟩
      split at h'
      ·rename_i iE
       simp only[aa,ac] at h'
       obtain⟨rfl,rfl⟩:=h'
       refine⟨.heap st.heap,rfl,rfl,?_⟩
       intro st' dt
       obtain⟨k1,k2,k3⟩:=key st' dt
       simp only[opv,vW,k1,k2,k3]
       rw[ah iE]
       simp only[Dm.app,← k3]
      ·rename_i iE
       split at h'
       ·rename_i hc
        simp only[aa,ac] at h'
        obtain⟨rfl,rfl⟩:=h'
        refine⟨.heap _,rfl,rfl,?_⟩
        intro st' dt
        obtain⟨k1,k2,k3⟩:=key st' dt
        simp only[opv,vW,k1,k2,k3]
        rw[ae iE,ah hc]
        rfl
       ·simp at h'
     ·rename_i xs hx nJ
      have key:∀st',Sim (.h (.happ size agg by' a x)) rs st st'→b1y st' x=some xs∧raw st' a=some .nils∧st'.heap=st.heap:=by
       intro st' dt
       refine⟨by rw[← hx]; exact (HT dt (cZ x (by simp[wy,xd])) (by simp[xO])).symm,?_,dt.heap (by simp[xO])⟩
       have:=dt.reads a (cZ a (by simp[wy,xd]))
       rw[nJ] at this
       cases eU:raw st' a with
       | none=>rw[eU] at this; simp at this
       | some v' =>
         rw[eU] at this
         cases v'<;>simp[vw] at this
         rfl
      split at h'
      ·rename_i iE
       simp only[aa,ac] at h'
       obtain⟨rfl,rfl⟩:=h'
       refine⟨.heap st.heap,rfl,rfl,?_⟩
       intro st' dt
       obtain⟨k1,k2,k3⟩:=key st' dt
       simp only[opv,vW,k1,k2,k3]
       rw[ah iE]
       simp only[Dm.app,← k3]
      ·rename_i iE
       split at h'
       ·rename_i hc
        simp only[aa,ac] at h'
        obtain⟨rfl,rfl⟩:=h'
        refine⟨.heap _,rfl,rfl,?_⟩
        intro st' dt
        obtain⟨k1,k2,k3⟩:=key st' dt
        simp only[opv,vW,k1,k2,k3]
        rw[ae iE,ah hc]
        rfl
       ·simp at h'
     ·simp at h'
   | happz size agg by' z a x =>
     refine eb rfl (λst' hh hr _ =>?_) (λu st1 h =>?_)
     ·simp only[vW,hh,← rdI (hr x (by simp[xd])),← hr a (by simp[xd])]
      (repeat' split)<;>rfl
     ·simp only[vW] at h
      (repeat' split at h)<;>simp at h
      rw[← h.2]
   | clear size x =>
     refine eb rfl (λst' hh hr _ =>?_) (λu st1 h =>?_)
     ·simp only[vW,hh,← hr x (by simp[xd])]
      (repeat' split)<;>rfl
     ·simp only[vW] at h
      (repeat' split at h)<;>simp at h
      rw[← h.2]
   | mkarr size agg by' z x =>
     refine eb rfl (λst' hh hr _ =>?_) (λu st1 h =>?_)
     ·simp only[vW,hh,← rdI (hr x (by simp[xd]))]
      (repeat' split)<;>rfl
     ·simp only[vW] at h
      (repeat' split at h)<;>simp at h
      rw[← h.2]
   | range x =>
     refine eb rfl (λst' hh hr _ =>?_) (λu st1 h =>?_)
     ·simp only[vW,hh,← hr x (by simp[xd])]
      (repeat' split)<;>rfl
     ·simp only[vW] at h
      (repeat' split at h)<;>simp at h
      rw[← h.2]
   | next x =>
     refine eb rfl (λst' hh hr _ =>?_) (λu st1 h =>?_)
     ·simp only[vW,← hr x (by simp[xd])]
      split
      ·rw[hh]
       split
       ·split
        ·simp only[wA,hh]; rfl
        ·simp only[ay,← hh]
       ·rfl
      ·rfl
     ·simp only[vW] at h
      (repeat' split at h)<;>simp at h
      ·rw[← h.2]; rfl
      ·rw[← h.2]
   | storer size agg a x =>
     refine eb rfl (λst' hh hr ha =>?_) (λu st1 h =>?_)
     ·have hg:∀n,wU st' n=wU st n:=λn=>by unfold wU; rw[hh]
      simp only[vW,← ha a (by simp[xd]),← hr x (by simp[xd]),hg]
      split
      ·rename_i n off v _ _
       split
       ·rfl
       ·cases wU st n with
        | none=>rfl
        | some cs =>
          simp only[ar]
          cases wz size agg cs off v with
          | none=>rfl
          | some cs'=>simp only[ay,wA,hh]
      ·rfl
     ·simp only[vW] at h
      split at h
      ·split at h
       ·simp at h
       ·simp only[af,ab,ac] at h
        obtain⟨_,_,_,_,_,e⟩:=h
        rw[← e]; rfl
      ·simp at h
   | store size agg a x=>simp[wH] at hm
   | mset kagg ks m k v=>simp[wH] at hm
   | mkfunc k a b =>
     obtain⟨e1,e2⟩:=b9E (st:=st) (by simpa[opv] using h)
     by_cases nK:(a++b).isEmpty=true
     ·have pH:a++b=[]:=by simpa using nK
      rw[pH] at e1 e2
      refine⟨.none,e1,trivial,?_⟩
      intro st' hs
      have:a=[]∧b=[]:=by simpa using pH
      obtain⟨rfl,rfl⟩:=this
      have h':vW cf (.mkfunc k [] []) st=some (u,st1):=h
      simp only[vW,xE,ar,ay,aa,ac] at h'
      obtain⟨rfl,_⟩:=h'
      rfl
     ·have sJ:wH (.h (.mkfunc k a b))=4:=by simp only[wH,nK,if_false]; rfl
      refine⟨.shut (a++b),e1,⟨sJ,rfl⟩,?_⟩
      intro st' hs
      have hl:=hs.mem (by omega)
      rw[sJ] at hl
      exact e2 st' (λx hx=>hs.reads x (cZ x hx)) hl
   | newobj z=>exact eb rfl (λst' hh _ _=>by simp only[vW,hh]; rfl) (λu st1 h=>by simp only[vW,aa,ac] at h; rw[← h.2])
   | newbld=>exact eb rfl (λst' hh _ _=>by simp only[vW,hh]; rfl) (λu st1 h=>by simp only[vW,aa,ac] at h; rw[← h.2])
   | mkmap=>exact eb rfl (λst' hh _ _=>by simp only[vW,hh]; rfl) (λu st1 h=>by simp only[vW,aa,ac] at h; rw[← h.2])
   | boxobj n x =>
     refine eb rfl (λst' hh hr _ =>?_) (λu st1 h =>?_)
     ·simp only[vW,hh,← hr x (by simp[xd])]
      (repeat' split)<;>rfl
     ·simp only[vW] at h
      (repeat' split at h)<;>simp at h
      rw[← h.2]
   | call k args =>
     refine eb rfl (λst' hh hr _ =>?_) (λu st1 h =>?_)
     ·have e:rdAll st args=rdAll st' args:=rdA hr
      simp only[vW,hh,← e]
      cases rdAll st args with
      | none=>rfl
      | some vs=>simp only[ar,aE]; rfl
     ·simp only[vW,af,ab,ac] at h
      obtain⟨_,_,_,_,_,e⟩:=h
      rw[← e]
   | rcall k args =>
     refine eQ (λu st1 h =>?_) (λst' hh hr _ =>?_)
     ·simp only[vW,af,same] at h
      obtain⟨_,_,_,_,e⟩:=h
      split at e
      ·simp only[aa,ac] at e; exact e.2.symm
      ·simp at e
     ·have e:rdAll st args=rdAll st' args:=rdA hr
      simp only[vW,hh (by simp[xO]),← e]
      cases rdAll st args with
      | none=>rfl
      | some vs =>
        simp only[ar]
        cases cf k vs st.heap with
        | none=>rfl
        | some r =>
          simp only[ar,same,hh (by simp[xO])]
          by_cases he:r.2=st.heap
          ·rw[ah he,ah he]; rfl
          ·rw[ae he,ae he]; rfl
   | bcall k args=>simp[opv,vW] at h
   | bcallv x args=>simp[opv,vW] at h
   | callv x args =>
     refine eb rfl (λst' hh hr _ =>?_) (λu st1 h =>?_)
     ·have e:=rdA (xs:=args) (st':=st') (λy hy=>hr y (by simp only[xd]; exact bx _ hy))
      simp only[vW,hh,← hr x (by simp[xd]),← e]
      split
      ·simp only[aE]; rfl
      ·rfl
     ·simp only[vW] at h
      split at h
      ·simp only[ab,ac] at h
       obtain⟨_,_,_,e⟩:=h
       rw[← e]
      ·simp at h
   | iaddr len size x i =>
     refine eQ (λu st1 h =>?_) (λst' _ hr ha =>?_)
     ·simp only[vW] at h
      (repeat' split at h)<;>simp at h
      exact h.2.symm
     ·simp only[vW,← ha x (by simp[xd]),← rdI (hr i (by simp[xd]))]
      (repeat' split)<;>rfl
   | isnil kd neg x =>
     refine eQ (λu st1 h =>?_) (λst' _ hr _ =>?_)
     ·simp only[vW,ab,ac] at h
      obtain⟨_,_,_,e⟩:=h; exact e.symm
     ·simp only[vW,← hr x (by simp[xd]),aE]; rfl
   | nilchk x =>
     refine eQ (λu st1 h =>?_) (λst' _ _ ha =>?_)
     ·simp only[vW] at h
      (repeat' split at h)<;>simp at h<;>exact h.2.symm
     ·simp only[vW,← ha x (by simp[xd])]
      (repeat' split)<;>rfl
   | loadc size agg a =>
     refine eQ (λu st1 h =>?_) (λst' _ hr _ =>?_)
     ·simp only[vW] at h
      split at h
      ·simp only[ab,ac] at h
       obtain⟨_,_,_,e⟩:=h; exact e.symm
      ·simp at h
     ·simp only[vW,← hr a (by simp[xd])]
      split
      ·simp only[aE]; rfl
      ·rfl
   | barr z ps =>
     refine eQ (λu st1 h =>?_) (λst' _ hr _ =>?_)
     ·simp only[vW,ab,ac] at h
      obtain⟨_,_,_,e⟩:=h; exact e.symm
     ·have e:∀xs:List (Nat×Nat×PX),(∀x∈xs,rd st x.2.2=rd st' x.2.2)→rdParts st xs=rdParts st' xs:=by
       intro xs
       induction xs with
       | nil=>intro _; rfl
       | cons x xs ih =>
         obtain⟨a,b,x⟩:=x
         intro hx
         simp only[PI.rdParts]
         rw[hx (a,b,x) (by simp),ih (λy hy=>hx y (by simp[hy]))]
      simp only[vW,← e ps (λx hx=>hr _ (by simp only[xd]; exact List.mem_map_of_mem hx)),aE]; rfl
   | idxA len size agg x i =>
     refine eQ (λu st1 h =>?_) (λst' _ hr _ =>?_)
     ·simp only[vW] at h
      split at h
      ·split at h
       ·simp only[ab,ac] at h
        obtain⟨_,_,_,e⟩:=h; exact e.symm
       ·simp at h
      ·simp at h
     ·simp only[vW,← hr x (by simp[xd]),← rdI (hr i (by simp[xd]))]
      split
      ·split
       ·simp only[aE]; rfl
       ·rfl
      ·rfl
   | mlen m =>
     refine eQ (λu st1 h =>?_) (λst' hh hr _ =>?_)
     ·simp only[vW] at h
      split at h
      ·simp only[ab,ac] at h
       obtain⟨_,_,_,e⟩:=h; exact e.symm
      ·simp at h
     ·simp only[vW,← hr m (by simp[xd]),wP,hh (by simp[xO])]
      split
      ·simp only[aE]; rfl
      ·rfl
   | load size agg a tkn =>
     by_cases ec:tkn=true
     ·subst ec
      refine eb rfl (λst' hh _ ha =>?_) (λu st1 h =>?_)
      ·simp only[vW,← ha a (by simp[xd]),wU,hh,wA]
       split
       ·cases wh size agg _ 0<;>simp<;>rw[← hh]
       ·split
        ·simp only[ar]
         split
         ·simp[hh]
         ·cases wh size agg _ _<;>simp<;>rw[← hh]
        ·rfl
       ·rfl
      ·simp only[vW] at h
       split at h
       ·simp only[ab,ac] at h
        obtain⟨_,_,_,e⟩:=h; rw[← e]
       ·simp only[af] at h
        obtain⟨cs,_,h⟩:=h
        split at h
        ·simp only[aa,ac] at h; rw[← h.2]; rfl
        ·simp only[ab,ac] at h
         obtain⟨_,_,_,e⟩:=h; rw[← e]
       ·simp at h
     ·have mg:tkn=false:=by simpa using ec
      subst mg
      refine eQ (λu st1 h =>?_) (λst' hh _ ha =>?_)
      ·simp only[vW] at h
       split at h
       ·simp only[ab,ac] at h
        obtain⟨_,_,_,e⟩:=h; exact e.symm
       ·simp only[af,bI] at h
        obtain⟨cs,_,h⟩:=h
        simp only[ab,ac] at h
        obtain⟨_,_,_,e⟩:=h; exact e.symm
       ·simp at h
      ·simp only[vW,← ha a (by simp[xd]),wU,hh (by simp[xO]),bI]
       split
       ·simp only[aE]; rfl
       ·split
        ·simp only[ar,aE]; rfl
        ·rfl
       ·rfl
   | lookup ok tkn kagg ks zero m x =>
     by_cases ec:tkn=true
     ·subst ec
      refine eb rfl (λst' hh hr _ =>?_) (λu st1 h =>?_)
      ·have qJ:∀n,wP st' n=wP st n:=λn=>by unfold wP; rw[hh]
       simp only[vW,← hr m (by simp[xd]),← hr x (by simp[xd]),qJ,hh,wA]
       split
       ·rename_i n k _ _
        cases wP st n with
        | none=>rfl
        | some es =>
          simp only[ar]
          cases xB kagg ks k es 0 with
          | none=>rfl
          | some r =>
            cases r with
            | none=>simp; rw[← hh]
            | some iv =>
              simp only[ar]
              split
              ·simp
              ·simp; rw[← hh]
       ·rfl
      ·simp only[vW] at h
       split at h
       ·simp only[af] at h
        obtain⟨es,_,r,_,h⟩:=h
        split at h
        ·split at h
         ·simp only[aa,ac] at h; rw[← h.2]; rfl
         ·simp only[aa,ac] at h; rw[← h.2]
        ·simp only[aa,ac] at h; rw[← h.2]
       ·simp at h
     ·have mg:tkn=false:=by simpa using ec
      subst mg
      refine eQ (λu st1 h =>?_) (λst' hh hr _ =>?_)
      ·simp only[vW] at h
       split at h
       ·simp only[af,bI] at h
        obtain⟨es,_,r,_,h⟩:=h
        split at h
        ·simp at h; exact h.2.symm
        ·simp at h; exact h.2.symm
       ·simp at h
      ·have qJ:∀n,wP st' n=wP st n:=λn=>by unfold wP; rw[hh (by simp[xO])]
       simp only[vW,← hr m (by simp[xd]),← hr x (by simp[xd]),qJ,bI]
       split
       ·rename_i n k _ _
        cases wP st n with
        | none=>rfl
        | some es =>
          simp only[ar]
          cases xB kagg ks k es 0 with
          | none=>rfl
          | some r=>cases r<;>rfl
       ·rfl
 | store size agg a x=>simp[wH] at hm
 | newloc z=>simp[wH] at hm
 | boxloc n x=>simp[wH] at hm
 | sliceLoc n x=>simp[wH] at hm
 | take x =>
   obtain⟨h1,h2⟩:=FK (st:=st) (by simpa[opv] using h)
   refine⟨.src x,h1,by simp[zl,xP],?_⟩
   intro st' hs
   simpa[opv] using h2 st' (hs.reads x (cZ x (by simp[wy]))) (hs.takes x (by simp[xP]))
 | append size bytes s x =>
   simp only[opv] at h
   split at h
   ·rename_i xs es st2 hr ht
    split at h
    ·rename_i hc
     simp only[aa,ac] at h
     obtain⟨rfl,rfl⟩:=h
     obtain⟨h1,h2⟩:=FK ht
     refine⟨.src s,h1,by simp[zl,xP],?_⟩
     intro st' hs
     have jf:=h2 st' (hs.reads s (cZ s (by simp[wy]))) (hs.takes s (by simp[xP]))
     have eU:(rd st' x).bind AB=some xs:=by rw[← hs.rd (cZ x (by simp[wy]))]; exact hr
     simp only[opv,eU,jf,ah hc]
    ·simp at h
   ·simp at h
 | loadv s size agg a =>
   simp only[opv] at h
   split at h
   ·rename_i s' g off dA
    split at h
    ·rename_i g' cs hv
     split at h
     ·rename_i hc
      obtain⟨rfl,rfl⟩:=hc
      refine pure (by simp only[ab,ac] at h; obtain⟨_,_,_,e⟩:=h; exact e.symm) ?_
      intro st' hs
      obtain⟨cs',h1,h2⟩:=(hs.slot s' rfl).1 g cs hv
      simp only[opv,(hs.addr (cZ a (by simp[wy]))).symm,dA,h1,hv,and_self,if_true]
      rw[← Lm h2,aE]
      rfl
     ·simp at h
    ·simp at h
   ·simp at h
 | load size agg a tkn =>
   simp only[opv] at h
   have ha:∀st',Sim (.load size agg a tkn) rs st st'→addr st' a=addr st a:=λst' hs=>(hs.addr (cZ a (by simp[wy]))).symm
   split at h
   ·rename_i cs dA
    refine pure (by simp only[ab,ac] at h; obtain⟨_,_,_,e⟩:=h; exact e.symm) ?_
    intro st' hs
    simp only[opv,ha st' hs,dA,aE]
    rfl
   ·rename_i s g off dA
    split at h
    ·rename_i g' cs hv
     split at h
     ·rename_i hg
      subst hg
      split at h
      ·rename_i es ec hcell
       simp only[aa,ac] at h
       obtain⟨rfl,rfl⟩:=h
       simp only[am,bF] at ec
       have app:∀st:St,st.vars[s]? = some (.loc g cs)→{ st with vars:=st.vars.set s (.loc g (cs.set off (.list false es))) }=(Dm.cell s off).app st:=by
        intro st hv
        simp only[Dm.app]
        rw[Dq hv]
        simp only[Bl]
        rw[Dq hcell]
        rfl
       refine⟨.cell s off,app st hv,by simp[zl,wH,ec.1],?_⟩
       intro st' hs
       obtain⟨cs',h1,_,h3⟩:=hs.mem (by simp[wH,ec.1]) s g cs hv
       have:cs'=cs:=h3 (by simp[wH,ec.1])
       subst this
       simp only[opv,ha st' hs,dA,h1,if_true,ec.1,ec.2,Bool.not_false,Bool.and_self,hcell]
       rw[app st' h1]
      ·rename_i fy
       refine pure (by simp only[ab,ac] at h; obtain⟨_,_,_,e⟩:=h; exact e.symm) ?_
       intro st' hs
       obtain⟨cs',h1,h2,h3⟩:=hs.mem (by simp[wH]; split<;>omega) s g cs hv
       simp only[opv,ha st' hs,dA,h1,hv,if_true]
       have uh:=Lm (size:=size) (agg:=agg) (off:=off) h2
       cases mh:tkn with
       | false=>simp[mh,← uh]; rfl
       | true =>
         have:cs'=cs:=h3 (by simp[wH,mh])
         subst this
         subst mh
         split
         ·rename_i es' hb kB
          exact absurd kB (by
           intro kB
           exact fy es' hb kB)
         ·simp; rfl
     ·simp at h
    ·simp at h
   ·simp at h
 | mov x =>
   refine pure (by simp only[opv,ab,ac] at h; obtain⟨_,_,_,e⟩:=h; exact e.symm) ?_
   intro st' hs
   simp only[opv,← hs.rd (cZ x (by simp[wy])),aE]; rfl
 | movs x =>
   refine pure (by simp only[opv] at h; split at h<;>simp at h; exact h.2.symm) ?_
   intro st' hs
   simp only[opv,← hs.rd (cZ x (by simp[wy]))]
   split<;>rfl
 | pick c x y =>
   refine pure (by simp only[opv] at h; split at h<;>simp at h; obtain⟨_,_,_,e⟩:=h; exact e.symm) ?_
   intro st' hs
   simp only[opv,← hs.rd (cZ c (by simp[wy])),← hs.rd (cZ x (by simp[wy])),← hs.rd (cZ y (by simp[wy]))]
   split
   ·rename_i t _
    cases t
    ·simp only[aH,if_false,← hs.rd (cZ y (by simp[wy])),aE]; rfl
    ·simp only[if_true,← hs.rd (cZ x (by simp[wy])),aE]; rfl
   ·rfl
 | build z ps =>
   refine pure (by simp only[opv,ab,ac] at h; obtain⟨_,_,_,e⟩:=h; exact e.symm) ?_
   intro st' hs
   simp only[opv,← hs.rdParts (xs:=ps) (λx hx=>cZ _ (by simp only[wy]; exact List.mem_map_of_mem hx)),aE]; rfl
 | mkslice size z len ps =>
   refine pure (by simp only[opv,ab,ac] at h; obtain⟨_,_,_,e⟩:=h; exact e.symm) ?_
   intro st' hs
   simp only[opv,← hs.rdElems (xs:=ps) (λx hx=>cZ _ (by simp only[wy]; exact List.mem_map_of_mem hx)),aE]; rfl
 | faddr off x =>
   refine pure (by simp only[opv] at h; split at h<;>simp at h<;>exact h.2.symm) ?_
   intro st' hs
   simp only[opv,← hs.addr (cZ x (by simp[wy]))]
   split<;>rfl
 | appstr s x =>
   simp only[opv] at h
   split at h
   ·rename_i xs es st2 hr ht
    split at h
    ·rename_i hc
     simp only[aa,ac] at h
     obtain⟨rfl,rfl⟩:=h
     obtain⟨h1,h2⟩:=FK ht
     refine⟨.src s,h1,by simp[zl,xP],?_⟩
     intro st' hs
     have jf:=h2 st' (hs.reads s (cZ s (by simp[wy]))) (hs.takes s (by simp[xP]))
     have eU:rd st' x=some (.str xs):=by rw[← hs.rd (cZ x (by simp[wy]))]; exact hr
     simp only[opv,eU,jf,ah hc]
    ·simp at h
   ·simp at h
 | b2s x =>
   refine pure (by simp only[opv] at h; split at h<;>simp at h; obtain⟨_,_,_,e⟩:=h; exact e.symm) ?_
   intro st' hs
   simp only[opv,← hs.rd (cZ x (by simp[wy]))]
   split
   ·simp only[aE]; rfl
   ·rfl
 | s2b x =>
   refine pure (by simp only[opv] at h; (repeat' split at h)<;>simp at h; exact h.2.symm) ?_
   intro st' hs
   simp only[opv,← hs.rd (cZ x (by simp[wy]))]
   (repeat' split)<;>rfl
 | iaddrS size x i =>
   refine pure (by simp only[opv] at h; (repeat' split at h)<;>simp at h<;>exact h.2.symm) ?_
   intro st' hs
   simp only[opv,← hs.rd (cZ x (by simp[wy])),← hs.rdInt (cZ i (by simp[wy]))]
   (repeat' split)<;>rfl
 | iaddrA len size x i =>
   refine pure (by simp only[opv] at h; (repeat' split at h)<;>simp at h<;>exact h.2.symm) ?_
   intro st' hs
   simp only[opv,← hs.addr (cZ x (by simp[wy])),← hs.rdInt (cZ i (by simp[wy]))]
   (repeat' split)<;>rfl
 | field off size agg x =>
   refine pure (by simp only[opv] at h; split at h<;>simp at h; obtain⟨_,_,_,e⟩:=h; exact e.symm) ?_
   intro st' hs
   simp only[opv,← hs.rd (cZ x (by simp[wy]))]
   split
   ·simp only[aE]; rfl
   ·rfl
 | indexStr x i =>
   refine pure (by simp only[opv] at h; (repeat' split at h)<;>simp at h; exact h.2.symm) ?_
   intro st' hs
   simp only[opv,← hs.rd (cZ x (by simp[wy])),← hs.rdInt (cZ i (by simp[wy]))]
   (repeat' split)<;>rfl
 | slice str size x lo hi =>
   have lA:∀y∈lo.toList,y∈rs:=λy hy=>cZ y (by simp only[wy,az,aw]; exact .inr (.inl hy))
   have ui:∀y∈hi.toList,y∈rs:=λy hy=>cZ y (by simp only[wy,az,aw]; exact .inr (.inr hy))
   refine pure (by
    simp only[opv] at h
    split at h
    ·simp only[af,ab,ac] at h
     obtain⟨_,_,_,_,_,e⟩:=h; exact e.symm
    ·split at h
     ·simp only[af,ab,ac] at h
      obtain⟨_,_,_,_,_,e⟩:=h; exact e.symm
     ·simp at h
    ·simp only[af,ab,ac] at h
     obtain⟨_,_,_,_,_,e⟩:=h; exact e.symm
    ·split at h
     ·simp only[af,ab,ac] at h
      obtain⟨_,_,_,_,_,e⟩:=h; exact e.symm
     ·simp at h
    ·simp at h) ?_
   intro st' hs
   simp only[opv,← hs.rd (cZ x (by simp[wy])),← hs.bound lA,← hs.bound ui]
   split
   ·simp only[Option.map_bind,Function.comp_def,aE]
   ·split
    ·simp only[Option.map_bind,Function.comp_def,aE]
    ·rfl
   ·simp only[Option.map_bind,Function.comp_def,aE]
   ·split
    ·simp only[Option.map_bind,Function.comp_def,aE]
    ·rfl
   ·rfl
 | bin op x y =>
   refine pure (by simp only[opv] at h; split at h<;>simp at h; obtain⟨_,_,_,e⟩:=h; exact e.symm) ?_
   intro st' hs
   simp only[opv,← hs.rd (cZ x (by simp[wy])),← hs.rd (cZ y (by simp[wy]))]
   split
   ·simp only[aE]; rfl
   ·rfl
 | eq neg agg ks x y =>
   refine pure (by
    simp only[opv] at h
    split at h
    ·simp only[ab,ac] at h
     obtain⟨_,_,_,e⟩:=h; exact e.symm
    ·simp at h) ?_
   intro st' hs
   simp only[opv,← hs.rd (cZ x (by simp[wy])),← hs.rd (cZ y (by simp[wy]))]
   split
   ·simp only[aE]; rfl
   ·rfl
 | un op x =>
   refine pure (by simp only[opv] at h; split at h<;>simp at h; obtain⟨_,_,_,e⟩:=h; exact e.symm) ?_
   intro st' hs
   simp only[opv,← hs.rd (cZ x (by simp[wy]))]
   split
   ·simp only[aE]; rfl
   ·rfl
 | convInt k x =>
   refine pure (by simp only[opv,ab,ac] at h; obtain⟨_,_,_,e⟩:=h; exact e.symm) ?_
   intro st' hs
   simp only[opv,← hs.rdInt (cZ x (by simp[wy])),aE]; rfl
 | extract i x =>
   refine pure (by
    simp only[opv] at h
    split at h
    ·simp only[ab,ac] at h
     obtain⟨_,_,_,e⟩:=h; exact e.symm
    ·simp at h) ?_
   intro st' hs
   simp only[opv,← hs.rd (cZ x (by simp[wy]))]
   split
   ·simp only[aE]; rfl
   ·rfl
 | len str x =>
   refine pure (by simp only[opv] at h; split at h<;>simp at h<;>exact h.2.symm) ?_
   intro st' hs
   simp only[opv,← hs.rd (cZ x (by simp[wy]))]
   split<;>rfl
 | cap x =>
   refine pure (by simp only[opv] at h; split at h<;>simp at h<;>exact h.2.symm) ?_
   intro st' hs
   simp only[opv,← hs.rd (cZ x (by simp[wy]))]
   split<;>rfl
 | minmax mx xs =>
   refine pure (by simp only[opv] at h; split at h<;>simp at h; obtain⟨_,_,_,e⟩:=h; exact e.symm) ?_
   intro st' hs
   simp only[opv,← hs.rdAll (xs:=xs) (λx hx=>cZ x (by simpa[wy] using hx))]
   split
   ·simp only[aE]; rfl
   ·rfl
 | pcall k xs =>
   refine pure (by simp only[opv] at h; (repeat' split at h)<;>simp at h; exact h.2.symm) ?_
   intro st' hs
   simp only[opv,← hs.rdAll (xs:=xs) (λx hx=>cZ x (by simpa[wy] using hx))]
   (repeat' split)<;>rfl
 | pcallx k xs own =>
   cases own with
   | none =>
     refine pure (by simp only[opv] at h; (repeat' split at h)<;>simp at h; exact h.2.symm) ?_
     intro st' hs
     simp only[opv,← hs.rdAll (xs:=xs) (λx hx=>cZ x (by simpa[wy] using hx))]
     (repeat' split)<;>rfl
   | some i =>
     simp only[opv] at h
     split at h
     ·rename_i v st2 us ht eL
      split at h
      ·rename_i cP
       split at h
       ·rename_i r h' hc
        split at h
        ·rename_i hr
         simp only[aa,ac] at h
         obtain⟨rfl,rfl⟩:=h
         simp only[af] at ht
         obtain⟨x,hx,ht⟩:=ht
         have uj:x∈xs:=av hx
         obtain⟨h1,h2⟩:=FK ht
         refine⟨.src x,h1,by simp[zl,xP,hx],?_⟩
         intro st' hs
         have jf:=h2 st' (hs.reads x (cZ x (by simpa[wy] using uj))) (hs.takes x (by simp[xP,hx]))
         simp only[opv,hx,ar,jf,← hs.rdAll (xs:=xs) (λx hx=>cZ x (by simpa[wy] using hx)),eL,ah cP,hc,ah hr]
        ·simp at h
       ·simp at h
      ·simp at h
     ·simp at h
 | callv x xs =>
   refine pure (by simp only[opv] at h; (repeat' split at h)<;>simp at h; exact h.2.symm) ?_
   intro st' hs
   simp only[opv,← hs.rd (cZ x (by simp[wy])),← hs.rdAll (xs:=xs) (λy hy=>cZ y (by simp only[wy]; exact bx _ hy))]
   (repeat' split)<;>rfl
end
end PI
