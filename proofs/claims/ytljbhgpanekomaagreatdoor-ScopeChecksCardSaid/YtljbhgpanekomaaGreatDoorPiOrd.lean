import Derived.Test.YtljbhgpanekomaaGreatDoorPiComp
set_option linter.unusedSimpArgs false
set_option linter.unusedVariables false
set_option linter.unusedSectionVars false
namespace PI
def xb:POp→Nat
 | .h (.store ..) | .h (.mset ..) | .h (.bcall ..) | .h (.bcallv ..)=>2
 | .h (.mkfunc _ a b)=>if (a++b).isEmpty then 0 else 4
 | .load _ _ _ tk=>if tk then 3 else 1
 | .store .. | .newloc _ | .boxloc .. | .sliceLoc .. => 2
 | _=>0
def yF:POp→Nat
 | .h (.newobj ..) | .h .newbld | .h (.boxobj ..) | .h (.mkarr ..) | .h (.range ..) | .h (.next ..) | .h .mkmap | .h (.call ..) | .h (.callv ..) | .h (.bcall ..) | .h (.bcallv ..) | .h (.happ ..) | .h (.happz ..) | .h (.clear ..) | .h (.store ..) | .h (.storer ..) | .h (.mset ..)=>2
 | .h (.load _ _ _ tk)=>if tk then 2 else 1
 | .h (.lookup _ tk _ _ _ _ _)=>if tk then 2 else 1
 | .h (.mlen ..) | .h (.rcall ..)=>1
 | _=>0
def CZ:POp→List PX
 | .h (.mkfunc _ a b)=>a++b
 | _=>[]
def yG:POp→List PX
 | .take x=>[x]
 | .append _ _ s _=>[s]
 | .appstr s _=>[s]
 | .h (.happ _ _ _ s _)=>[s]
 | .pcallx _ xs (some i)=>xs[i]?.toList
 | _=>[]
def yH:PX→PX→Bool
 | .v i,.v j=>i==j
 | .l i,.l j=>i==j
 | _,_=>false
def isX (d:PD) (j:Nat) (x:PX):Bool:=
 match d with
 | .v i=>yH (.v i) x
 | .l=>yH (.l j) x
 | .n=>false
def At (p:PO):List PX:=(match p.guard with | some (x,_)=>[x] | none=>[])++wU p.op
def isV:PD→Bool
 | .v _=>true
 | _=>false
def DT (j:Nat) (p q:PO):Bool:=(At q).all (λx => !isX p.dst j x)&&(!isV p.dst||xb q.op==0)
def Dn (d d':PD):Bool:=
 match d,d' with
 | .v i,.v j=>i==j
 | _,_=>false
def D9 (jp:Nat) (p:PO) (jq:Nat) (q:PO):Bool:=
 xb p.op != 2&&xb q.op != 2 && !(xb p.op==3&&xb q.op==3) && !(xb p.op==4&&xb q.op != 0) && !(xb q.op==4&&xb p.op != 0) &&
 !(yF p.op==2&&yF q.op != 0) && !(yF q.op==2&&yF p.op != 0)&&(CZ p.op).all (λx => !(At q).any (yH x))&&(CZ q.op).all (λx => !(At p).any (yH x))&&DT jp p q&&DT jq q p && !Dn p.dst q.dst&&(yG p.op).all (λx => !(yG q.op).any (yH x))
def vw:PV→PV
 | .list _ es => .list false es
 | .loc g _ => .loc g []
 | v=>v
theorem Ea (v:PV):cp v=cp (vw v):=by cases v<;>rfl
inductive Dm where
 | none
 | src (x:PX)
 | cell (s off:Nat)
 | heap (h:List PObj)
 | shut (xs:List PX)
def B6 (off:Nat):PV→PV
 | .loc g cs => .loc g (cs.modify off dem)
 | v=>v
def B7:PV→PV
 | .loc _ cs => .cptr (cs.map dem)
 | v=>v
def zf (x:PX) (st:St):St:=
 match x with
 | .v i=>{ st with vars:=st.vars.modify i B7 }
 | _=>st
def yu:List PX→St→St
 | [],st=>st
 | x::xs,st=>yu xs (zf x st)
def Dm.app:Dm→St→St
 | .heap h,st=>{ st with heap:=h }
 | .shut xs,st=>yu xs st
 | .none,st=>st
 | .src (.v i),st=>{ st with vars:=st.vars.modify i dem }
 | .src (.l j),st=>{ st with locs:=st.locs.modify j dem }
 | .src (.c _),st=>st
 | .cell s off,st=>{ st with vars:=st.vars.modify s (B6 off) }
def BH (exact:Bool) (st st':St):Prop:=
 ∀(s g:Nat) (cs:List PV),st.vars[s]? = some (.loc g cs)→∃cs',st'.vars[s]? = some (.loc g cs')∧cs'.map dem=cs.map dem∧(exact=true→cs'=cs)
def I3:POp→Option Nat
 | .loadv s _ _ _=>some s
 | _=>none
def C0 (s:Nat) (st st':St):Prop:=∀(g:Nat) (cs:List PV),st.vars[s]? = some (.loc g cs)→∃cs',st'.vars[s]? = some (.loc g cs')∧cs'.map dem=cs.map dem
structure Sim (o:POp) (rs:List PX) (st st':St):Prop where
 reads:∀x∈rs,(raw st x).map vw=(raw st' x).map vw
 takes:∀x∈yG o,∀es,raw st x=some (.list true es)↔raw st' x=some (.list true es)
 mem:1≤xb o→BH (xb o==3) st st'
 heap:1≤yF o→st'.heap=st.heap
 slot:∀s,I3 o=some s→C0 s st st'∧C0 s st' st
section
variable {o:POp} {rs:List PX} {st st':St}
theorem Sim.rd (h:Sim o rs st st') {x:PX} (hx:x∈rs):rd st x=rd st' x:=by
 have:=h.reads x hx
 unfold PI.rd
 cases h1:raw st x<;>cases h2:raw st' x<;>simp[h1,h2] at this ⊢
 rw[Ea,this,← Ea]
theorem Sim.rdInt (h:Sim o rs st st') {x:PX} (hx:x∈rs):rdInt st x=rdInt st' x:=by
 unfold PI.rdInt; rw[h.rd hx]
theorem I4 (h:Sim o rs st st') {x:PX} (hx:x∈rs) (hm:1≤yF o):b3t st x=b3t st' x:=by
 unfold PI.b3t
 rw[h.rd hx]
 unfold xF
 rw[h.heap hm]
def I5 (x:PX) (r:Option PV):Option PV:=
 match x,r with
 | .v i,some (.loc g _)=>some (.lptr i g 0)
 | _,some (.lptr s g off)=>some (.lptr s g off)
 | _,some v=>cp v
 | _,none=>none
theorem MM (st:St) (x:PX):addr st x=I5 x (raw st x):=rfl
theorem MN (x:PX) (v:PV):I5 x (some v)=I5 x (some (vw v)):=by
 cases v<;>cases x<;>rfl
theorem Sim.addr (h:Sim o rs st st') {x:PX} (hx:x∈rs):addr st x=addr st' x:=by
 have:=h.reads x hx
 rw[MM,MM]
 cases h1:raw st x<;>cases h2:raw st' x<;>simp[h1,h2] at this ⊢
 rw[MN,this,← MN]
theorem Sim.rdAll (h:Sim o rs st st'):∀{xs:List PX},(∀x∈xs,x∈rs)→rdAll st xs=rdAll st' xs
 | [],_=>rfl
 | x :: xs, hx => by
   simp only[PI.rdAll]
   rw[h.rd (hx x (by simp)),h.rdAll (xs:=xs) (λy hy=>hx y (by simp[hy]))]
theorem Sim.rdParts (h:Sim o rs st st'):∀{xs:List (Nat×Nat×PX)},(∀x∈xs,x.2.2∈rs)→rdParts st xs=rdParts st' xs
 | [],_=>rfl
 | (a, b, x) :: xs, hx => by
   simp only[PI.rdParts]
   rw[h.rd (hx (a,b,x) (by simp)),h.rdParts (xs:=xs) (λy hy=>hx y (by simp[hy]))]
theorem Sim.rdElems (h:Sim o rs st st'):∀{xs:List (Nat×PX)},(∀x∈xs,x.2∈rs)→rdElems st xs=rdElems st' xs
 | [],_=>rfl
 | (a, x) :: xs, hx => by
   simp only[PI.rdElems]
   rw[h.rd (hx (a,x) (by simp)),h.rdElems (xs:=xs) (λy hy=>hx y (by simp[hy]))]
theorem Sim.bound (h:Sim o rs st st') {x:Option PX} (hx:∀y∈x.toList,y∈rs) (d m:Nat):bound st x d m=bound st' x d m:=by
 cases x with
 | none=>rfl
 | some y=>simp only[PI.bound]; rw[h.rdInt (hx y (by simp))]
theorem Eb {l:List PV} {i:Nat} {v:PV} (h:l[i]? = some v) (f:PV→PV):l.modify i f=l.set i (f v):=by
 apply b9
 intro k
 rw[aZ,aJ]
 by_cases hk:i=k
 ·subst hk
  obtain⟨cO,rfl⟩:=aj.1 h
  simp[cO]
 ·simp[hk]
theorem I6 {l:List PV} {i:Nat} {f:PV→PV} (h:∀v,l[i]? = some v→f v=v):l.modify i f=l:=by
 apply b9
 intro k
 rw[aZ]
 by_cases hk:i=k
 ·subst hk
  cases hv:l[i]? with
  | none=>simp
  | some v=>simp[h v hv]
 ·simp[hk]
theorem GH {x:PX} {u:PV} {st1:St} (h:tk st x=some (u,st1)):st1=(Dm.src x).app st∧∀st',(raw st x).map vw=(raw st' x).map vw→(∀es,raw st x=some (.list true es)↔raw st' x=some (.list true es))→tk st' x=some (u,(Dm.src x).app st'):=by
 have app_own:∀(st:St) (es:List PV),raw st x=some (.list true es)→Bz st x (.list false es)=(Dm.src x).app st:=by
  intro st es hr
  cases x with
  | v i=>simp only[Bz,Dm.app]; rw[Eb hr]; rfl
  | l i=>simp only[Bz,Dm.app]; rw[Eb hr]; rfl
  | c p=>rfl
 have app_id:∀(st:St),(∀v,raw st x=some v→dem v=v)→(Dm.src x).app st=st:=by
  intro st hv
  cases x with
  | v i=>simp only[Dm.app]; rw[I6 hv]
  | l i=>simp only[Dm.app]; rw[I6 hv]
  | c p=>rfl
 have dem_id:∀v:PV,(∀es,v≠.list true es)→dem v=v:=by
  intro v hv
  cases v<;>try rfl
  rename_i own es
  cases own with
  | true=>exact absurd rfl (hv es)
  | false=>rfl
 unfold tk at h
 split at h
 ·rename_i es hr
  simp only[aa,ac] at h
  obtain⟨rfl,rfl⟩:=h
  refine⟨app_own st es hr,?_⟩
  intro st' _ h2
  have fl:=(h2 es).1 hr
  unfold tk
  rw[fl]
  simp only[aa,ac,true_and]
  exact app_own st' es fl
 ·rename_i v mK hr
  simp only[ab,ac] at h
  obtain⟨r,eG,rfl,rfl⟩:=h
  refine⟨(app_id _ (λv' dN=>by rw[hr] at dN; simp at dN; subst dN; exact dem_id _ mK)).symm,?_⟩
  intro st' h1 h2
  have oj:∀es,raw st' x≠some (.list true es):=λes e=>by
   have:=(h2 es).2 e
   rw[hr] at this; simp at this; exact mK es this
  cases hv:raw st' x with
  | none=>rw[hr,hv] at h1; simp at h1
  | some v' =>
    have uG:vw v=vw v':=by rw[hr,hv] at h1; simpa using h1
    have fK:cp v'=some r:=by rw[Ea,← uG,← Ea]; exact eG
    have c9:∀es,v'≠.list true es:=λes e=>oj es (by rw[hv,e])
    have dr:=app_id st' (λv2 jN=>by rw[hv] at jN; simp at jN; subst jN; exact dem_id _ c9)
    unfold tk
    rw[hv]
    split
    ·rename_i es he; simp at he; exact absurd he (c9 es)
    ·rename_i v2 _ he
     simp at he; subst he
     simp[fK,dr]
    ·rename_i he; simp at he
 ·simp at h
theorem MO {size:Nat} {agg:Bool} {cs cs':List PV} {off:Nat} (h:cs'.map dem=cs.map dem):wD size agg cs off=wD size agg cs' off:=by
 have hl:cs'.length=cs.length:=by simpa using aH List.length h
 unfold wD
 rw[hl]
 split
 ·split
  ·congr 2
   have:=aH (λl=>(l.drop off).take size) h
   simpa using this.symm
  ·rfl
 ·have hg:(cs[off]?).map dem=(cs'[off]?).map dem:=by
   have:=aH (λl=>l[off]?) h
   simpa using this.symm
  cases h1:cs[off]? with
  | none => cases h2 : cs'[off]? with
    | none=>rfl
    | some v=>rw[h1,h2] at hg; simp at hg
  | some v => cases h2 : cs'[off]? with
    | none=>rw[h1,h2] at hg; simp at hg
    | some v' =>
      rw[h1,h2] at hg
      simp at hg
      have:∀x,cp x=cp (dem x):=λx=>by cases x<;>rfl
      simp only
      rw[this v,hg,← this v']
def Aj (o:POp) (d:Dm):Prop:=
 match d with
 | .none=>True
 | .src x=>x∈yG o
 | .cell _ _=>xb o=3
 | .heap _=>yF o=2
 | .shut xs=>xb o=4∧xs=CZ o
theorem I7:∀{xs:List PX} {st st1:St} {us:List PV},yp st xs=some (us,st1)→st1=yu xs st ∧
  ∀st',(∀x∈xs,(raw st x).map vw=(raw st' x).map vw)→BH false st st'→yp st' xs=some (us,yu xs st')
 | [], st, st1, us, h => by
   simp only[yp,aa,ac] at h
   obtain⟨rfl,rfl⟩:=h
   exact ⟨rfl,λst' _ _=>rfl⟩
 | x :: xs, st, st1, us, h => by
   simp only[yp,ai,ab,ac] at h
   obtain⟨⟨v,st2⟩,h1,⟨q,st3⟩,h2,rfl,rfl⟩:=h
   obtain⟨i1,i2⟩:=I7 h2
   have one:st2=zf x st∧∀st',(raw st x).map vw=(raw st' x).map vw→BH false st st'→Ab st' x=some (v,zf x st'):=by
    by_cases ku:∃i g cs,x = .v i∧raw st x=some (.loc g cs)
    ·obtain⟨i,g,cs,rfl,hr⟩:=ku
     simp only[Ab,hr,aa,ac] at h1
     obtain⟨rfl,rfl⟩:=h1
     have fl:st.vars[i]? = some (.loc g cs):=hr
     refine⟨by simp only[zf]; rw[Eb fl]; rfl,?_⟩
     intro st' _ hl
     obtain⟨cs',e1,e2,_⟩:=hl i g cs fl
     have e1':raw st' (.v i)=some (.loc g cs'):=e1
     unfold Ab
     rw[e1']
     simp only[zf]
     rw[Eb e1]
     simp only[B7,e2]
    ·have eY:∀i g cs,x = .v i→raw st x=some (.loc g cs)→False:=λi g cs e h=>ku ⟨i,g,cs,e,h⟩
     have fK:∀st:St,(∀i g cs,x = .v i→raw st x=some (.loc g cs)→False)→Ab st x=(rd st x).map (·,st):=by
      intro st hn
      unfold Ab
      split
      ·rename_i i g cs h; exact absurd h (λh=>hn i g cs rfl h)
      ·rfl
     rw[fK st eY] at h1
     simp only[ab,ac] at h1
     obtain⟨r,hr,rfl,rfl⟩:=h1
     have dr:∀st:St,(∀i g cs,x = .v i→st.vars[i]?≠some (.loc g cs))→zf x st=st:=by
      intro st hn
      cases x with
      | v i =>
        simp only[zf]
        rw[I6]
        intro u hu
        cases u<;>first|rfl|exact absurd hu (hn i _ _ rfl)
      | l i=>rfl
      | c p=>rfl
     refine⟨(dr st (λi g cs e h=>eY i g cs e (by rw[e]; exact h))).symm,?_⟩
     intro st' hv hl
     have ol:∀i g cs,x = .v i→st'.vars[i]?≠some (.loc g cs):=by
      intro i g cs e h
      subst e
      have h':raw st' (.v i)=some (.loc g cs):=h
      rw[h'] at hv
      cases hq:raw st (.v i) with
      | none=>rw[hq] at hv; simp at hv
      | some u =>
        rw[hq] at hv
        simp only[az,aa] at hv
        cases u<;>simp[vw] at hv
        exact eY i _ _ rfl hq
     have jw:rd st' x=some r:=by
      unfold rd at hr ⊢
      cases h3:raw st x<;>cases h4:raw st' x<;>simp[h3,h4] at hv hr ⊢
      rw[Ea,← hv,← Ea]; exact hr
     rw[dr st' ol,fK st' (λi g cs e h=>ol i g cs e (by rw[e] at h; exact h))]
     simp[jw]
   obtain⟨o1,o2⟩:=one
   subst o1
   refine⟨i1,?_⟩
   intro st' hv hl
   have om:=o2 st' (hv x (bV ..)) hl
   have jN:∀y∈xs,(raw (zf x st) y).map vw=(raw (zf x st') y).map vw:=by
    intro y hy
    have ga:=hv y (bD _ hy)
    cases x with
    | l i=>exact ga
    | c p=>exact ga
    | v i =>
      cases y with
      | l k=>exact ga
      | c p=>rfl
      | v k =>
        simp only[zf,raw,aZ] at ga ⊢
        by_cases gk:i=k
        ·subst gk
         cases h3:st.vars[i]? with
         | none=>rw[h3] at ga; cases h4:st'.vars[i]?<;>simp[h4] at ga ⊢
         | some u =>
           rw[h3] at ga
           cases h4:st'.vars[i]? with
           | none=>rw[h4] at ga; simp at ga
           | some u' =>
             rw[h4] at ga
             simp only[az,aa] at ga
             simp only[if_true,cE,az,aa]
             cases u with
             | loc g cs =>
               obtain⟨cs',e1,e2,_⟩:=hl i g cs h3
               rw[h4] at e1
               simp at e1; subst e1
               simp[B7,e2]
             | _=>cases u'<;>simp[vw] at ga<;>simp_all [B7,vw]
        ·simp only[gk,if_false]
         cases h3:st.vars[k]?<;>cases h4:st'.vars[k]?<;>simp[h3,h4] at ga ⊢
         exact ga
   have ei:BH false (zf x st) (zf x st'):=by
    cases x with
    | l i=>exact hl
    | c p=>exact hl
    | v i =>
      intro s g cs hs
      simp only[zf,aZ] at hs ⊢
      by_cases td:i=s
      ·subst td
       cases h3:st.vars[i]? with
       | none=>rw[h3] at hs; simp at hs
       | some u=>rw[h3] at hs; cases u<;>simp[B7] at hs
      ·simp only[td,if_false] at hs ⊢
       cases h3:st.vars[s]? with
       | none=>rw[h3] at hs; simp at hs
       | some u =>
         rw[h3] at hs
         simp at hs; subst hs
         obtain⟨cs',e1,e2,e3⟩:=hl s g cs h3
         exact ⟨cs',by simp[e1],e2,e3⟩
   have:=i2 _ jN ei
   simp only[yp,om,ar,this,az,yu]
theorem b66:∀(a b:List PX) (st:St),yu (a++b) st=yu b (yu a st)
 | [],_,_=>rfl
 | x::a,b,st=>by simp only[aW,yu]; exact b66 a b _
theorem I8:∀{a b:List PX} {st:St},yp st (a++b)=(yp st a).bind λf=>(yp f.2 b).map λc=>(f.1++c.1,c.2)
 | [],b,st=>by simp only[bu,yp,ar]; cases yp st b<;>rfl
 | x :: a, b, st => by
   simp only[aW,yp,I8 (a:=a)]
   cases Ab st x with
   | none=>rfl
   | some r =>
     simp only[ar]
     cases yp r.2 a with
     | none=>rfl
     | some f =>
       simp only[ar,az]
       cases yp f.2 b<;>rfl
theorem c1P {cf:wE} {k:Nat} {a b:List PX} {u:PV} {st st1:St} (h:wx cf (.mkfunc k a b) st=some (u,st1)):
  st1=yu (a++b) st∧∀st',(∀x∈a++b,(raw st x).map vw=(raw st' x).map vw)→BH false st st'→wx cf (.mkfunc k a b) st'=some (u,yu (a++b) st'):=by
 simp only[wx,ai,ab,ac] at h
 obtain⟨⟨f,st2⟩,h1,⟨c,st3⟩,h2,rfl,rfl⟩:=h
 have p9:yp st (a++b)=some (f++c,st3):=by rw[I8,h1]; simp[h2]
 obtain⟨e1,e2⟩:=I7 p9
 obtain⟨e3,e4⟩:=I7 h1
 refine⟨e1,?_⟩
 intro st' hv hl
 have g1:=e4 st' (λx hx=>hv x (bW _ hx)) hl
 have g2:=e2 st' hv hl
 rw[I8,g1] at g2
 simp only[ar,ab,ac] at g2
 obtain⟨⟨c',st4⟩,g3,g4,g5⟩:=g2
 have hc:c'=c:=List.append_cancel_left g4
 subst hc
 simp only[wx,g1,ar,g3,az]
 simp only at g5
 rw[g5]
theorem c9G {cf:wE} {u:PV} {st1:St} (hm:xb o≠2) (cX:∀x∈wU o,x∈rs) (h:opv cf o st=some (u,st1)):
  ∃d:Dm,st1=d.app st∧Aj o d∧∀st',Sim o rs st st'→opv cf o st'=some (u,d.app st'):=by
 have pure:st1=st→(∀st',Sim o rs st st'→opv cf o st'=(opv cf o st).map λr=>(r.1,st'))→∃d:Dm,st1=d.app st∧Aj o d∧∀st',Sim o rs st st'→opv cf o st'=some (u,d.app st'):=by
  intro e hs
  refine⟨.none,e,trivial,?_⟩
  intro st' dD
  rw[hs st' dD,h]; rfl
 cases o with
 | h o =>
   have ef:yF (.h o)=2→(∀st',st'.heap=st.heap→(∀x∈xQ o,rd st x=rd st' x)→(∀x∈xQ o,addr st x=addr st' x)→wx cf o st'=(wx cf o st).map λr=>(r.1,{ st' with heap:=r.2.heap }))→(∀u st1,wx cf o st=some (u,st1)→st1={ st with heap:=st1.heap }) →
     ∃d:Dm,st1=d.app st∧Aj (.h o) d∧∀st',Sim (.h o) rs st st'→opv cf (.h o) st'=some (u,d.app st'):=by
    intro h2 hs he
    have h':wx cf o st=some (u,st1):=h
    refine⟨.heap st1.heap,he _ _ h',h2,?_⟩
    intro st' dD
    show wx cf o st'=_
    rw[hs st' (dD.heap (by omega)) (λx hx=>dD.rd (cX x hx)) (λx hx=>dD.addr (cX x hx)),h']
    rfl
   have eZ:(∀u st1,wx cf o st=some (u,st1)→st1=st)→(∀st',(1≤yF (.h o)→st'.heap=st.heap)→(∀x∈xQ o,rd st x=rd st' x)→(∀x∈xQ o,addr st x=addr st' x)→wx cf o st'=(wx cf o st).map λr=>(r.1,st')) →
     ∃d:Dm,st1=d.app st∧Aj (.h o) d∧∀st',Sim (.h o) rs st st'→opv cf (.h o) st'=some (u,d.app st'):=by
    intro e hs
    refine pure (e _ _ h) ?_
    intro st' dD
    exact hs st' dD.heap (λx hx=>dD.rd (cX x hx)) (λx hx=>dD.addr (cX x hx))
   have rdI:∀{st st':St} {x:PX},rd st x=rd st' x→rdInt st x=rdInt st' x:=by intro st st' x hx; unfold PI.rdInt; rw[hx]
   have rdA:∀{st st':St} {xs:List PX},(∀x∈xs,rd st x=rd st' x)→rdAll st xs=rdAll st' xs:=by
    intro st st' xs
    induction xs with
    | nil=>intro _; rfl
    | cons x xs ih=>intro hx; simp only[PI.rdAll]; rw[hx x (by simp),ih (λy hy=>hx y (by simp[hy]))]
   cases o with
   | happ size agg by' a x =>
     have h':wx cf (.happ size agg by' a x) st=some (u,st1):=h
     simp only[wx] at h'
     split at h'
     ·rename_i xs n sz ag len hx oo
      have key:∀st',Sim (.h (.happ size agg by' a x)) rs st st'→b3t st' x=some xs∧raw st' a=some (.rowp n sz ag len)∧st'.heap=st.heap:=by
       intro st' dD
       refine⟨by rw[← hx]; exact (I4 dD (cX x (by simp[wU,xQ])) (by simp[yF])).symm,?_,dD.heap (by simp[yF])⟩
       have:=dD.reads a (cX a (by simp[wU,xQ]))
       rw[oo] at this
       cases fl:raw st' a with
       | none=>rw[fl] at this; simp at this
       | some v' =>
         rw[fl] at this
         cases v'<;>simp[vw] at this
         obtain⟨rfl,rfl,rfl,rfl⟩:=this
         rfl
      split at h'
      ·rename_i cs dF
       split at h'
       ·rename_i hc
        simp only[aa,ac] at h'
        obtain⟨rfl,rfl⟩:=h'
        refine⟨.heap _,rfl,rfl,?_⟩
        intro st' dD
        obtain⟨k1,k2,k3⟩:=key st' dD
        simp only[opv,wx,k1,k2,k3,dF]
        rw[ah hc]
        rfl
       ·simp at h'
      ·simp at h'
     ·rename_i xs hx oo
      have key:∀st',Sim (.h (.happ size agg by' a x)) rs st st'→b3t st' x=some xs∧raw st' a=some (.list true [])∧st'.heap=st.heap:=by
       intro st' dD
       exact ⟨by rw[← hx]; exact (I4 dD (cX x (by simp[wU,xQ])) (by simp[yF])).symm,(dD.takes a (by simp[yG]) []).1 oo,dD.heap (by simp[yF])⟩
      split at h'
      ·rename_i jd
       simp only[aa,ac] at h'
       obtain⟨rfl,rfl⟩:=h'
       refine⟨.heap st.heap,rfl,rfl,?_⟩
       intro st' dD
       obtain⟨k1,k2,k3⟩:=key st' dD
       simp only[opv,wx,k1,k2,k3]
       rw[ah jd]
       simp only[Dm.app,← k3]
      ·rename_i jd
       split at h'
       ·rename_i hc
        simp only[aa,ac] at h'
        obtain⟨rfl,rfl⟩:=h'
        refine⟨.heap _,rfl,rfl,?_⟩
        intro st' dD
        obtain⟨k1,k2,k3⟩:=key st' dD
        simp only[opv,wx,k1,k2,k3]
        rw[af jd,ah hc]
        rfl
       ·simp at h'
     ·rename_i xs hx oo
      have key:∀st',Sim (.h (.happ size agg by' a x)) rs st st'→b3t st' x=some xs∧raw st' a=some .nils∧st'.heap=st.heap:=by
       intro st' dD
       refine⟨by rw[← hx]; exact (I4 dD (cX x (by simp[wU,xQ])) (by simp[yF])).symm,?_,dD.heap (by simp[yF])⟩
       have:=dD.reads a (cX a (by simp[wU,xQ]))
       rw[oo] at this
       cases fl:raw st' a with
       | none=>rw[fl] at this; simp at this
       | some v' =>
         rw[fl] at this
         cases v'<;>simp[vw] at this
         rfl
      split at h'
      ·rename_i jd
       simp only[aa,ac] at h'
       obtain⟨rfl,rfl⟩:=h'
       refine⟨.heap st.heap,rfl,rfl,?_⟩
       intro st' dD
       obtain⟨k1,k2,k3⟩:=key st' dD
       simp only[opv,wx,k1,k2,k3]
       rw[ah jd]
       simp only[Dm.app,← k3]
      ·rename_i jd
       split at h'
       ·rename_i hc
        simp only[aa,ac] at h'
        obtain⟨rfl,rfl⟩:=h'
        refine⟨.heap _,rfl,rfl,?_⟩
        intro st' dD
        obtain⟨k1,k2,k3⟩:=key st' dD
        simp only[opv,wx,k1,k2,k3]
        rw[af jd,ah hc]
        rfl
       ·simp at h'
     ·simp at h'
   | happz size agg by' z a x =>
     refine ef rfl (λst' hh hr _ =>?_) (λu st1 h =>?_)
     ·simp only[wx,hh,← rdI (hr x (by simp[xQ])),← hr a (by simp[xQ])]
      (repeat' split)<;>rfl
     ·simp only[wx] at h
      (repeat' split at h)<;>simp at h
      rw[← h.2]
   | clear size x =>
     refine ef rfl (λst' hh hr _ =>?_) (λu st1 h =>?_)
     ·simp only[wx,hh,← hr x (by simp[xQ])]
      (repeat' split)<;>rfl
     ·simp only[wx] at h
      (repeat' split at h)<;>simp at h
      rw[← h.2]
   | mkarr size agg by' z x =>
     refine ef rfl (λst' hh hr _ =>?_) (λu st1 h =>?_)
     ·simp only[wx,hh,← rdI (hr x (by simp[xQ]))]
      (repeat' split)<;>rfl
     ·simp only[wx] at h
      (repeat' split at h)<;>simp at h
      rw[← h.2]
   | range x =>
     refine ef rfl (λst' hh hr _ =>?_) (λu st1 h =>?_)
     ·simp only[wx,hh,← hr x (by simp[xQ])]
      (repeat' split)<;>rfl
     ·simp only[wx] at h
      (repeat' split at h)<;>simp at h
      rw[← h.2]
   | next x =>
     refine ef rfl (λst' hh hr _ =>?_) (λu st1 h =>?_)
     ·simp only[wx,← hr x (by simp[xQ])]
      split
      ·rw[hh]
       split
       ·split
        ·simp only[wV,hh]; rfl
        ·simp only[az,← hh]
       ·rfl
      ·rfl
     ·simp only[wx] at h
      (repeat' split at h)<;>simp at h
      ·rw[← h.2]; rfl
      ·rw[← h.2]
   | storer size agg a x =>
     refine ef rfl (λst' hh hr ha =>?_) (λu st1 h =>?_)
     ·have hg:∀n,xF st' n=xF st n:=λn=>by unfold xF; rw[hh]
      simp only[wx,← ha a (by simp[xQ]),← hr x (by simp[xQ]),hg]
      split
      ·rename_i n off v _ _
       split
       ·rfl
       ·cases xF st n with
        | none=>rfl
        | some cs =>
          simp only[ar]
          cases wM size agg cs off v with
          | none=>rfl
          | some cs'=>simp only[az,wV,hh]
      ·rfl
     ·simp only[wx] at h
      split at h
      ·split at h
       ·simp at h
       ·simp only[ai,ab,ac] at h
        obtain⟨_,_,_,_,_,e⟩:=h
        rw[← e]; rfl
      ·simp at h
   | store size agg a x=>simp[xb] at hm
   | mset kagg ks m k v=>simp[xb] at hm
   | mkfunc k a b =>
     obtain⟨e1,e2⟩:=c1P (st:=st) (by simpa[opv] using h)
     by_cases oq:(a++b).isEmpty=true
     ·have p9:a++b=[]:=by simpa using oq
      rw[p9] at e1 e2
      refine⟨.none,e1,trivial,?_⟩
      intro st' hs
      have:a=[]∧b=[]:=by simpa using p9
      obtain⟨rfl,rfl⟩:=this
      have h':wx cf (.mkfunc k [] []) st=some (u,st1):=h
      simp only[wx,yp,ar,az,aa,ac] at h'
      obtain⟨rfl,_⟩:=h'
      rfl
     ·have te:xb (.h (.mkfunc k a b))=4:=by simp only[xb,oq,if_false]; rfl
      refine⟨.shut (a++b),e1,⟨te,rfl⟩,?_⟩
      intro st' hs
      have hl:=hs.mem (by omega)
      rw[te] at hl
      exact e2 st' (λx hx=>hs.reads x (cX x hx)) hl
   | newobj z=>exact ef rfl (λst' hh _ _=>by simp only[wx,hh]; rfl) (λu st1 h=>by simp only[wx,aa,ac] at h; rw[← h.2])
   | newbld=>exact ef rfl (λst' hh _ _=>by simp only[wx,hh]; rfl) (λu st1 h=>by simp only[wx,aa,ac] at h; rw[← h.2])
   | mkmap=>exact ef rfl (λst' hh _ _=>by simp only[wx,hh]; rfl) (λu st1 h=>by simp only[wx,aa,ac] at h; rw[← h.2])
   | boxobj n x =>
     refine ef rfl (λst' hh hr _ =>?_) (λu st1 h =>?_)
     ·simp only[wx,hh,← hr x (by simp[xQ])]
      (repeat' split)<;>rfl
     ·simp only[wx] at h
      (repeat' split at h)<;>simp at h
      rw[← h.2]
   | call k args =>
     refine ef rfl (λst' hh hr _ =>?_) (λu st1 h =>?_)
     ·have e:rdAll st args=rdAll st' args:=rdA hr
      simp only[wx,hh,← e]
      cases rdAll st args with
      | none=>rfl
      | some vs=>simp only[ar,aE]; rfl
     ·simp only[wx,ai,ab,ac] at h
      obtain⟨_,_,_,_,_,e⟩:=h
      rw[← e]
   | rcall k args =>
     refine eZ (λu st1 h =>?_) (λst' hh hr _ =>?_)
     ·simp only[wx,ai,same] at h
      obtain⟨_,_,_,_,e⟩:=h
      split at e
      ·simp only[aa,ac] at e; exact e.2.symm
      ·simp at e
     ·have e:rdAll st args=rdAll st' args:=rdA hr
      simp only[wx,hh (by simp[yF]),← e]
      cases rdAll st args with
      | none=>rfl
      | some vs =>
        simp only[ar]
        cases cf k vs st.heap with
        | none=>rfl
        | some r =>
          simp only[ar,same,hh (by simp[yF])]
          by_cases he:r.2=st.heap
          ·rw[ah he,ah he]; rfl
          ·rw[af he,af he]; rfl
   | bcall k args=>simp[opv,wx] at h
   | bcallv x args=>simp[opv,wx] at h
   | callv x args =>
     refine ef rfl (λst' hh hr _ =>?_) (λu st1 h =>?_)
     ·have e:=rdA (xs:=args) (st':=st') (λy hy=>hr y (by simp only[xQ]; exact bD _ hy))
      simp only[wx,hh,← hr x (by simp[xQ]),← e]
      split
      ·simp only[aE]; rfl
      ·rfl
     ·simp only[wx] at h
      split at h
      ·simp only[ab,ac] at h
       obtain⟨_,_,_,e⟩:=h
       rw[← e]
      ·simp at h
   | iaddr len size x i =>
     refine eZ (λu st1 h =>?_) (λst' _ hr ha =>?_)
     ·simp only[wx] at h
      (repeat' split at h)<;>simp at h
      exact h.2.symm
     ·simp only[wx,← ha x (by simp[xQ]),← rdI (hr i (by simp[xQ]))]
      (repeat' split)<;>rfl
   | isnil kd neg x =>
     refine eZ (λu st1 h =>?_) (λst' _ hr _ =>?_)
     ·simp only[wx,ab,ac] at h
      obtain⟨_,_,_,e⟩:=h; exact e.symm
     ·simp only[wx,← hr x (by simp[xQ]),aE]; rfl
   | nilchk x =>
     refine eZ (λu st1 h =>?_) (λst' _ _ ha =>?_)
     ·simp only[wx] at h
      (repeat' split at h)<;>simp at h<;>exact h.2.symm
     ·simp only[wx,← ha x (by simp[xQ])]
      (repeat' split)<;>rfl
   | loadc size agg a =>
     refine eZ (λu st1 h =>?_) (λst' _ hr _ =>?_)
     ·simp only[wx] at h
      split at h
      ·simp only[ab,ac] at h
       obtain⟨_,_,_,e⟩:=h; exact e.symm
      ·simp at h
     ·simp only[wx,← hr a (by simp[xQ])]
      split
      ·simp only[aE]; rfl
      ·rfl
   | barr z ps =>
     refine eZ (λu st1 h =>?_) (λst' _ hr _ =>?_)
     ·simp only[wx,ab,ac] at h
      obtain⟨_,_,_,e⟩:=h; exact e.symm
     ·have e:∀xs:List (Nat×Nat×PX),(∀x∈xs,rd st x.2.2=rd st' x.2.2)→rdParts st xs=rdParts st' xs:=by
       intro xs
       induction xs with
       | nil=>intro _; rfl
       | cons x xs ih =>
         obtain⟨a,b,x⟩:=x
         intro hx
         simp only[PI.rdParts]
         rw[hx (a,b,x) (by simp),ih (λy hy=>hx y (by simp[hy]))]
      simp only[wx,← e ps (λx hx=>hr _ (by simp only[xQ]; exact List.mem_map_of_mem hx)),aE]; rfl
   | idxA len size agg x i =>
     refine eZ (λu st1 h =>?_) (λst' _ hr _ =>?_)
     ·simp only[wx] at h
      split at h
      ·split at h
       ·simp only[ab,ac] at h
        obtain⟨_,_,_,e⟩:=h; exact e.symm
       ·simp at h
      ·simp at h
     ·simp only[wx,← hr x (by simp[xQ]),← rdI (hr i (by simp[xQ]))]
      split
      ·split
       ·simp only[aE]; rfl
       ·rfl
      ·rfl
   | mlen m =>
     refine eZ (λu st1 h =>?_) (λst' hh hr _ =>?_)
     ·simp only[wx] at h
      split at h
      ·simp only[ab,ac] at h
       obtain⟨_,_,_,e⟩:=h; exact e.symm
      ·simp at h
     ·simp only[wx,← hr m (by simp[xQ]),xt,hh (by simp[yF])]
      split
      ·simp only[aE]; rfl
      ·rfl
   | load size agg a tkn =>
     by_cases ek:tkn=true
     ·subst ek
      refine ef rfl (λst' hh _ ha =>?_) (λu st1 h =>?_)
      ·simp only[wx,← ha a (by simp[xQ]),xF,hh,wV]
       split
       ·cases wD size agg _ 0<;>simp<;>rw[← hh]
       ·split
        ·simp only[ar]
         split
         ·simp[hh]
         ·cases wD size agg _ _<;>simp<;>rw[← hh]
        ·rfl
       ·rfl
      ·simp only[wx] at h
       split at h
       ·simp only[ab,ac] at h
        obtain⟨_,_,_,e⟩:=h; rw[← e]
       ·simp only[ai] at h
        obtain⟨cs,_,h⟩:=h
        split at h
        ·simp only[aa,ac] at h; rw[← h.2]; rfl
        ·simp only[ab,ac] at h
         obtain⟨_,_,_,e⟩:=h; rw[← e]
       ·simp at h
     ·have mL:tkn=false:=by simpa using ek
      subst mL
      refine eZ (λu st1 h =>?_) (λst' hh _ ha =>?_)
      ·simp only[wx] at h
       split at h
       ·simp only[ab,ac] at h
        obtain⟨_,_,_,e⟩:=h; exact e.symm
       ·simp only[ai,bK] at h
        obtain⟨cs,_,h⟩:=h
        simp only[ab,ac] at h
        obtain⟨_,_,_,e⟩:=h; exact e.symm
       ·simp at h
      ·simp only[wx,← ha a (by simp[xQ]),xF,hh (by simp[yF]),bK]
       split
       ·simp only[aE]; rfl
       ·split
        ·simp only[ar,aE]; rfl
        ·rfl
       ·rfl
   | lookup ok tkn kagg ks zero m x =>
     by_cases ek:tkn=true
     ·subst ek
      refine ef rfl (λst' hh hr _ =>?_) (λu st1 h =>?_)
      ·have ri:∀n,xt st' n=xt st n:=λn=>by unfold xt; rw[hh]
       simp only[wx,← hr m (by simp[xQ]),← hr x (by simp[xQ]),ri,hh,wV]
       split
       ·rename_i n k _ _
        cases xt st n with
        | none=>rfl
        | some es =>
          simp only[ar]
          cases yk kagg ks k es 0 with
          | none=>rfl
          | some r =>
            cases r with
            | none=>simp; rw[← hh]
            | some iv =>
              simp only[ar]
              split
              ·simp
              ·simp; rw[← hh]
       ·rfl
      ·simp only[wx] at h
       split at h
       ·simp only[ai] at h
        obtain⟨es,_,r,_,h⟩:=h
        split at h
        ·split at h
         ·simp only[aa,ac] at h; rw[← h.2]; rfl
         ·simp only[aa,ac] at h; rw[← h.2]
        ·simp only[aa,ac] at h; rw[← h.2]
       ·simp at h
     ·have mL:tkn=false:=by simpa using ek
      subst mL
      refine eZ (λu st1 h =>?_) (λst' hh hr _ =>?_)
      ·simp only[wx] at h
       split at h
       ·simp only[ai,bK] at h
        obtain⟨es,_,r,_,h⟩:=h
        split at h
        ·simp at h; exact h.2.symm
        ·simp at h; exact h.2.symm
       ·simp at h
      ·have ri:∀n,xt st' n=xt st n:=λn=>by unfold xt; rw[hh (by simp[yF])]
       simp only[wx,← hr m (by simp[xQ]),← hr x (by simp[xQ]),ri,bK]
       split
       ·rename_i n k _ _
        cases xt st n with
        | none=>rfl
        | some es =>
          simp only[ar]
          cases yk kagg ks k es 0 with
          | none=>rfl
          | some r=>cases r<;>rfl
       ·rfl
 | store size agg a x=>simp[xb] at hm
 | newloc z=>simp[xb] at hm
 | boxloc n x=>simp[xb] at hm
 | sliceLoc n x=>simp[xb] at hm
 | take x =>
   obtain⟨h1,h2⟩:=GH (st:=st) (by simpa[opv] using h)
   refine⟨.src x,h1,by simp[Aj,yG],?_⟩
   intro st' hs
   simpa[opv] using h2 st' (hs.reads x (cX x (by simp[wU]))) (hs.takes x (by simp[yG]))
 | append size bytes s x =>
   simp only[opv] at h
   split at h
   ·rename_i xs es st2 hr ht
    split at h
    ·rename_i hc
     simp only[aa,ac] at h
     obtain⟨rfl,rfl⟩:=h
     obtain⟨h1,h2⟩:=GH ht
     refine⟨.src s,h1,by simp[Aj,yG],?_⟩
     intro st' hs
     have jJ:=h2 st' (hs.reads s (cX s (by simp[wU]))) (hs.takes s (by simp[yG]))
     have fl:(rd st' x).bind Bd=some xs:=by rw[← hs.rd (cX x (by simp[wU]))]; exact hr
     simp only[opv,fl,jJ,ah hc]
    ·simp at h
   ·simp at h
 | loadv s size agg a =>
   simp only[opv] at h
   split at h
   ·rename_i s' g off dH
    split at h
    ·rename_i g' cs hv
     split at h
     ·rename_i hc
      obtain⟨rfl,rfl⟩:=hc
      refine pure (by simp only[ab,ac] at h; obtain⟨_,_,_,e⟩:=h; exact e.symm) ?_
      intro st' hs
      obtain⟨cs',h1,h2⟩:=(hs.slot s' rfl).1 g cs hv
      simp only[opv,(hs.addr (cX a (by simp[wU]))).symm,dH,h1,hv,and_self,if_true]
      rw[← MO h2,aE]
      rfl
     ·simp at h
    ·simp at h
   ·simp at h
 | load size agg a tkn =>
   simp only[opv] at h
   have ha:∀st',Sim (.load size agg a tkn) rs st st'→addr st' a=addr st a:=λst' hs=>(hs.addr (cX a (by simp[wU]))).symm
   split at h
   ·rename_i cs dH
    refine pure (by simp only[ab,ac] at h; obtain⟨_,_,_,e⟩:=h; exact e.symm) ?_
    intro st' hs
    simp only[opv,ha st' hs,dH,aE]
    rfl
   ·rename_i s g off dH
    split at h
    ·rename_i g' cs hv
     split at h
     ·rename_i hg
      subst hg
      split at h
      ·rename_i es ek hcell
       simp only[aa,ac] at h
       obtain⟨rfl,rfl⟩:=h
       simp only[al,bj] at ek
       have app:∀st:St,st.vars[s]? = some (.loc g cs)→{ st with vars:=st.vars.set s (.loc g (cs.set off (.list false es))) }=(Dm.cell s off).app st:=by
        intro st hv
        simp only[Dm.app]
        rw[Eb hv]
        simp only[B6]
        rw[Eb hcell]
        rfl
       refine⟨.cell s off,app st hv,by simp[Aj,xb,ek.1],?_⟩
       intro st' hs
       obtain⟨cs',h1,_,h3⟩:=hs.mem (by simp[xb,ek.1]) s g cs hv
       have:cs'=cs:=h3 (by simp[xb,ek.1])
       subst this
       simp only[opv,ha st' hs,dH,h1,if_true,ek.1,ek.2,Bool.not_false,Bool.and_self,hcell]
       rw[app st' h1]
      ·rename_i eY
       refine pure (by simp only[ab,ac] at h; obtain⟨_,_,_,e⟩:=h; exact e.symm) ?_
       intro st' hs
       obtain⟨cs',h1,h2,h3⟩:=hs.mem (by simp[xb]; split<;>omega) s g cs hv
       simp only[opv,ha st' hs,dH,h1,hv,if_true]
       have uH:=MO (size:=size) (agg:=agg) (off:=off) h2
       cases mM:tkn with
       | false=>simp[mM,← uH]; rfl
       | true =>
         have:cs'=cs:=h3 (by simp[xb,mM])
         subst this
         subst mM
         split
         ·rename_i es' hb j4
          exact absurd j4 (by
           intro j4
           exact eY es' hb j4)
         ·simp; rfl
     ·simp at h
    ·simp at h
   ·simp at h
 | mov x =>
   refine pure (by simp only[opv,ab,ac] at h; obtain⟨_,_,_,e⟩:=h; exact e.symm) ?_
   intro st' hs
   simp only[opv,← hs.rd (cX x (by simp[wU])),aE]; rfl
 | movs x =>
   refine pure (by simp only[opv] at h; split at h<;>simp at h; exact h.2.symm) ?_
   intro st' hs
   simp only[opv,← hs.rd (cX x (by simp[wU]))]
   split<;>rfl
 | pick c x y =>
   refine pure (by simp only[opv] at h; split at h<;>simp at h; obtain⟨_,_,_,e⟩:=h; exact e.symm) ?_
   intro st' hs
   simp only[opv,← hs.rd (cX c (by simp[wU])),← hs.rd (cX x (by simp[wU])),← hs.rd (cX y (by simp[wU]))]
   split
   ·rename_i t _
    cases t
    ·simp only[ay,if_false,← hs.rd (cX y (by simp[wU])),aE]; rfl
    ·simp only[if_true,← hs.rd (cX x (by simp[wU])),aE]; rfl
   ·rfl
 | build z ps =>
   refine pure (by simp only[opv,ab,ac] at h; obtain⟨_,_,_,e⟩:=h; exact e.symm) ?_
   intro st' hs
   simp only[opv,← hs.rdParts (xs:=ps) (λx hx=>cX _ (by simp only[wU]; exact List.mem_map_of_mem hx)),aE]; rfl
 | mkslice size z len ps =>
   refine pure (by simp only[opv,ab,ac] at h; obtain⟨_,_,_,e⟩:=h; exact e.symm) ?_
   intro st' hs
   simp only[opv,← hs.rdElems (xs:=ps) (λx hx=>cX _ (by simp only[wU]; exact List.mem_map_of_mem hx)),aE]; rfl
 | faddr off x =>
   refine pure (by simp only[opv] at h; split at h<;>simp at h<;>exact h.2.symm) ?_
   intro st' hs
   simp only[opv,← hs.addr (cX x (by simp[wU]))]
   split<;>rfl
 | appstr s x =>
   simp only[opv] at h
   split at h
   ·rename_i xs es st2 hr ht
    split at h
    ·rename_i hc
     simp only[aa,ac] at h
     obtain⟨rfl,rfl⟩:=h
     obtain⟨h1,h2⟩:=GH ht
     refine⟨.src s,h1,by simp[Aj,yG],?_⟩
     intro st' hs
     have jJ:=h2 st' (hs.reads s (cX s (by simp[wU]))) (hs.takes s (by simp[yG]))
     have fl:rd st' x=some (.str xs):=by rw[← hs.rd (cX x (by simp[wU]))]; exact hr
     simp only[opv,fl,jJ,ah hc]
    ·simp at h
   ·simp at h
 | b2s x =>
   refine pure (by simp only[opv] at h; split at h<;>simp at h; obtain⟨_,_,_,e⟩:=h; exact e.symm) ?_
   intro st' hs
   simp only[opv,← hs.rd (cX x (by simp[wU]))]
   split
   ·simp only[aE]; rfl
   ·rfl
 | s2b x =>
   refine pure (by simp only[opv] at h; (repeat' split at h)<;>simp at h; exact h.2.symm) ?_
   intro st' hs
   simp only[opv,← hs.rd (cX x (by simp[wU]))]
   (repeat' split)<;>rfl
 | iaddrS size x i =>
   refine pure (by simp only[opv] at h; (repeat' split at h)<;>simp at h<;>exact h.2.symm) ?_
   intro st' hs
   simp only[opv,← hs.rd (cX x (by simp[wU])),← hs.rdInt (cX i (by simp[wU]))]
   (repeat' split)<;>rfl
 | iaddrA len size x i =>
   refine pure (by simp only[opv] at h; (repeat' split at h)<;>simp at h<;>exact h.2.symm) ?_
   intro st' hs
   simp only[opv,← hs.addr (cX x (by simp[wU])),← hs.rdInt (cX i (by simp[wU]))]
   (repeat' split)<;>rfl
 | field off size agg x =>
   refine pure (by simp only[opv] at h; split at h<;>simp at h; obtain⟨_,_,_,e⟩:=h; exact e.symm) ?_
   intro st' hs
   simp only[opv,← hs.rd (cX x (by simp[wU]))]
   split
   ·simp only[aE]; rfl
   ·rfl
 | indexStr x i =>
   refine pure (by simp only[opv] at h; (repeat' split at h)<;>simp at h; exact h.2.symm) ?_
   intro st' hs
   simp only[opv,← hs.rd (cX x (by simp[wU])),← hs.rdInt (cX i (by simp[wU]))]
   (repeat' split)<;>rfl
 | slice str size x lo hi =>
   have mJ:∀y∈lo.toList,y∈rs:=λy hy=>cX y (by simp only[wU,aA,ax]; exact .inr (.inl hy))
   have uI:∀y∈hi.toList,y∈rs:=λy hy=>cX y (by simp only[wU,aA,ax]; exact .inr (.inr hy))
   refine pure (by
    simp only[opv] at h
    split at h
    ·simp only[ai,ab,ac] at h
     obtain⟨_,_,_,_,_,e⟩:=h; exact e.symm
    ·split at h
     ·simp only[ai,ab,ac] at h
      obtain⟨_,_,_,_,_,e⟩:=h; exact e.symm
     ·simp at h
    ·simp only[ai,ab,ac] at h
     obtain⟨_,_,_,_,_,e⟩:=h; exact e.symm
    ·split at h
     ·simp only[ai,ab,ac] at h
      obtain⟨_,_,_,_,_,e⟩:=h; exact e.symm
     ·simp at h
    ·simp at h) ?_
   intro st' hs
   simp only[opv,← hs.rd (cX x (by simp[wU])),← hs.bound mJ,← hs.bound uI]
   split
   ·simp only[Option.map_bind,Function.comp_def,aE]
   ·split
    ·simp only[Option.map_bind,Function.comp_def,aE]
    ·rfl
   ·simp only[Option.map_bind,Function.comp_def,aE]
   ·split
    ·simp only[Option.map_bind,Function.comp_def,aE]
    ·rfl
   ·rfl
 | bin op x y =>
   refine pure (by simp only[opv] at h; split at h<;>simp at h; obtain⟨_,_,_,e⟩:=h; exact e.symm) ?_
   intro st' hs
   simp only[opv,← hs.rd (cX x (by simp[wU])),← hs.rd (cX y (by simp[wU]))]
   split
   ·simp only[aE]; rfl
   ·rfl
 | eq neg agg ks x y =>
   refine pure (by
    simp only[opv] at h
    split at h
    ·simp only[ab,ac] at h
     obtain⟨_,_,_,e⟩:=h; exact e.symm
    ·simp at h) ?_
   intro st' hs
   simp only[opv,← hs.rd (cX x (by simp[wU])),← hs.rd (cX y (by simp[wU]))]
   split
   ·simp only[aE]; rfl
   ·rfl
 | un op x =>
   refine pure (by simp only[opv] at h; split at h<;>simp at h; obtain⟨_,_,_,e⟩:=h; exact e.symm) ?_
   intro st' hs
   simp only[opv,← hs.rd (cX x (by simp[wU]))]
   split
   ·simp only[aE]; rfl
   ·rfl
 | convInt k x =>
   refine pure (by simp only[opv,ab,ac] at h; obtain⟨_,_,_,e⟩:=h; exact e.symm) ?_
   intro st' hs
   simp only[opv,← hs.rdInt (cX x (by simp[wU])),aE]; rfl
 | extract i x =>
   refine pure (by
    simp only[opv] at h
    split at h
    ·simp only[ab,ac] at h
     obtain⟨_,_,_,e⟩:=h; exact e.symm
    ·simp at h) ?_
   intro st' hs
   simp only[opv,← hs.rd (cX x (by simp[wU]))]
   split
   ·simp only[aE]; rfl
   ·rfl
 | len str x =>
   refine pure (by simp only[opv] at h; split at h<;>simp at h<;>exact h.2.symm) ?_
   intro st' hs
   simp only[opv,← hs.rd (cX x (by simp[wU]))]
   split<;>rfl
 | cap x =>
   refine pure (by simp only[opv] at h; split at h<;>simp at h<;>exact h.2.symm) ?_
   intro st' hs
   simp only[opv,← hs.rd (cX x (by simp[wU]))]
   split<;>rfl
 | minmax mx xs =>
   refine pure (by simp only[opv] at h; split at h<;>simp at h; obtain⟨_,_,_,e⟩:=h; exact e.symm) ?_
   intro st' hs
   simp only[opv,← hs.rdAll (xs:=xs) (λx hx=>cX x (by simpa[wU] using hx))]
   split
   ·simp only[aE]; rfl
   ·rfl
 | pcall k xs =>
   refine pure (by simp only[opv] at h; (repeat' split at h)<;>simp at h; exact h.2.symm) ?_
   intro st' hs
   simp only[opv,← hs.rdAll (xs:=xs) (λx hx=>cX x (by simpa[wU] using hx))]
   (repeat' split)<;>rfl
 | pcallx k xs own =>
   cases own with
   | none =>
     refine pure (by simp only[opv] at h; (repeat' split at h)<;>simp at h; exact h.2.symm) ?_
     intro st' hs
     simp only[opv,← hs.rdAll (xs:=xs) (λx hx=>cX x (by simpa[wU] using hx))]
     (repeat' split)<;>rfl
   | some i =>
     simp only[opv] at h
     split at h
     ·rename_i v st2 us ht eT
      split at h
      ·rename_i cP
       split at h
       ·rename_i r h' hc
        split at h
        ·rename_i hr
         simp only[aa,ac] at h
         obtain⟨rfl,rfl⟩:=h
         simp only[ai] at ht
         obtain⟨x,hx,ht⟩:=ht
         have uJ:x∈xs:=aw hx
         obtain⟨h1,h2⟩:=GH ht
         refine⟨.src x,h1,by simp[Aj,yG,hx],?_⟩
         intro st' hs
         have jJ:=h2 st' (hs.reads x (cX x (by simpa[wU] using uJ))) (hs.takes x (by simp[yG,hx]))
         simp only[opv,hx,ar,jJ,← hs.rdAll (xs:=xs) (λx hx=>cX x (by simpa[wU] using hx)),eT,ah cP,hc,ah hr]
        ·simp at h
       ·simp at h
      ·simp at h
     ·simp at h
 | callv x xs =>
   refine pure (by simp only[opv] at h; (repeat' split at h)<;>simp at h; exact h.2.symm) ?_
   intro st' hs
   simp only[opv,← hs.rd (cX x (by simp[wU])),← hs.rdAll (xs:=xs) (λy hy=>cX y (by simp only[wU]; exact bD _ hy))]
   (repeat' split)<;>rfl
end
end PI
