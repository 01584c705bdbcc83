import Derived.Test.YtljbhgpanekomaaGreatPiComp
set_option linter.unusedSimpArgs false
set_option linter.unusedVariables false
set_option linter.unusedSectionVars false
namespace PI
def wU:POp→Nat
 | .h (.buildA ..) | .h (.store ..) | .h (.mset ..) | .h (.bcall ..) | .h (.bcallv ..)=>2
 | .h (.mkfunc _ a b)=>if (a++b).isEmpty then 0 else 4
 | .load _ _ _ tk=>if tk then 3 else 1
 | .store .. | .newloc _ | .boxloc .. | .sliceLoc .. => 2
 | _=>0
def x8:POp→Nat
 | .h (.newobj ..) | .h .newbld | .h (.boxobj ..) | .h (.mkarr ..) | .h (.mkrow ..) | .h (.buildA ..) | .h (.loadn ..) | .h (.range ..) | .h (.next ..) | .h .mkmap | .h (.call ..) | .h (.callv ..) | .h (.zcall ..) | .h (.icall ..) | .h (.bcall ..) | .h (.bcallv ..) | .h (.happ ..) | .h (.happz ..) | .h (.clear ..) | .h (.store ..) | .h (.storer ..) | .h (.mset ..)=>2
 | .h (.load _ _ _ tk)=>if tk then 2 else 1
 | .h (.lookup _ tk _ _ _ _ _)=>if tk then 2 else 1
 | .h (.mlen ..) | .h (.rcall ..) | .h (.lcall ..)=>1
 | _=>0
def C8:POp→List PX
 | .h (.mkfunc _ a b)=>a++b
 | _=>[]
def yn:POp→List PX
 | .take x=>[x]
 | .append _ _ s _=>[s]
 | .appstr s _=>[s]
 | .h (.happ _ _ _ s _)=>[s]
 | .pcallx _ xs (some i)=>xs[i]?.toList
 | _=>[]
def yo:PX→PX→Bool
 | .v i,.v j=>i==j
 | .l i,.l j=>i==j
 | _,_=>false
def isX (d:PD) (j:Nat) (x:PX):Bool:=
 match d with
 | .v i=>yo (.v i) x
 | .l=>yo (.l j) x
 | .n=>false
def Ar (p:PO):List PX:=(match p.guard with | some (x,_)=>[x] | none=>[])++wN p.op
def isV:PD→Bool
 | .v _=>true
 | _=>false
def Ef (j:Nat) (p q:PO):Bool:=(Ar q).all (λx => !isX p.dst j x)&&(!isV p.dst||wU q.op==0)
def DG (d d':PD):Bool:=
 match d,d' with
 | .v i,.v j=>i==j
 | _,_=>false
def HY (jp:Nat) (p:PO) (jq:Nat) (q:PO):Bool:=
 wU p.op != 2&&wU q.op != 2 && !(wU p.op==3&&wU q.op==3) && !(wU p.op==4&&wU q.op != 0) && !(wU q.op==4&&wU p.op != 0) &&
 !(x8 p.op==2&&x8 q.op != 0) && !(x8 q.op==2&&x8 p.op != 0)&&(C8 p.op).all (λx => !(Ar q).any (yo x))&&(C8 q.op).all (λx => !(Ar p).any (yo x))&&Ef jp p q&&Ef jq q p && !DG p.dst q.dst&&(yn p.op).all (λx => !(yn q.op).any (yo x))
def vw:PV→PV
 | .list _ es => .list false es
 | .loc g _ => .loc g []
 | v=>v
theorem Ex (v:PV):cp v=cp (vw v):=by cases v<;>rfl
inductive Dm where
 | none
 | src (x:PX)
 | cell (s off:Nat)
 | heap (h:List PObj)
 | shut (xs:List PX)
def Cc (off:Nat):PV→PV
 | .loc g cs => .loc g (cs.modify off dem)
 | v=>v
def Cd:PV→PV
 | .loc _ cs => .cptr (cs.map dem)
 | v=>v
def yE (x:PX) (st:St):St:=
 match x with
 | .v i=>{ st with vars:=st.vars.modify i Cd }
 | _=>st
def x9:List PX→St→St
 | [],st=>st
 | x::xs,st=>x9 xs (yE x st)
def Dm.app:Dm→St→St
 | .heap h,st=>{ st with heap:=h }
 | .shut xs,st=>x9 xs st
 | .none,st=>st
 | .src (.v i),st=>{ st with vars:=st.vars.modify i dem }
 | .src (.l j),st=>{ st with locs:=st.locs.modify j dem }
 | .src (.c _),st=>st
 | .cell s off,st=>{ st with vars:=st.vars.modify s (Cc off) }
def BG (exact:Bool) (st st':St):Prop:=
 ∀(s g:Nat) (cs:List PV),st.vars[s]? = some (.loc g cs)→∃cs',st'.vars[s]? = some (.loc g cs')∧cs'.map dem=cs.map dem∧(exact=true→cs'=cs)
def Li:POp→Option Nat
 | .loadv s _ _ _=>some s
 | _=>none
def C9 (s:Nat) (st st':St):Prop:=∀(g:Nat) (cs:List PV),st.vars[s]? = some (.loc g cs)→∃cs',st'.vars[s]? = some (.loc g cs')∧cs'.map dem=cs.map dem
structure Sim (o:POp) (rs:List PX) (st st':St):Prop where
 reads:∀x∈rs,(raw st x).map vw=(raw st' x).map vw
 takes:∀x∈yn o,∀es,raw st x=some (.list true es)↔raw st' x=some (.list true es)
 mem:1≤wU o→BG (wU o==3) st st'
 heap:1≤x8 o→st'.heap=st.heap
 slot:∀s,Li o=some s→C9 s st st'∧C9 s st' st
section
variable {o:POp} {rs:List PX} {st st':St}
theorem Sim.rd (h:Sim o rs st st') {x:PX} (hx:x∈rs):rd st x=rd st' x:=by
 have:=h.reads x hx
 unfold PI.rd
 cases h1:raw st x<;>cases h2:raw st' x<;>simp[h1,h2] at this ⊢
 rw[Ex,this,← Ex]
theorem Sim.rdInt (h:Sim o rs st st') {x:PX} (hx:x∈rs):rdInt st x=rdInt st' x:=by
 unfold PI.rdInt; rw[h.rd hx]
theorem Lj (h:Sim o rs st st') {x:PX} (hx:x∈rs) (hm:1≤x8 o):b2G st x=b2G st' x:=by
 unfold PI.b2G
 rw[h.rd hx]
 unfold wR
 rw[h.heap hm]
def Lk (x:PX) (r:Option PV):Option PV:=
 match x,r with
 | .v i,some (.loc g _)=>some (.lptr i g 0)
 | _,some (.lptr s g off)=>some (.lptr s g off)
 | _,some v=>cp v
 | _,none=>none
theorem H2 (st:St) (x:PX):addr st x=Lk x (raw st x):=rfl
theorem Qh (x:PX) (v:PV):Lk x (some v)=Lk x (some (vw v)):=by
 cases v<;>cases x<;>rfl
theorem Sim.addr (h:Sim o rs st st') {x:PX} (hx:x∈rs):addr st x=addr st' x:=by
 have:=h.reads x hx
 rw[H2,H2]
 cases h1:raw st x<;>cases h2:raw st' x<;>simp[h1,h2] at this ⊢
 rw[Qh,this,← Qh]
theorem Sim.rdAll (h:Sim o rs st st'):∀{xs:List PX},(∀x∈xs,x∈rs)→rdAll st xs=rdAll st' xs
 | [],_=>rfl
 | x :: xs, hx => by
   simp only[PI.rdAll]
   rw[h.rd (hx x (by simp)),h.rdAll (xs:=xs) (λy hy=>hx y (by simp[hy]))]
theorem Sim.rdParts (h:Sim o rs st st'):∀{xs:List (Nat×Nat×PX)},(∀x∈xs,x.2.2∈rs)→rdParts st xs=rdParts st' xs
 | [],_=>rfl
 | (a, b, x) :: xs, hx => by
   simp only[PI.rdParts]
   rw[h.rd (hx (a,b,x) (by simp)),h.rdParts (xs:=xs) (λy hy=>hx y (by simp[hy]))]
theorem Sim.rdElems (h:Sim o rs st st'):∀{xs:List (Nat×PX)},(∀x∈xs,x.2∈rs)→rdElems st xs=rdElems st' xs
 | [],_=>rfl
 | (a, x) :: xs, hx => by
   simp only[PI.rdElems]
   rw[h.rd (hx (a,x) (by simp)),h.rdElems (xs:=xs) (λy hy=>hx y (by simp[hy]))]
theorem Sim.bound (h:Sim o rs st st') {x:Option PX} (hx:∀y∈x.toList,y∈rs) (d m:Nat):bound st x d m=bound st' x d m:=by
 cases x with
 | none=>rfl
 | some y=>simp only[PI.bound]; rw[h.rdInt (hx y (by simp))]
theorem Ey {l:List PV} {i:Nat} {v:PV} (h:l[i]? = some v) (f:PV→PV):l.modify i f=l.set i (f v):=by
 apply bL
 intro k
 rw[bg,aO]
 by_cases hk:i=k
 ·subst hk
  obtain⟨cS,rfl⟩:=ai.1 h
  simp[cS]
 ·simp[hk]
theorem Ll {l:List PV} {i:Nat} {f:PV→PV} (h:∀v,l[i]? = some v→f v=v):l.modify i f=l:=by
 apply bL
 intro k
 rw[bg]
 by_cases hk:i=k
 ·subst hk
  cases hv:l[i]? with
  | none=>simp
  | some v=>simp[h v hv]
 ·simp[hk]
theorem Ia {x:PX} {u:PV} {st1:St} (h:tk st x=some (u,st1)):st1=(Dm.src x).app st∧∀st',(raw st x).map vw=(raw st' x).map vw→(∀es,raw st x=some (.list true es)↔raw st' x=some (.list true es))→tk st' x=some (u,(Dm.src x).app st'):=by
 have app_own:∀(st:St) (es:List PV),raw st x=some (.list true es)→Bp st x (.list false es)=(Dm.src x).app st:=by
  intro st es hr
  cases x with
  | v i=>simp only[Bp,Dm.app]; rw[Ey hr]; rfl
  | l i=>simp only[Bp,Dm.app]; rw[Ey hr]; rfl
  | c p=>rfl
 have app_id:∀(st:St),(∀v,raw st x=some v→dem v=v)→(Dm.src x).app st=st:=by
  intro st hv
  cases x with
  | v i=>simp only[Dm.app]; rw[Ll hv]
  | l i=>simp only[Dm.app]; rw[Ll hv]
  | c p=>rfl
 have dem_id:∀v:PV,(∀es,v≠.list true es)→dem v=v:=by
  intro v hv
  cases v<;>try rfl
  rename_i own es
  cases own with
  | true=>exact absurd rfl (hv es)
  | false=>rfl
 unfold tk at h
 split at h
 ·rename_i es hr
  simp only[aa,ac] at h
  obtain⟨rfl,rfl⟩:=h
  refine⟨app_own st es hr,?_⟩
  intro st' _ h2
  have fo:=(h2 es).1 hr
  unfold tk
  rw[fo]
  simp only[aa,ac,true_and]
  exact app_own st' es fo
 ·rename_i v mN hr
  simp only[ab,ac] at h
  obtain⟨r,eY,rfl,rfl⟩:=h
  refine⟨(app_id _ (λv' dS=>by rw[hr] at dS; simp at dS; subst dS; exact dem_id _ mN)).symm,?_⟩
  intro st' h1 h2
  have oR:∀es,raw st' x≠some (.list true es):=λes e=>by
   have:=(h2 es).2 e
   rw[hr] at this; simp at this; exact mN es this
  cases hv:raw st' x with
  | none=>rw[hr,hv] at h1; simp at h1
  | some v' =>
    have vz:vw v=vw v':=by rw[hr,hv] at h1; simpa using h1
    have fN:cp v'=some r:=by rw[Ex,← vz,← Ex]; exact eY
    have cZ:∀es,v'≠.list true es:=λes e=>oR es (by rw[hv,e])
    have fO:=app_id st' (λv2 gJ=>by rw[hv] at gJ; simp at gJ; subst gJ; exact dem_id _ cZ)
    unfold tk
    rw[hv]
    split
    ·rename_i es he; simp at he; exact absurd he (cZ es)
    ·rename_i v2 _ he
     simp at he; subst he
     simp[fN,fO]
    ·rename_i he; simp at he
 ·simp at h
theorem Lm {size:Nat} {agg:Bool} {cs cs':List PV} {off:Nat} (h:cs'.map dem=cs.map dem):wq size agg cs off=wq size agg cs' off:=by
 have hl:cs'.length=cs.length:=by simpa using aF List.length h
 unfold wq
 rw[hl]
 split
 ·split
  ·congr 2
   have:=aF (λl=>(l.drop off).take size) h
   simpa using this.symm
  ·rfl
 ·have hg:(cs[off]?).map dem=(cs'[off]?).map dem:=by
   have:=aF (λl=>l[off]?) h
   simpa using this.symm
  cases h1:cs[off]? with
  | none => cases h2 : cs'[off]? with
    | none=>rfl
    | some v=>rw[h1,h2] at hg; simp at hg
  | some v => cases h2 : cs'[off]? with
    | none=>rw[h1,h2] at hg; simp at hg
    | some v' =>
      rw[h1,h2] at hg
      simp at hg
      have:∀x,cp x=cp (dem x):=λx=>by cases x<;>rfl
      simp only
      rw[this v,hg,← this v']
def z7 (o:POp) (d:Dm):Prop:=
 match d with
 | .none=>True
 | .src x=>x∈yn o
 | .cell _ _=>wU o=3
 | .heap _=>x8 o=2
 | .shut xs=>wU o=4∧xs=C8 o
theorem Ln:∀{xs:List PX} {st st1:St} {us:List PV},xW st xs=some (us,st1)→st1=x9 xs st ∧
  ∀st',(∀x∈xs,(raw st x).map vw=(raw st' x).map vw)→BG false st st'→xW st' xs=some (us,x9 xs st')
 | [], st, st1, us, h => by
   simp only[xW,aa,ac] at h
   obtain⟨rfl,rfl⟩:=h
   exact ⟨rfl,λst' _ _=>rfl⟩
 | x :: xs, st, st1, us, h => by
   simp only[xW,ae,ab,ac] at h
   obtain⟨⟨v,st2⟩,h1,⟨q,st3⟩,h2,rfl,rfl⟩:=h
   obtain⟨i1,i2⟩:=Ln h2
   have one:st2=yE x st∧∀st',(raw st x).map vw=(raw st' x).map vw→BG false st st'→zI st' x=some (v,yE x st'):=by
    by_cases kl:∃i g cs,x = .v i∧raw st x=some (.loc g cs)
    ·obtain⟨i,g,cs,rfl,hr⟩:=kl
     simp only[zI,hr,aa,ac] at h1
     obtain⟨rfl,rfl⟩:=h1
     have fo:st.vars[i]? = some (.loc g cs):=hr
     refine⟨by simp only[yE]; rw[Ey fo]; rfl,?_⟩
     intro st' _ hl
     obtain⟨cs',e1,e2,_⟩:=hl i g cs fo
     have e1':raw st' (.v i)=some (.loc g cs'):=e1
     unfold zI
     rw[e1']
     simp only[yE]
     rw[Ey e1]
     simp only[Cd,e2]
    ·have fQ:∀i g cs,x = .v i→raw st x=some (.loc g cs)→False:=λi g cs e h=>kl ⟨i,g,cs,e,h⟩
     have fN:∀st:St,(∀i g cs,x = .v i→raw st x=some (.loc g cs)→False)→zI st x=(rd st x).map (·,st):=by
      intro st hn
      unfold zI
      split
      ·rename_i i g cs h; exact absurd h (λh=>hn i g cs rfl h)
      ·rfl
     rw[fN st fQ] at h1
     simp only[ab,ac] at h1
     obtain⟨r,hr,rfl,rfl⟩:=h1
     have fO:∀st:St,(∀i g cs,x = .v i→st.vars[i]?≠some (.loc g cs))→yE x st=st:=by
      intro st hn
      cases x with
      | v i =>
        simp only[yE]
        rw[Ll]
        intro u hu
        cases u<;>first|rfl|exact absurd hu (hn i _ _ rfl)
      | l i=>rfl
      | c p=>rfl
     refine⟨(fO st (λi g cs e h=>fQ i g cs e (by rw[e]; exact h))).symm,?_⟩
     intro st' hv hl
     have oS:∀i g cs,x = .v i→st'.vars[i]?≠some (.loc g cs):=by
      intro i g cs e h
      subst e
      have h':raw st' (.v i)=some (.loc g cs):=h
      rw[h'] at hv
      cases hq:raw st (.v i) with
      | none=>rw[hq] at hv; simp at hv
      | some u =>
        rw[hq] at hv
        simp only[aB,aa] at hv
        cases u<;>simp[vw] at hv
        exact fQ i _ _ rfl hq
     have ji:rd st' x=some r:=by
      unfold rd at hr ⊢
      cases h3:raw st x<;>cases h4:raw st' x<;>simp[h3,h4] at hv hr ⊢
      rw[Ex,← hv,← Ex]; exact hr
     rw[fO st' oS,fN st' (λi g cs e h=>oS i g cs e (by rw[e] at h; exact h))]
     simp[ji]
   obtain⟨o1,o2⟩:=one
   subst o1
   refine⟨i1,?_⟩
   intro st' hv hl
   have oT:=o2 st' (hv x (b8 ..)) hl
   have gJ:∀y∈xs,(raw (yE x st) y).map vw=(raw (yE x st') y).map vw:=by
    intro y hy
    have fJ:=hv y (bx _ hy)
    cases x with
    | l i=>exact fJ
    | c p=>exact fJ
    | v i =>
      cases y with
      | l k=>exact fJ
      | c p=>rfl
      | v k =>
        simp only[yE,raw,bg] at fJ ⊢
        by_cases fT:i=k
        ·subst fT
         cases h3:st.vars[i]? with
         | none=>rw[h3] at fJ; cases h4:st'.vars[i]?<;>simp[h4] at fJ ⊢
         | some u =>
           rw[h3] at fJ
           cases h4:st'.vars[i]? with
           | none=>rw[h4] at fJ; simp at fJ
           | some u' =>
             rw[h4] at fJ
             simp only[aB,aa] at fJ
             simp only[if_true,cJ,aB,aa]
             cases u with
             | loc g cs =>
               obtain⟨cs',e1,e2,_⟩:=hl i g cs h3
               rw[h4] at e1
               simp at e1; subst e1
               simp[Cd,e2]
             | _=>cases u'<;>simp[vw] at fJ<;>simp_all [Cd,vw]
        ·simp only[fT,if_false]
         cases h3:st.vars[k]?<;>cases h4:st'.vars[k]?<;>simp[h3,h4] at fJ ⊢
         exact fJ
   have eu:BG false (yE x st) (yE x st'):=by
    cases x with
    | l i=>exact hl
    | c p=>exact hl
    | v i =>
      intro s g cs hs
      simp only[yE,bg] at hs ⊢
      by_cases tO:i=s
      ·subst tO
       cases h3:st.vars[i]? with
       | none=>rw[h3] at hs; simp at hs
       | some u=>rw[h3] at hs; cases u<;>simp[Cd] at hs
      ·simp only[tO,if_false] at hs ⊢
       cases h3:st.vars[s]? with
       | none=>rw[h3] at hs; simp at hs
       | some u =>
         rw[h3] at hs
         simp at hs; subst hs
         obtain⟨cs',e1,e2,e3⟩:=hl s g cs h3
         exact ⟨cs',by simp[e1],e2,e3⟩
   have:=i2 _ gJ eu
   simp only[xW,oT,an,this,aB,x9]
theorem b7b:∀(a b:List PX) (st:St),x9 (a++b) st=x9 b (x9 a st)
 | [],_,_=>rfl
 | x::a,b,st=>by simp only[aL,x9]; exact b7b a b _
theorem Lo:∀{a b:List PX} {st:St},xW st (a++b)=(xW st a).bind λf=>(xW f.2 b).map λc=>(f.1++c.1,c.2)
 | [],b,st=>by simp only[aY,xW,an]; cases xW st b<;>rfl
 | x :: a, b, st => by
   simp only[aL,xW,Lo (a:=a)]
   cases zI st x with
   | none=>rfl
   | some r =>
     simp only[an]
     cases xW r.2 a with
     | none=>rfl
     | some f =>
       simp only[an,aB]
       cases xW f.2 b<;>rfl
theorem c2u {cf:wm} {k:Nat} {a b:List PX} {u:PV} {st st1:St} (h:wi cf (.mkfunc k a b) st=some (u,st1)):
  st1=x9 (a++b) st∧∀st',(∀x∈a++b,(raw st x).map vw=(raw st' x).map vw)→BG false st st'→wi cf (.mkfunc k a b) st'=some (u,x9 (a++b) st'):=by
 simp only[wi,ae,ab,ac] at h
 obtain⟨⟨f,st2⟩,h1,⟨c,st3⟩,h2,rfl,rfl⟩:=h
 have p6:xW st (a++b)=some (f++c,st3):=by rw[Lo,h1]; simp[h2]
 obtain⟨e1,e2⟩:=Ln p6
 obtain⟨e3,e4⟩:=Ln h1
 refine⟨e1,?_⟩
 intro st' hv hl
 have g1:=e4 st' (λx hx=>hv x (b9 _ hx)) hl
 have g2:=e2 st' hv hl
 rw[Lo,g1] at g2
 simp only[an,ab,ac] at g2
 obtain⟨⟨c',st4⟩,g3,g4,g5⟩:=g2
 have hc:c'=c:=List.append_cancel_left g4
 subst hc
 simp only[wi,g1,an,g3,aB]
 simp only at g5
 rw[g5]
theorem d08 {cf:wm} {u:PV} {st1:St} (hm:wU o≠2) (db:∀x∈wN o,x∈rs) (h:opv cf o st=some (u,st1)):
  ∃d:Dm,st1=d.app st∧z7 o d∧∀st',Sim o rs st st'→opv cf o st'=some (u,d.app st'):=by
 have pure:st1=st→(∀st',Sim o rs st st'→opv cf o st'=(opv cf o st).map λr=>(r.1,st'))→∃d:Dm,st1=d.app st∧z7 o d∧∀st',Sim o rs st st'→opv cf o st'=some (u,d.app st'):=by
  intro e hs
  refine⟨.none,e,trivial,?_⟩
  intro st' dF
  rw[hs st' dF,h]; rfl
 cases o with
 | h o =>
   have dX:x8 (.h o)=2→(∀st',st'.heap=st.heap→(∀x∈xb o,rd st x=rd st' x)→(∀x∈xb o,addr st x=addr st' x)→wi cf o st'=(wi cf o st).map λr=>(r.1,{ st' with heap:=r.2.heap }))→(∀u st1,wi cf o st=some (u,st1)→st1={ st with heap:=st1.heap }) →
     ∃d:Dm,st1=d.app st∧z7 (.h o) d∧∀st',Sim (.h o) rs st st'→opv cf (.h o) st'=some (u,d.app st'):=by
    intro h2 hs he
    have h':wi cf o st=some (u,st1):=h
    refine⟨.heap st1.heap,he _ _ h',h2,?_⟩
    intro st' dF
    show wi cf o st'=_
    rw[hs st' (dF.heap (by omega)) (λx hx=>dF.rd (db x hx)) (λx hx=>dF.addr (db x hx)),h']
    rfl
   have eJ:(∀u st1,wi cf o st=some (u,st1)→st1=st)→(∀st',(1≤x8 (.h o)→st'.heap=st.heap)→(∀x∈xb o,rd st x=rd st' x)→(∀x∈xb o,addr st x=addr st' x)→wi cf o st'=(wi cf o st).map λr=>(r.1,st')) →
     ∃d:Dm,st1=d.app st∧z7 (.h o) d∧∀st',Sim (.h o) rs st st'→opv cf (.h o) st'=some (u,d.app st'):=by
    intro e hs
    refine pure (e _ _ h) ?_
    intro st' dF
    exact hs st' dF.heap (λx hx=>dF.rd (db x hx)) (λx hx=>dF.addr (db x hx))
   have rdI:∀{st st':St} {x:PX},rd st x=rd st' x→rdInt st x=rdInt st' x:=by intro st st' x hx; unfold PI.rdInt; rw[hx]
   have rdA:∀{st st':St} {xs:List PX},(∀x∈xs,rd st x=rd st' x)→rdAll st xs=rdAll st' xs:=by
    intro st st' xs
    induction xs with
    | nil=>intro _; rfl
    | cons x xs ih=>intro hx; simp only[PI.rdAll]; rw[hx x (by simp),ih (λy hy=>hx y (by simp[hy]))]
   cases o with
   | happ size agg by' a x =>
     have h':wi cf (.happ size agg by' a x) st=some (u,st1):=h
     simp only[wi] at h'
     split at h'
     ·rename_i xs n sz ag len hx nk
      have key:∀st',Sim (.h (.happ size agg by' a x)) rs st st'→b2G st' x=some xs∧raw st' a=some (.rowp n sz ag len)∧st'.heap=st.heap:=by
       intro st' dF
       refine⟨by rw[← hx]; exact (Lj dF (db x (by simp[wN,xb])) (by simp[x8])).symm,?_,dF.heap (by simp[x8])⟩
       have:=dF.reads a (db a (by simp[wN,xb]))
       rw[nk] at this
       cases fo:raw st' a with
       | none=>rw[fo] at this; simp at this
       | some v' =>
         rw[fo] at this
         cases v'<;>simp[vw] at this
         obtain⟨rfl,rfl,rfl,rfl⟩:=this
         rfl
      split at h'
      ·rename_i cs dB
       split at h'
       ·rename_i hc
        simp only[aa,ac] at h'
        obtain⟨rfl,rfl⟩:=h'
        refine⟨.heap _,rfl,rfl,?_⟩
        intro st' dF
        obtain⟨k1,k2,k3⟩:=key st' dF
        simp only[opv,wi,k1,k2,k3,dB]
        rw[ah hc]
        rfl
       ·simp at h'
      ·simp at h'
     ·rename_i xs hx nk
      have key:∀st',Sim (.h (.happ size agg by' a x)) rs st st'→b2G st' x=some xs∧raw st' a=some (.list true [])∧st'.heap=st.heap:=by
       intro st' dF
       exact ⟨by rw[← hx]; exact (Lj dF (db x (by simp[wN,xb])) (by simp[x8])).symm,(dF.takes a (by simp[yn]) []).1 nk,dF.heap (by simp[x8])⟩
      split at h'
      ·rename_i iV
       simp only[aa,ac] at h'
       obtain⟨rfl,rfl⟩:=h'
       refine⟨.heap st.heap,rfl,rfl,?_⟩
       intro st' dF
       obtain⟨k1,k2,k3⟩:=key st' dF
       simp only[opv,wi,k1,k2,k3]
       rw[ah iV]
       simp only[Dm.app,← k3]
      ·rename_i iV
       split at h'
       ·rename_i hc
        simp only[aa,ac] at h'
        obtain⟨rfl,rfl⟩:=h'
        refine⟨.heap _,rfl,rfl,?_⟩
        intro st' dF
        obtain⟨k1,k2,k3⟩:=key st' dF
        simp only[opv,wi,k1,k2,k3]
        rw[af iV,ah hc]
        rfl
       ·simp at h'
     ·rename_i xs hx nk
      have key:∀st',Sim (.h (.happ size agg by' a x)) rs st st'→b2G st' x=some xs∧raw st' a=some .nils∧st'.heap=st.heap:=by
       intro st' dF
       refine⟨by rw[← hx]; exact (Lj dF (db x (by simp[wN,xb])) (by simp[x8])).symm,?_,dF.heap (by simp[x8])⟩
       have:=dF.reads a (db a (by simp[wN,xb]))
       rw[nk] at this
       cases fo:raw st' a with
       | none=>rw[fo] at this; simp at this
       | some v' =>
         rw[fo] at this
         cases v'<;>simp[vw] at this
         rfl
      split at h'
      ·rename_i iV
       simp only[aa,ac] at h'
       obtain⟨rfl,rfl⟩:=h'
       refine⟨.heap st.heap,rfl,rfl,?_⟩
       intro st' dF
       obtain⟨k1,k2,k3⟩:=key st' dF
       simp only[opv,wi,k1,k2,k3]
       rw[ah iV]
       simp only[Dm.app,← k3]
      ·rename_i iV
       split at h'
       ·rename_i hc
        simp only[aa,ac] at h'
        obtain⟨rfl,rfl⟩:=h'
        refine⟨.heap _,rfl,rfl,?_⟩
        intro st' dF
        obtain⟨k1,k2,k3⟩:=key st' dF
        simp only[opv,wi,k1,k2,k3]
        rw[af iV,ah hc]
        rfl
       ·simp at h'
     ·simp at h'
   | happz size agg by' z a x =>
     refine dX rfl (λst' hh hr _ =>?_) (λu st1 h =>?_)
     ·simp only[wi,hh,← rdI (hr x (by simp[xb])),← hr a (by simp[xb])]
      (repeat' split)<;>rfl
     ·simp only[wi] at h
      (repeat' split at h)<;>simp at h
      rw[← h.2]
   | clear size x =>
     refine dX rfl (λst' hh hr _ =>?_) (λu st1 h =>?_)
     ·simp only[wi,hh,← hr x (by simp[xb])]
      (repeat' split)<;>rfl
     ·simp only[wi] at h
      (repeat' split at h)<;>simp at h
      rw[← h.2]
   | mkarr size agg by' z x =>
     refine dX rfl (λst' hh hr _ =>?_) (λu st1 h =>?_)
     ·simp only[wi,hh,← rdI (hr x (by simp[xb]))]
      (repeat' split)<;>rfl
     ·simp only[wi] at h
      (repeat' split at h)<;>simp at h
      rw[← h.2]
   | range x =>
     refine dX rfl (λst' hh hr _ =>?_) (λu st1 h =>?_)
     ·simp only[wi,hh,← hr x (by simp[xb])]
      (repeat' split)<;>rfl
     ·simp only[wi] at h
      (repeat' split at h)<;>simp at h
      rw[← h.2]
   | next x =>
     refine dX rfl (λst' hh hr _ =>?_) (λu st1 h =>?_)
     ·simp only[wi,← hr x (by simp[xb])]
      split
      ·rw[hh]
       split
       ·split
        ·simp only[wG,hh]; rfl
        ·simp only[aB,← hh]
       ·rfl
      ·rfl
     ·simp only[wi] at h
      (repeat' split at h)<;>simp at h
      ·rw[← h.2]; rfl
      ·rw[← h.2]
   | storer size agg a x =>
     refine dX rfl (λst' hh hr ha =>?_) (λu st1 h =>?_)
     ·have hg:∀n,wR st' n=wR st n:=λn=>by unfold wR; rw[hh]
      simp only[wi,← ha a (by simp[xb]),← hr x (by simp[xb]),hg]
      split
      ·rename_i n off v _ _
       split
       ·rfl
       ·cases wR st n with
        | none=>rfl
        | some cs =>
          simp only[an]
          cases wO size agg cs off v with
          | none=>rfl
          | some cs'=>simp only[aB,wG,hh]
      ·rfl
     ·simp only[wi] at h
      split at h
      ·split at h
       ·simp at h
       ·simp only[ae,ab,ac] at h
        obtain⟨_,_,_,_,_,e⟩:=h
        rw[← e]; rfl
      ·simp at h
   | store size agg a x=>simp[wU] at hm
   | mset kagg ks m k v=>simp[wU] at hm
   | mkfunc k a b =>
     obtain⟨e1,e2⟩:=c2u (st:=st) (by simpa[opv] using h)
     by_cases oU:(a++b).isEmpty=true
     ·have p6:a++b=[]:=by simpa using oU
      rw[p6] at e1 e2
      refine⟨.none,e1,trivial,?_⟩
      intro st' hs
      have:a=[]∧b=[]:=by simpa using p6
      obtain⟨rfl,rfl⟩:=this
      have h':wi cf (.mkfunc k [] []) st=some (u,st1):=h
      simp only[wi,xW,an,aB,aa,ac] at h'
      obtain⟨rfl,_⟩:=h'
      rfl
     ·have tP:wU (.h (.mkfunc k a b))=4:=by simp only[wU,oU,if_false]; rfl
      refine⟨.shut (a++b),e1,⟨tP,rfl⟩,?_⟩
      intro st' hs
      have hl:=hs.mem (by omega)
      rw[tP] at hl
      exact e2 st' (λx hx=>hs.reads x (db x hx)) hl
   | newobj z=>exact dX rfl (λst' hh _ _=>by simp only[wi,hh]; rfl) (λu st1 h=>by simp only[wi,aa,ac] at h; rw[← h.2])
   | newbld=>exact dX rfl (λst' hh _ _=>by simp only[wi,hh]; rfl) (λu st1 h=>by simp only[wi,aa,ac] at h; rw[← h.2])
   | mkmap=>exact dX rfl (λst' hh _ _=>by simp only[wi,hh]; rfl) (λu st1 h=>by simp only[wi,aa,ac] at h; rw[← h.2])
   | buildA js z ps=>simp[wU] at hm
   | mkfresh size agg by' z x =>
     refine eJ (λu st1 h =>?_) (λst' _ hr _ =>?_)
     ·simp only[wi] at h
      (repeat' split at h)<;>simp at h
      exact h.2.symm
     ·simp only[wi,← rdI (hr x (by simp[xb]))]
      (repeat' split)<;>rfl
   | loadn x =>
     refine dX rfl (λst' hh hr ha =>?_) (λu st1 h =>?_)
     ·simp only[wi,wR,wG,hh,← ha x (by simp[xb])]
      cases addr st x with
      | none=>rfl
      | some v =>
        cases v<;>try rfl
        rename_i n off
        simp only
        cases st.heap[n]? with
        | none=>rfl
        | some ob =>
          cases ob<;>try rfl
          rename_i cs
          simp only[an]
          cases cs[off]? with
          | none=>rfl
          | some y =>
            cases y<;>try rfl
            ·rename_i b es
             cases b<;>rfl
            ·simp only[aB,← hh]
     ·simp only[wi] at h
      split at h
      ·simp only[ae] at h
       obtain⟨cs,_,h⟩:=h
       split at h
       ·simp only[aa,ac] at h; rw[← h.2]; rfl
       ·simp only[aa,ac] at h; rw[← h.2]
       ·simp at h
      ·simp at h
   | mkrow size agg z len ps =>
     refine dX rfl (λst' hh hr _ =>?_) (λu st1 h =>?_)
     ·have key:∀ps:List (Nat×PX),(∀x∈ps.map (·.2),rd st x=rd st' x)→rdElems st ps=rdElems st' ps:=by
       intro ps
       induction ps with
       | nil=>intro _; rfl
       | cons q ps ih =>
         intro hq
         obtain⟨a,x⟩:=q
         simp only[PI.rdElems]
         rw[hq x (by simp),ih (λy hy=>hq y (by simp only[ax,aC]; exact .inr hy))]
      have e:=key ps (λx hx=>hr x (by simpa[xb] using hx))
      simp only[wi,hh,← e,aD]
      rfl
     ·simp only[wi,ab,ac] at h
      obtain⟨_,_,_,e⟩:=h
      rw[← e]
   | boxobj n x =>
     refine dX rfl (λst' hh hr _ =>?_) (λu st1 h =>?_)
     ·simp only[wi,hh,← hr x (by simp[xb])]
      (repeat' split)<;>rfl
     ·simp only[wi] at h
      (repeat' split at h)<;>simp at h
      rw[← h.2]
   | zcall k args =>
     refine dX rfl (λst' hh hr _ =>?_) (λu st1 h =>?_)
     ·have e:rdAll st args=rdAll st' args:=rdA hr
      simp only[wi,hh,← e]
      cases rdAll st args with
      | none=>rfl
      | some vs =>
        simp only[an]
        split
        ·cases cf k (zJ st.heap vs) [] with
         | none=>rfl
         | some r=>simp only[an]; split<;>rfl
        ·rfl
     ·simp only[wi,ae] at h
      obtain⟨vs,_,h⟩:=h
      split at h
      ·simp only[ae] at h
       obtain⟨r,_,h⟩:=h
       split at h
       ·simp only[aa,ac] at h; rw[← h.2]
       ·simp at h
      ·simp at h
   | call k args =>
     refine dX rfl (λst' hh hr _ =>?_) (λu st1 h =>?_)
     ·have e:rdAll st args=rdAll st' args:=rdA hr
      simp only[wi,hh,← e]
      cases rdAll st args with
      | none=>rfl
      | some vs=>simp only[an,aD]; rfl
     ·simp only[wi,ae,ab,ac] at h
      obtain⟨_,_,_,_,_,e⟩:=h
      rw[← e]
   | rcall k args =>
     refine eJ (λu st1 h =>?_) (λst' hh hr _ =>?_)
     ·simp only[wi,ae,same] at h
      obtain⟨_,_,_,_,e⟩:=h
      split at e
      ·simp only[aa,ac] at e; exact e.2.symm
      ·simp at e
     ·have e:rdAll st args=rdAll st' args:=rdA hr
      simp only[wi,hh (by simp[x8]),← e]
      cases rdAll st args with
      | none=>rfl
      | some vs =>
        simp only[an]
        cases cf k vs st.heap with
        | none=>rfl
        | some r =>
          simp only[an,same,hh (by simp[x8])]
          by_cases he:r.2=st.heap
          ·rw[ah he,ah he]; rfl
          ·rw[af he,af he]; rfl
   | lcall k args =>
     refine eJ (λu st1 h =>?_) (λst' hh hr _ =>?_)
     ·simp only[wi,CE,ae] at h
      obtain⟨_,_,_,_,e⟩:=h
      split at e
      ·simp only[ae] at e
       obtain⟨_,_,e⟩:=e
       split at e
       ·simp only[aa,ac] at e; exact e.2.symm
       ·simp at e
      ·simp at e
     ·have e:rdAll st args=rdAll st' args:=rdA hr
      simp only[wi,← e]
      cases rdAll st args with
      | none=>rfl
      | some vs =>
        simp only[an,CE,hh (by simp[x8])]
        cases Ch st.heap vs with
        | none=>rfl
        | some ws =>
          simp only[an]
          by_cases hw:wz ws=true
          ·rw[ah hw,ah hw]
           cases cf k ws [] with
           | none=>rfl
           | some r =>
             simp only[an]
             by_cases he:BO r.1=true
             ·rw[ah he,ah he]; rfl
             ·rw[af he,af he]; rfl
          ·rw[af hw,af hw]; rfl
   | icall tab x args =>
     have key:∀st':St,st'.heap=st.heap→∀y,CF st' tab y=CF st tab y:=by
      intro st' hh y
      unfold CF
      split
      ·simp only[Gv,wR,hh]
      ·rfl
     refine dX rfl (λst' hh hr _ =>?_) (λu st1 h =>?_)
     ·have e:=rdA (xs:=args) (st':=st') (λy hy=>hr y (by simp only[xb]; exact bx _ hy))
      simp only[wi,hh,key st' hh,← hr x (by simp[xb]),← e]
      cases CF st tab (rd st x) with
      | none=>rfl
      | some m =>
        simp only[an]
        cases rdAll st args with
        | none=>rfl
        | some vs=>simp only[an,aD]; rfl
     ·simp only[wi,ae,ab,ac] at h
      obtain⟨_,_,_,_,_,_,_,e⟩:=h
      rw[← e]
   | bcall k args=>simp[opv,wi] at h
   | bcallv x args=>simp[opv,wi] at h
   | callv x args =>
     refine dX rfl (λst' hh hr _ =>?_) (λu st1 h =>?_)
     ·have e:=rdA (xs:=args) (st':=st') (λy hy=>hr y (by simp only[xb]; exact bx _ hy))
      simp only[wi,hh,← hr x (by simp[xb]),← e]
      split
      ·simp only[aD]; rfl
      ·rfl
     ·simp only[wi] at h
      split at h
      ·simp only[ab,ac] at h
       obtain⟨_,_,_,e⟩:=h
       rw[← e]
      ·simp at h
   | iaddr len size x i =>
     refine eJ (λu st1 h =>?_) (λst' _ hr ha =>?_)
     ·simp only[wi] at h
      (repeat' split at h)<;>simp at h
      exact h.2.symm
     ·simp only[wi,← ha x (by simp[xb]),← rdI (hr i (by simp[xb]))]
      (repeat' split)<;>rfl
   | isnil kd neg x =>
     refine eJ (λu st1 h =>?_) (λst' _ hr _ =>?_)
     ·simp only[wi,ab,ac] at h
      obtain⟨_,_,_,e⟩:=h; exact e.symm
     ·simp only[wi,← hr x (by simp[xb]),aD]; rfl
   | nilchk x =>
     refine eJ (λu st1 h =>?_) (λst' _ _ ha =>?_)
     ·simp only[wi] at h
      (repeat' split at h)<;>simp at h<;>exact h.2.symm
     ·simp only[wi,← ha x (by simp[xb])]
      (repeat' split)<;>rfl
   | loadc size agg a =>
     refine eJ (λu st1 h =>?_) (λst' _ hr _ =>?_)
     ·simp only[wi] at h
      split at h
      ·simp only[ab,ac] at h
       obtain⟨_,_,_,e⟩:=h; exact e.symm
      ·simp at h
     ·simp only[wi,← hr a (by simp[xb])]
      split
      ·simp only[aD]; rfl
      ·rfl
   | barr z ps =>
     refine eJ (λu st1 h =>?_) (λst' _ hr _ =>?_)
     ·simp only[wi,ab,ac] at h
      obtain⟨_,_,_,e⟩:=h; exact e.symm
     ·have e:∀xs:List (Nat×Nat×PX),(∀x∈xs,rd st x.2.2=rd st' x.2.2)→rdParts st xs=rdParts st' xs:=by
       intro xs
       induction xs with
       | nil=>intro _; rfl
       | cons x xs ih =>
         obtain⟨a,b,x⟩:=x
         intro hx
         simp only[PI.rdParts]
         rw[hx (a,b,x) (by simp),ih (λy hy=>hx y (by simp[hy]))]
      simp only[wi,← e ps (λx hx=>hr _ (by simp only[xb]; exact List.mem_map_of_mem hx)),aD]; rfl
   | idxA len size agg x i =>
     refine eJ (λu st1 h =>?_) (λst' _ hr _ =>?_)
     ·simp only[wi] at h
      split at h
      ·split at h
       ·simp only[ab,ac] at h
        obtain⟨_,_,_,e⟩:=h; exact e.symm
       ·simp at h
      ·simp at h
     ·simp only[wi,← hr x (by simp[xb]),← rdI (hr i (by simp[xb]))]
      split
      ·split
       ·simp only[aD]; rfl
       ·rfl
      ·rfl
   | mlen m =>
     refine eJ (λu st1 h =>?_) (λst' hh hr _ =>?_)
     ·simp only[wi] at h
      split at h
      ·simp only[ab,ac] at h
       obtain⟨_,_,_,e⟩:=h; exact e.symm
      ·simp at h
     ·simp only[wi,← hr m (by simp[xb]),w8,hh (by simp[x8])]
      split
      ·simp only[aD]; rfl
      ·rfl
   | load size agg a tkn =>
     by_cases ec:tkn=true
     ·subst ec
      refine dX rfl (λst' hh _ ha =>?_) (λu st1 h =>?_)
      ·simp only[wi,← ha a (by simp[xb]),wR,hh,wG]
       split
       ·cases wq size agg _ 0<;>simp<;>rw[← hh]
       ·split
        ·simp only[an]
         split
         ·simp[hh]
         ·cases wq size agg _ _<;>simp<;>rw[← hh]
        ·rfl
       ·rfl
      ·simp only[wi] at h
       split at h
       ·simp only[ab,ac] at h
        obtain⟨_,_,_,e⟩:=h; rw[← e]
       ·simp only[ae] at h
        obtain⟨cs,_,h⟩:=h
        split at h
        ·simp only[aa,ac] at h; rw[← h.2]; rfl
        ·simp only[ab,ac] at h
         obtain⟨_,_,_,e⟩:=h; rw[← e]
       ·simp at h
     ·have mO:tkn=false:=by simpa using ec
      subst mO
      refine eJ (λu st1 h =>?_) (λst' hh _ ha =>?_)
      ·simp only[wi] at h
       split at h
       ·simp only[ab,ac] at h
        obtain⟨_,_,_,e⟩:=h; exact e.symm
       ·simp only[ae,bG] at h
        obtain⟨cs,_,h⟩:=h
        simp only[ab,ac] at h
        obtain⟨_,_,_,e⟩:=h; exact e.symm
       ·simp at h
      ·simp only[wi,← ha a (by simp[xb]),wR,hh (by simp[x8]),bG]
       split
       ·simp only[aD]; rfl
       ·split
        ·simp only[an,aD]; rfl
        ·rfl
       ·rfl
   | lookup ok tkn kagg ks zero m x =>
     by_cases ec:tkn=true
     ·subst ec
      refine dX rfl (λst' hh hr _ =>?_) (λu st1 h =>?_)
      ·have rU:∀n,w8 st' n=w8 st n:=λn=>by unfold w8; rw[hh]
       simp only[wi,← hr m (by simp[xb]),← hr x (by simp[xb]),rU,hh,wG]
       split
       ·rename_i n k _ _
        cases w8 st n with
        | none=>rfl
        | some es =>
          simp only[an]
          cases xo kagg ks k es 0 with
          | none=>rfl
          | some r =>
            cases r with
            | none=>simp; rw[← hh]
            | some iv =>
              simp only[an]
              split
              ·simp
              ·simp; rw[← hh]
       ·rfl
      ·simp only[wi] at h
       split at h
       ·simp only[ae] at h
        obtain⟨es,_,r,_,h⟩:=h
        split at h
        ·split at h
         ·simp only[aa,ac] at h; rw[← h.2]; rfl
         ·simp only[aa,ac] at h; rw[← h.2]
        ·simp only[aa,ac] at h; rw[← h.2]
       ·simp at h
     ·have mO:tkn=false:=by simpa using ec
      subst mO
      refine eJ (λu st1 h =>?_) (λst' hh hr _ =>?_)
      ·simp only[wi] at h
       split at h
       ·simp only[ae,bG] at h
        obtain⟨es,_,r,_,h⟩:=h
        split at h
        ·simp at h; exact h.2.symm
        ·simp at h; exact h.2.symm
       ·simp at h
      ·have rU:∀n,w8 st' n=w8 st n:=λn=>by unfold w8; rw[hh (by simp[x8])]
       simp only[wi,← hr m (by simp[xb]),← hr x (by simp[xb]),rU,bG]
       split
       ·rename_i n k _ _
        cases w8 st n with
        | none=>rfl
        | some es =>
          simp only[an]
          cases xo kagg ks k es 0 with
          | none=>rfl
          | some r=>cases r<;>rfl
       ·rfl
 | store size agg a x=>simp[wU] at hm
 | newloc z=>simp[wU] at hm
 | boxloc n x=>simp[wU] at hm
 | sliceLoc n x=>simp[wU] at hm
 | take x =>
   obtain⟨h1,h2⟩:=Ia (st:=st) (by simpa[opv] using h)
   refine⟨.src x,h1,by simp[z7,yn],?_⟩
   intro st' hs
   simpa[opv] using h2 st' (hs.reads x (db x (by simp[wN]))) (hs.takes x (by simp[yn]))
 | append size bytes s x =>
   simp only[opv] at h
   split at h
   ·rename_i xs es st2 hr ht
    split at h
    ·rename_i hc
     simp only[aa,ac] at h
     obtain⟨rfl,rfl⟩:=h
     obtain⟨h1,h2⟩:=Ia ht
     refine⟨.src s,h1,by simp[z7,yn],?_⟩
     intro st' hs
     have j4:=h2 st' (hs.reads s (db s (by simp[wN]))) (hs.takes s (by simp[yn]))
     have fo:(rd st' x).bind Bb=some xs:=by rw[← hs.rd (db x (by simp[wN]))]; exact hr
     simp only[opv,fo,j4,ah hc]
    ·simp at h
   ·simp at h
 | loadv s size agg a =>
   simp only[opv] at h
   split at h
   ·rename_i s' g off dK
    split at h
    ·rename_i g' cs hv
     split at h
     ·rename_i hc
      obtain⟨rfl,rfl⟩:=hc
      refine pure (by simp only[ab,ac] at h; obtain⟨_,_,_,e⟩:=h; exact e.symm) ?_
      intro st' hs
      obtain⟨cs',h1,h2⟩:=(hs.slot s' rfl).1 g cs hv
      simp only[opv,(hs.addr (db a (by simp[wN]))).symm,dK,h1,hv,and_self,if_true]
      rw[← Lm h2,aD]
      rfl
     ·simp at h
    ·simp at h
   ·simp at h
 | load size agg a tkn =>
   simp only[opv] at h
   have ha:∀st',Sim (.load size agg a tkn) rs st st'→addr st' a=addr st a:=λst' hs=>(hs.addr (db a (by simp[wN]))).symm
   split at h
   ·rename_i cs dK
    refine pure (by simp only[ab,ac] at h; obtain⟨_,_,_,e⟩:=h; exact e.symm) ?_
    intro st' hs
    simp only[opv,ha st' hs,dK,aD]
    rfl
   ·rename_i s g off dK
    split at h
    ·rename_i g' cs hv
     split at h
     ·rename_i hg
      subst hg
      split at h
      ·rename_i es ec hcell
       simp only[aa,ac] at h
       obtain⟨rfl,rfl⟩:=h
       simp only[ak,bC] at ec
       have app:∀st:St,st.vars[s]? = some (.loc g cs)→{ st with vars:=st.vars.set s (.loc g (cs.set off (.list false es))) }=(Dm.cell s off).app st:=by
        intro st hv
        simp only[Dm.app]
        rw[Ey hv]
        simp only[Cc]
        rw[Ey hcell]
        rfl
       refine⟨.cell s off,app st hv,by simp[z7,wU,ec.1],?_⟩
       intro st' hs
       obtain⟨cs',h1,_,h3⟩:=hs.mem (by simp[wU,ec.1]) s g cs hv
       have:cs'=cs:=h3 (by simp[wU,ec.1])
       subst this
       simp only[opv,ha st' hs,dK,h1,if_true,ec.1,ec.2,Bool.not_false,Bool.and_self,hcell]
       rw[app st' h1]
      ·rename_i fQ
       refine pure (by simp only[ab,ac] at h; obtain⟨_,_,_,e⟩:=h; exact e.symm) ?_
       intro st' hs
       obtain⟨cs',h1,h2,h3⟩:=hs.mem (by simp[wU]; split<;>omega) s g cs hv
       simp only[opv,ha st' hs,dK,h1,hv,if_true]
       have rV:=Lm (size:=size) (agg:=agg) (off:=off) h2
       cases mP:tkn with
       | false=>simp[mP,← rV]; rfl
       | true =>
         have:cs'=cs:=h3 (by simp[wU,mP])
         subst this
         subst mP
         split
         ·rename_i es' hb kM
          exact absurd kM (by
           intro kM
           exact fQ es' hb kM)
         ·simp; rfl
     ·simp at h
    ·simp at h
   ·simp at h
 | mov x =>
   refine pure (by simp only[opv,ab,ac] at h; obtain⟨_,_,_,e⟩:=h; exact e.symm) ?_
   intro st' hs
   simp only[opv,← hs.rd (db x (by simp[wN])),aD]; rfl
 | movs x =>
   refine pure (by simp only[opv] at h; split at h<;>simp at h; exact h.2.symm) ?_
   intro st' hs
   simp only[opv,← hs.rd (db x (by simp[wN]))]
   split<;>rfl
 | pick c x y =>
   refine pure (by simp only[opv] at h; split at h<;>simp at h; obtain⟨_,_,_,e⟩:=h; exact e.symm) ?_
   intro st' hs
   simp only[opv,← hs.rd (db c (by simp[wN])),← hs.rd (db x (by simp[wN])),← hs.rd (db y (by simp[wN]))]
   split
   ·rename_i t _
    cases t
    ·simp only[aH,if_false,← hs.rd (db y (by simp[wN])),aD]; rfl
    ·simp only[if_true,← hs.rd (db x (by simp[wN])),aD]; rfl
   ·rfl
 | build z ps =>
   refine pure (by simp only[opv,ab,ac] at h; obtain⟨_,_,_,e⟩:=h; exact e.symm) ?_
   intro st' hs
   simp only[opv,← hs.rdParts (xs:=ps) (λx hx=>db _ (by simp only[wN]; exact List.mem_map_of_mem hx)),aD]; rfl
 | mkslice size z len ps =>
   refine pure (by simp only[opv,ab,ac] at h; obtain⟨_,_,_,e⟩:=h; exact e.symm) ?_
   intro st' hs
   simp only[opv,← hs.rdElems (xs:=ps) (λx hx=>db _ (by simp only[wN]; exact List.mem_map_of_mem hx)),aD]; rfl
 | faddr off x =>
   refine pure (by simp only[opv] at h; split at h<;>simp at h<;>exact h.2.symm) ?_
   intro st' hs
   simp only[opv,← hs.addr (db x (by simp[wN]))]
   split<;>rfl
 | appstr s x =>
   simp only[opv] at h
   split at h
   ·rename_i xs es st2 hr ht
    split at h
    ·rename_i hc
     simp only[aa,ac] at h
     obtain⟨rfl,rfl⟩:=h
     obtain⟨h1,h2⟩:=Ia ht
     refine⟨.src s,h1,by simp[z7,yn],?_⟩
     intro st' hs
     have j4:=h2 st' (hs.reads s (db s (by simp[wN]))) (hs.takes s (by simp[yn]))
     have fo:rd st' x=some (.str xs):=by rw[← hs.rd (db x (by simp[wN]))]; exact hr
     simp only[opv,fo,j4,ah hc]
    ·simp at h
   ·simp at h
 | b2s x =>
   refine pure (by simp only[opv] at h; split at h<;>simp at h; obtain⟨_,_,_,e⟩:=h; exact e.symm) ?_
   intro st' hs
   simp only[opv,← hs.rd (db x (by simp[wN]))]
   split
   ·simp only[aD]; rfl
   ·rfl
 | s2b x =>
   refine pure (by simp only[opv] at h; (repeat' split at h)<;>simp at h; exact h.2.symm) ?_
   intro st' hs
   simp only[opv,← hs.rd (db x (by simp[wN]))]
   (repeat' split)<;>rfl
 | iaddrS size x i =>
   refine pure (by simp only[opv] at h; (repeat' split at h)<;>simp at h<;>exact h.2.symm) ?_
   intro st' hs
   simp only[opv,← hs.rd (db x (by simp[wN])),← hs.rdInt (db i (by simp[wN]))]
   (repeat' split)<;>rfl
 | iaddrA len size x i =>
   refine pure (by simp only[opv] at h; (repeat' split at h)<;>simp at h<;>exact h.2.symm) ?_
   intro st' hs
   simp only[opv,← hs.addr (db x (by simp[wN])),← hs.rdInt (db i (by simp[wN]))]
   (repeat' split)<;>rfl
 | field off size agg x =>
   refine pure (by simp only[opv] at h; split at h<;>simp at h; obtain⟨_,_,_,e⟩:=h; exact e.symm) ?_
   intro st' hs
   simp only[opv,← hs.rd (db x (by simp[wN]))]
   split
   ·simp only[aD]; rfl
   ·rfl
 | indexStr x i =>
   refine pure (by simp only[opv] at h; (repeat' split at h)<;>simp at h; exact h.2.symm) ?_
   intro st' hs
   simp only[opv,← hs.rd (db x (by simp[wN])),← hs.rdInt (db i (by simp[wN]))]
   (repeat' split)<;>rfl
 | slice str size x lo hi =>
   have nJ:∀y∈lo.toList,y∈rs:=λy hy=>db y (by simp only[wN,aC,ay]; exact .inr (.inl hy))
   have vA:∀y∈hi.toList,y∈rs:=λy hy=>db y (by simp only[wN,aC,ay]; exact .inr (.inr hy))
   refine pure (by
    simp only[opv] at h
    split at h
    ·simp only[ae,ab,ac] at h
     obtain⟨_,_,_,_,_,e⟩:=h; exact e.symm
    ·split at h
     ·simp only[ae,ab,ac] at h
      obtain⟨_,_,_,_,_,e⟩:=h; exact e.symm
     ·simp at h
    ·simp only[ae,ab,ac] at h
     obtain⟨_,_,_,_,_,e⟩:=h; exact e.symm
    ·split at h
     ·simp only[ae,ab,ac] at h
      obtain⟨_,_,_,_,_,e⟩:=h; exact e.symm
     ·simp at h
    ·simp at h) ?_
   intro st' hs
   simp only[opv,← hs.rd (db x (by simp[wN])),← hs.bound nJ,← hs.bound vA]
   split
   ·simp only[Option.map_bind,Function.comp_def,aD]
   ·split
    ·simp only[Option.map_bind,Function.comp_def,aD]
    ·rfl
   ·simp only[Option.map_bind,Function.comp_def,aD]
   ·split
    ·simp only[Option.map_bind,Function.comp_def,aD]
    ·rfl
   ·rfl
 | bin op x y =>
   refine pure (by simp only[opv] at h; split at h<;>simp at h; obtain⟨_,_,_,e⟩:=h; exact e.symm) ?_
   intro st' hs
   simp only[opv,← hs.rd (db x (by simp[wN])),← hs.rd (db y (by simp[wN]))]
   split
   ·simp only[aD]; rfl
   ·rfl
 | eq neg agg ks x y =>
   refine pure (by
    simp only[opv] at h
    split at h
    ·simp only[ab,ac] at h
     obtain⟨_,_,_,e⟩:=h; exact e.symm
    ·simp at h) ?_
   intro st' hs
   simp only[opv,← hs.rd (db x (by simp[wN])),← hs.rd (db y (by simp[wN]))]
   split
   ·simp only[aD]; rfl
   ·rfl
 | un op x =>
   refine pure (by simp only[opv] at h; split at h<;>simp at h; obtain⟨_,_,_,e⟩:=h; exact e.symm) ?_
   intro st' hs
   simp only[opv,← hs.rd (db x (by simp[wN]))]
   split
   ·simp only[aD]; rfl
   ·rfl
 | convInt k x =>
   refine pure (by simp only[opv,ab,ac] at h; obtain⟨_,_,_,e⟩:=h; exact e.symm) ?_
   intro st' hs
   simp only[opv,← hs.rdInt (db x (by simp[wN])),aD]; rfl
 | ifc mk t x =>
   refine pure (by
    simp only[opv] at h
    split at h
    ·simp only[aa,ac] at h; exact h.2.symm
    ·split at h
     ·simp only[aa,ac] at h; exact h.2.symm
     ·simp at h
    ·simp at h) ?_
   intro st' hs
   simp only[opv,← hs.rd (db x (by simp[wN]))]
   cases mk<;>cases rd st x with
   | none=>rfl
   | some v =>
     first
     | rfl
     | (cases v<;>first | rfl | (simp only; split<;>rfl))
 | extract i x =>
   refine pure (by
    simp only[opv] at h
    split at h
    ·simp only[ab,ac] at h
     obtain⟨_,_,_,e⟩:=h; exact e.symm
    ·simp at h) ?_
   intro st' hs
   simp only[opv,← hs.rd (db x (by simp[wN]))]
   split
   ·simp only[aD]; rfl
   ·rfl
 | len str x =>
   refine pure (by simp only[opv] at h; split at h<;>simp at h<;>exact h.2.symm) ?_
   intro st' hs
   simp only[opv,← hs.rd (db x (by simp[wN]))]
   split<;>rfl
 | cap x =>
   refine pure (by simp only[opv] at h; split at h<;>simp at h<;>exact h.2.symm) ?_
   intro st' hs
   simp only[opv,← hs.rd (db x (by simp[wN]))]
   split<;>rfl
 | minmax mx xs =>
   refine pure (by simp only[opv] at h; split at h<;>simp at h; obtain⟨_,_,_,e⟩:=h; exact e.symm) ?_
   intro st' hs
   simp only[opv,← hs.rdAll (xs:=xs) (λx hx=>db x (by simpa[wN] using hx))]
   split
   ·simp only[aD]; rfl
   ·rfl
 | pcall k xs =>
   refine pure (by simp only[opv] at h; (repeat' split at h)<;>simp at h; exact h.2.symm) ?_
   intro st' hs
   simp only[opv,← hs.rdAll (xs:=xs) (λx hx=>db x (by simpa[wN] using hx))]
   (repeat' split)<;>rfl
 | pzcall k xs =>
   refine pure (by simp only[opv] at h; (repeat' split at h)<;>simp at h; exact h.2.symm) ?_
   intro st' hs
   simp only[opv,← hs.rdAll (xs:=xs) (λx hx=>db x (by simpa[wN] using hx))]
   (repeat' split)<;>rfl
 | pcallx k xs own =>
   cases own with
   | none =>
     refine pure (by simp only[opv] at h; (repeat' split at h)<;>simp at h; exact h.2.symm) ?_
     intro st' hs
     simp only[opv,← hs.rdAll (xs:=xs) (λx hx=>db x (by simpa[wN] using hx))]
     (repeat' split)<;>rfl
   | some i =>
     simp only[opv] at h
     split at h
     ·rename_i v st2 us ht ev
      split at h
      ·rename_i cT
       split at h
       ·rename_i r h' hc
        split at h
        ·rename_i hr
         simp only[aa,ac] at h
         obtain⟨rfl,rfl⟩:=h
         simp only[ae] at ht
         obtain⟨x,hx,ht⟩:=ht
         have vB:x∈xs:=av hx
         obtain⟨h1,h2⟩:=Ia ht
         refine⟨.src x,h1,by simp[z7,yn,hx],?_⟩
         intro st' hs
         have j4:=h2 st' (hs.reads x (db x (by simpa[wN] using vB))) (hs.takes x (by simp[yn,hx]))
         simp only[opv,hx,an,j4,← hs.rdAll (xs:=xs) (λx hx=>db x (by simpa[wN] using hx)),ev,ah cT,hc,ah hr]
        ·simp at h
       ·simp at h
      ·simp at h
     ·simp at h
 | callv x xs =>
   refine pure (by simp only[opv] at h; (repeat' split at h)<;>simp at h; exact h.2.symm) ?_
   intro st' hs
   simp only[opv,← hs.rd (db x (by simp[wN])),← hs.rdAll (xs:=xs) (λy hy=>db y (by simp only[wN]; exact bx _ hy))]
   (repeat' split)<;>rfl
end
end PI
