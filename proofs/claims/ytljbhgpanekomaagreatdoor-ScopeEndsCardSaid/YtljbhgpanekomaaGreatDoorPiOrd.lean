import Derived.Test.YtljbhgpanekomaaGreatDoorPiComp
set_option linter.unusedSimpArgs false
set_option linter.unusedVariables false
set_option linter.unusedSectionVars false
namespace PI
def a1o:POp→Nat
 | .h (.store ..) | .h (.mset ..) | .h (.bcall ..) | .h (.bcallv ..)=>2
 | .h (.mkfunc _ a b)=>if (a++b).isEmpty then 0 else 4
 | .load _ _ _ tk=>if tk then 3 else 1
 | .store .. | .newloc _ | .boxloc .. | .sliceLoc .. => 2
 | _=>0
def a2c:POp→Nat
 | .h (.newobj ..) | .h .newbld | .h (.boxobj ..) | .h (.mkarr ..) | .h (.range ..) | .h (.next ..) | .h .mkmap | .h (.call ..) | .h (.callv ..) | .h (.bcall ..) | .h (.bcallv ..) | .h (.happ ..) | .h (.happz ..) | .h (.clear ..) | .h (.store ..) | .h (.storer ..) | .h (.mset ..)=>2
 | .h (.load _ _ _ tk)=>if tk then 2 else 1
 | .h (.lookup _ tk _ _ _ _ _)=>if tk then 2 else 1
 | .h (.mlen ..) | .h (.rcall ..)=>1
 | _=>0
def a7g:POp→List PX
 | .h (.mkfunc _ a b)=>a++b
 | _=>[]
def a1k:POp→List PX
 | .take x=>[x]
 | .append _ _ s _=>[s]
 | .appstr s _=>[s]
 | .h (.happ _ _ _ s _)=>[s]
 | .pcallx _ xs (some i)=>xs[i]?.toList
 | _=>[]
def a39:PX→PX→Bool
 | .v i,.v j=>i==j
 | .l i,.l j=>i==j
 | _,_=>false
def isX (d:PD) (j:Nat) (x:PX):Bool:=
 match d with
 | .v i=>a39 (.v i) x
 | .l=>a39 (.l j) x
 | .n=>false
def a4Y (p:PO):List PX:=(match p.guard with | some (x,_)=>[x] | none=>[])++a0r p.op
def isV:PD→Bool
 | .v _=>true
 | _=>false
def b7u (j:Nat) (p q:PO):Bool:=(a4Y q).all (λx => !isX p.dst j x)&&(!isV p.dst||a1o q.op==0)
def b5W (d d':PD):Bool:=
 match d,d' with
 | .v i,.v j=>i==j
 | _,_=>false
def c4S (jp:Nat) (p:PO) (jq:Nat) (q:PO):Bool:=
 a1o p.op != 2&&a1o q.op != 2 && !(a1o p.op==3&&a1o q.op==3) && !(a1o p.op==4&&a1o q.op != 0) && !(a1o q.op==4&&a1o p.op != 0) &&
 !(a2c p.op==2&&a2c q.op != 0) && !(a2c q.op==2&&a2c p.op != 0)&&(a7g p.op).all (λx => !(a4Y q).any (a39 x))&&(a7g q.op).all (λx => !(a4Y p).any (a39 x))&&b7u jp p q&&b7u jq q p && !b5W p.dst q.dst&&(a1k p.op).all (λx => !(a1k q.op).any (a39 x))
def vw:PV→PV
 | .list _ es => .list false es
 | .loc g _ => .loc g []
 | v=>v
theorem b7v (v:PV):cp v=cp (vw v):=by cases v<;>rfl
inductive Dm where
 | none
 | src (x:PX)
 | cell (s off:Nat)
 | heap (h:List PObj)
 | shut (xs:List PX)
def a5U (off:Nat):PV→PV
 | .loc g cs => .loc g (cs.modify off dem)
 | v=>v
def b2n:PV→PV
 | .loc _ cs => .cptr (cs.map dem)
 | v=>v
def a4P (x:PX) (st:St):St:=
 match x with
 | .v i=>{ st with vars:=st.vars.modify i b2n }
 | _=>st
def a3P:List PX→St→St
 | [],st=>st
 | x::xs,st=>a3P xs (a4P x st)
def Dm.app:Dm→St→St
 | .heap h,st=>{ st with heap:=h }
 | .shut xs,st=>a3P xs st
 | .none,st=>st
 | .src (.v i),st=>{ st with vars:=st.vars.modify i dem }
 | .src (.l j),st=>{ st with locs:=st.locs.modify j dem }
 | .src (.c _),st=>st
 | .cell s off,st=>{ st with vars:=st.vars.modify s (a5U off) }
def b1h (exact:Bool) (st st':St):Prop:=
 ∀(s g:Nat) (cs:List PV),st.vars[s]? = some (.loc g cs)→∃cs',st'.vars[s]? = some (.loc g cs')∧cs'.map dem=cs.map dem∧(exact=true→cs'=cs)
def b8G:POp→Option Nat
 | .loadv s _ _ _=>some s
 | _=>none
def b0g (s:Nat) (st st':St):Prop:=∀(g:Nat) (cs:List PV),st.vars[s]? = some (.loc g cs)→∃cs',st'.vars[s]? = some (.loc g cs')∧cs'.map dem=cs.map dem
structure Sim (o:POp) (rs:List PX) (st st':St):Prop where
 reads:∀x∈rs,(raw st x).map vw=(raw st' x).map vw
 takes:∀x∈a1k o,∀es,raw st x=some (.list true es)↔raw st' x=some (.list true es)
 mem:1≤a1o o→b1h (a1o o==3) st st'
 heap:1≤a2c o→st'.heap=st.heap
 slot:∀s,b8G o=some s→b0g s st st'∧b0g s st' st
section
variable {o:POp} {rs:List PX} {st st':St}
theorem Sim.rd (h:Sim o rs st st') {x:PX} (hx:x∈rs):rd st x=rd st' x:=by
 have:=h.reads x hx
 unfold PI.rd
 cases h1:raw st x<;>cases h2:raw st' x<;>simp[h1,h2] at this ⊢
 rw[b7v,this,← b7v]
theorem Sim.rdInt (h:Sim o rs st st') {x:PX} (hx:x∈rs):rdInt st x=rdInt st' x:=by
 unfold PI.rdInt; rw[h.rd hx]
theorem b1i (h:Sim o rs st st') {x:PX} (hx:x∈rs) (hm:1≤a2c o):b04 st x=b04 st' x:=by
 unfold PI.b04
 rw[h.rd hx]
 unfold a57
 rw[h.heap hm]
def b8H (x:PX) (r:Option PV):Option PV:=
 match x,r with
 | .v i,some (.loc g _)=>some (.lptr i g 0)
 | _,some (.lptr s g off)=>some (.lptr s g off)
 | _,some v=>cp v
 | _,none=>none
theorem b8I (st:St) (x:PX):addr st x=b8H x (raw st x):=rfl
theorem b4o (x:PX) (v:PV):b8H x (some v)=b8H x (some (vw v)):=by
 cases v<;>cases x<;>rfl
theorem Sim.addr (h:Sim o rs st st') {x:PX} (hx:x∈rs):addr st x=addr st' x:=by
 have:=h.reads x hx
 rw[b8I,b8I]
 cases h1:raw st x<;>cases h2:raw st' x<;>simp[h1,h2] at this ⊢
 rw[b4o,this,← b4o]
theorem Sim.rdAll (h:Sim o rs st st'):∀{xs:List PX},(∀x∈xs,x∈rs)→rdAll st xs=rdAll st' xs
 | [],_=>rfl
 | x :: xs, hx => by
   simp only[PI.rdAll]
   rw[h.rd (hx x (by simp)),h.rdAll (xs:=xs) (λy hy=>hx y (by simp[hy]))]
theorem Sim.rdParts (h:Sim o rs st st'):∀{xs:List (Nat×Nat×PX)},(∀x∈xs,x.2.2∈rs)→rdParts st xs=rdParts st' xs
 | [],_=>rfl
 | (a, b, x) :: xs, hx => by
   simp only[PI.rdParts]
   rw[h.rd (hx (a,b,x) (by simp)),h.rdParts (xs:=xs) (λy hy=>hx y (by simp[hy]))]
theorem Sim.rdElems (h:Sim o rs st st'):∀{xs:List (Nat×PX)},(∀x∈xs,x.2∈rs)→rdElems st xs=rdElems st' xs
 | [],_=>rfl
 | (a, x) :: xs, hx => by
   simp only[PI.rdElems]
   rw[h.rd (hx (a,x) (by simp)),h.rdElems (xs:=xs) (λy hy=>hx y (by simp[hy]))]
theorem Sim.bound (h:Sim o rs st st') {x:Option PX} (hx:∀y∈x.toList,y∈rs) (d m:Nat):bound st x d m=bound st' x d m:=by
 cases x with
 | none=>rfl
 | some y=>simp only[PI.bound]; rw[h.rdInt (hx y (by simp))]
theorem a4h {l:List PV} {i:Nat} {v:PV} (h:l[i]? = some v) (f:PV→PV):l.modify i f=l.set i (f v):=by
 apply List.ext_getElem?
 intro k
 rw[List.getElem?_modify,List.getElem?_set]
 by_cases hk:i=k
 ·subst hk
  obtain⟨hlt,rfl⟩:=List.getElem?_eq_some_iff.1 h
  simp[hlt]
 ·simp[hk]
theorem b1j {l:List PV} {i:Nat} {f:PV→PV} (h:∀v,l[i]? = some v→f v=v):l.modify i f=l:=by
 apply List.ext_getElem?
 intro k
 rw[List.getElem?_modify]
 by_cases hk:i=k
 ·subst hk
  cases hv:l[i]? with
  | none=>simp
  | some v=>simp[h v hv]
 ·simp[hk]
theorem c0v {x:PX} {u:PV} {st1:St} (h:tk st x=some (u,st1)):st1=(Dm.src x).app st∧∀st',(raw st x).map vw=(raw st' x).map vw→(∀es,raw st x=some (.list true es)↔raw st' x=some (.list true es))→tk st' x=some (u,(Dm.src x).app st'):=by
 have app_own:∀(st:St) (es:List PV),raw st x=some (.list true es)→a68 st x (.list false es)=(Dm.src x).app st:=by
  intro st es hr
  cases x with
  | v i=>simp only[a68,Dm.app]; rw[a4h hr]; rfl
  | l i=>simp only[a68,Dm.app]; rw[a4h hr]; rfl
  | c p=>rfl
 have app_id:∀(st:St),(∀v,raw st x=some v→dem v=v)→(Dm.src x).app st=st:=by
  intro st hv
  cases x with
  | v i=>simp only[Dm.app]; rw[b1j hv]
  | l i=>simp only[Dm.app]; rw[b1j hv]
  | c p=>rfl
 have dem_id:∀v:PV,(∀es,v≠.list true es)→dem v=v:=by
  intro v hv
  cases v<;>try rfl
  rename_i own es
  cases own with
  | true=>exact absurd rfl (hv es)
  | false=>rfl
 unfold tk at h
 split at h
 ·rename_i es hr
  simp only[Option.some.injEq,Prod.mk.injEq] at h
  obtain⟨rfl,rfl⟩:=h
  refine⟨app_own st es hr,?_⟩
  intro st' _ h2
  have hr':=(h2 es).1 hr
  unfold tk
  rw[hr']
  simp only[Option.some.injEq,Prod.mk.injEq,true_and]
  exact app_own st' es hr'
 ·rename_i v hnot hr
  simp only[Option.map_eq_some_iff,Prod.mk.injEq] at h
  obtain⟨r,hr2,rfl,rfl⟩:=h
  refine⟨(app_id _ (λv' hv'=>by rw[hr] at hv'; simp at hv'; subst hv'; exact dem_id _ hnot)).symm,?_⟩
  intro st' h1 h2
  have hnot':∀es,raw st' x≠some (.list true es):=λes e=>by
   have:=(h2 es).2 e
   rw[hr] at this; simp at this; exact hnot es this
  cases hv:raw st' x with
  | none=>rw[hr,hv] at h1; simp at h1
  | some v' =>
    have hvw:vw v=vw v':=by rw[hr,hv] at h1; simpa using h1
    have hcp:cp v'=some r:=by rw[b7v,← hvw,← b7v]; exact hr2
    have hne:∀es,v'≠.list true es:=λes e=>hnot' es (by rw[hv,e])
    have hid:=app_id st' (λv2 hv2=>by rw[hv] at hv2; simp at hv2; subst hv2; exact dem_id _ hne)
    unfold tk
    rw[hv]
    split
    ·rename_i es he; simp at he; exact absurd he (hne es)
    ·rename_i v2 _ he
     simp at he; subst he
     simp[hcp,hid]
    ·rename_i he; simp at he
 ·simp at h
theorem b0h {size:Nat} {agg:Bool} {cs cs':List PV} {off:Nat} (h:cs'.map dem=cs.map dem):a0a size agg cs off=a0a size agg cs' off:=by
 have hl:cs'.length=cs.length:=by simpa using congrArg List.length h
 unfold a0a
 rw[hl]
 split
 ·split
  ·congr 2
   have:=congrArg (λl=>(l.drop off).take size) h
   simpa using this.symm
  ·rfl
 ·have hg:(cs[off]?).map dem=(cs'[off]?).map dem:=by
   have:=congrArg (λl=>l[off]?) h
   simpa using this.symm
  cases h1:cs[off]? with
  | none => cases h2 : cs'[off]? with
    | none=>rfl
    | some v=>rw[h1,h2] at hg; simp at hg
  | some v => cases h2 : cs'[off]? with
    | none=>rw[h1,h2] at hg; simp at hg
    | some v' =>
      rw[h1,h2] at hg
      simp at hg
      have:∀x,cp x=cp (dem x):=λx=>by cases x<;>rfl
      simp only
      rw[this v,hg,← this v']
def b3Z (o:POp) (d:Dm):Prop:=
 match d with
 | .none=>True
 | .src x=>x∈a1k o
 | .cell _ _=>a1o o=3
 | .heap _=>a2c o=2
 | .shut xs=>a1o o=4∧xs=a7g o
theorem b3l:∀{xs:List PX} {st st1:St} {us:List PV},a3K st xs=some (us,st1)→st1=a3P xs st ∧
  ∀st',(∀x∈xs,(raw st x).map vw=(raw st' x).map vw)→b1h false st st'→a3K st' xs=some (us,a3P xs st')
 | [], st, st1, us, h => by
   simp only[a3K,Option.some.injEq,Prod.mk.injEq] at h
   obtain⟨rfl,rfl⟩:=h
   exact ⟨rfl,λst' _ _=>rfl⟩
 | x :: xs, st, st1, us, h => by
   simp only[a3K,Option.bind_eq_some_iff,Option.map_eq_some_iff,Prod.mk.injEq] at h
   obtain⟨⟨v,st2⟩,h1,⟨q,st3⟩,h2,rfl,rfl⟩:=h
   obtain⟨i1,i2⟩:=b3l h2
   have one:st2=a4P x st∧∀st',(raw st x).map vw=(raw st' x).map vw→b1h false st st'→b3g st' x=some (v,a4P x st'):=by
    by_cases hloc:∃i g cs,x = .v i∧raw st x=some (.loc g cs)
    ·obtain⟨i,g,cs,rfl,hr⟩:=hloc
     simp only[b3g,hr,Option.some.injEq,Prod.mk.injEq] at h1
     obtain⟨rfl,rfl⟩:=h1
     have hr':st.vars[i]? = some (.loc g cs):=hr
     refine⟨by simp only[a4P]; rw[a4h hr']; rfl,?_⟩
     intro st' _ hl
     obtain⟨cs',e1,e2,_⟩:=hl i g cs hr'
     have e1':raw st' (.v i)=some (.loc g cs'):=e1
     unfold b3g
     rw[e1']
     simp only[a4P]
     rw[a4h e1]
     simp only[b2n,e2]
    ·have hno:∀i g cs,x = .v i→raw st x=some (.loc g cs)→False:=λi g cs e h=>hloc ⟨i,g,cs,e,h⟩
     have hcp:∀st:St,(∀i g cs,x = .v i→raw st x=some (.loc g cs)→False)→b3g st x=(rd st x).map (·,st):=by
      intro st hn
      unfold b3g
      split
      ·rename_i i g cs h; exact absurd h (λh=>hn i g cs rfl h)
      ·rfl
     rw[hcp st hno] at h1
     simp only[Option.map_eq_some_iff,Prod.mk.injEq] at h1
     obtain⟨r,hr,rfl,rfl⟩:=h1
     have hid:∀st:St,(∀i g cs,x = .v i→st.vars[i]?≠some (.loc g cs))→a4P x st=st:=by
      intro st hn
      cases x with
      | v i =>
        simp only[a4P]
        rw[b1j]
        intro u hu
        cases u<;>first|rfl|exact absurd hu (hn i _ _ rfl)
      | l i=>rfl
      | c p=>rfl
     refine⟨(hid st (λi g cs e h=>hno i g cs e (by rw[e]; exact h))).symm,?_⟩
     intro st' hv hl
     have hno':∀i g cs,x = .v i→st'.vars[i]?≠some (.loc g cs):=by
      intro i g cs e h
      subst e
      have h':raw st' (.v i)=some (.loc g cs):=h
      rw[h'] at hv
      cases hq:raw st (.v i) with
      | none=>rw[hq] at hv; simp at hv
      | some u =>
        rw[hq] at hv
        simp only[Option.map_some,Option.some.injEq] at hv
        cases u<;>simp[vw] at hv
        exact hno i _ _ rfl hq
     have hrd:rd st' x=some r:=by
      unfold rd at hr ⊢
      cases h3:raw st x<;>cases h4:raw st' x<;>simp[h3,h4] at hv hr ⊢
      rw[b7v,← hv,← b7v]; exact hr
     rw[hid st' hno',hcp st' (λi g cs e h=>hno' i g cs e (by rw[e] at h; exact h))]
     simp[hrd]
   obtain⟨o1,o2⟩:=one
   subst o1
   refine⟨i1,?_⟩
   intro st' hv hl
   have hstep:=o2 st' (hv x (List.mem_cons_self ..)) hl
   have hv2:∀y∈xs,(raw (a4P x st) y).map vw=(raw (a4P x st') y).map vw:=by
    intro y hy
    have hy':=hv y (List.mem_cons_of_mem _ hy)
    cases x with
    | l i=>exact hy'
    | c p=>exact hy'
    | v i =>
      cases y with
      | l k=>exact hy'
      | c p=>rfl
      | v k =>
        simp only[a4P,raw,List.getElem?_modify] at hy' ⊢
        by_cases hik:i=k
        ·subst hik
         cases h3:st.vars[i]? with
         | none=>rw[h3] at hy'; cases h4:st'.vars[i]?<;>simp[h4] at hy' ⊢
         | some u =>
           rw[h3] at hy'
           cases h4:st'.vars[i]? with
           | none=>rw[h4] at hy'; simp at hy'
           | some u' =>
             rw[h4] at hy'
             simp only[Option.map_some,Option.some.injEq] at hy'
             simp only[if_true,Option.map_eq_map,Option.map_some,Option.some.injEq]
             cases u with
             | loc g cs =>
               obtain⟨cs',e1,e2,_⟩:=hl i g cs h3
               rw[h4] at e1
               simp at e1; subst e1
               simp[b2n,e2]
             | _=>cases u'<;>simp[vw] at hy'<;>simp_all [b2n,vw]
        ·simp only[hik,if_false]
         cases h3:st.vars[k]?<;>cases h4:st'.vars[k]?<;>simp[h3,h4] at hy' ⊢
         exact hy'
   have hl2:b1h false (a4P x st) (a4P x st'):=by
    cases x with
    | l i=>exact hl
    | c p=>exact hl
    | v i =>
      intro s g cs hs
      simp only[a4P,List.getElem?_modify] at hs ⊢
      by_cases his:i=s
      ·subst his
       cases h3:st.vars[i]? with
       | none=>rw[h3] at hs; simp at hs
       | some u=>rw[h3] at hs; cases u<;>simp[b2n] at hs
      ·simp only[his,if_false] at hs ⊢
       cases h3:st.vars[s]? with
       | none=>rw[h3] at hs; simp at hs
       | some u =>
         rw[h3] at hs
         simp at hs; subst hs
         obtain⟨cs',e1,e2,e3⟩:=hl s g cs h3
         exact ⟨cs',by simp[e1],e2,e3⟩
   have:=i2 _ hv2 hl2
   simp only[a3K,hstep,Option.bind_some,this,Option.map_some,a3P]
theorem b4p:∀(a b:List PX) (st:St),a3P (a++b) st=a3P b (a3P a st)
 | [],_,_=>rfl
 | x::a,b,st=>by simp only[List.cons_append,a3P]; exact b4p a b _
theorem a7h:∀{a b:List PX} {st:St},a3K st (a++b)=(a3K st a).bind λf=>(a3K f.2 b).map λc=>(f.1++c.1,c.2)
 | [],b,st=>by simp only[List.nil_append,a3K,Option.bind_some]; cases a3K st b<;>rfl
 | x :: a, b, st => by
   simp only[List.cons_append,a3K,a7h (a:=a)]
   cases b3g st x with
   | none=>rfl
   | some r =>
     simp only[Option.bind_some]
     cases a3K r.2 a with
     | none=>rfl
     | some f =>
       simp only[Option.bind_some,Option.map_some]
       cases a3K f.2 b<;>rfl
theorem b8J {cf:a0v} {k:Nat} {a b:List PX} {u:PV} {st st1:St} (h:a0N cf (.mkfunc k a b) st=some (u,st1)):
  st1=a3P (a++b) st∧∀st',(∀x∈a++b,(raw st x).map vw=(raw st' x).map vw)→b1h false st st'→a0N cf (.mkfunc k a b) st'=some (u,a3P (a++b) st'):=by
 simp only[a0N,Option.bind_eq_some_iff,Option.map_eq_some_iff,Prod.mk.injEq] at h
 obtain⟨⟨f,st2⟩,h1,⟨c,st3⟩,h2,rfl,rfl⟩:=h
 have hab:a3K st (a++b)=some (f++c,st3):=by rw[a7h,h1]; simp[h2]
 obtain⟨e1,e2⟩:=b3l hab
 obtain⟨e3,e4⟩:=b3l h1
 refine⟨e1,?_⟩
 intro st' hv hl
 have g1:=e4 st' (λx hx=>hv x (List.mem_append_left _ hx)) hl
 have g2:=e2 st' hv hl
 rw[a7h,g1] at g2
 simp only[Option.bind_some,Option.map_eq_some_iff,Prod.mk.injEq] at g2
 obtain⟨⟨c',st4⟩,g3,g4,g5⟩:=g2
 have hc:c'=c:=List.append_cancel_left g4
 subst hc
 simp only[a0N,g1,Option.bind_some,g3,Option.map_some]
 simp only at g5
 rw[g5]
theorem c6x {cf:a0v} {u:PV} {st1:St} (hm:a1o o≠2) (hsub:∀x∈a0r o,x∈rs) (h:opv cf o st=some (u,st1)):
  ∃d:Dm,st1=d.app st∧b3Z o d∧∀st',Sim o rs st st'→opv cf o st'=some (u,d.app st'):=by
 have pure:st1=st→(∀st',Sim o rs st st'→opv cf o st'=(opv cf o st).map λr=>(r.1,st'))→∃d:Dm,st1=d.app st∧b3Z o d∧∀st',Sim o rs st st'→opv cf o st'=some (u,d.app st'):=by
  intro e hs
  refine⟨.none,e,trivial,?_⟩
  intro st' hsim
  rw[hs st' hsim,h]; rfl
 cases o with
 | h o =>
   have heapy:a2c (.h o)=2→(∀st',st'.heap=st.heap→(∀x∈a0A o,rd st x=rd st' x)→(∀x∈a0A o,addr st x=addr st' x)→a0N cf o st'=(a0N cf o st).map λr=>(r.1,{ st' with heap:=r.2.heap }))→(∀u st1,a0N cf o st=some (u,st1)→st1={ st with heap:=st1.heap }) →
     ∃d:Dm,st1=d.app st∧b3Z (.h o) d∧∀st',Sim (.h o) rs st st'→opv cf (.h o) st'=some (u,d.app st'):=by
    intro h2 hs he
    have h':a0N cf o st=some (u,st1):=h
    refine⟨.heap st1.heap,he _ _ h',h2,?_⟩
    intro st' hsim
    show a0N cf o st'=_
    rw[hs st' (hsim.heap (by omega)) (λx hx=>hsim.rd (hsub x hx)) (λx hx=>hsim.addr (hsub x hx)),h']
    rfl
   have hpure:(∀u st1,a0N cf o st=some (u,st1)→st1=st)→(∀st',(1≤a2c (.h o)→st'.heap=st.heap)→(∀x∈a0A o,rd st x=rd st' x)→(∀x∈a0A o,addr st x=addr st' x)→a0N cf o st'=(a0N cf o st).map λr=>(r.1,st')) →
     ∃d:Dm,st1=d.app st∧b3Z (.h o) d∧∀st',Sim (.h o) rs st st'→opv cf (.h o) st'=some (u,d.app st'):=by
    intro e hs
    refine pure (e _ _ h) ?_
    intro st' hsim
    exact hs st' hsim.heap (λx hx=>hsim.rd (hsub x hx)) (λx hx=>hsim.addr (hsub x hx))
   have rdI:∀{st st':St} {x:PX},rd st x=rd st' x→rdInt st x=rdInt st' x:=by intro st st' x hx; unfold PI.rdInt; rw[hx]
   have rdA:∀{st st':St} {xs:List PX},(∀x∈xs,rd st x=rd st' x)→rdAll st xs=rdAll st' xs:=by
    intro st st' xs
    induction xs with
    | nil=>intro _; rfl
    | cons x xs ih=>intro hx; simp only[PI.rdAll]; rw[hx x (by simp),ih (λy hy=>hx y (by simp[hy]))]
   cases o with
   | happ size agg by' a x =>
     have h':a0N cf (.happ size agg by' a x) st=some (u,st1):=h
     simp only[a0N] at h'
     split at h'
     ·rename_i xs n sz ag len hx hra
      have key:∀st',Sim (.h (.happ size agg by' a x)) rs st st'→b04 st' x=some xs∧raw st' a=some (.rowp n sz ag len)∧st'.heap=st.heap:=by
       intro st' hsim
       refine⟨by rw[← hx]; exact (b1i hsim (hsub x (by simp[a0r,a0A])) (by simp[a2c])).symm,?_,hsim.heap (by simp[a2c])⟩
       have:=hsim.reads a (hsub a (by simp[a0r,a0A]))
       rw[hra] at this
       cases hr':raw st' a with
       | none=>rw[hr'] at this; simp at this
       | some v' =>
         rw[hr'] at this
         cases v'<;>simp[vw] at this
         obtain⟨rfl,rfl,rfl,rfl⟩:=this
         rfl
      split at h'
      ·rename_i cs hob
       split at h'
       ·rename_i hc
        simp only[Option.some.injEq,Prod.mk.injEq] at h'
        obtain⟨rfl,rfl⟩:=h'
        refine⟨.heap _,rfl,rfl,?_⟩
        intro st' hsim
        obtain⟨k1,k2,k3⟩:=key st' hsim
        simp only[opv,a0N,k1,k2,k3,hob]
        rw[if_pos hc]
        rfl
       ·simp at h'
      ·simp at h'
     ·rename_i xs hx hra
      have key:∀st',Sim (.h (.happ size agg by' a x)) rs st st'→b04 st' x=some xs∧raw st' a=some (.list true [])∧st'.heap=st.heap:=by
       intro st' hsim
       exact ⟨by rw[← hx]; exact (b1i hsim (hsub x (by simp[a0r,a0A])) (by simp[a2c])).symm,(hsim.takes a (by simp[a1k]) []).1 hra,hsim.heap (by simp[a2c])⟩
      split at h'
      ·rename_i hxs
       simp only[Option.some.injEq,Prod.mk.injEq] at h'
       obtain⟨rfl,rfl⟩:=h'
       refine⟨.heap st.heap,rfl,rfl,?_⟩
       intro st' hsim
       obtain⟨k1,k2,k3⟩:=key st' hsim
       simp only[opv,a0N,k1,k2,k3]
       rw[if_pos hxs]
       simp only[Dm.app,← k3]
      ·rename_i hxs
       split at h'
       ·rename_i hc
        simp only[Option.some.injEq,Prod.mk.injEq] at h'
        obtain⟨rfl,rfl⟩:=h'
        refine⟨.heap _,rfl,rfl,?_⟩
        intro st' hsim
        obtain⟨k1,k2,k3⟩:=key st' hsim
        simp only[opv,a0N,k1,k2,k3]
        rw[if_neg hxs,if_pos hc]
        rfl
       ·simp at h'
     ·rename_i xs hx hra
      have key:∀st',Sim (.h (.happ size agg by' a x)) rs st st'→b04 st' x=some xs∧raw st' a=some .nils∧st'.heap=st.heap:=by
       intro st' hsim
       refine⟨by rw[← hx]; exact (b1i hsim (hsub x (by simp[a0r,a0A])) (by simp[a2c])).symm,?_,hsim.heap (by simp[a2c])⟩
       have:=hsim.reads a (hsub a (by simp[a0r,a0A]))
       rw[hra] at this
       cases hr':raw st' a with
       | none=>rw[hr'] at this; simp at this
       | some v' =>
         rw[hr'] at this
         cases v'<;>simp[vw] at this
         rfl
      split at h'
      ·rename_i hxs
       simp only[Option.some.injEq,Prod.mk.injEq] at h'
       obtain⟨rfl,rfl⟩:=h'
       refine⟨.heap st.heap,rfl,rfl,?_⟩
       intro st' hsim
       obtain⟨k1,k2,k3⟩:=key st' hsim
       simp only[opv,a0N,k1,k2,k3]
       rw[if_pos hxs]
       simp only[Dm.app,← k3]
      ·rename_i hxs
       split at h'
       ·rename_i hc
        simp only[Option.some.injEq,Prod.mk.injEq] at h'
        obtain⟨rfl,rfl⟩:=h'
        refine⟨.heap _,rfl,rfl,?_⟩
        intro st' hsim
        obtain⟨k1,k2,k3⟩:=key st' hsim
        simp only[opv,a0N,k1,k2,k3]
        rw[if_neg hxs,if_pos hc]
        rfl
       ·simp at h'
     ·simp at h'
   | happz size agg by' z a x =>
     refine heapy rfl (λst' hh hr _ =>?_) (λu st1 h =>?_)
     ·simp only[a0N,hh,← rdI (hr x (by simp[a0A])),← hr a (by simp[a0A])]
      (repeat' split)<;>rfl
     ·simp only[a0N] at h
      (repeat' split at h)<;>simp at h
      rw[← h.2]
   | clear size x =>
     refine heapy rfl (λst' hh hr _ =>?_) (λu st1 h =>?_)
     ·simp only[a0N,hh,← hr x (by simp[a0A])]
      (repeat' split)<;>rfl
     ·simp only[a0N] at h
      (repeat' split at h)<;>simp at h
      rw[← h.2]
   | mkarr size agg by' z x =>
     refine heapy rfl (λst' hh hr _ =>?_) (λu st1 h =>?_)
     ·simp only[a0N,hh,← rdI (hr x (by simp[a0A]))]
      (repeat' split)<;>rfl
     ·simp only[a0N] at h
      (repeat' split at h)<;>simp at h
      rw[← h.2]
   | range x =>
     refine heapy rfl (λst' hh hr _ =>?_) (λu st1 h =>?_)
     ·simp only[a0N,hh,← hr x (by simp[a0A])]
      (repeat' split)<;>rfl
     ·simp only[a0N] at h
      (repeat' split at h)<;>simp at h
      rw[← h.2]
   | next x =>
     refine heapy rfl (λst' hh hr _ =>?_) (λu st1 h =>?_)
     ·simp only[a0N,← hr x (by simp[a0A])]
      split
      ·rw[hh]
       split
       ·split
        ·simp only[a3L,hh]; rfl
        ·simp only[Option.map_some,← hh]
       ·rfl
      ·rfl
     ·simp only[a0N] at h
      (repeat' split at h)<;>simp at h
      ·rw[← h.2]; rfl
      ·rw[← h.2]
   | storer size agg a x =>
     refine heapy rfl (λst' hh hr ha =>?_) (λu st1 h =>?_)
     ·have hg:∀n,a57 st' n=a57 st n:=λn=>by unfold a57; rw[hh]
      simp only[a0N,← ha a (by simp[a0A]),← hr x (by simp[a0A]),hg]
      split
      ·rename_i n off v _ _
       split
       ·rfl
       ·cases a57 st n with
        | none=>rfl
        | some cs =>
          simp only[Option.bind_some]
          cases a0g size agg cs off v with
          | none=>rfl
          | some cs'=>simp only[Option.map_some,a3L,hh]
      ·rfl
     ·simp only[a0N] at h
      split at h
      ·split at h
       ·simp at h
       ·simp only[Option.bind_eq_some_iff,Option.map_eq_some_iff,Prod.mk.injEq] at h
        obtain⟨_,_,_,_,_,e⟩:=h
        rw[← e]; rfl
      ·simp at h
   | store size agg a x=>simp[a1o] at hm
   | mset kagg ks m k v=>simp[a1o] at hm
   | mkfunc k a b =>
     obtain⟨e1,e2⟩:=b8J (st:=st) (by simpa[opv] using h)
     by_cases hemp:(a++b).isEmpty=true
     ·have hab:a++b=[]:=by simpa using hemp
      rw[hab] at e1 e2
      refine⟨.none,e1,trivial,?_⟩
      intro st' hs
      have:a=[]∧b=[]:=by simpa using hab
      obtain⟨rfl,rfl⟩:=this
      have h':a0N cf (.mkfunc k [] []) st=some (u,st1):=h
      simp only[a0N,a3K,Option.bind_some,Option.map_some,Option.some.injEq,Prod.mk.injEq] at h'
      obtain⟨rfl,_⟩:=h'
      rfl
     ·have hm4:a1o (.h (.mkfunc k a b))=4:=by simp only[a1o,hemp,if_false]; rfl
      refine⟨.shut (a++b),e1,⟨hm4,rfl⟩,?_⟩
      intro st' hs
      have hl:=hs.mem (by omega)
      rw[hm4] at hl
      exact e2 st' (λx hx=>hs.reads x (hsub x hx)) hl
   | newobj z=>exact heapy rfl (λst' hh _ _=>by simp only[a0N,hh]; rfl) (λu st1 h=>by simp only[a0N,Option.some.injEq,Prod.mk.injEq] at h; rw[← h.2])
   | newbld=>exact heapy rfl (λst' hh _ _=>by simp only[a0N,hh]; rfl) (λu st1 h=>by simp only[a0N,Option.some.injEq,Prod.mk.injEq] at h; rw[← h.2])
   | mkmap=>exact heapy rfl (λst' hh _ _=>by simp only[a0N,hh]; rfl) (λu st1 h=>by simp only[a0N,Option.some.injEq,Prod.mk.injEq] at h; rw[← h.2])
   | boxobj n x =>
     refine heapy rfl (λst' hh hr _ =>?_) (λu st1 h =>?_)
     ·simp only[a0N,hh,← hr x (by simp[a0A])]
      (repeat' split)<;>rfl
     ·simp only[a0N] at h
      (repeat' split at h)<;>simp at h
      rw[← h.2]
   | call k args =>
     refine heapy rfl (λst' hh hr _ =>?_) (λu st1 h =>?_)
     ·have e:rdAll st args=rdAll st' args:=rdA hr
      simp only[a0N,hh,← e]
      cases rdAll st args with
      | none=>rfl
      | some vs=>simp only[Option.bind_some,Option.map_map]; rfl
     ·simp only[a0N,Option.bind_eq_some_iff,Option.map_eq_some_iff,Prod.mk.injEq] at h
      obtain⟨_,_,_,_,_,e⟩:=h
      rw[← e]
   | rcall k args =>
     refine hpure (λu st1 h =>?_) (λst' hh hr _ =>?_)
     ·simp only[a0N,Option.bind_eq_some_iff,same] at h
      obtain⟨_,_,_,_,e⟩:=h
      split at e
      ·simp only[Option.some.injEq,Prod.mk.injEq] at e; exact e.2.symm
      ·simp at e
     ·have e:rdAll st args=rdAll st' args:=rdA hr
      simp only[a0N,hh (by simp[a2c]),← e]
      cases rdAll st args with
      | none=>rfl
      | some vs =>
        simp only[Option.bind_some]
        cases cf k vs st.heap with
        | none=>rfl
        | some r =>
          simp only[Option.bind_some,same,hh (by simp[a2c])]
          by_cases he:r.2=st.heap
          ·rw[if_pos he,if_pos he]; rfl
          ·rw[if_neg he,if_neg he]; rfl
   | bcall k args=>simp[opv,a0N] at h
   | bcallv x args=>simp[opv,a0N] at h
   | callv x args =>
     refine heapy rfl (λst' hh hr _ =>?_) (λu st1 h =>?_)
     ·have e:=rdA (xs:=args) (st':=st') (λy hy=>hr y (by simp only[a0A]; exact List.mem_cons_of_mem _ hy))
      simp only[a0N,hh,← hr x (by simp[a0A]),← e]
      split
      ·simp only[Option.map_map]; rfl
      ·rfl
     ·simp only[a0N] at h
      split at h
      ·simp only[Option.map_eq_some_iff,Prod.mk.injEq] at h
       obtain⟨_,_,_,e⟩:=h
       rw[← e]
      ·simp at h
   | iaddr len size x i =>
     refine hpure (λu st1 h =>?_) (λst' _ hr ha =>?_)
     ·simp only[a0N] at h
      (repeat' split at h)<;>simp at h
      exact h.2.symm
     ·simp only[a0N,← ha x (by simp[a0A]),← rdI (hr i (by simp[a0A]))]
      (repeat' split)<;>rfl
   | isnil kd neg x =>
     refine hpure (λu st1 h =>?_) (λst' _ hr _ =>?_)
     ·simp only[a0N,Option.map_eq_some_iff,Prod.mk.injEq] at h
      obtain⟨_,_,_,e⟩:=h; exact e.symm
     ·simp only[a0N,← hr x (by simp[a0A]),Option.map_map]; rfl
   | nilchk x =>
     refine hpure (λu st1 h =>?_) (λst' _ _ ha =>?_)
     ·simp only[a0N] at h
      (repeat' split at h)<;>simp at h<;>exact h.2.symm
     ·simp only[a0N,← ha x (by simp[a0A])]
      (repeat' split)<;>rfl
   | loadc size agg a =>
     refine hpure (λu st1 h =>?_) (λst' _ hr _ =>?_)
     ·simp only[a0N] at h
      split at h
      ·simp only[Option.map_eq_some_iff,Prod.mk.injEq] at h
       obtain⟨_,_,_,e⟩:=h; exact e.symm
      ·simp at h
     ·simp only[a0N,← hr a (by simp[a0A])]
      split
      ·simp only[Option.map_map]; rfl
      ·rfl
   | barr z ps =>
     refine hpure (λu st1 h =>?_) (λst' _ hr _ =>?_)
     ·simp only[a0N,Option.map_eq_some_iff,Prod.mk.injEq] at h
      obtain⟨_,_,_,e⟩:=h; exact e.symm
     ·have e:∀xs:List (Nat×Nat×PX),(∀x∈xs,rd st x.2.2=rd st' x.2.2)→rdParts st xs=rdParts st' xs:=by
       intro xs
       induction xs with
       | nil=>intro _; rfl
       | cons x xs ih =>
         obtain⟨a,b,x⟩:=x
         intro hx
         simp only[PI.rdParts]
         rw[hx (a,b,x) (by simp),ih (λy hy=>hx y (by simp[hy]))]
      simp only[a0N,← e ps (λx hx=>hr _ (by simp only[a0A]; exact List.mem_map_of_mem hx)),Option.map_map]; rfl
   | idxA len size agg x i =>
     refine hpure (λu st1 h =>?_) (λst' _ hr _ =>?_)
     ·simp only[a0N] at h
      split at h
      ·split at h
       ·simp only[Option.map_eq_some_iff,Prod.mk.injEq] at h
        obtain⟨_,_,_,e⟩:=h; exact e.symm
       ·simp at h
      ·simp at h
     ·simp only[a0N,← hr x (by simp[a0A]),← rdI (hr i (by simp[a0A]))]
      split
      ·split
       ·simp only[Option.map_map]; rfl
       ·rfl
      ·rfl
   | mlen m =>
     refine hpure (λu st1 h =>?_) (λst' hh hr _ =>?_)
     ·simp only[a0N] at h
      split at h
      ·simp only[Option.map_eq_some_iff,Prod.mk.injEq] at h
       obtain⟨_,_,_,e⟩:=h; exact e.symm
      ·simp at h
     ·simp only[a0N,← hr m (by simp[a0A]),a5D,hh (by simp[a2c])]
      split
      ·simp only[Option.map_map]; rfl
      ·rfl
   | load size agg a tkn =>
     by_cases htk:tkn=true
     ·subst htk
      refine heapy rfl (λst' hh _ ha =>?_) (λu st1 h =>?_)
      ·simp only[a0N,← ha a (by simp[a0A]),a57,hh,a3L]
       split
       ·cases a0a size agg _ 0<;>simp<;>rw[← hh]
       ·split
        ·simp only[Option.bind_some]
         split
         ·simp[hh]
         ·cases a0a size agg _ _<;>simp<;>rw[← hh]
        ·rfl
       ·rfl
      ·simp only[a0N] at h
       split at h
       ·simp only[Option.map_eq_some_iff,Prod.mk.injEq] at h
        obtain⟨_,_,_,e⟩:=h; rw[← e]
       ·simp only[Option.bind_eq_some_iff] at h
        obtain⟨cs,_,h⟩:=h
        split at h
        ·simp only[Option.some.injEq,Prod.mk.injEq] at h; rw[← h.2]; rfl
        ·simp only[Option.map_eq_some_iff,Prod.mk.injEq] at h
         obtain⟨_,_,_,e⟩:=h; rw[← e]
       ·simp at h
     ·have htk':tkn=false:=by simpa using htk
      subst htk'
      refine hpure (λu st1 h =>?_) (λst' hh _ ha =>?_)
      ·simp only[a0N] at h
       split at h
       ·simp only[Option.map_eq_some_iff,Prod.mk.injEq] at h
        obtain⟨_,_,_,e⟩:=h; exact e.symm
       ·simp only[Option.bind_eq_some_iff,Bool.false_and] at h
        obtain⟨cs,_,h⟩:=h
        simp only[Option.map_eq_some_iff,Prod.mk.injEq] at h
        obtain⟨_,_,_,e⟩:=h; exact e.symm
       ·simp at h
      ·simp only[a0N,← ha a (by simp[a0A]),a57,hh (by simp[a2c]),Bool.false_and]
       split
       ·simp only[Option.map_map]; rfl
       ·split
        ·simp only[Option.bind_some,Option.map_map]; rfl
        ·rfl
       ·rfl
   | lookup ok tkn kagg ks zero m x =>
     by_cases htk:tkn=true
     ·subst htk
      refine heapy rfl (λst' hh hr _ =>?_) (λu st1 h =>?_)
      ·have hmg:∀n,a5D st' n=a5D st n:=λn=>by unfold a5D; rw[hh]
       simp only[a0N,← hr m (by simp[a0A]),← hr x (by simp[a0A]),hmg,hh,a3L]
       split
       ·rename_i n k _ _
        cases a5D st n with
        | none=>rfl
        | some es =>
          simp only[Option.bind_some]
          cases a3u kagg ks k es 0 with
          | none=>rfl
          | some r =>
            cases r with
            | none=>simp; rw[← hh]
            | some iv =>
              simp only[Option.bind_some]
              split
              ·simp
              ·simp; rw[← hh]
       ·rfl
      ·simp only[a0N] at h
       split at h
       ·simp only[Option.bind_eq_some_iff] at h
        obtain⟨es,_,r,_,h⟩:=h
        split at h
        ·split at h
         ·simp only[Option.some.injEq,Prod.mk.injEq] at h; rw[← h.2]; rfl
         ·simp only[Option.some.injEq,Prod.mk.injEq] at h; rw[← h.2]
        ·simp only[Option.some.injEq,Prod.mk.injEq] at h; rw[← h.2]
       ·simp at h
     ·have htk':tkn=false:=by simpa using htk
      subst htk'
      refine hpure (λu st1 h =>?_) (λst' hh hr _ =>?_)
      ·simp only[a0N] at h
       split at h
       ·simp only[Option.bind_eq_some_iff,Bool.false_and] at h
        obtain⟨es,_,r,_,h⟩:=h
        split at h
        ·simp at h; exact h.2.symm
        ·simp at h; exact h.2.symm
       ·simp at h
      ·have hmg:∀n,a5D st' n=a5D st n:=λn=>by unfold a5D; rw[hh (by simp[a2c])]
       simp only[a0N,← hr m (by simp[a0A]),← hr x (by simp[a0A]),hmg,Bool.false_and]
       split
       ·rename_i n k _ _
        cases a5D st n with
        | none=>rfl
        | some es =>
          simp only[Option.bind_some]
          cases a3u kagg ks k es 0 with
          | none=>rfl
          | some r=>cases r<;>rfl
       ·rfl
 | store size agg a x=>simp[a1o] at hm
 | newloc z=>simp[a1o] at hm
 | boxloc n x=>simp[a1o] at hm
 | sliceLoc n x=>simp[a1o] at hm
 | take x =>
   obtain⟨h1,h2⟩:=c0v (st:=st) (by simpa[opv] using h)
   refine⟨.src x,h1,by simp[b3Z,a1k],?_⟩
   intro st' hs
   simpa[opv] using h2 st' (hs.reads x (hsub x (by simp[a0r]))) (hs.takes x (by simp[a1k]))
 | append size bytes s x =>
   simp only[opv] at h
   split at h
   ·rename_i xs es st2 hr ht
    split at h
    ·rename_i hc
     simp only[Option.some.injEq,Prod.mk.injEq] at h
     obtain⟨rfl,rfl⟩:=h
     obtain⟨h1,h2⟩:=c0v ht
     refine⟨.src s,h1,by simp[b3Z,a1k],?_⟩
     intro st' hs
     have ht':=h2 st' (hs.reads s (hsub s (by simp[a0r]))) (hs.takes s (by simp[a1k]))
     have hr':(rd st' x).bind b0E=some xs:=by rw[← hs.rd (hsub x (by simp[a0r]))]; exact hr
     simp only[opv,hr',ht',if_pos hc]
    ·simp at h
   ·simp at h
 | loadv s size agg a =>
   simp only[opv] at h
   split at h
   ·rename_i s' g off hadd
    split at h
    ·rename_i g' cs hv
     split at h
     ·rename_i hc
      obtain⟨rfl,rfl⟩:=hc
      refine pure (by simp only[Option.map_eq_some_iff,Prod.mk.injEq] at h; obtain⟨_,_,_,e⟩:=h; exact e.symm) ?_
      intro st' hs
      obtain⟨cs',h1,h2⟩:=(hs.slot s' rfl).1 g cs hv
      simp only[opv,(hs.addr (hsub a (by simp[a0r]))).symm,hadd,h1,hv,and_self,if_true]
      rw[← b0h h2,Option.map_map]
      rfl
     ·simp at h
    ·simp at h
   ·simp at h
 | load size agg a tkn =>
   simp only[opv] at h
   have ha:∀st',Sim (.load size agg a tkn) rs st st'→addr st' a=addr st a:=λst' hs=>(hs.addr (hsub a (by simp[a0r]))).symm
   split at h
   ·rename_i cs hadd
    refine pure (by simp only[Option.map_eq_some_iff,Prod.mk.injEq] at h; obtain⟨_,_,_,e⟩:=h; exact e.symm) ?_
    intro st' hs
    simp only[opv,ha st' hs,hadd,Option.map_map]
    rfl
   ·rename_i s g off hadd
    split at h
    ·rename_i g' cs hv
     split at h
     ·rename_i hg
      subst hg
      split at h
      ·rename_i es htk hcell
       simp only[Option.some.injEq,Prod.mk.injEq] at h
       obtain⟨rfl,rfl⟩:=h
       simp only[Bool.and_eq_true,Bool.not_eq_true'] at htk
       have app:∀st:St,st.vars[s]? = some (.loc g cs)→{ st with vars:=st.vars.set s (.loc g (cs.set off (.list false es))) }=(Dm.cell s off).app st:=by
        intro st hv
        simp only[Dm.app]
        rw[a4h hv]
        simp only[a5U]
        rw[a4h hcell]
        rfl
       refine⟨.cell s off,app st hv,by simp[b3Z,a1o,htk.1],?_⟩
       intro st' hs
       obtain⟨cs',h1,_,h3⟩:=hs.mem (by simp[a1o,htk.1]) s g cs hv
       have:cs'=cs:=h3 (by simp[a1o,htk.1])
       subst this
       simp only[opv,ha st' hs,hadd,h1,if_true,htk.1,htk.2,Bool.not_false,Bool.and_self,hcell]
       rw[app st' h1]
      ·rename_i hno
       refine pure (by simp only[Option.map_eq_some_iff,Prod.mk.injEq] at h; obtain⟨_,_,_,e⟩:=h; exact e.symm) ?_
       intro st' hs
       obtain⟨cs',h1,h2,h3⟩:=hs.mem (by simp[a1o]; split<;>omega) s g cs hv
       simp only[opv,ha st' hs,hadd,h1,hv,if_true]
       have hld:=b0h (size:=size) (agg:=agg) (off:=off) h2
       cases htkn:tkn with
       | false=>simp[htkn,← hld]; rfl
       | true =>
         have:cs'=cs:=h3 (by simp[a1o,htkn])
         subst this
         subst htkn
         split
         ·rename_i es' hb hce
          exact absurd hce (by
           intro hce
           exact hno es' hb hce)
         ·simp; rfl
     ·simp at h
    ·simp at h
   ·simp at h
 | mov x =>
   refine pure (by simp only[opv,Option.map_eq_some_iff,Prod.mk.injEq] at h; obtain⟨_,_,_,e⟩:=h; exact e.symm) ?_
   intro st' hs
   simp only[opv,← hs.rd (hsub x (by simp[a0r])),Option.map_map]; rfl
 | movs x =>
   refine pure (by simp only[opv] at h; split at h<;>simp at h; exact h.2.symm) ?_
   intro st' hs
   simp only[opv,← hs.rd (hsub x (by simp[a0r]))]
   split<;>rfl
 | pick c x y =>
   refine pure (by simp only[opv] at h; split at h<;>simp at h; obtain⟨_,_,_,e⟩:=h; exact e.symm) ?_
   intro st' hs
   simp only[opv,← hs.rd (hsub c (by simp[a0r])),← hs.rd (hsub x (by simp[a0r])),← hs.rd (hsub y (by simp[a0r]))]
   split
   ·rename_i t _
    cases t
    ·simp only[Bool.false_eq_true,if_false,← hs.rd (hsub y (by simp[a0r])),Option.map_map]; rfl
    ·simp only[if_true,← hs.rd (hsub x (by simp[a0r])),Option.map_map]; rfl
   ·rfl
 | build z ps =>
   refine pure (by simp only[opv,Option.map_eq_some_iff,Prod.mk.injEq] at h; obtain⟨_,_,_,e⟩:=h; exact e.symm) ?_
   intro st' hs
   simp only[opv,← hs.rdParts (xs:=ps) (λx hx=>hsub _ (by simp only[a0r]; exact List.mem_map_of_mem hx)),Option.map_map]; rfl
 | mkslice size z len ps =>
   refine pure (by simp only[opv,Option.map_eq_some_iff,Prod.mk.injEq] at h; obtain⟨_,_,_,e⟩:=h; exact e.symm) ?_
   intro st' hs
   simp only[opv,← hs.rdElems (xs:=ps) (λx hx=>hsub _ (by simp only[a0r]; exact List.mem_map_of_mem hx)),Option.map_map]; rfl
 | faddr off x =>
   refine pure (by simp only[opv] at h; split at h<;>simp at h<;>exact h.2.symm) ?_
   intro st' hs
   simp only[opv,← hs.addr (hsub x (by simp[a0r]))]
   split<;>rfl
 | appstr s x =>
   simp only[opv] at h
   split at h
   ·rename_i xs es st2 hr ht
    split at h
    ·rename_i hc
     simp only[Option.some.injEq,Prod.mk.injEq] at h
     obtain⟨rfl,rfl⟩:=h
     obtain⟨h1,h2⟩:=c0v ht
     refine⟨.src s,h1,by simp[b3Z,a1k],?_⟩
     intro st' hs
     have ht':=h2 st' (hs.reads s (hsub s (by simp[a0r]))) (hs.takes s (by simp[a1k]))
     have hr':rd st' x=some (.str xs):=by rw[← hs.rd (hsub x (by simp[a0r]))]; exact hr
     simp only[opv,hr',ht',if_pos hc]
    ·simp at h
   ·simp at h
 | b2s x =>
   refine pure (by simp only[opv] at h; split at h<;>simp at h; obtain⟨_,_,_,e⟩:=h; exact e.symm) ?_
   intro st' hs
   simp only[opv,← hs.rd (hsub x (by simp[a0r]))]
   split
   ·simp only[Option.map_map]; rfl
   ·rfl
 | s2b x =>
   refine pure (by simp only[opv] at h; (repeat' split at h)<;>simp at h; exact h.2.symm) ?_
   intro st' hs
   simp only[opv,← hs.rd (hsub x (by simp[a0r]))]
   (repeat' split)<;>rfl
 | iaddrS size x i =>
   refine pure (by simp only[opv] at h; (repeat' split at h)<;>simp at h<;>exact h.2.symm) ?_
   intro st' hs
   simp only[opv,← hs.rd (hsub x (by simp[a0r])),← hs.rdInt (hsub i (by simp[a0r]))]
   (repeat' split)<;>rfl
 | iaddrA len size x i =>
   refine pure (by simp only[opv] at h; (repeat' split at h)<;>simp at h<;>exact h.2.symm) ?_
   intro st' hs
   simp only[opv,← hs.addr (hsub x (by simp[a0r])),← hs.rdInt (hsub i (by simp[a0r]))]
   (repeat' split)<;>rfl
 | field off size agg x =>
   refine pure (by simp only[opv] at h; split at h<;>simp at h; obtain⟨_,_,_,e⟩:=h; exact e.symm) ?_
   intro st' hs
   simp only[opv,← hs.rd (hsub x (by simp[a0r]))]
   split
   ·simp only[Option.map_map]; rfl
   ·rfl
 | indexStr x i =>
   refine pure (by simp only[opv] at h; (repeat' split at h)<;>simp at h; exact h.2.symm) ?_
   intro st' hs
   simp only[opv,← hs.rd (hsub x (by simp[a0r])),← hs.rdInt (hsub i (by simp[a0r]))]
   (repeat' split)<;>rfl
 | slice str size x lo hi =>
   have hlo:∀y∈lo.toList,y∈rs:=λy hy=>hsub y (by simp only[a0r,List.mem_cons,List.mem_append]; exact .inr (.inl hy))
   have hhi:∀y∈hi.toList,y∈rs:=λy hy=>hsub y (by simp only[a0r,List.mem_cons,List.mem_append]; exact .inr (.inr hy))
   refine pure (by
    simp only[opv] at h
    split at h
    ·simp only[Option.bind_eq_some_iff,Option.map_eq_some_iff,Prod.mk.injEq] at h
     obtain⟨_,_,_,_,_,e⟩:=h; exact e.symm
    ·split at h
     ·simp only[Option.bind_eq_some_iff,Option.map_eq_some_iff,Prod.mk.injEq] at h
      obtain⟨_,_,_,_,_,e⟩:=h; exact e.symm
     ·simp at h
    ·simp only[Option.bind_eq_some_iff,Option.map_eq_some_iff,Prod.mk.injEq] at h
     obtain⟨_,_,_,_,_,e⟩:=h; exact e.symm
    ·split at h
     ·simp only[Option.bind_eq_some_iff,Option.map_eq_some_iff,Prod.mk.injEq] at h
      obtain⟨_,_,_,_,_,e⟩:=h; exact e.symm
     ·simp at h
    ·simp at h) ?_
   intro st' hs
   simp only[opv,← hs.rd (hsub x (by simp[a0r])),← hs.bound hlo,← hs.bound hhi]
   split
   ·simp only[Option.map_bind,Function.comp_def,Option.map_map]
   ·split
    ·simp only[Option.map_bind,Function.comp_def,Option.map_map]
    ·rfl
   ·simp only[Option.map_bind,Function.comp_def,Option.map_map]
   ·split
    ·simp only[Option.map_bind,Function.comp_def,Option.map_map]
    ·rfl
   ·rfl
 | bin op x y =>
   refine pure (by simp only[opv] at h; split at h<;>simp at h; obtain⟨_,_,_,e⟩:=h; exact e.symm) ?_
   intro st' hs
   simp only[opv,← hs.rd (hsub x (by simp[a0r])),← hs.rd (hsub y (by simp[a0r]))]
   split
   ·simp only[Option.map_map]; rfl
   ·rfl
 | eq neg agg ks x y =>
   refine pure (by
    simp only[opv] at h
    split at h
    ·simp only[Option.map_eq_some_iff,Prod.mk.injEq] at h
     obtain⟨_,_,_,e⟩:=h; exact e.symm
    ·simp at h) ?_
   intro st' hs
   simp only[opv,← hs.rd (hsub x (by simp[a0r])),← hs.rd (hsub y (by simp[a0r]))]
   split
   ·simp only[Option.map_map]; rfl
   ·rfl
 | un op x =>
   refine pure (by simp only[opv] at h; split at h<;>simp at h; obtain⟨_,_,_,e⟩:=h; exact e.symm) ?_
   intro st' hs
   simp only[opv,← hs.rd (hsub x (by simp[a0r]))]
   split
   ·simp only[Option.map_map]; rfl
   ·rfl
 | convInt k x =>
   refine pure (by simp only[opv,Option.map_eq_some_iff,Prod.mk.injEq] at h; obtain⟨_,_,_,e⟩:=h; exact e.symm) ?_
   intro st' hs
   simp only[opv,← hs.rdInt (hsub x (by simp[a0r])),Option.map_map]; rfl
 | extract i x =>
   refine pure (by
    simp only[opv] at h
    split at h
    ·simp only[Option.map_eq_some_iff,Prod.mk.injEq] at h
     obtain⟨_,_,_,e⟩:=h; exact e.symm
    ·simp at h) ?_
   intro st' hs
   simp only[opv,← hs.rd (hsub x (by simp[a0r]))]
   split
   ·simp only[Option.map_map]; rfl
   ·rfl
 | len str x =>
   refine pure (by simp only[opv] at h; split at h<;>simp at h<;>exact h.2.symm) ?_
   intro st' hs
   simp only[opv,← hs.rd (hsub x (by simp[a0r]))]
   split<;>rfl
 | cap x =>
   refine pure (by simp only[opv] at h; split at h<;>simp at h<;>exact h.2.symm) ?_
   intro st' hs
   simp only[opv,← hs.rd (hsub x (by simp[a0r]))]
   split<;>rfl
 | minmax mx xs =>
   refine pure (by simp only[opv] at h; split at h<;>simp at h; obtain⟨_,_,_,e⟩:=h; exact e.symm) ?_
   intro st' hs
   simp only[opv,← hs.rdAll (xs:=xs) (λx hx=>hsub x (by simpa[a0r] using hx))]
   split
   ·simp only[Option.map_map]; rfl
   ·rfl
 | pcall k xs =>
   refine pure (by simp only[opv] at h; (repeat' split at h)<;>simp at h; exact h.2.symm) ?_
   intro st' hs
   simp only[opv,← hs.rdAll (xs:=xs) (λx hx=>hsub x (by simpa[a0r] using hx))]
   (repeat' split)<;>rfl
 | pcallx k xs own =>
   cases own with
   | none =>
     refine pure (by simp only[opv] at h; (repeat' split at h)<;>simp at h; exact h.2.symm) ?_
     intro st' hs
     simp only[opv,← hs.rdAll (xs:=xs) (λx hx=>hsub x (by simpa[a0r] using hx))]
     (repeat' split)<;>rfl
   | some i =>
     simp only[opv] at h
     split at h
     ·rename_i v st2 us ht hus
      split at h
      ·rename_i hcond
       split at h
       ·rename_i r h' hc
        split at h
        ·rename_i hr
         simp only[Option.some.injEq,Prod.mk.injEq] at h
         obtain⟨rfl,rfl⟩:=h
         simp only[Option.bind_eq_some_iff] at ht
         obtain⟨x,hx,ht⟩:=ht
         have hxm:x∈xs:=List.mem_of_getElem? hx
         obtain⟨h1,h2⟩:=c0v ht
         refine⟨.src x,h1,by simp[b3Z,a1k,hx],?_⟩
         intro st' hs
         have ht':=h2 st' (hs.reads x (hsub x (by simpa[a0r] using hxm))) (hs.takes x (by simp[a1k,hx]))
         simp only[opv,hx,Option.bind_some,ht',← hs.rdAll (xs:=xs) (λx hx=>hsub x (by simpa[a0r] using hx)),hus,if_pos hcond,hc,if_pos hr]
        ·simp at h
       ·simp at h
      ·simp at h
     ·simp at h
 | callv x xs =>
   refine pure (by simp only[opv] at h; (repeat' split at h)<;>simp at h; exact h.2.symm) ?_
   intro st' hs
   simp only[opv,← hs.rd (hsub x (by simp[a0r])),← hs.rdAll (xs:=xs) (λy hy=>hsub y (by simp only[a0r]; exact List.mem_cons_of_mem _ hy))]
   (repeat' split)<;>rfl
end
end PI
