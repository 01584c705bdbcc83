import Derived.Test.YtljbhgpanekomaaGreatDoorPiOrd
import Derived.Test.YtljbhgpanekomaaGreatDoorPiSoundN
import Derived.RangeFuncLeaves
import Derived.RangeFuncIn
import Derived.LoopNIn
import Derived.OrdersIn
import Derived.BigRegion
set_option linter.unusedSimpArgs false
set_option linter.unusedVariables false
set_option linter.unusedSectionVars false
namespace PI
open Go Go.RowKit
abbrev GI (p:PO) (st st':St):Prop:=Sim p.op (At p) st st'
theorem Ec (p:PO):∀x∈wU p.op,x∈At p:=λx hx=>by simp only[At,ax]; exact .inr hx
theorem I9 (o:POp):∀x∈yG o,x∈wU o:=by
 intro x hx
 cases o with
 | h o=>cases o<;>simp[yG,wU,xQ] at hx ⊢; exact .inl hx
 | take y=>simpa[yG,wU] using hx
 | append a b c d=>simp[yG,wU] at hx ⊢; exact .inl hx
 | appstr a b=>simp[yG,wU] at hx ⊢; exact .inl hx
 | pcallx k xs own =>
   cases own with
   | none=>simp[yG] at hx
   | some i=>simp only[yG,Option.mem_toList] at hx; exact aw hx
 | _=>simp[yG] at hx
theorem MP {cf:wE} {j:Nat} {p:PO} {st st1:St} (hm:xb p.op≠2) (h:xX cf j p st=some st1):
  ∃(d:Dm) (u:PV),st1=put (d.app st) j p.dst u∧Aj p.op d∧∀st',GI p st st'→xX cf j p st'=some (put (d.app st') j p.dst u):=by
 have run:(opv cf p.op st).map (λr=>put r.2 j p.dst r.1)=some st1→∃(d:Dm) (u:PV),st1=put (d.app st) j p.dst u∧Aj p.op d∧∀st',GI p st st'→(opv cf p.op st').map (λr=>put r.2 j p.dst r.1)=some (put (d.app st') j p.dst u):=by
  intro h
  simp only[ab] at h
  obtain⟨⟨u,st2⟩,h1,rfl⟩:=h
  obtain⟨d,e,hf,hs⟩:=c9G (rs:=At p) hm (Ec p) h1
  exact ⟨d,u,by rw[e],hf,λst' dD=>by rw[hs st' dD]; rfl⟩
 unfold xX at h
 split at h
 ·rename_i hg
  obtain⟨d,u,h1,h2,h3⟩:=run h
  exact ⟨d,u,h1,h2,λst' hs=>by simp only[xX,hg]; exact h3 st' hs⟩
 ·rename_i x want hg
  have hx:x∈At p:=by simp[At,hg]
  split at h
  ·rename_i b hb
   split at h
   ·rename_i mN
    obtain⟨d,u,h1,h2,h3⟩:=run h
    refine⟨d,u,h1,h2,λst' hs =>?_⟩
    have cW:rd st' x=some (.bool b):=by rw[← hs.rd hx]; exact hb
    simp only[xX,hg,cW,ah mN]
    exact h3 st' hs
   ·rename_i mN
    simp only[aa] at h; subst h
    refine⟨.none,.tuple [],rfl,trivial,λst' hs =>?_⟩
    have cW:rd st' x=some (.bool b):=by rw[← hs.rd hx]; exact hb
    simp only[xX,hg,cW,af mN]
    rfl
  ·rename_i hb
   simp only[aa] at h; subst h
   refine⟨.none,.tuple [],rfl,trivial,λst' hs =>?_⟩
   have cW:rd st' x=some (.tuple []):=by rw[← hs.rd hx]; exact hb
   simp only[xX,hg,cW]
   rfl
  ·simp at h
theorem MQ {st:St} {j:Nat} {d:PD} {u:PV} {x:PX} (h:isX d j x=false):raw (put st j d u) x=raw st x:=by
 cases d<;>cases x<;>simp[isX,yH] at h<;>simp only[put,raw]<;>first|rfl|(rw[aJ]; simp[h])
theorem MS (v:PV):vw (dem v)=vw v:=by cases v<;>rfl
theorem c0l (off:Nat) (v:PV):vw (B6 off v)=vw v:=by cases v<;>rfl
theorem c1R {y x:PX} (st:St) (h:yH y x=false):raw (zf y st) x=raw st x:=by
 cases y with
 | v i =>
   cases x with
   | v k=>simp[yH] at h; simp[zf,raw,aZ,h]
   | _=>rfl
 | _=>cases x<;>rfl
theorem Ja:∀{xs:List PX} {x:PX} (st:St),(∀y∈xs,yH y x=false)→raw (yu xs st) x=raw st x
 | [],_,_,_=>rfl
 | y :: xs, x, st, h => by
   simp only[yu]
   rw[Ja (xs:=xs) _ (λz hz=>h z (bD _ hz)),c1R st (h y (bV ..))]
theorem MT:∀(xs:List PX) (st:St),(yu xs st).heap=st.heap
 | [],_=>rfl
 | x::xs,st=>by simp only[yu]; rw[MT xs]; cases x<;>rfl
theorem Jb:∀(xs:List PX) (st:St) (h:List PObj),yu xs { st with heap:=h }={ yu xs st with heap:=h }
 | [],_,_=>rfl
 | x :: xs, st, h => by
   simp only[yu]
   rw[← Jb xs]
   cases x<;>rfl
theorem c0m (d:Dm) (st:St) (x:PX) (dV:∀xs,d = .shut xs→∀y∈xs,yH y x=false):(raw (d.app st) x).map vw=(raw st x).map vw:=by
 cases d with
 | none=>rfl
 | heap h=>cases x<;>rfl
 | shut xs=>simp only[Dm.app]; rw[Ja st (dV xs rfl)]
 | src y =>
   cases y with
   | c p=>rfl
   | v i =>
     cases x with
     | v k =>
       simp only[Dm.app,raw,aZ]
       cases st.vars[k]?<;>simp
       split<;>simp[MS]
     | _=>rfl
   | l i =>
     cases x with
     | l k =>
       simp only[Dm.app,raw,aZ]
       cases st.locs[k]?<;>simp
       split<;>simp[MS]
     | _=>rfl
 | cell s off =>
   cases x with
   | v k =>
     simp only[Dm.app,raw,aZ]
     cases st.vars[k]?<;>simp
     split<;>simp[c0l]
   | _=>rfl
theorem b8J {o:POp} {d:Dm} (hd:Aj o d) (st:St) (x:PX) (hx:∀y∈yG o,yH y x=false) (dV:∀xs,d = .shut xs→∀y∈xs,yH y x=false) (es:List PV):raw (d.app st) x=some (.list true es)↔raw st x=some (.list true es):=by
 cases d with
 | none=>exact Iff.rfl
 | heap h=>cases x<;>exact Iff.rfl
 | shut xs=>simp only[Dm.app]; rw[Ja st (dV xs rfl)]
 | src y =>
   have hy:=hx y hd
   cases y with
   | c p=>exact Iff.rfl
   | v i =>
     cases x with
     | v k=>simp[yH] at hy; simp[Dm.app,raw,aZ,hy]
     | _=>exact Iff.rfl
   | l i =>
     cases x with
     | l k=>simp[yH] at hy; simp[Dm.app,raw,aZ,hy]
     | _=>exact Iff.rfl
 | cell s off =>
   cases x with
   | v k =>
     simp only[Dm.app,raw,aZ]
     cases hv:st.vars[k]? with
     | none=>simp
     | some v =>
       simp only[az,aa]
       split
       ·cases v<;>simp[B6]
       ·simp
   | _=>exact Iff.rfl
theorem c6b (v:PV):dem (dem v)=dem v:=by cases v<;>rfl
theorem Jc (cs:List PV) (off:Nat):(cs.modify off dem).map dem=cs.map dem:=by
 apply b9
 intro k
 simp only[aB,aZ]
 cases cs[k]?<;>simp
 split<;>simp[c6b]
theorem MU {o:POp} {d:Dm} (hd:Aj o d) (st:St) (exact:Bool) (he:exact=true→xb o≠3) (h4:xb o≠4):BH exact st (d.app st)∧BH exact (d.app st) st:=by
 have same:∀(st st':St),(∀s:Nat,∀g cs,st.vars[s]? = some (.loc g cs)→st'.vars[s]? = some (.loc g cs))→BH exact st st':=λst st' h s g cs hs=>⟨cs,h s g cs hs,rfl,λ_=>rfl⟩
 cases d with
 | none=>exact ⟨same _ _ (λ_ _ _ h=>h),same _ _ (λ_ _ _ h=>h)⟩
 | heap h=>exact ⟨same _ _ (λ_ _ _ h=>h),same _ _ (λ_ _ _ h=>h)⟩
 | shut xs=>exact absurd hd.1 h4
 | src y =>
   cases y with
   | c p=>exact ⟨same _ _ (λ_ _ _ h=>h),same _ _ (λ_ _ _ h=>h)⟩
   | l i=>exact ⟨same _ _ (λ_ _ _ h=>h),same _ _ (λ_ _ _ h=>h)⟩
   | v i =>
     refine⟨same _ _ ?_,same _ _ ?_⟩
     ·intro s g cs h
      simp only[Dm.app,aZ,h,az]
      split<;>rfl
     ·intro s g cs h
      simp only[Dm.app,aZ] at h
      cases hv:st.vars[s]? with
      | none=>simp[hv] at h
      | some v =>
        rw[hv] at h
        simp only[cE,az,aa] at h
        split at h
        ·have:v = .loc g cs:=by cases v<;>simp_all [dem]
         rw[this]
        ·rw[h]
 | cell s off =>
   have h3:xb o=3:=hd
   have c9:exact=false:=by
    cases exact with
    | false=>rfl
    | true=>exact absurd h3 (he rfl)
   subst c9
   refine⟨?_,?_⟩
   ·intro k g cs h
    simp only[Dm.app,aZ,h,az]
    split
    ·exact ⟨cs.modify off dem,rfl,Jc cs off,by simp⟩
    ·exact ⟨cs,rfl,rfl,by simp⟩
   ·intro k g cs h
    simp only[Dm.app,aZ] at h
    cases hv:st.vars[k]? with
    | none=>simp[hv] at h
    | some v =>
      rw[hv] at h
      simp only[cE,az,aa] at h
      split at h
      ·have:∃cs0,v = .loc g cs0∧cs0.modify off dem=cs:=by cases v<;>simp_all [B6]
       obtain⟨cs0,rfl,rfl⟩:=this
       exact ⟨_,rfl,(Jc _ off).symm,by simp⟩
      ·exact ⟨cs,by rw[h],rfl,by simp⟩
structure Comm (jp:Nat) (p:PO) (jq:Nat) (q:PO):Prop where
 mp:xb p.op≠2
 mq:xb q.op≠2
 mm:¬(xb p.op=3∧xb q.op=3)
 pq:∀x∈At q,isX p.dst jp x=false
 pv:isV p.dst=true→xb q.op=0
 qp:∀x∈At p,isX q.dst jq x=false
 qv:isV q.dst=true→xb p.op=0
 dd:Dn p.dst q.dst=false
 tt:∀x∈yG p.op,∀y∈yG q.op,yH x y=false
 m4:xb p.op=4→xb q.op=0
 n4:xb q.op=4→xb p.op=0
 h2:yF p.op=2→yF q.op=0
 k2:yF q.op=2→yF p.op=0
 sp:∀x∈CZ p.op,∀y∈At q,yH x y=false
 sq:∀x∈CZ q.op,∀y∈At p,yH x y=false
theorem c0n (x y:PX):yH x y=yH y x:=by cases x<;>cases y<;>simp[yH]<;>exact Bool.beq_comm
theorem MV (x y:PD):Dn x y=Dn y x:=by cases x<;>cases y<;>simp[Dn]<;>exact Bool.beq_comm
theorem ML {jp jq:Nat} {p q:PO} (h:D9 jp p jq q=true):Comm jp p jq q:=by
 simp only[D9,DT,al,bj,bne_iff_ne,ne_eq,aD,bF,bl,Bool.and_eq_false_iff,beq_eq_false_iff_ne,bne_eq_false_iff_eq,List.any_eq_false] at h
 obtain⟨⟨⟨⟨⟨⟨⟨⟨⟨⟨⟨⟨h1,h2⟩,h3⟩,a1⟩,a2⟩,a3⟩,a4⟩,a5⟩,a6⟩,h4,h5⟩,h6,h7⟩,h8⟩,h9⟩:=h
 have neg:∀{a b:Nat} {c:Nat},(¬a=c∨b=0)→a=c→b=0:=by
  intro a b c h e
  rcases h with h|h
  ·exact absurd e h
  ·exact h
 refine⟨h1,h2,?_,h4,?_,h6,?_,h8,?_,neg a1,neg a2,neg a3,neg a4,?_,?_⟩
 ·rintro⟨a,b⟩; rcases h3 with h3|h3
  ·exact h3 a
  ·exact h3 b
 ·intro hv; rcases h5 with h5|h5
  ·rw[hv] at h5; simp at h5
  ·exact h5
 ·intro hv; rcases h7 with h7|h7
  ·rw[hv] at h7; simp at h7
  ·exact h7
 ·intro x hx y hy
  simpa using h9 x hx y hy
 ·intro x hx y hy
  simpa using a5 x hx y hy
 ·intro x hx y hy
  simpa using a6 x hx y hy
theorem Comm.symm {jp jq:Nat} {p q:PO} (h:Comm jp p jq q):Comm jq q jp p:=
 ⟨h.mq,h.mp,fun⟨a,b⟩=>h.mm ⟨b,a⟩,h.qp,h.qv,h.pq,h.pv,by rw[MV]; exact h.dd,λx hx y hy=>by rw[c0n]; exact h.tt y hy x hx,h.n4,h.m4,h.k2,h.h2,h.sq,h.sp⟩
theorem MW:∀(xs:List PX) (st:St) (s:Nat),(∀y∈xs,yH y (.v s)=false)→(yu xs st).vars[s]? = st.vars[s]?
 | [],_,_,_=>rfl
 | x :: xs, st, s, h => by
   simp only[yu]
   rw[MW xs _ s (λy hy=>h y (by simp[hy]))]
   have:=h x (by simp)
   cases x with
   | v i =>
     have c9:¬i=s:=by simpa[yH] using this
     simp only[zf,aZ,af c9]
     cases st.vars[s]?<;>rfl
   | l i=>rfl
   | c p=>rfl
theorem c3M {o:POp} {d:Dm} (hd:Aj o d) (st:St) (s:Nat) (dV:∀xs,d = .shut xs→∀y∈xs,yH y (.v s)=false):C0 s st (d.app st)∧C0 s (d.app st) st:=by
 have by_loc:xb o≠4→C0 s st (d.app st)∧C0 s (d.app st) st:=by
  intro h4
  obtain⟨h1,h2⟩:=MU hd st false (by simp) h4
  exact ⟨λg cs h=>let ⟨cs',a,b,_⟩:=h1 s g cs h; ⟨cs',a,b⟩,λg cs h=>let ⟨cs',a,b,_⟩:=h2 s g cs h; ⟨cs',a,b⟩⟩
 cases d with
 | none=>exact ⟨λg cs h=>⟨cs,h,rfl⟩,λg cs h=>⟨cs,h,rfl⟩⟩
 | heap h=>exact ⟨λg cs h=>⟨cs,h,rfl⟩,λg cs h=>⟨cs,h,rfl⟩⟩
 | shut xs =>
   have:=MW xs st s (dV xs rfl)
   exact ⟨λg cs h=>⟨cs,by simp only[Dm.app]; rw[this]; exact h,rfl⟩,λg cs h=>⟨cs,by simp only[Dm.app] at h; rw[this] at h; exact h,rfl⟩⟩
 | src y =>
   refine by_loc ?_
   have hy:y∈yG o:=hd
   intro h4
   cases o<;>simp[yG] at hy<;>simp[xb] at h4
   case h o=>cases o<;>simp[yG] at hy<;>simp[xb] at h4
   all_goals (try (split at h4<;>simp at h4))
 | cell s' off =>
   refine by_loc ?_
   have h3:xb o=3:=hd
   omega
theorem MX {jp jq:Nat} {p q:PO} (hc:Comm jp p jq q) {d:Dm} (hd:Aj p.op d) (st:St) (u:PV):GI q st (put (d.app st) jp p.dst u)∧GI q (put (d.app st) jp p.dst u) st:=by
 have dV:∀x∈At q,∀xs,d = .shut xs→∀y∈xs,yH y x=false:=by
  intro x hx xs e y hy
  subst e
  exact hc.sp y (hd.2▸hy) x hx
 have kw:∀x∈At q,(raw st x).map vw=(raw (put (d.app st) jp p.dst u) x).map vw:=λx hx=>by
  rw[MQ (hc.pq x hx),c0m d st x (dV x hx)]
 have ky:∀x∈yG q.op,∀es,raw st x=some (.list true es)↔raw (put (d.app st) jp p.dst u) x=some (.list true es):=λx hx es=>by
  rw[MQ (hc.pq x (Ec q x (I9 _ x hx))),b8J hd st x (λy hy=>hc.tt y hy x hx) (dV x (Ec q x (I9 _ x hx)))]
 have eI:1≤xb q.op→BH (xb q.op==3) st (put (d.app st) jp p.dst u)∧BH (xb q.op==3) (put (d.app st) jp p.dst u) st:=λh1=>by
  have hv:(put (d.app st) jp p.dst u).vars=(d.app st).vars:=by
   cases hd:p.dst with
   | v i=>have:=hc.pv (by rw[hd]; rfl); omega
   | l=>rfl
   | n=>rfl
  have:=MU hd st (xb q.op==3) (λhe h3=>hc.mm ⟨h3,by simpa using he⟩) (λh4=>by have:=hc.m4 h4; omega)
  unfold BH at this ⊢
  rw[hv]
  exact this
 have dX:1≤yF q.op→(put (d.app st) jp p.dst u).heap=st.heap:=by
  intro h1
  have hp:(put (d.app st) jp p.dst u).heap=(d.app st).heap:=by cases p.dst<;>rfl
  rw[hp]
  cases d with
  | none=>rfl
  | src y=>cases y<;>rfl
  | cell s off=>rfl
  | heap h=>have:=hc.h2 hd; omega
  | shut xs=>exact MT xs st
 have lW:∀s,I3 q.op=some s→C0 s st (put (d.app st) jp p.dst u)∧C0 s (put (d.app st) jp p.dst u) st:=by
  intro s hs
  have hx:PX.v s∈At q:=by
   refine Ec q _ ?_
   cases hq:q.op<;>rw[hq] at hs<;>simp[I3] at hs
   subst hs
   simp[wU]
  have hp:(put (d.app st) jp p.dst u).vars[s]? = (d.app st).vars[s]? := by
   have h1:=hc.pq _ hx
   cases gj:p.dst with
   | v i =>
     rw[gj] at h1
     have c9:¬i=s:=by simpa[isX,yH] using h1
     simp only[put,aJ,af c9]
   | l=>rfl
   | n=>rfl
  obtain⟨h1,h2⟩:=c3M hd st s (λxs e y hy=>dV _ hx xs e y hy)
  refine⟨λg cs h =>?_,λg cs h =>?_⟩
  ·obtain⟨cs',a,b⟩:=h1 g cs h
   exact ⟨cs',by rw[hp]; exact a,b⟩
  ·rw[hp] at h
   exact h2 g cs h
 exact ⟨⟨kw,ky,λh=>(eI h).1,dX,lW⟩,⟨λx hx=>(kw x hx).symm,λx hx es=>(ky x hx es).symm,λh=>(eI h).2,λh=>(dX h).symm,λs hs=>(lW s hs).symm⟩⟩
theorem Fa (l:List PV) (i k:Nat) (f g:PV→PV) (h:i=k→∀v,f (g v)=g (f v)):(l.modify i f).modify k g=(l.modify k g).modify i f:=by
 apply b9
 intro m
 simp only[aZ,cE,aE]
 cases l[m]? with
 | none=>rfl
 | some v =>
   simp only[az,Function.comp]
   by_cases h1:i=m<;>by_cases h2:k=m<;>simp[h1,h2]
   exact (h (by omega) v).symm
theorem MY (off:Nat) (v:PV):dem (B6 off v)=B6 off (dem v):=by cases v<;>rfl
theorem c1T (v:PV):B7 (dem v)=dem (B7 v):=by cases v<;>rfl
theorem b52 (off:Nat) (v:PV):B7 (B6 off v)=B6 off (B7 v):=by
 cases v<;>simp[B6,B7,Jc]
theorem c1U (x y:PX) (st:St):zf x ((Dm.src y).app st)=(Dm.src y).app (zf x st):=by
 cases x<;>cases y<;>(try simp only[Dm.app,zf])<;>(try rfl)
 rw[Fa]; intro _ v; exact (c1T v).symm
theorem c0o (x:PX) (s off:Nat) (st:St):zf x ((Dm.cell s off).app st)=(Dm.cell s off).app (zf x st):=by
 cases x<;>(try simp only[Dm.app,zf])<;>(try rfl)
 rw[Fa]; intro _ v; exact (b52 off v).symm
theorem Jd:∀(xs:List PX) (y:PX) (st:St),yu xs ((Dm.src y).app st)=(Dm.src y).app (yu xs st)
 | [],_,_=>rfl
 | x::xs,y,st=>by simp only[yu]; rw[c1U,Jd xs]
theorem Je:∀(xs:List PX) (s off:Nat) (st:St),yu xs ((Dm.cell s off).app st)=(Dm.cell s off).app (yu xs st)
 | [],_,_,_=>rfl
 | x::xs,s,off,st=>by simp only[yu]; rw[c0o,Je xs]
theorem c6c {o o':POp} {d d':Dm} (hd:Aj o d) (gj:Aj o' d') (hm:¬(xb o=3∧xb o'=3)) (h4:xb o=4→xb o'=0) (h2:yF o=2→yF o'=0) (st:St):d.app (d'.app st)=d'.app (d.app st):=by
 cases d with
 | none=>rfl
 | heap h =>
   cases d' with
   | none=>rfl
   | src y=>cases y<;>rfl
   | cell s off=>rfl
   | heap h' =>
     have a:=h2 hd
     have b:yF o'=2:=gj
     omega
   | shut xs=>exact (Jb xs st h).symm
 | shut xs =>
   cases d' with
   | none=>rfl
   | src y=>exact Jd xs y st
   | cell s off=>exact Je xs s off st
   | heap h'=>exact Jb xs st h'
   | shut ys =>
     have a:=h4 hd.1
     have b:xb o'=4:=gj.1
     omega
 | src y =>
   cases d' with
   | heap h'=>cases y<;>rfl
   | shut xs=>exact (Jd xs y st).symm
   | none=>rfl
   | src y' =>
     cases y<;>cases y'<;>(try simp only[Dm.app])<;>(try rfl)<;>(rw[Fa]; intro _ v; rfl)
   | cell s off =>
     cases y<;>(try simp only[Dm.app])<;>(try rfl)
     rw[Fa]; intro _ v; exact (MY off v).symm
 | cell s off =>
   cases d' with
   | heap h'=>rfl
   | shut xs=>exact (Je xs s off st).symm
   | none=>rfl
   | src y' =>
     cases y'<;>(try simp only[Dm.app])<;>(try rfl)
     rw[Fa]; intro _ v; exact MY off v
   | cell s' off'=>exact absurd ⟨hd,gj⟩ hm
theorem Jf (l:List PV) (i k:Nat) (f:PV→PV) (u:PV) (h:i≠k):(l.set i u).modify k f=(l.modify k f).set i u:=by
 apply b9
 intro m
 simp only[aZ,aJ,List.length_modify]
 by_cases h1:i=m
 ·subst h1
  have:¬k=i:=λe=>h e.symm
  simp[this]
 ·simp[h1]
theorem c1V {x:PX} {j:Nat} {d:PD} (st:St) (u:PV) (h:isX d j x=false):zf x (put st j d u)=put (zf x st) j d u:=by
 cases x with
 | v k =>
   cases d with
   | v i=>simp[isX,yH] at h; simp only[zf,put]; rw[Jf _ _ _ _ _ h]
   | _=>rfl
 | _=>cases d<;>rfl
theorem MZ:∀{xs:List PX} {j:Nat} {d:PD} (st:St) (u:PV),(∀x∈xs,isX d j x=false)→yu xs (put st j d u)=put (yu xs st) j d u
 | [],_,_,_,_,_=>rfl
 | x :: xs, j, d, st, u, h => by
   simp only[yu]
   rw[c1V st u (h x (bV ..)),MZ _ _ (λy hy=>h y (bD _ hy))]
theorem c1W (o:POp):∀x∈CZ o,x∈wU o:=by
 intro x hx
 cases o with
 | h o=>cases o<;>simp[CZ,wU,xQ] at hx ⊢; exact hx
 | _=>simp[CZ] at hx
theorem M0 {p:PO} {q:PO} {jp jq:Nat} (hc:Comm jp p jq q) {d:Dm} (hd:Aj p.op d) (st:St) (u:PV):d.app (put st jq q.dst u)=put (d.app st) jq q.dst u:=by
 cases d with
 | none=>rfl
 | heap h=>cases q.dst<;>rfl
 | shut xs=>exact MZ st u (λx hx=>hc.qp x (Ec p x (c1W _ x (hd.2▸hx))))
 | src y =>
   have hy:=hc.qp y (Ec p y (I9 _ y hd))
   cases hq:q.dst with
   | n=>rfl
   | v i =>
     rw[hq] at hy
     cases y with
     | c z=>rfl
     | l k=>rfl
     | v k=>simp[isX,yH] at hy; simp only[Dm.app,put]; rw[Jf _ _ _ _ _ hy]
   | l =>
     rw[hq] at hy
     cases y with
     | c z=>rfl
     | v k=>rfl
     | l k=>simp[isX,yH] at hy; simp only[Dm.app,put]; rw[Jf _ _ _ _ _ hy]
 | cell s off =>
   cases hq:q.dst with
   | n=>rfl
   | l=>rfl
   | v i =>
     have h0:=hc.qv (by rw[hq]; rfl)
     have h3:xb p.op=3:=hd
     omega
theorem c6d {jp jq:Nat} {d d':PD} (hj:jp≠jq) (h:Dn d d'=false) (st:St) (u u':PV):put (put st jp d u) jq d' u'=put (put st jq d' u') jp d u:=by
 cases d<;>cases d'<;>simp[Dn] at h<;>simp only[put]<;>(try rfl)
 ·rw[List.set_comm _ _ h]
 ·rw[List.set_comm _ _ hj]
theorem d4N {cf:wE} {jp jq:Nat} {p q:PO} (hj:jp≠jq) (hc:Comm jp p jq q) {st st1 st2:St} (h1:xX cf jp p st=some st1) (h2:xX cf jq q st1=some st2):
  ∃st1',xX cf jq q st=some st1'∧xX cf jp p st1'=some st2:=by
 obtain⟨d,u,e1,f1,s1⟩:=MP hc.mp h1
 obtain⟨d',u',e2,f2,s2⟩:=MP hc.mq h2
 subst e1
 have hq:=s2 st (MX hc f1 st u).2
 refine⟨_,hq,?_⟩
 have hp:=s1 _ (MX hc.symm f2 st u').1
 rw[hp,e2]
 congr 1
 rw[M0 hc f1,M0 hc.symm f2,c6c f1 f2 hc.mm hc.m4 hc.h2]
 exact c6d (λe=>hj e.symm) (by rw[MV]; exact hc.dd) _ _ _
theorem I0 {cf:wE} {pos:List PO} {i:Nat} {q:PO} (hi:pos[i]? = some q) {post:List Nat}:∀{pre:List Nat} {st st':St},(∀j∈pre,j≠i∧∀p,pos[j]? = some p→Comm j p i q) →
  yD cf pos (pre++i::post) st=some st'→yD cf pos (i::(pre++post)) st=some st'
 | [],st,st',_,h=>h
 | j :: pre, st, st', hc, h => by
   simp only[aW,yD] at h
   split at h
   ·rename_i p hp
    simp only[ai] at h
    obtain⟨st1,h1,h2⟩:=h
    have ih:=I0 hi (λj' uK=>hc j' (by simp[uK])) h2
    simp only[yD,hi,ai] at ih
    obtain⟨st2,h3,h4⟩:=ih
    obtain⟨hj,gI⟩:=hc j (by simp)
    obtain⟨st1',h5,h6⟩:=d4N hj (gI p hp) h1 h3
    simp only[aW,yD,hi,hp,h5,ar,h6]
    exact h4
   ·simp at h
inductive Pre (ops:Array Oper):Nat→Nat→Prop where
 | edge {i:Nat} {o:Oper} {e:Edge} (ho:ops[i]? = some o) (he:e∈o.after) (hb:Region.binds .any e=true):Pre ops e.on i
 | far {i j:Nat} {o:Oper} {e:Edge} (ho:ops[i]? = some o) (he:e∈o.after) (hb:Region.binds .any e=true) (h:Pre ops j e.on):Pre ops j i
def GJ {α:Type} (m:Nat) (f:Nat→α):α:=
 match m with
 | 0=>f 0
 | n+1=>f (n+1)
theorem GG {α:Type} (m:Nat) (f:Nat→α):GJ m f=f m:=by cases m<;>rfl
def wide:Nat:=1024
def Fb (M:Nat):List Edge→Nat→Nat
 | [],m=>m
 | e::es,m=>if Region.binds .any e then GJ (m ||| 1 <<< e.on ||| M >>> (e.on*1024) % 2 ^ wide) (Fb M es) else Fb M es m
def rows:List Oper→Nat→Nat→Nat
 | [],_,M=>M
 | o::os,i,M=>GJ (M ||| (Fb M o.after.toList 0 % 2 ^ wide) <<< (i*1024)) (rows os (i+1))
def E8 (ops:Array Oper) (M:Nat):Prop:=∀i j,j<1024→M.testBit (i*1024+j)=true→Pre ops j i
theorem Jg {ops:Array Oper} {M:Nat} (hM:E8 ops M) {i:Nat} {o:Oper} (ho:ops[i]? = some o):∀(es:List Edge) (m:Nat),(∀e∈es,e∈o.after)→(∀j,j<1024→m.testBit j=true→Pre ops j i)→∀j,j<1024→(Fb M es m).testBit j=true→Pre ops j i
 | [],m,_,hm=>hm
 | e :: es, m, fX, hm => by
   intro j hj h
   simp only[Fb] at h
   split at h
   ·rename_i hb
    rw[GG] at h
    refine Jg hM ho es _ (λx hx=>fX x (by simp[hx])) ?_ j hj h
    intro k hk eD
    simp only[Nat.testBit_or,bF] at eD
    rcases eD with(eD|eD)|eD
    ·exact hm k hk eD
    ·rw[Nat.one_shiftLeft,Nat.testBit_two_pow] at eD
     have:e.on=k:=by simpa using eD
     exact this▸Pre.edge ho (fX e (by simp)) hb
    ·rw[Nat.testBit_mod_two_pow,Nat.testBit_shiftRight] at eD
     simp only[al] at eD
     exact Pre.far ho (fX e (by simp)) hb (hM e.on k hk eD.2)
   ·exact Jg hM ho es m (λx hx=>fX x (by simp[hx])) hm j hj h
theorem I1 {ops:Array Oper}:∀(os:List Oper) (i M:Nat),(∀k,os[k]? = ops[i+k]?)→E8 ops M→E8 ops (rows os i M)
 | [],_,_,_,hM=>hM
 | o :: os, i, M, hs, hM => by
   simp only[rows,GG]
   have ho:ops[i]? = some o:=by simpa using(hs 0).symm
   refine I1 os (i+1) _ (λk=>by have:=hs (k+1); simp only[cD] at this; rw[this]; congr 1; omega) ?_
   intro a j hj h
   simp only[Nat.testBit_or,bF] at h
   rcases h with h|h
   ·exact hM a j hj h
   ·rw[Nat.testBit_shiftLeft,Nat.testBit_mod_two_pow] at h
    simp only[al,ak] at h
    obtain⟨h1,h2,h3⟩:=h
    have hw:wide=1024:=rfl
    have ha:a=i:=by omega
    subst ha
    rw[Nat.add_sub_cancel_left] at h3
    exact Jg hM ho o.after.toList 0 (by simp) (by simp) j hj h3
def E9 (M:Nat) (pos:List PO) (i j:Nat):Bool:=
 (match pos[j]?,pos[i]? with
 | some p,some q=>D9 j p i q
 | _,_=>false)||(decide (j<1024)&&M.testBit (i*1024+j))
def I2 (ops:Array Oper) (pos:List PO) (M:Nat):Bool:=
 (List.range ops.size).all λi=>(match ops[i]? with | some o=>o.after.all (λe => !Region.binds .any e||decide (e.on<i)) | none=>true)&&(List.range i).all (E9 M pos i)
def CP (ops:Array Oper) (pos:List PO):Bool:=GJ (rows ops.toList 0 0) (I2 ops pos)
def Gv (ops:Array Oper) (listed:Array Bool):Prop:=
 ∀(k:Nat) (o:Oper),ops[k]? = some o→listed.getD k false=true→∀e∈o.after,Region.binds .any e=true→listed.getD e.on false=true
theorem MK {ops:Array Oper} {listed:Array Bool} (dm:Gv ops listed) {j i:Nat} (h:Pre ops j i):∀{o:Oper},ops[i]? = some o→(∀e∈o.after,Region.binds .any e=true→listed.getD e.on false=true)→listed.getD j false=true:=by
 induction h with
 | edge ho he hb=>intro o eN hl; rw[ho] at eN; cases eN; exact hl _ he hb
 | @far i j o1 e ho he hb hp ih =>
   intro o eN hl; rw[ho] at eN; cases eN
   have uL:=hl _ he hb
   cases h':ops[e.on]? with
   | none => exfalso; cases hp with
     | edge h1=>rw[h'] at h1; cases h1
     | far h1=>rw[h'] at h1; cases h1
   | some o'=>exact ih h' (dm e.on o' h' uL)
def xY (n:Nat) (listed:Array Bool):List Nat:=(List.range n).filter λi => !listed.getD i false
theorem MJ {l:List Nat} {f:Nat→Bool} {i:Nat} (hs:l.Pairwise (·<·)) (hi:i∈l) (hf:f i=true):
  ∃pre post,l.filter f=pre++i::post∧(∀j∈pre,j<i∧j∈l∧f j=true)∧l.filter (λk=>f k&&k != i)=pre++post:=by
 induction l with
 | nil=>simp at hi
 | cons x xs ih =>
   rw[List.pairwise_cons] at hs
   rcases aA.1 hi with rfl|hi
   ·refine⟨[],xs.filter f,by simp[hf],by simp,?_⟩
    simp only[List.filter_cons,hf,bne_self_eq_false,Bool.and_false,ay,if_false,bu]
    apply List.filter_congr
    intro k hk
    have:k≠i:=λe=>by have:=hs.1 k hk; omega
    simp[this]
   ·obtain⟨pre,post,h1,h2,h3⟩:=ih hs.2 hi
    have cO:=hs.1 i hi
    have c9:(x != i)=true:=by simp; omega
    by_cases hx:f x=true
    ·refine⟨x::pre,post,by simp[hx,h1],?_,by simp[List.filter_cons,hx,c9,h3]⟩
     intro j hj
     rcases aA.1 hj with rfl|hj
     ·exact ⟨cO,by simp,hx⟩
     ·obtain⟨a,b,c⟩:=h2 j hj
      exact ⟨a,by simp[b],c⟩
    ·refine⟨pre,post,by simp[hx,h1],?_,by simp[List.filter_cons,hx,h3]⟩
     intro j hj
     obtain⟨a,b,c⟩:=h2 j hj
     exact ⟨a,by simp[b],c⟩
section
variable {E:Env} {N:Nm} {vs:List Tmp} {P:Program} {ops:Array Oper} {Q:Exit→Act→World→Prop}
theorem c14 {L:Nat→Option PFunc} (hF:ze N P L) (hE:EnvOk E N) (hP:E.P=P) (nm:Names vs (wq vs ops.toList)) {cf:wE} (dP:CallOK N P cf)
  (ej:∀k args h r,cf k args h=some r→∃f,L k=some f) {pos:List PO} (hc:Cw E vs ops.toList ops.toList=some pos) (fj:CP ops pos=true):
  ∀ (fuel : Nat) {listed : Array Bool} {st st' : St} {w : World} {G : GS} {a : Act}, listed.size = ops.size → (xY ops.size listed).length ≤ fuel → Gv ops listed → yD cf pos (xY ops.size listed) st = some st' →
    FI N w G st a vs (wq vs ops.toList)→Next1 N w G a st' vs ops.toList (Q .normal)→wpAny P .any ops Q fuel listed a w:=by
 have cI:ops.size=pos.length:=by have:=(CT hc).1; simpa using this
 have rh:E8 ops (rows ops.toList 0 0):=I1 _ _ _ (by simp) (λi j _ h=>by simp at h)
 have fj:I2 ops pos (rows ops.toList 0 0)=true:=by rw[CP,GG] at fj; exact fj
 have km:∀i o,ops[i]? = some o→∀e∈o.after,Region.binds .any e=true→e.on<i:=by
  intro i o ho e he hb
  have hi:i<ops.size:=(aX.1 ho).1
  have:=aD.1 fj i (by simpa using hi)
  simp only[ho,al,Array.all_eq_true_iff_forall_mem] at this
  have:=this.1 e he
  simpa[hb] using this
 have ko:∀i j,i<ops.size→j<i→E9 (rows ops.toList 0 0) pos i j=true:=by
  intro i j hi hj
  have:=aD.1 fj i (by simpa using hi)
  simp only[al] at this
  exact aD.1 this.2 j (by simpa using hj)
 have jc:∀{listed:Array Bool},listed.size=ops.size→Region.ready .any ops listed=[]→xY ops.size listed=[]:=by
  intro listed cQ hr
  rcases List.eq_nil_or_concat (xY ops.size listed) with h|⟨_,_,h⟩
  ·exact h
  ·exfalso
   cases fo:xY ops.size listed with
   | nil=>rw[fo] at h; simp at h
   | cons m rest =>
     have hm:m∈xY ops.size listed:=by rw[fo]; simp
     simp only[xY,List.mem_filter,List.mem_range,bj] at hm
     have iE:(xY ops.size listed).Pairwise (·<·):=List.Pairwise.filter _ List.pairwise_lt_range
     rw[fo,List.pairwise_cons] at iE
     have lw:m∈Region.ready .any ops listed:=by
      rw[mem_ready]
      refine⟨?_,ops[m],by simp[hm.1],?_⟩
      ·have:=hm.2
       simp only[aM] at this ⊢
       have cO:m<listed.size:=by omega
       simpa[cO] using this
      ·intro e he hb
       have cO:=km m ops[m] (by simp[hm.1]) e he hb
       cases hl:listed.getD e.on false with
       | true=>rfl
       | false =>
         have dO:e.on∈xY ops.size listed:=by
          simp only[xY,List.mem_filter,List.mem_range,hl,Bool.not_false,and_true]
          omega
         rw[fo] at dO
         rcases aA.1 dO with h|h
         ·omega
         ·have:=iE.1 _ h; omega
     rw[hr] at lw
     simp at lw
 intro fuel
 induction fuel with
 | zero =>
   intro listed st st' w G a cQ hl dm hx hf hk
   have h0:xY ops.size listed=[]:=bb.1 (by omega)
   rw[h0] at hx
   simp[yD] at hx; subst hx
   refine⟨?_,hk _ _ G hf (Ext.refl _ _) rfl⟩
   refine List.eq_nil_iff_forall_not_mem.2 λi hi =>?_
   rw[mem_ready] at hi
   obtain⟨ib,o,ho,_⟩:=hi
   have cO:i<ops.size:=(aX.1 ho).1
   have:i∈xY ops.size listed:=by
    simp only[xY,List.mem_filter,List.mem_range,cO,true_and]
    have lx:i<listed.size:=by omega
    simp only[aM] at ib ⊢
    simpa[lx] using ib
   rw[h0] at this
   simp at this
 | succ fuel ih =>
   intro listed st st' w G a cQ hl dm hx hf hk
   refine⟨?_,?_⟩
   ·intro hr
    rw[jc cQ hr] at hx
    simp[yD] at hx; subst hx
    exact hk _ _ G hf (Ext.refl _ _) rfl
   ·intro i hi
    rw[mem_ready] at hi
    obtain⟨ib,o,ho,dK⟩:=hi
    have cO:i<ops.size:=(aX.1 ho).1
    have fO:listed.getD i false=false:=by
     have lx:i<listed.size:=by omega
     simp only[aM] at ib ⊢
     simpa[lx] using ib
    obtain⟨q,hq,uM⟩:=(CT hc).2 i o (by simpa using ho)
    obtain⟨pre,post,e1,e2,e3⟩:=MJ (f:=λk => !listed.getD k false) (List.pairwise_lt_range (n:=ops.size)) (by simpa using cO) (by simp only[fO]; rfl)
    have eA:yD cf pos (i::(pre++post)) st=some st':=by
     refine I0 hq ?_ (by rw[← e1]; exact hx)
     intro j hj
     obtain⟨a1,a2,a3⟩:=e2 j hj
     refine⟨by omega,λp hp =>?_⟩
     have lV:=ko i j cO a1
     simp only[E9,hp,hq,bF] at lV
     rcases lV with h|h
     ·exact ML h
     ·simp only[al,ak] at h
      have:=MK dm (rh i j h.1 h.2) ho dK
      simp only[this] at a3
      simp at a3
    simp only[yD,hq,ai] at eA
    obtain⟨st1,d4,ot⟩:=eA
    refine GA hF hE hP nm ho hf dP ej uM d4 ?_
    intro a' w' G' ju he eX
    have fo:xY ops.size (listed.setIfInBounds i true)=pre++post:=by
     rw[← e3]
     unfold xY
     apply List.filter_congr
     intro k dh
     by_cases iF:k=i
     ·subst iF
      have lx:k<listed.size:=by omega
      simp[aM,aY,lx]
     ·rw[getD_set_ne _ (Ne.symm iF)]
      simp[iF]
    refine ih (by simp[cQ]) ?_ ?_ (by rw[fo]; exact ot) ju (hk.trans he eX)
    ·rw[fo]
     have:(xY ops.size listed).length=(pre++i::post).length:=by unfold xY; rw[e1]
     simp at this ⊢
     omega
    ·intro k o' eN ic e dB hb
     by_cases iF:k=i
     ·subst iF
      have:o'=o:=by rw[ho] at eN; simpa using eN.symm
      subst this
      exact getD_set_true (dK e dB hb)
     ·rw[getD_set_ne _ (Ne.symm iF)] at ic
      exact getD_set_true (dm k o' eN ic e dB hb)
end
end PI
set_option linter.unusedSimpArgs false
set_option linter.unusedVariables false
namespace PI
open Go
def W (r:Option Nat):Fence:={ Fence.wide with round:=r }
section
variable {P:Program} {r:Option Nat} {n:Nat} {ops:Array Oper} {Q:Exit→Act→World→Prop}
theorem AE (f:FuncId):(W r).fn f:=trivial
theorem E6 (k:Nat):(W r).room k:=λd h=>by simp[W,Fence.wide] at h
theorem D7:(W r).depth.isSome=true→1≤n:=λh=>by simp[W,Fence.wide] at h
theorem GF {f:FuncId} {args:Array Value} {w:World} {R:Ending→World→Prop} (h:Calls P f args w R):CallsIn (W r) n P f args w R:=(callsIn_wide (n:=n)).2 h
theorem c0h {f:FuncId} {args:Array Value} {w:World} {R:Ending→World→Prop} (h:CallsIn (W r) n P f args w R):Calls P f args w R:=(callsIn_wide (n:=n)).1 h
theorem d3u {row:String} {args:Array Value} {w:World} {R:Value→World→Prop} (h:Rows P row args w R):RowsIn (W r) n P row args w R:=
 λc cs _=>let ⟨v,w',hr,hs⟩:=h c cs; ⟨v,w',hr,stepsIn_wide.2 hs⟩
theorem c57 {o:Oper} {a:Act} {w:World} {K:Act→World→Prop} (hd:∀c,o.op≠.defer c) (h:o.wp P a w K Q):o.wpIn (W r) n P a w K Q:=by
 refine⟨λ_ _=>AE _,?_⟩
 rw[Oper.semAt_eq _ _ _ hd]
 unfold Oper.wp at h
 generalize (execOp a.eval o).run P w=res at h
 cases res with
 | ok x w' =>
   cases x<;>simp only[Oper.upon] at h<;>simp only[Oper.uponIn]<;>first|exact h|exact⟨D7,GF h⟩|exact⟨D7,d3u h⟩|exact h.elim
 | halt x w'=>cases x<;>simp only[Oper.upon] at h<;>simp only[Oper.uponIn]<;>first | exact h | exact h.elim
theorem IF {i:Nat} {a:Act} {w:World} {K:Act→World→Prop} (hd:∀o c,ops[i]? = some o→o.op≠.defer c) (hQ:¬LetsOut Q) (h:wpOp P ops Q i K a w):wpOpIn (W r) n P ops Q i K a w:=by
 unfold wpOp at h
 unfold wpOpIn
 split
 ·rename_i ho; simp only[ho] at h; exact h
 ·rename_i o ho
  simp only[ho] at h
  split
  ·rename_i hw
   simp only[hw,if_true] at h
   rcases h with h|h
   ·exact c57 (λc=>hd o c ho) h
   ·exact absurd h.2 hQ
  ·rename_i hw
   simp only[hw] at h
   exact⟨λ_ _=>AE _,h⟩
theorem IB (hd:∀(i:Nat) o c,ops[i]? = some o→o.op≠.defer c) (hQ:¬LetsOut Q):∀{l:List Nat} {a:Act} {w:World},wpOps P ops Q l a w→wpOpsIn (W r) n P ops Q l a w
 | [],_,_,h=>h
 | i :: l, a, w, h => by
   rw[wpOps_cons] at h
   rw[wpOpsIn_cons]
   exact wpOpIn_mono (λa w h=>IB hd hQ h) (IF (λo c=>hd i o c) hQ h)
def IW (P:Program) (l:Nat) (R:Ending→World→Prop):Exit→Act→World→Prop
 | .normal,_,w=>∃v w',(Instr.endRound l none).run P w = .ok v w'∧R (.returned v) w'
 | .ret,_,w=>∃v w',(Instr.endRound l (some .ret)).run P w = .ok v w'∧R (.returned v) w'
 | .exit id,_,w=>∃v w',(Instr.endRound l (some (.exit id))).run P w = .ok v w'∧R (.returned v) w'
 | .panic chain,a,w=>a.defers=[]∧R (.panicked chain) w
 | _,_,_=>False
theorem zR (m:Machine):m.fenced P (W r):=fenced_wide P m
theorem b2K {fr c:Frame} {cs:List Frame} {w:World} {chain:List PanicEntry} {fn:Func} (hm:fr.mode = .panicking chain) (hd:fr.defers=[]) (hf:P.funcs[fr.fn]? = some fn):
  step P (lone fr (c::cs) w) = .next (lone (c.raise chain) cs w):=
 step_lone_go (by simp[stepG,unwind,Frame.catches,hm,hd,hf])
end
noncomputable def zP (cf:wE) (ob:yq) (pos:List PO):List Nat→St→Option (Option PV×St)
 | [],st=>some (none,st)
 | i :: l, st =>
   match pos[i]? with
   | some p => match yV cf ob i p st with
     | some (none,st)=>zP cf ob pos l st
     | r=>r
   | none=>none
section
variable {cf:wE} {ob:yq} {pos:List PO}
theorem MG {j:Nat} {p:PO} {st:St} (h:isB p=false):yV cf ob j p st=(xX cf j p st).map λst=>(none,st):=by
 unfold yV
 unfold isB at h
 split
 ·rename_i h1 h2; rw[h1] at h; simp at h
 ·rename_i h1 h2; rw[h1] at h; simp at h
 ·rename_i h1 h2; rw[h1] at h; simp at h
 ·rename_i h1 h2; rw[h1] at h; simp at h
 ·rfl
theorem IY:∀{l:List Nat} {st:St},(∀i∈l,∀p,pos[i]? = some p→isB p=false)→zP cf ob pos l st=(yD cf pos l st).map λst=>(none,st)
 | [],st,_=>rfl
 | i :: l, st, h => by
   simp only[zP,yD]
   cases hp:pos[i]? with
   | none=>rfl
   | some p =>
     simp only[MG (h i (by simp) p hp)]
     cases xX cf i p st with
     | none=>rfl
     | some st1=>simpa using IY (λj hj=>h j (by simp[hj]))
theorem IZ:∀(l1 l2:List Nat) (st:St),zP cf ob pos (l1++l2) st=match zP cf ob pos l1 st with
  | some (none,st)=>zP cf ob pos l2 st
  | r=>r
 | [],l2,st=>rfl
 | i :: l1, l2, st => by
   simp only[aW,zP]
   cases hp:pos[i]? with
   | none=>rfl
   | some p =>
     simp only
     cases yV cf ob i p st with
     | none=>rfl
     | some x =>
       obtain⟨y,st1⟩:=x
       cases y with
       | none=>exact IZ l1 l2 st1
       | some v=>rfl
theorem Ma {all:List PO}:∀{os:List PO} {j:Nat} {st:St},all.drop j=os→yd cf ob j os st=zP cf ob all (List.range' j os.length) st
 | [],j,st,_=>rfl
 | o :: os, j, st, h => by
   have hj:all[j]? = some o:=by
    have:=aH List.head? h
    simpa[List.head?_drop] using this
   have ht:all.drop (j+1)=os:=by
    have:=aH List.tail h
    simpa[List.tail_drop] using this
   simp only[yd,bi,List.range'_succ,zP,hj]
   cases yV cf ob j o st with
   | none=>rfl
   | some x =>
     obtain⟨y,st1⟩:=x
     cases y with
     | none=>exact Ma ht
     | some v=>rfl
theorem b8H {i:Nat} {q:PO} (hi:pos[i]? = some q) {pre post:List Nat} {st:St} {r:Option PV×St} (hb:pre≠[]→isB q=false) (dK:∀j∈pre,∀p,pos[j]? = some p→isB p=false)
  (hc:∀j∈pre,j≠i∧∀p,pos[j]? = some p→Comm j p i q) (h:zP cf ob pos (pre++i::post) st=some r):zP cf ob pos (i::(pre++post)) st=some r:=by
 cases pre with
 | nil=>exact h
 | cons j0 pre0 =>
   have hq:isB q=false:=hb (by simp)
   generalize fD:j0::pre0=pre at *
   have e1:pre++i::post=(pre++[i])++post:=by simp
   have e2:i::(pre++post)=(i::pre)++post:=rfl
   have p1:∀k∈pre++[i],∀p,pos[k]? = some p→isB p=false:=by
    intro k hk p hp
    rcases ax.1 hk with hk|hk
    ·exact dK k hk p hp
    ·simp at hk; subst hk; rw[hi] at hp; simp at hp; subst hp; exact hq
   have p2:∀k∈i::pre,∀p,pos[k]? = some p→isB p=false:=by
    intro k hk p hp
    rcases aA.1 hk with rfl|hk
    ·rw[hi] at hp; simp at hp; subst hp; exact hq
    ·exact dK k hk p hp
   rw[e1,IZ,IY p1] at h
   rw[e2,IZ,IY p2]
   cases hx:yD cf pos (pre++[i]) st with
   | none=>rw[hx] at h; simp at h
   | some st1 =>
     have:=I0 hi hc (post:=[]) hx
     rw[aL] at this
     rw[this]
     rw[hx] at h
     exact h
theorem MH {p:PO} (h:isB p=true):xb p.op=2:=by
 unfold isB at h
 split at h<;>first|(rename_i e; rw[e]; rfl)|simp at h
theorem MI {i j:Nat} {p q:PO} (h:D9 j p i q=true):isB p=false∧isB q=false:=by
 simp only[D9,al,bne_iff_ne,ne_eq] at h
 obtain⟨h1,h2⟩:=h.1.1.1.1.1.1.1.1.1.1.1
 exact⟨by cases hp:isB p with | false=>rfl | true=>exact absurd (MH hp) h1,by cases hp:isB q with | false=>rfl | true=>exact absurd (MH hp) h2⟩
end
theorem c59 {ops:Array Oper} {pos:List PO} {cf:wE} {ob:yq} (cI:ops.size=pos.length) (fj:CP ops pos=true):
  ∀ (fuel t : Nat) {listed : Array Bool} {st : St} {r : Option PV × St}, listed.size = ops.size → (xY ops.size listed).length ≤ fuel → Gv ops listed → zP cf ob pos (xY ops.size listed) st = some r →
    zP cf ob pos (Region.linearise.go .any ops fuel t listed []) st=some r:=by
 have rh:E8 ops (rows ops.toList 0 0):=I1 _ _ _ (by simp) (λi j _ h=>by simp at h)
 have fj:I2 ops pos (rows ops.toList 0 0)=true:=by rw[CP,GG] at fj; exact fj
 have km:∀i o,ops[i]? = some o→∀e∈o.after,Region.binds .any e=true→e.on<i:=by
  intro i o ho e he hb
  have hi:i<ops.size:=(aX.1 ho).1
  have:=aD.1 fj i (by simpa using hi)
  simp only[ho,al,Array.all_eq_true_iff_forall_mem] at this
  have:=this.1 e he
  simpa[hb] using this
 have ko:∀i j,i<ops.size→j<i→E9 (rows ops.toList 0 0) pos i j=true:=by
  intro i j hi hj
  have:=aD.1 fj i (by simpa using hi)
  simp only[al] at this
  exact aD.1 this.2 j (by simpa using hj)
 have jc:∀{listed:Array Bool},listed.size=ops.size→Region.ready .any ops listed=[]→xY ops.size listed=[]:=by
  intro listed cQ hr
  rcases List.eq_nil_or_concat (xY ops.size listed) with h|⟨_,_,h⟩
  ·exact h
  ·exfalso
   cases fo:xY ops.size listed with
   | nil=>rw[fo] at h; simp at h
   | cons m rest =>
     have hm:m∈xY ops.size listed:=by rw[fo]; simp
     simp only[xY,List.mem_filter,List.mem_range,bj] at hm
     have iE:(xY ops.size listed).Pairwise (·<·):=List.Pairwise.filter _ List.pairwise_lt_range
     rw[fo,List.pairwise_cons] at iE
     have lw:m∈Region.ready .any ops listed:=by
      rw[mem_ready]
      refine⟨?_,ops[m],by simp[hm.1],?_⟩
      ·have:=hm.2
       simp only[aM] at this ⊢
       have cO:m<listed.size:=by omega
       simpa[cO] using this
      ·intro e he hb
       have cO:=km m ops[m] (by simp[hm.1]) e he hb
       cases hl:listed.getD e.on false with
       | true=>rfl
       | false =>
         have dO:e.on∈xY ops.size listed:=by
          simp only[xY,List.mem_filter,List.mem_range,hl,Bool.not_false,and_true]
          omega
         rw[fo] at dO
         rcases aA.1 dO with h|h
         ·omega
         ·have:=iE.1 _ h; omega
     rw[hr] at lw
     simp at lw
 intro fuel
 induction fuel with
 | zero =>
   intro t listed st r cQ hl dm hx
   have h0:xY ops.size listed=[]:=bb.1 (by omega)
   rw[h0] at hx
   simpa[Region.linearise.go] using hx
 | succ fuel ih =>
   intro t listed st r cQ hl dm hx
   simp only[Region.linearise.go]
   change zP cf ob pos (match (Region.ready .any ops listed)[t % (Region.ready .any ops listed).length]? with
    | some i=>Region.linearise.go .any ops fuel (t / (Region.ready .any ops listed).length) (listed.setIfInBounds i true) [i]
    | none=>[].reverse) st=some r
   cases hi:(Region.ready .any ops listed)[t % (Region.ready .any ops listed).length]? with
   | none =>
     have kq:Region.ready .any ops listed=[]:=by
      cases hr:Region.ready .any ops listed with
      | nil=>rfl
      | cons x xs =>
        rw[hr] at hi
        have cO:t % (x::xs).length<(x::xs).length:=bZ _ (by simp)
        simp at hi
        simp at cO
        omega
     rw[jc cQ kq] at hx
     simpa using hx
   | some i =>
     simp only[]
     rw[linearise_go_acc,List.reverse_singleton,List.singleton_append]
     have hi:=aw hi
     rw[mem_ready] at hi
     obtain⟨ib,o,ho,dK⟩:=hi
     have cO:i<ops.size:=(aX.1 ho).1
     have fO:listed.getD i false=false:=by
      have lx:i<listed.size:=by omega
      simp only[aM] at ib ⊢
      simpa[lx] using ib
     obtain⟨q,hq⟩:∃q,pos[i]? = some q:=⟨pos[i],an (by omega)⟩
     obtain⟨pre,post,e1,e2,e3⟩:=MJ (f:=λk => !listed.getD k false) (List.pairwise_lt_range (n:=ops.size)) (by simpa using cO) (by simp only[fO]; rfl)
     have gI:∀j∈pre,j<i∧∀p,pos[j]? = some p→D9 j p i q=true:=by
      intro j hj
      obtain⟨a1,a2,a3⟩:=e2 j hj
      refine⟨by omega,λp hp =>?_⟩
      have lV:=ko i j cO a1
      simp only[E9,hp,hq,bF] at lV
      rcases lV with h|h
      ·exact h
      ·simp only[al,ak] at h
       have:=MK dm (rh i j h.1 h.2) ho dK
       simp only[this] at a3
       simp at a3
     have eA:zP cf ob pos (i::(pre++post)) st=some r:=by
      refine b8H hq ?_ (λj hj p hp=>(MI ((gI j hj).2 p hp)).1) (λj hj=>⟨by have:=(gI j hj).1; omega,λp hp=>ML ((gI j hj).2 p hp)⟩) (by rw[← e1]; exact hx)
      intro c9
      cases pre with
      | nil=>exact absurd rfl c9
      | cons j0 _ =>
        have iQ:j0<pos.length:=by have:=(gI j0 (by simp)).1; omega
        exact(MI ((gI j0 (by simp)).2 pos[j0] (an iQ))).2
     simp only[zP,hq] at eA ⊢
     cases hs:yV cf ob i q st with
     | none=>rw[hs] at eA; exact eA
     | some y =>
       obtain⟨z,st1⟩:=y
       rw[hs] at eA
       cases z with
       | some v=>exact eA
       | none =>
         simp only at eA ⊢
         have fo:xY ops.size (listed.setIfInBounds i true)=pre++post:=by
          rw[← e3]
          unfold xY
          apply List.filter_congr
          intro k dh
          by_cases iF:k=i
          ·subst iF
           have lx:k<listed.size:=by omega
           simp[aM,aY,lx]
          ·rw[getD_set_ne _ (Ne.symm iF)]
           simp[iF]
         refine ih _ (by simp[cQ]) ?_ ?_ (by rw[fo]; exact eA)
         ·rw[fo]
          have:(xY ops.size listed).length=(pre++i::post).length:=by unfold xY; rw[e1]
          simp at this ⊢
          omega
         ·intro k o' eN ic e dB hb
          by_cases iF:k=i
          ·subst iF
           have:o'=o:=by rw[ho] at eN; simpa using eN.symm
           subst this
           exact getD_set_true (dK e dB hb)
          ·rw[getD_set_ne _ (Ne.symm iF)] at ic
           exact getD_set_true (dm k o' eN ic e dB hb)
end PI
set_option linter.unusedSimpArgs false
set_option linter.unusedVariables false
namespace PI
open Go Go.RowKit
def GS.callee (G:GS):GS:={ fix:=G.fix,heap:=G.heap,box:=λ_=>none,ow:=zC G.ow }
section
variable {E:Env} {N:Nm} {w:World} {G:GS} {st:St} {a:Act} {vs:List Tmp} {lm:Nat→Option Tmp} {P:Program}
theorem DY (hf:FI N w G st a vs lm):Between N w G.callee st.heap:=
 ⟨⟨λb k h=>(D6 h).2,λ_=>rfl⟩,hf.fixlt,λb k h=>hf.owlt b k (D6 h).1,hf.heap.sub rfl rfl (λb k hk h=>IU h hk),hf.hdom⟩
theorem GC (hf:FI N w G st a vs lm) {w':World} {G2:GS} {h':List PObj} (he:Ext w G.callee w' G2) (dI:Between N w' G2 h'):
  ∃G',Ext w G w' G'∧FI N w' G' { st with heap:=h' } a vs lm∧G'.fix=G2.fix∧G'.heap=G2.heap:=by
 let Gc:GS:=G.callee
 let G':GS:={ fix:=G2.fix,heap:=G2.heap,box:=G.box,ow:=λb=>match G.ow b with | some k=>if k.isH then G2.ow b else some k | none=>G2.ow b,df:=G.df }
 have cH:Ext w G w' G':=by
  refine⟨he.os,he.tape,he.output,he.size,λb cO h=>he.same b cO (by simp[GS.callee,zC,h]),λb o h=>he.fix b o h,?_,?_,he.heap,he.shape,rfl⟩
  ·intro b o h
   rcases he.newfix b o h with h|h|h
   ·exact .inl h
   ·exact .inr (.inl h)
   ·refine .inr (.inr ?_)
    intro e
    apply h
    simp[GS.callee,zC,e]
  ·intro b h
   cases hb:G.ow b with
   | some k=>exact .inr (by simp)
   | none =>
     simp only[G',hb] at h
     rcases he.own b h with h|h
     ·exact .inl h
     ·exact absurd (by simp[GS.callee,zC,hb]) h
 have cM:xO (λk=>k.isH=true) w G w' G':=by
  refine⟨?_,λ_ _ h=>h⟩
  intro b key cW hn
  have fT:=hf.owlt _ _ cW
  have eg:Gc.ow b=none:=by simp[Gc,GS.callee,zC,cW,hn]
  refine⟨by simp[G',cW,hn],he.same b fT eg,?_⟩
  intro o h
  rcases he.newfix b o h with h|h|h
  ·exact h
  ·omega
  ·exact absurd eg h
 have dX:HR N w' G' h':=by
  refine dI.heap.sub rfl rfl ?_
  intro b k wc h
  cases hb:G.ow b with
  | none=>simp only[G',hb]; exact h
  | some k0 =>
    by_cases lR:k0.isH=true
    ·simp only[G',hb,lR,if_true]; exact h
    ·have eg:Gc.ow b=none:=by simp[Gc,GS.callee,zC,hb,lR]
     have cO:=hf.owlt _ _ hb
     rcases he.own b (by rw[h]; simp) with h2|h2
     ·omega
     ·exact absurd eg h2
 have de:FI N w' G' { st with heap:=h' } a vs lm:=by
  refine⟨hf.len,λi t u h1 h2=>(hf.var i t u h1 h2).keep cH cM (by simp[Key.isH]) (by simp[Key.isH]),λj t u h1 h2=>(hf.loc j t u h1 h2).keep cH cM (by simp[Key.isH]) (by simp[Key.isH]),hf.tv,hf.tl,(hf.defers.trans cH.df.symm),hf.gen,?_,dI.fixlt,dX,dI.hdom⟩
  intro b k h
  cases hb:G.ow b with
  | some k0=>exact aO (hf.owlt _ _ hb) he.size
  | none =>
    simp only[G',hb] at h
    exact dI.owlt _ _ h
 exact⟨G',cH,de,rfl,rfl⟩
def AF (N:Nm) (w':World) (G':GS) (e:Ending):Out→Prop
 | .val r=>∃v,e = .returned v∧VR N w' G'.fix G'.heap v r
 | .boom p=>∃v,e = .panicked [{ v,recovered:=false }]∧VR N w' G'.fix G'.heap v p
def DU (N:Nm) (P:Program) (ob:yq):Prop:=
 ∀ (k : Nat) (args : List PV) (o : Out) (h h' : List PObj), ob k args h = some (o, h') → N.yl k = none → ∀ (w : World) (G : GS) (vals : Array Value), Between N w G h → vals.size = args.length →
   (∀(i:Nat) (v:Value) (p:PV),vals[i]? = some v→args[i]? = some p→VR N w G.fix G.heap v p) →
   Calls P (N.fn k) vals w λe w'=>∃G',AF N w' G' e o∧Ext w G w' G'∧Between N w' G' h'
def EZ (N:Nm) (P:Program) (ob:yq):Prop:=
 ∀ (k : Nat) (y : YL) (n l : Nat) (tmps : Array Value) (caps args : List PV) (o : Out) (h h' : List PObj), N.yl k = some y → ob k (.ptr n 0 :: caps ++ args) h = some (o, h') → ∀ (w : World) (G : GS) (vals : Array Value), Between N w G h →
   VR N w G.fix G.heap (.func (.yield l) #[] #[]) (.func k (.ptr n 0::caps) [])→vals.size=args.length→(∀(i:Nat) (v:Value) (p:PV),vals[i]? = some v→args[i]? = some p→VR N w G.fix G.heap v p) →
   ∃tmps',(Instr.yield l vals).run P w = .ok (.round l y.fn tmps' y.assign y.body) w∧∀r n',RoundIn (W r) n' P l y.fn tmps' y.assign y.body w λe w'=>∃G',AF N w' G' e o∧Ext w G w' G'∧Between N w' G' h'
variable {ops:Array Oper} {o:Oper} {j:Nat} {Q:Exit→Act→World→Prop} {K:Act→World→Prop} {r:Option Nat} {n:Nat}
def Ip (N:Nm) (w:World) (G:GS) (a:Act) (st1:St) (vs:List Tmp) (lm:Nat→Option Tmp) (p:PV) (Q:Exit→Act→World→Prop):Prop:=
 ∀w' G' v,VR N w' G'.fix G'.heap v p→Ext w G w' G'→FI N w' G' st1 a vs lm→Q (.panic [{ v,recovered:=false }]) a w'
theorem LQ (nm:Names vs (wq vs ops.toList)) (ho:ops[j]? = some o) (hf:FI N w G st a vs (wq vs ops.toList)) {out:Out} {h':List PObj} (hQ:¬LetsOut Q)
  (hv:∀u,out = .val u→Next1 N w G a (put { st with heap:=h' } j (wS vs o.dst) (dem u)) vs ops.toList K) (hb:∀p,out = .boom p→Ip N w G a { st with heap:=h' } vs (wq vs ops.toList) p Q)
  {e:Ending} {w':World} {G2:GS} (h:AF N w' G2 e out) (he:Ext w G.callee w' G2) (dI:Between N w' G2 h'):
  (match e with
   | .returned v=>K (a.put o.dst v) w'
   | .panicked chain=>Q (.panic chain) a w'
   | .outgrown=>LetsOut Q):=by
 obtain⟨G',cH,de,e1,e2⟩:=GC hf he dI
 cases out with
 | val u =>
   obtain⟨v,rfl,cR⟩:=h
   have gz:VR N w' G'.fix G'.heap v (dem u):=by rw[e1,e2]; exact cR.dem
   exact hv u rfl _ _ G' (de.put nm (zK (by simpa using ho)) (SR.of_pure gz cR.cp_dem)) cH (zL _ _ _)
 | boom p =>
   obtain⟨v,rfl,cR⟩:=h
   exact hb p rfl w' G' v (by rw[e1,e2]; exact cR) cH de
theorem QV {c:Call} (cK:o.op = .call c) (ρ:Operand→Value):o.semAt (W r).round ρ=execOp ρ o:=Oper.semAt_eq _ _ _ (λc' h=>by rw[cK] at h; cases h)
theorem QX {L:Nat→Option PFunc} (hF:ze N P L) (hE:EnvOk E N) (nm:Names vs (wq vs ops.toList)) (ho:ops[j]? = some o) (hf:FI N w G st a vs (wq vs ops.toList)) {ob:yq} (dF:DU N P ob) (iX:∀k args h x,ob k args h=some x→∃f,L k=some f)
  {f:FuncId} {k:Nat} {xs:Array Operand} {ts:Array TypeId} {pxs:List PX} {args:List PV} (cK:o.op = .call { callee := .value (.func f),args:=xs,argTypes:=ts }) (dh:E.inv f=some k) (hx:cxs E vs ops.toList xs.toList=some pxs)
  (eT:rdAll st pxs=some args) {out:Out} {h':List PObj} (hc:ob k args st.heap=some (out,h')) (hQ:¬LetsOut Q)
  (hv:∀u,out = .val u→Next1 N w G a (put { st with heap:=h' } j (wS vs o.dst) (dem u)) vs ops.toList K) (hb:∀p,out = .boom p→Ip N w G a { st with heap:=h' } vs (wq vs ops.toList) p Q):o.wpIn (W r) n P a w K Q:=by
 obtain⟨h1,h2⟩:=Bf hE hf hx eT
 obtain⟨g1,g2⟩:=Dc (w:=w) (G:=G) h1 h2
 obtain⟨pf,hL⟩:=iX _ _ _ _ hc
 have eB:=hE.fn _ _ dh
 refine⟨λ_ _=>AE _,?_⟩
 rw[QV cK]
 have cL:(execOp a.eval o).run P w = .ok (.enter (N.fn k) (xs.map a.eval)) w:=by
  have:=Cy hF hL (xs.map a.eval) w
  rw[eB] at this
  rw[eB]
  simp[execOp,cK,resolve,Act.eval,Deferred.ofValue,invoke]
  exact this
 rw[cL,Oper.uponIn_enter]
 refine⟨D7,GF ?_⟩
 refine(dF k args out st.heap h' hc (hE.yl _ _ dh) w G.callee (xs.map a.eval) (DY hf) g1 g2).mono ?_
 rintro e w' ⟨G2,hR,he,dI⟩
 have:=LQ nm ho hf hQ hv hb hR he dI
 cases e<;>exact this
theorem QY {L:Nat→Option PFunc} (hF:ze N P L) (hE:EnvOk E N) (nm:Names vs (wq vs ops.toList)) (ho:ops[j]? = some o) (hf:FI N w G st a vs (wq vs ops.toList)) {ob:yq} (dF:DU N P ob) (dY:EZ N P ob) (iX:∀k args h x,ob k args h=some x→∃f,L k=some f)
  {t:Tmp} {px:PX} {k:Nat} {first captured:List PV} {xs:Array Operand} {ts:Array TypeId} {pxs:List PX} {args:List PV} (cK:o.op = .call { callee := .value (.tmp t),args:=xs,argTypes:=ts }) (fL:cx E vs ops.toList (.tmp t)=some px) (hx:cxs E vs ops.toList xs.toList=some pxs)
  (mn:rd st px=some (.func k first captured)) (eT:rdAll st pxs=some args) {out:Out} {h':List PObj} (hc:ob k (first++args++captured) st.heap=some (out,h')) (hQ:¬LetsOut Q)
  (hv:∀u,out = .val u→Next1 N w G a (put { st with heap:=h' } j (wS vs o.dst) (dem u)) vs ops.toList K) (hb:∀p,out = .boom p→Ip N w G a { st with heap:=h' } vs (wq vs ops.toList) p Q):o.wpIn (W r) n P a w K Q:=by
 obtain⟨h1,h2⟩:=Bf hE hf hx eT
 obtain⟨g1,g2⟩:=Dc (w:=w) (G:=G) h1 h2
 obtain⟨pf,hL⟩:=iX _ _ _ _ hc
 have iM:=(wW hE fL hf mn).1
 refine⟨λ_ _=>AE _,?_⟩
 rw[QV cK]
 generalize eh:a.eval (.tmp t)=v at iM
 cases iM with
 | yield _ m l y tmps caps hy hl hr cI cQ cT =>
   have cR:VR N w G.callee.fix G.callee.heap (.func (.yield l) #[] #[]) (.func k (.ptr m 0::caps) []) := .yield k m l y tmps caps hy hl hr cI cQ cT
   rw[aL] at hc
   obtain⟨tmps',oZ,ey⟩:=dY k y m l tmps caps args out st.heap h' hy hc w G.callee (xs.map a.eval) (DY hf) cR g1 g2
   have cL:(execOp a.eval o).run P w = .ok (.round l y.fn tmps' y.assign y.body) w:=by
    simp only[execOp,cK,resolve,Sem.run_bind,eh,Deferred.ofValue,Sem.run_pure,Result.andThen_ok,invoke]
    simpa using oZ
   rw[cL,Oper.uponIn_round]
   refine⟨D7,(ey r (n - 1)).mono ?_⟩
   rintro e w' ⟨G2,hR,he,dI⟩
   have:=LQ nm ho hf hQ hv hb hR he dI
   cases e<;>exact this
 | func _ fs cs _ _ hy e1 e2 lr ea =>
   have cL:(execOp a.eval o).run P w = .ok (.enter (N.fn k) (fs++xs.map a.eval++cs)) w:=by
    have:=Cy hF hL (fs++xs.map a.eval++cs) w
    simp only[execOp,cK,resolve,Sem.run_bind,eh,Deferred.ofValue,Sem.run_pure,Result.andThen_ok,invoke]
    exact this
   rw[cL,Oper.uponIn_enter]
   refine⟨D7,GF ?_⟩
   refine(dF k _ out st.heap h' hc hy w G.callee (fs++xs.map a.eval++cs) (DY hf) (by simp[e1,e2]; simpa using h1) ?_).mono ?_
   ·intro i v p dN hp
    by_cases hi:i<fs.size
    ·rw[bX,bo hi] at dN
     rw[aC,am (by omega)] at hp
     exact lr i v p dN hp
    ·rw[bX,bY (by omega)] at dN
     rw[aC,ap (by omega),← e1] at hp
     by_cases dS:i - fs.size<(xs.map a.eval).size
     ·rw[bo dS] at dN
      rw[am (by omega)] at hp
      exact g2 _ v p dN hp
     ·rw[bY (by omega)] at dN
      rw[ap (by omega),← g1] at hp
      exact ea _ v p dN hp
   ·rintro e w' ⟨G2,hR,he,dI⟩
    have:=LQ nm ho hf hQ hv hb hR he dI
    cases e<;>exact this
theorem L9 {L:Nat→Option PFunc} (hF:ze N P L) (hE:EnvOk E N) (hP:E.P=P) (nm:Names vs (wq vs ops.toList)) (ho:ops[j]? = some o) (hf:FI N w G st a vs (wq vs ops.toList)) {cf:wE} (dP:CallOK N P cf) {ob:yq} (dF:DU N P ob) (dY:EZ N P ob)
  (ej:∀k args h x,cf k args h=some x→∃f,L k=some f) (iX:∀k args h x,ob k args h=some x→∃f,L k=some f) (hd:∀c,o.op≠.defer c) {po:PO} (hc:E0 E vs ops.toList o=some po) {res:Option PV} {st1:St} (hs:yV cf ob j po st=some (res,st1)) (hQ:¬LetsOut Q)
  (hk:res=none→Next1 N w G a st1 vs ops.toList K) (hb:∀p,res=some p→Ip N w G a st1 vs (wq vs ops.toList) p Q):wpOpIn (W r) n P ops Q j K a w:=by
 have plain:∀{po:PO},E3 E vs ops.toList o=some po→yV cf ob j po st=some (res,st1)→wpOpIn (W r) n P ops Q j K a w:=by
  intro po hc hs
  simp only[E3,ai] at hc
  obtain⟨p,hp,hc⟩:=hc
  split at hc
  ·simp at hc
  ·rename_i wg
   simp only[aa] at hc
   subst hc
   rw[MG (by simpa using wg)] at hs
   simp only[ab,ac] at hs
   obtain⟨st2,h1,rfl,rfl⟩:=hs
   refine IF (λo' c eN =>?_) hQ (GA hF hE hP nm ho hf dP ej hp h1 (hk rfl))
   rw[ho] at eN
   simp only[aa] at eN
   subst eN
   exact hd c
 unfold E0 at hc
 split at hc
 ·rename_i dst f xs ts ty pos aft
  split at hc
  ·simp only[ai,ab] at hc
   obtain⟨k,dh,ps,d9,rfl⟩:=hc
   simp only[yV] at hs
   split at hs
   ·rename_i us eT
    unfold wpOpIn
    simp only[ho,Region.wanted,if_true]
    split at hs
    ·rename_i u h' dc
     simp only[aa,ac] at hs
     obtain⟨rfl,rfl⟩:=hs
     exact QX hF hE nm ho hf dF iX rfl dh d9 eT dc hQ (λu' e=>by cases e; exact hk rfl) (λp e=>by cases e)
    ·rename_i v h' dc
     simp only[aa,ac] at hs
     obtain⟨rfl,rfl⟩:=hs
     exact QX hF hE nm ho hf dF iX rfl dh d9 eT dc hQ (λu' e=>by cases e) (λp e=>by cases e; exact hb _ rfl)
    ·simp at hs
   ·simp at hs
  ·exact plain hc hs
 ·rename_i dst t xs ts ty pos aft
  split at hc
  ·simp only[ai,ab] at hc
   obtain⟨px,fL,ps,d9,rfl⟩:=hc
   simp only[yV] at hs
   split at hs
   ·rename_i k first captured us mn eT
    unfold wpOpIn
    simp only[ho,Region.wanted,if_true]
    split at hs
    ·rename_i u h' dc
     simp only[aa,ac] at hs
     obtain⟨rfl,rfl⟩:=hs
     exact QY hF hE nm ho hf dF dY iX rfl fL d9 mn eT dc hQ (λu' e=>by cases e; exact hk rfl) (λp e=>by cases e)
    ·rename_i v h' dc
     simp only[aa,ac] at hs
     obtain⟨rfl,rfl⟩:=hs
     exact QY hF hE nm ho hf dF dY iX rfl fL d9 mn eT dc hQ (λu' e=>by cases e) (λp e=>by cases e; exact hb _ rfl)
    ·simp at hs
   ·simp at hs
  ·exact plain hc hs
 ·exact plain hc hs
end
end PI
set_option linter.unusedSimpArgs false
set_option linter.unusedVariables false
namespace PI
open Go
def wpN (r:Option Nat) (fid:FuncId) (P:Program) (c:Code) (Q:Exit→Act→World→Prop) (a:Act) (w:World):Prop:=
 ∀ (b : Frame) (k : List Item) (cs : List Frame), b.roundOf = r → b.fn = fid →
   ∃e a' w',Q e a' w'∧ArrivesIn (Machine.fenced P (W r)) P (lone (b.atR a (.code c::k)) cs w) b k cs e a' w'
section
variable {P:Program} {r:Option Nat} {fid:FuncId} {n:Nat} {Q:Exit→Act→World→Prop} {a:Act} {w:World}
theorem CU {c:Code} (h:c.wpIn (W r) n P Q a w):wpN r fid P c Q a w:=λb k cs dY _=>h b k cs dY (AE _) (E6 _)
theorem c41 {c:Code} {Q':Exit→Act→World→Prop} (h:wpN r fid P c Q a w) (hq:∀e a w,Q e a w→Q' e a w):wpN r fid P c Q' a w:=
 λb k cs dY hb=>let ⟨e,a',w',q,r⟩:=h b k cs dY hb; ⟨e,a',w',hq _ _ _ q,r⟩
theorem c42 (h:Q .normal a w):wpN r fid P .skip Q a w:=λ_ _ _ _ _=>⟨.normal,a,w,h,.one (zR _) stepR_skip⟩
theorem Mc {id:Nat} (h:Q (.exit id) a w):wpN r fid P (.exit id) Q a w:=
 λ_ k _ _ _=>⟨.exit id,a,w,h,λ_ hk => .one (zR _) (stepR_exit hk),λ_ hk=>⟨k,hk,.refl _⟩⟩
theorem Md (h:Q .ret a w):wpN r fid P .ret Q a w:=
 λ_ k _ _ _=>⟨.ret,a,w,h,λhn=>⟨_,.one (zR _) (stepR_ret hn)⟩,λ_=>⟨k,.refl _⟩⟩
theorem Dg {x y:Code} (h:wpN r fid P x (Exit.then (wpN r fid P y Q) Q) a w):wpN r fid P (.seq x y) Q a w:=by
 intro b k cs dY hb
 have h0:(lone (b.atR a (.code (.seq x y)::k)) cs w).fenced P (W r):=zR _
 obtain⟨e,a₁,w₁,hq,dx⟩:=h b (.code y::k) cs dY hb
 cases e with
 | normal =>
   obtain⟨e₂,a₂,w₂,hq₂,harr₂⟩:=hq b k cs dY hb
   exact⟨e₂,a₂,w₂,hq₂,.of_steps (.head h0 stepR_seq dx) harr₂⟩
 | exit id=>exact⟨_,a₁,w₁,hq,.of_steps (.one h0 stepR_seq) (.pass (x := .code y) rfl (λ_ _ => .inl (by simp)) dx)⟩
 | goto l=>exact⟨_,a₁,w₁,hq,.of_steps (.one h0 stepR_seq) (.pass (x := .code y) rfl (λ_ _ => .inl (by simp)) dx)⟩
 | ret=>exact⟨_,a₁,w₁,hq,.of_steps (.one h0 stepR_seq) (.pass (x := .code y) rfl (λ_ _ => .inl (by simp)) dx)⟩
 | panic ch=>exact⟨_,a₁,w₁,hq,.of_steps (.one h0 stepR_seq) (.pass (x := .code y) rfl (λ_ _ => .inl (by simp)) dx)⟩
 | outgrown=>exact⟨_,a₁,w₁,hq,.of_steps (.one h0 stepR_seq) (.pass (x := .code y) rfl (λ_ _ => .inl (by simp)) dx)⟩
theorem IH {c:Operand} {x y:Code} {t:Bool} (hc:a.eval c = .bool t) (h:wpN r fid P (if t then x else y) Q a w):wpN r fid P (.cond c x y) Q a w:=
 λb k cs dY hb=>let ⟨e,a',w',q,r⟩:=h b k cs dY hb; ⟨e,a',w',q,.of_steps (.one (zR _) (stepR_cond hc)) r⟩
theorem c3n {id:Nat} {c:Code} (h:wpN r fid P c (Exit.inBlock id Q) a w):wpN r fid P (.block id c) Q a w:=by
 intro b k cs dY hb
 have h0:(lone (b.atR a (.code (.block id c)::k)) cs w).fenced P (W r):=zR _
 obtain⟨e,a₁,w₁,hq,dx⟩:=h b (.inBlock id::k) cs dY hb
 cases e with
 | normal=>exact⟨.normal,a₁,w₁,hq,.head h0 stepR_block (StepsIn.trans dx (.one (zR _) stepR_inBlock))⟩
 | exit id' =>
   by_cases dr:id'=id
   ·simp only[Exit.inBlock,dr,if_true] at hq
    exact⟨.normal,a₁,w₁,hq,.head h0 stepR_block (dx.1 k (by simp[exitTo,dr]))⟩
   ·simp only[Exit.inBlock,dr,if_false] at hq
    have this:(id==id')=false:=by simp; exact λh=>dr h.symm
    have hx:exitTo id' (.inBlock id::k)=exitTo id' k:=by simp[exitTo,this]
    exact⟨.exit id',a₁,w₁,hq,λk' hk => .head h0 stepR_block (dx.1 k' (by rw[hx]; exact hk)),
     λfl hk=>let ⟨k₁,h1,h2⟩:=dx.2 fl (by rw[hx]; exact hk); ⟨k₁,h1,.head h0 stepR_block h2⟩⟩
 | goto l =>
   have hx:gotoIn l (.inBlock id::k)=gotoIn l k:=by simp[gotoIn]
   exact⟨_,a₁,w₁,hq,λk' hk => .head h0 stepR_block (dx.1 k' (by rw[hx]; exact hk)),
    λfl hk=>let ⟨k₁,h1,h2⟩:=dx.2 fl (by rw[hx]; exact hk); ⟨k₁,h1,.head h0 stepR_block h2⟩⟩
 | ret=>exact⟨_,a₁,w₁,hq,.of_steps (.one h0 stepR_block) dx⟩
 | panic ch=>exact⟨_,a₁,w₁,hq,.of_steps (.one h0 stepR_block) dx⟩
 | outgrown=>exact⟨_,a₁,w₁,hq,.of_steps (.one h0 stepR_block) dx⟩
def DX (r:Option Nat) (fid:FuncId) (P:Program) (c:Code) (Q:Exit→Act→World→Prop):Nat→Act→World→Prop
 | 0,_,_=>False
 | m+1,a,w=>wpN r fid P c (Exit.then (DX r fid P c Q m) Q) a w
theorem b8z {c:Code} {m:Nat}:DX r fid P c Q (m+1) a w=wpN r fid P c (Exit.then (DX r fid P c Q m) Q) a w:=rfl
theorem b4W {c:Code} (m:Nat) (h:DX r fid P c Q m a w):wpN r fid P (.loop c) Q a w:=by
 intro b k cs dY hb
 have key:∀m a w,DX r fid P c Q m a w →
   ∃e a' w',Q e a' w'∧ArrivesIn (Machine.fenced P (W r)) P (lone (b.atR a (.code c :: .inLoop c::k)) cs w) b k cs e a' w':=by
  intro m
  induction m with
  | zero=>intro a w h; exact h.elim
  | succ m ih =>
    intro a w h
    obtain⟨e,a₁,w₁,hq,dx⟩:=h b (.inLoop c::k) cs dY hb
    cases e with
    | normal =>
      obtain⟨e₂,a₂,w₂,hq₂,harr₂⟩:=ih a₁ w₁ hq
      exact⟨e₂,a₂,w₂,hq₂,.of_steps (StepsIn.trans dx (.one (zR _) stepR_inLoop)) harr₂⟩
    | exit id=>exact⟨_,a₁,w₁,hq,.pass (x := .inLoop c) rfl (λ_ _ => .inl (by simp)) dx⟩
    | goto l=>exact⟨_,a₁,w₁,hq,.pass (x := .inLoop c) rfl (λ_ _ => .inl (by simp)) dx⟩
    | ret=>exact⟨_,a₁,w₁,hq,.pass (x := .inLoop c) rfl (λ_ _ => .inl (by simp)) dx⟩
    | panic ch=>exact⟨_,a₁,w₁,hq,.pass (x := .inLoop c) rfl (λ_ _ => .inl (by simp)) dx⟩
    | outgrown=>exact⟨_,a₁,w₁,hq,.pass (x := .inLoop c) rfl (λ_ _ => .inl (by simp)) dx⟩
 obtain⟨e,a',w',hq,dx⟩:=key m a w h
 exact⟨e,a',w',hq,.of_steps (.one (zR _) stepR_loop) dx⟩
theorem Me {g:Operand} {ps:Array Tmp} {assign body:Code} {l:Nat} {mark:List Deferred} {w₁:World} {d:Deferred} {f:FuncId} {args:Array Value}
  (he:(Instr.enterLoop fid a.tmps ps assign body none).run P w = .ok (l,mark) w₁) (dl:(resolve a.eval (rangeCall g l) 0).run P w₁ = .ok d w₁) (jK:(invoke d.target d.args).run P w₁ = .ok (.enter f args) w₁)
  (hc:Calls P f args w₁ fun
   | .returned _, w₃ => ∃ j w₄, (Instr.endLoop l).run P w₃ = .ok j w₄ ∧ (match j with
     | none=>Q .normal { a with defers:=mark++a.defers } w₄
     | some c=>wpN none fid P c Q { a with defers:=mark++a.defers } w₄)
   | .panicked chain,w₃=>Q (.panic chain) { a with defers:=mark++a.defers } w₃
   | .outgrown,_=>LetsOut Q):wpN none fid P (.rangeFunc g ps assign body) Q a w:=by
 intro b k cs dY hb
 subst hb
 rw[← dY] at he
 have ep:=stepR_rangeFunc (P:=P) (b:=b) (a:=a) (k:=k) (cs:=cs) (w:=w) he dl jK
 obtain⟨e,w₃,fr,hR,js,eB,kV⟩:=(GF (r:=none) (n:=0) hc).2 (b.atR { a with defers:=mark++a.defers } (.inRangeFunc l::k)::cs) (E6 _)
 cases e with
 | outgrown =>
   obtain⟨a₀,w₀,hq⟩:=hR
   exact⟨.outgrown,a₀,w₀,hq,.inr (Outgrown.of_steps (.one ep) js)⟩
 | returned v =>
   obtain⟨j,w₄,fm,hj⟩:=hR
   have sback:StepsIn (Machine.fenced P (W none)) P (lone (b.atR a (.code (.rangeFunc g ps assign body)::k)) cs w) (lone (b.atR { a with defers:=mark++a.defers } ((j.map Item.code).toList++k)) cs w₄):=by
    refine .head (zR _) ep (StepsIn.trans js (.head (zR _) ?_ (.one (zR _) (stepR_endRangeFunc (b:=b) (a:={ a with defers:=mark++a.defers }) (k:=k) fm))))
    rw[← finish_atR_inRangeFunc l v]; exact step_leave_returned kV
   cases j with
   | none=>exact⟨.normal,_,w₄,hj,sback⟩
   | some c =>
     obtain⟨e₂,a₂,w₅,hq,hr⟩:=hj b k cs dY rfl
     exact⟨e₂,a₂,w₅,hq,.of_steps sback hr⟩
 | panicked chain =>
   refine⟨.panic chain,_,w₃,hR,.inRangeFunc l::k,.head (zR _) ep (StepsIn.trans js (.one (zR _) ?_))⟩
   rw[← Frame.raise_atR]; exact step_leave_panicked kV
def Mt (P:Program) (fn:Func) (R:Ending→World→Prop):Exit→Act→World→Prop
 | .normal,a,w | .ret,a,w=>LeavesInM (W none) 0 P fn a.tmps R a.defers .returning w
 | .panic chain,a,w=>LeavesInM (W none) 0 P fn a.tmps R a.defers (.panicking chain) w
 | _,_,_=>False
theorem Mu {f:FuncId} {fn:Func} {c:Code} {args:Array Value} {R:Ending→World→Prop} (hf:P.funcs[f]? = some fn) (hb:fn.body=some c)
  (h:wpN none f P c (Mt P fn R) { tmps:=args++Array.replicate (fn.ntmps - args.size) undef,defers:=[] } w):Calls P f args w R:=by
 refine c0h (r:=none) (n:=0) ⟨trivial,λcs hr =>?_⟩
 let b:Frame:={ (default:Frame) with fn:=f,kind := .normal,roundOf:=none }
 have ep:Frame.enter P f args .normal=b.atR { tmps:=args++Array.replicate (fn.ntmps - args.size) undef,defers:=[] } [.code c]:=by
  simp[Frame.enter,Frame.atR,hf,hb,b]
 obtain⟨e,a',w',hq,dx⟩:=h b [] cs rfl rfl
 rw[← ep] at dx
 cases e with
 | normal =>
   obtain⟨e',w'',fr',hR,hs,eB,hl⟩:=leaves_stepsInM a'.defers .returning w' { b.atR a' [] with mode := .returning } cs rfl rfl rfl hf rfl trivial (E6 _) hq
   exact⟨e',w'',fr',hR,ComesIn.of_steps (StepsIn.trans dx (.one (zR _) (stepR_end rfl))) hs,eB,hl⟩
 | ret =>
   obtain⟨todo,hs₀⟩:=dx.1 rfl
   obtain⟨e',w'',fr',hR,hs,eB,hl⟩:=leaves_stepsInM a'.defers .returning w' { b.atR a' todo with mode := .returning } cs rfl rfl rfl hf rfl trivial (E6 _) hq
   exact⟨e',w'',fr',hR,ComesIn.of_steps hs₀ hs,eB,hl⟩
 | panic chain =>
   obtain⟨todo,hs₀⟩:=dx
   obtain⟨e',w'',fr',hR,hs,eB,hl⟩:=leaves_stepsInM a'.defers (.panicking chain) w' { b.atR a' todo with mode := .panicking chain } cs rfl rfl rfl hf rfl trivial (E6 _) hq
   exact⟨e',w'',fr',hR,ComesIn.of_steps hs₀ hs,eB,hl⟩
 | exit id=>exact hq.elim
 | goto l=>exact hq.elim
 | outgrown=>exact hq.elim
theorem d1P {l:Nat} {f:FuncId} {fn:Func} {tmps:Array Value} {assign body:Code} {R:Ending→World→Prop} (eB:P.funcs[f]? = some fn)
  (h:wpN (some l) f P assign (Exit.then (λa₁ w₁=>∃w₂,(Instr.beginRound l).run P w₁ = .ok () w₂∧wpN (some l) f P body (IW P l R) a₁ w₂) (λ_ _ _=>False)) { tmps:=tmps,defers:=[] } w):
  RoundIn (W r) n P l f tmps assign body w R:=by
 refine⟨AE _,λc cs hr =>?_⟩
 let b:Frame:={ (default:Frame) with fn:=f,kind := .normal,roundOf:=some l }
 have iB:Frame.round l f tmps assign body .normal=b.atR { tmps:=tmps,defers:=[] } [.code assign,.beginRound,.code body]:=by
  simp[Frame.round,Frame.atR,b]
 obtain⟨e,a₁,w₁,hq,dx⟩:=h b [.beginRound,.code body] (c::cs) rfl rfl
 rw[← iB] at dx
 cases e with
 | normal =>
   obtain⟨w₂,ff,fZ⟩:=hq
   have s1:StepsIn (Machine.fenced P (W (some l))) P (lone (b.atR a₁ [.beginRound,.code body]) (c::cs) w₁) (lone (b.atR a₁ [.code body]) (c::cs) w₂):=
    .one (zR _) (stepR_beginRound rfl ff)
   obtain⟨e₂,a₂,w₃,hq₂,harr₂⟩:=fZ b [] (c::cs) rfl rfl
   cases e₂ with
   | normal =>
     obtain⟨v,w₄,fm,hR⟩:=hq₂
     exact⟨.returned v,w₄,hR,(StepsIn.trans dx s1).trans (StepsIn.trans harr₂ (.one (zR _) (stepR_round_end rfl rfl fm)))⟩
   | panic chain =>
     obtain⟨hd,hR⟩:=hq₂
     obtain⟨todo,hs⟩:=harr₂
     refine⟨.panicked chain,w₃,hR,(StepsIn.trans dx s1).trans (StepsIn.trans hs (.one (zR _) (b2K (fn:=fn) rfl ?_ eB)))⟩
     exact hd
   | ret =>
     obtain⟨v,w₄,fm,hR⟩:=hq₂
     obtain⟨k₁,hs⟩:=harr₂.2 rfl
     exact⟨.returned v,w₄,hR,(StepsIn.trans dx s1).trans (StepsIn.trans hs (.one (zR _) (stepR_round_ret rfl rfl fm)))⟩
   | exit id =>
     obtain⟨v,w₄,fm,hR⟩:=hq₂
     obtain⟨k₁,hk,hs⟩:=harr₂.2 rfl rfl
     exact⟨.returned v,w₄,hR,(StepsIn.trans dx s1).trans (StepsIn.trans hs (.one (zR _) (stepR_round_exit rfl rfl hk fm)))⟩
   | goto t=>exact hq₂.elim
   | outgrown=>exact hq₂.elim
 | exit id=>exact hq.elim
 | goto t=>exact hq.elim
 | ret=>exact hq.elim
 | panic chain=>exact hq.elim
 | outgrown=>exact hq.elim
end
end PI
set_option linter.unusedSimpArgs false
set_option linter.unusedVariables false
namespace PI
open Go Go.RowKit
section
variable {E:Env} {N:Nm} {w:World} {G:GS} {st:St} {a:Act} {vs:List Tmp} {lm:Nat→Option Tmp} {P:Program}
theorem Mf (hf:FI N w G st a vs lm) {n b:Nat} {ob':PObj} {mob:Obj} (hb:G.heap n=some b) (how:G.ow b=some (.hobj n))
  (ig:∀o,¬G.fix b o) (gp:w.shape? b=none) (mJ:∀s,zk w b=some s→zk { w with heap:=w.heap.setIfInBounds b mob } b=some s)
  (hR:ob' = .gone∨ObjR N { w with heap:=w.heap.setIfInBounds b mob } G n b ob'):
  Ext w G { w with heap:=w.heap.setIfInBounds b mob } G∧FI N { w with heap:=w.heap.setIfInBounds b mob } G (wV st n ob') a vs lm:=by
 let w':World:={ w with heap:=w.heap.setIfInBounds b mob }
 have fp:b<w.heap.size:=hf.owlt _ _ how
 have cV:∀x,x≠b→w'.heap[x]? = w.heap[x]? := λx hx=>by
  simp only[w',aY]; rw[af (by omega)]
 have cH:Ext w G w' G:=by
  refine⟨rfl,rfl,rfl,by simp[w'],λx _ jA=>cV x (by rintro rfl; rw[how] at jA; simp at jA),?_,λ_ _ h => .inl h,λ_ h => .inr h,λ_ _ h=>h,.one b (λk _ hk=>cV k hk) (λs hx=>by rw[gp] at hx; simp at hx) mJ,rfl⟩
  intro x o' fC
  have gA:x≠b:=by rintro rfl; exact ig _ fC
  refine⟨fC,?_⟩
  simp only[World.cell?,cV x gA]
 have cM:xO (λk=>k = .hobj n) w G w' G:=by
  refine⟨?_,λ_ _ h=>h⟩
  intro x k hx gJ
  have gA:x≠b:=by rintro rfl; rw[how] at hx; simp at hx; exact gJ hx.symm
  exact⟨hx,cV x gA,λ_ h=>h⟩
 have de:FI N w' G (wV st n ob') a vs lm:=by
  refine⟨hf.len,λi t' u' h1 h2=>(hf.var i t' u' h1 h2).keep cH cM (by simp) (by simp),λi t' u' h1 h2=>(hf.loc i t' u' h1 h2).keep cH cM (by simp) (by simp),hf.tv,hf.tl,hf.defers,hf.gen,?_,?_,?_,?_⟩
  ·intro b' k cW; simpa[w'] using hf.owlt _ _ cW
  ·intro b' k cW; simpa[w'] using hf.fixlt _ _ cW
  ·exact hf.heap.keepBut cH cM (λm k c9=>⟨by simp; omega,by simp⟩) (λ_=>hR.imp id λhR=>⟨b,hb,how,hR⟩)
  ·intro m b' h; have:=hf.hdom _ _ h; simpa[wV] using this
 exact⟨cH,de⟩
theorem c6a (hf:FI N w G st a vs lm) {ob:PObj} {mob:Obj}
  (hR:∀G',G'=G.more w.heap.size st.heap.length→Ext w G (w.alloc mob) G'→ObjR N (w.alloc mob) G' st.heap.length w.heap.size ob):
  Ext w G (w.alloc mob) (G.more w.heap.size st.heap.length)∧FI N (w.alloc mob) (G.more w.heap.size st.heap.length) { st with heap:=st.heap++[ob] } a vs lm:=by
 let G':GS:=G.more w.heap.size st.heap.length
 have cH:Ext w G (w.alloc mob) G':=by
  refine⟨rfl,rfl,rfl,by simp,λb hb _=>zt hb,λb o h=>⟨h,Dl (hf.fixlt _ _ h)⟩,λ_ _ h => .inl h,?_,?_,.same λk hk=>zt hk,rfl⟩
  ·intro b hb
   by_cases cO:b<w.heap.size
   ·refine .inr ?_
    simp only[G',GS.more] at hb
    rw[af (by omega)] at hb
    exact hb
   ·exact .inl (by omega)
  ·intro n b h
   have:=hf.hdom _ _ h
   simp only[G',GS.more]
   rw[af (by omega)]; exact h
 have cM:xO (λ_=>False) w G (w.alloc mob) G':=by
  refine⟨?_,λ_ _ h=>h⟩
  intro b k hb _
  have cO:=hf.owlt _ _ hb
  refine⟨?_,zt cO,λ_ h=>h⟩
  simp only[G',GS.more]
  rw[af (by omega)]; exact hb
 have de:FI N (w.alloc mob) G' { st with heap:=st.heap++[ob] } a vs lm:=by
  refine⟨hf.len,λi t u h1 h2=>(hf.var i t u h1 h2).keep cH cM (λh=>h) (λ_ _ _ h=>h),λj t u h1 h2=>(hf.loc j t u h1 h2).keep cH cM (λh=>h) (λ_ _ _ h=>h),hf.tv,hf.tl,hf.defers,hf.gen,?_,?_,?_,?_⟩
  ·intro b k hb
   simp only[G',GS.more] at hb
   split at hb
   ·simp; omega
   ·have:=hf.owlt _ _ hb; simp; omega
  ·intro b o h; have:=hf.fixlt _ _ h; simp; omega
  ·exact hf.heap.push cH cM (λ_ _ _=>⟨λh=>h,λh=>h⟩) (.inr ⟨w.heap.size,by simp[G',GS.more],by simp[G',GS.more],hR G' rfl cH⟩)
  ·intro n b h
   simp only[G',GS.more] at h
   simp only[av,List.length_singleton]
   split at h
   ·omega
   ·have:=hf.hdom _ _ h; omega
 exact⟨cH,de⟩
theorem c1L (hf:FI N w G st a vs lm) (mob:Obj):Ext w G (w.alloc mob) G∧FI N (w.alloc mob) G st a vs lm:=by
 have cH:Ext w G (w.alloc mob) G:=
  ⟨rfl,rfl,rfl,by simp,λb hb _=>zt hb,λb o h=>⟨h,Dl (hf.fixlt _ _ h)⟩,λ_ _ h => .inl h,λ_ h => .inr h,λ_ _ h=>h,.same λk hk=>zt hk,rfl⟩
 have cM:xO (λ_=>False) w G (w.alloc mob) G:=⟨λb k hb _=>⟨hb,zt (hf.owlt _ _ hb),λ_ h=>h⟩,λ_ _ h=>h⟩
 exact⟨cH,hf.ext cH cM hf.gen (λb k h=>by have:=hf.owlt _ _ h; simp; omega) (λb o h=>by have:=hf.fixlt _ _ h; simp; omega)⟩
theorem FI.setDf (hf:FI N w G st a vs lm) (ds:List Deferred):FI N w { G with df:=ds } st { a with defers:=ds } vs lm:=
 ⟨hf.len,hf.var,hf.loc,hf.tv,hf.tl,rfl,hf.gen,hf.owlt,hf.fixlt,hf.heap,hf.hdom⟩
theorem Ext.setDf {w':World} {G':GS} (h:Ext w G w' G') (ds:List Deferred):Ext w { G with df:=ds } w' { G' with df:=ds }:=
 ⟨h.os,h.tape,h.output,h.size,h.same,h.fix,h.newfix,h.own,h.heap,h.shape,rfl⟩
def ExtD (w:World) (G:GS) (w':World) (G':GS):Prop:=Ext w { G with df:=G'.df } w' G'
theorem ExtD.of {w':World} {G':GS} (h:Ext w G w' G'):ExtD w G w' G':=by
 have:=h.setDf G'.df
 exact this
theorem ExtD.refl (w:World) (G:GS):ExtD w G w G := .of (Ext.refl w G)
theorem ExtD.trans {w1 w2:World} {G1 G2:GS} (h:ExtD w G w1 G1) (k:ExtD w1 G1 w2 G2):ExtD w G w2 G2:=by
 have h1:=Ext.setDf h G2.df
 exact Ext.trans h1 k
theorem ExtD.to {w':World} {G':GS} (h:ExtD w G w' G') (hd:G'.df=G.df):Ext w G w' G':=by
 unfold ExtD at h
 rw[hd] at h
 exact h
def Marks (w w':World) (G':GS) (ms:List Deferred):Prop:=
 ∃bs:List Nat,ms=bs.map (λb=>{ target := .collected b,args := #[] })∧bs.Nodup∧∀b∈bs,w.heap.size≤b∧w'.heap[b]? = some (.deferred (some []))∧G'.ow b=none
theorem Marks.nil (w w':World) (G':GS):Marks w w' G' []:=⟨[],rfl,List.nodup_nil,by simp⟩
theorem Marks.lt {w':World} {G':GS} {b:Nat} (h:w'.heap[b]? = some (.deferred (some []))):b<w'.heap.size:=(aX.1 h).1
theorem Marks.join {w1 w2:World} {G1 G2:GS} {ms1 ms2:List Deferred} (hs:w.heap.size≤w1.heap.size) (h1:Marks w w1 G1 ms1) (e:ExtD w1 G1 w2 G2) (h2:Marks w1 w2 G2 ms2):Marks w w2 G2 (ms2++ms1):=by
 obtain⟨b1,rfl,n1,k1⟩:=h1
 obtain⟨b2,rfl,n2,k2⟩:=h2
 refine⟨b2++b1,by simp,?_,?_⟩
 ·rw[cy]
  refine⟨n2,n1,?_⟩
  rintro x hx y hy rfl
  have:=(k2 x hx).1
  have:=Marks.lt (G':=G1) (k1 x hy).2.1
  omega
 ·intro b hb
  rcases ax.1 hb with hb|hb
  ·obtain⟨j1,j2,j3⟩:=k2 b hb
   exact⟨by omega,j2,j3⟩
  ·obtain⟨j1,j2,j3⟩:=k1 b hb
   have cO:=Marks.lt (G':=G1) j2
   refine⟨j1,(Ext.same e b cO j3).trans j2,?_⟩
   cases hx:G2.ow b with
   | none=>rfl
   | some k =>
     rcases Ext.own e b (by rw[hx]; simp) with h|h
     ·omega
     ·exact absurd j3 h
end
def ET (nt:Nat) (ops:List Oper):Bool:=ops.all λo=>match o.dst with | some t=>decide (t<nt) | none=>true
def Gq (ops:List Oper):Bool:=ops.all λo=>match o.op with | .defer _=>false | _=>true
def BE (E:Env) (nt:Nat) (vs:List Tmp) (ops:Array Oper) (draw:Bool):Option (List PO):=
 if CO vs ops.toList&&ET nt ops.toList&&Gq ops.toList then
  (Cw E vs ops.toList ops.toList).bind λpos=>if draw && !CP ops pos then none else some pos
 else none
def CQ (E:Env) (nt:Nat) (vs:List Tmp) (ops:Array Oper) (draw:Bool):Option (List PO):=
 if CO vs ops.toList&&ET nt ops.toList&&Gq ops.toList then
  (EU E vs ops.toList ops.toList).bind λpos=>if draw && !CP ops pos then none else some pos
 else none
def EV (E:Env) (nt:Nat) (vs:List Tmp) (ops:Array Oper):Option (List PO×Nat×PX):=
 if CO vs ops.toList&&ET nt ops.toList&&Gq ops.toList then
  match ops.toList.drop (ops.size - 2) with
  | [{ dst := some d, op := .makeInterface T x, guard := none, .. }, { op := .panic (.tmp d'), guard := none, .. }] =>
    match E.P.underlying T with
    | none | some (.interface _)=>none
    | some _=>if d=d'∧(yt d vs 0).isNone∧2≤ops.size then(Cw E vs ops.toList (ops.toList.take (ops.size - 2))).bind λpos=>(cx E vs ops.toList x).bind λpx=>(yt T E.pt 0).map λi=>(pos,i+1,px) else none
  | _=>none
 else none
def Iz (E:Env) (nt:Nat) (vs:List Tmp) (ops:Array Oper):Option (Nat×List PX):=
 match ops.toList with
 | [{ dst := some d, op := .makeFunc (.func f) first caps, guard := none, .. }, { dst := none, op := .defer { callee := .value (.tmp d'), args, .. }, guard := none, .. }] =>
   if d=d'∧(yt d vs 0).isNone∧d<nt∧first.toList=[]∧args.toList=[] then(E.inv f).bind λk=>(cxs E vs [] caps.toList).map λps=>(k,ps) else none
 | _=>none
inductive Cmp (E:Env) (nt:Nat) (vs:List Tmp):Code→PC→Prop where
 | skip:Cmp E nt vs .skip .skip
 | region (id:Nat) (ops:Array Oper) (d:Bool) (pos:List PO) (h:BE E nt vs ops d=some pos):Cmp E nt vs (.region id ops d) (.region pos)
 | bregion (id:Nat) (ops:Array Oper) (d:Bool) (pos:List PO) (h:CQ E nt vs ops d=some pos):Cmp E nt vs (.region id ops d) (.bregion pos)
 | raise (id:Nat) (ops:Array Oper) (pos:List PO) (t:Nat) (px:PX) (h:EV E nt vs ops=some (pos,t,px)):Cmp E nt vs (.region id ops false) (.raise pos t px)
 | branch (id : Nat) (ops : Array Oper) (d : Bool) (pos : List PO) (c : Operand) (px : PX) (x y : Code) (px1 px2 : PC) (h : BE E nt vs ops d = some pos) (hc : cx E vs ops.toList c = some px) (hx : Cmp E nt vs x px1) (hy : Cmp E nt vs y px2) :
   Cmp E nt vs (.seq (.region id ops d) (.cond c x y)) (.branch pos px px1 px2)
 | branchSeq (id : Nat) (ops : Array Oper) (d : Bool) (pos : List PO) (c : Operand) (px : PX) (x y r : Code) (px1 px2 pr : PC) (h : BE E nt vs ops d = some pos) (hc : cx E vs ops.toList c = some px) (hx : Cmp E nt vs x px1) (hy : Cmp E nt vs y px2) (hr : Cmp E nt vs r pr) :
   Cmp E nt vs (.seq (.region id ops d) (.seq (.cond c x y) r)) (.seq (.branch pos px px1 px2) pr)
 | bbranch (id : Nat) (ops : Array Oper) (d : Bool) (pos : List PO) (c : Operand) (px : PX) (x y : Code) (px1 px2 : PC) (h : CQ E nt vs ops d = some pos) (hc : cx E vs ops.toList c = some px) (hx : Cmp E nt vs x px1) (hy : Cmp E nt vs y px2) :
   Cmp E nt vs (.seq (.region id ops d) (.cond c x y)) (.bbranch pos px px1 px2)
 | bbranchSeq (id : Nat) (ops : Array Oper) (d : Bool) (pos : List PO) (c : Operand) (px : PX) (x y r : Code) (px1 px2 pr : PC) (h : CQ E nt vs ops d = some pos) (hc : cx E vs ops.toList c = some px) (hx : Cmp E nt vs x px1) (hy : Cmp E nt vs y px2) (hr : Cmp E nt vs r pr) :
   Cmp E nt vs (.seq (.region id ops d) (.seq (.cond c x y) r)) (.seq (.bbranch pos px px1 px2) pr)
 | guarded (id:Nat) (ops:Array Oper) (kd:Nat) (caps:List PX) (y:Code) (q:PC) (h:Iz E nt vs ops=some (kd,caps)) (hy:Cmp E nt vs y q):Cmp E nt vs (.seq (.region id ops false) y) (.guarded kd caps q)
 | seq (x y:Code) (p q:PC) (hx:Cmp E nt vs x p) (hy:Cmp E nt vs y q):Cmp E nt vs (.seq x y) (.seq p q)
 | cond (c:Operand) (px:PX) (x y:Code) (p q:PC) (hc:cx E vs [] c=some px) (hx:Cmp E nt vs x p) (hy:Cmp E nt vs y q):Cmp E nt vs (.cond c x y) (.branch [] px p q)
 | block (id:Nat) (x:Code) (p:PC) (hx:Cmp E nt vs x p):Cmp E nt vs (.block id x) (.block id p)
 | loop (x:Code) (p:PC) (hx:Cmp E nt vs x p):Cmp E nt vs (.loop x) (.loop p)
 | rangeF (g : Operand) (ps : Array Tmp) (as body : Code) (px : PX) (kb : Nat) (vars : List Tmp) (caps : List PX) (hg : cx E vs [] g = some px) (hl : (ps, kb, vars) ∈ E.lps) (hv : cxs E vs [] (vars.map .tmp) = some caps) :
   Cmp E nt vs (.rangeFunc g ps as body) (.rangeF px kb caps)
 | stuck (x:Code):Cmp E nt vs x AD
 | exit (id:Nat):Cmp E nt vs (.exit id) (.exit id)
 | ret:Cmp E nt vs .ret .ret
def Gr (E:Env) (nt:Nat) (vs:List Tmp) (ops:Array Oper) (d:Bool):PC:=
 if L4 E ops.toList then(match CQ E nt vs ops d with | some pos => .bregion pos | none=>AD)
 else match BE E nt vs ops d with
  | some pos=>if d then .region pos else(match EV E nt vs ops with | some r => .raise r.1 r.2.1 r.2.2 | none => .region pos)
  | none=>if d then AD else(match EV E nt vs ops with | some r => .raise r.1 r.2.1 r.2.2 | none=>AD)
def brC (E:Env) (nt:Nat) (vs:List Tmp) (ops:Array Oper) (d:Bool) (c:Operand) (p q:PC):PC:=
 if L4 E ops.toList then(match CQ E nt vs ops d,cx E vs ops.toList c with | some pos,some px => .bbranch pos px p q | _,_=>AD)
 else match BE E nt vs ops d,cx E vs ops.toList c with
  | some pos,some px => .branch pos px p q
  | _,_=>AD
theorem L5 {E:Env} {nt:Nat} {vs:List Tmp} (id:Nat) (ops:Array Oper) (d:Bool):Cmp E nt vs (.region id ops d) (Gr E nt vs ops d):=by
 unfold Gr
 split
 ·split
  ·exact .bregion id ops d _ (by assumption)
  ·exact .stuck _
 ·split
  ·split
   ·exact .region id ops d _ (by assumption)
   ·rename_i hd
    have:d=false:=by simpa using hd
    subst this
    split
    ·exact .raise id ops _ _ _ (by assumption)
    ·exact .region id ops false _ (by assumption)
  ·split
   ·exact .stuck _
   ·rename_i hd
    have:d=false:=by simpa using hd
    subst this
    split
    ·exact .raise id ops _ _ _ (by assumption)
    ·exact .stuck _
theorem c52 {E:Env} {nt:Nat} {vs:List Tmp} (id:Nat) (ops:Array Oper) (d:Bool) (c:Operand) {x y:Code} {p q:PC} (hx:Cmp E nt vs x p) (hy:Cmp E nt vs y q):Cmp E nt vs (.seq (.region id ops d) (.cond c x y)) (brC E nt vs ops d c p q):=by
 unfold brC
 split
 ·split
  ·exact .bbranch id ops d _ c _ x y p q (by assumption) (by assumption) hx hy
  ·exact .stuck _
 ·split
  ·exact .branch id ops d _ c _ x y p q (by assumption) (by assumption) hx hy
  ·exact .stuck _
def Gs:PC→Bool
 | .branch [] (.c .dead) .skip .skip=>true
 | _=>false
theorem c53 {E:Env} {nt:Nat} {vs:List Tmp} (id:Nat) (ops:Array Oper) (d:Bool) (c:Operand) {x y r:Code} {p q pr:PC} (hx:Cmp E nt vs x p) (hy:Cmp E nt vs y q) (hr:Cmp E nt vs r pr):
  Cmp E nt vs (.seq (.region id ops d) (.seq (.cond c x y) r)) (if Gs (brC E nt vs ops d c p q) then AD else .seq (brC E nt vs ops d c p q) pr):=by
 split
 ·exact .stuck _
 ·rename_i hs
  unfold brC at hs ⊢
  split
  ·rename_i hb
   rw[ah hb] at hs
   split
   ·exact .bbranchSeq id ops d _ c _ x y r p q pr (by assumption) (by assumption) hx hy hr
   ·rename_i h1
    split at hs
    ·rename_i a b h2 h3; exact absurd rfl (λe:(0:Nat)=0=>h1 _ _ h2 h3)
    ·simp[Gs,AD] at hs
  ·rename_i hb
   rw[af hb] at hs
   split
   ·exact .branchSeq id ops d _ c _ x y r p q pr (by assumption) (by assumption) hx hy hr
   ·rename_i h1
    split at hs
    ·rename_i a b h2 h3; exact absurd rfl (λe:(0:Nat)=0=>h1 _ _ h2 h3)
    ·simp[Gs,AD] at hs
def yC (E:Env) (nt:Nat) (vs:List Tmp):Code→PC
 | .skip => .skip
 | .region _ ops d=>Gr E nt vs ops d
 | .seq (.region _ ops d) (.cond c x y)=>brC E nt vs ops d c (yC E nt vs x) (yC E nt vs y)
 | .seq (.region _ ops d) (.seq (.cond c x y) r)=>if Gs (brC E nt vs ops d c (yC E nt vs x) (yC E nt vs y)) then AD else .seq (brC E nt vs ops d c (yC E nt vs x) (yC E nt vs y)) (yC E nt vs r)
 | .seq (.region _ ops false) y => match Iz E nt vs ops with
   | some r => .guarded r.1 r.2 (yC E nt vs y)
   | none => .seq (Gr E nt vs ops false) (yC E nt vs y)
 | .seq x y => .seq (yC E nt vs x) (yC E nt vs y)
 | .cond c x y => match cx E vs [] c with
   | some px => .branch [] px (yC E nt vs x) (yC E nt vs y)
   | none=>AD
 | .block id x => .block id (yC E nt vs x)
 | .loop x => .loop (yC E nt vs x)
 | .rangeFunc g ps _ _ => match cx E vs [] g, E.lps.find? (fun y => y.1 == ps) with
   | some px, some y => match cxs E vs [] (y.2.2.map .tmp) with
     | some caps => .rangeF px y.2.1 caps
     | none=>AD
   | _,_=>AD
 | .exit id => .exit id
 | .ret => .ret
 | _=>AD
theorem EX {E:Env} {nt:Nat} {vs:List Tmp}:∀{c:Code},Cmp E nt vs c (yC E nt vs c):=by
 intro c
 fun_induction yC E nt vs c with
 | case1=>exact .skip
 | case2 id ops d=>exact L5 id ops d
 | case3 id ops d c x y ihx ihy=>exact c52 id ops d c ihx ihy
 | case4=>exact .stuck _
 | case5 id ops d c x y r h ihx ihy ihr =>
   have:=c53 id ops d c ihx ihy ihr
   rw[af h] at this
   exact this
 | case6 id ops y _ _ r h ihy=>exact .guarded id ops _ _ y _ h ihy
 | case7 id ops y _ _ h ihy=>exact .seq _ y _ _ (L5 id ops false) ihy
 | case8 x y _ _ _ ihx ihy=>exact .seq x y _ _ ihx ihy
 | case9 c x y px h ihx ihy=>exact .cond c px x y _ _ h ihx ihy
 | case10=>exact .stuck _
 | case11 id x ih=>exact .block id x _ ih
 | case12 x ih=>exact .loop x _ ih
 | case13 g ps a b px y e1 e2 caps e3 =>
   have h2:E.lps.find? (λy=>y.1==ps)=some y:=by assumption
   have hm:=List.mem_of_find?_eq_some h2
   have he:=List.find?_some h2
   obtain⟨y1,y2,y3⟩:=y
   have dB:y1=ps:=by simpa using he
   subst dB
   exact .rangeF g y1 a b px y2 y3 caps (by assumption) hm (by assumption)
 | case14=>exact .stuck _
 | case15=>exact .stuck _
 | case16 id=>exact .exit id
 | case17=>exact .ret
 | case18=>exact .stuck _
structure BI (N:Nm) (w:World) (G:GS) (st:St) (a:Act) (vs:List Tmp) (nt:Nat):Prop where
 fi:FI N w G st a vs (λ_=>none)
 size:nt≤a.tmps.size
theorem EY (w:World) (G:GS):Ext w G w.drew G:=
 ⟨rfl,rfl,rfl,aq _,λ_ _ _=>rfl,λ_ _ h=>⟨h,rfl⟩,λ_ _ h => .inl h,λ_ h => .inr h,λ_ _ h=>h,ShapeLe.refl w,rfl⟩
theorem L6 (w:World) (G:GS):xO (λ_=>False) w G w.drew G:=⟨λ_ _ h _=>⟨h,rfl,λ_ h=>h⟩,λ_ _ h=>h⟩
section
variable {E:Env} {N:Nm} {vs:List Tmp} {P:Program} {nt:Nat} {Q:Exit→Act→World→Prop}
theorem FI.begin {w:World} {G:GS} {st:St} {a:Act} (h:BI N w G st a vs nt) (lm:Nat→Option Tmp) (hl:∀j t,lm j=some t→t<nt) (n:Nat):FI N w G (AW n st) a vs lm:=by
 refine⟨h.fi.len,h.fi.var,?_,h.fi.tv,λj t hj=>aO (hl j t hj) h.size,h.fi.defers,h.fi.gen,h.fi.owlt,h.fi.fixlt,h.fi.heap,h.fi.hdom⟩
 intro j t u _ hu
 simp only[AW,cr] at hu
 split at hu
 ·simp at hu; subst hu; trivial
 ·simp at hu
theorem FI.finish {w:World} {G:GS} {st:St} {a:Act} {lm:Nat→Option Tmp} (h:FI N w G st a vs lm) (hs:nt≤a.tmps.size):BI N w G (xP st) a vs nt:=
 ⟨⟨h.len,h.var,(by intro j t u hj; simp at hj),h.tv,(by intro j t hj; simp at hj),h.defers,h.gen,h.owlt,h.fixlt,h.heap,h.hdom⟩,hs⟩
theorem Gt {ops:List Oper} (h:ET nt ops=true):∀j t,wq vs ops j=some t→t<nt:=by
 intro j t hj
 unfold wq at hj
 split at hj
 ·rename_i o ho
  split at hj
  ·rename_i t' jJ
   split at hj
   ·simp at hj
   ·simp at hj; subst hj
    have:=aD.1 h o (aw ho)
    simpa[jJ] using this
  ·simp at hj
 ·simp at hj
theorem IA {ops:Array Oper} (h:Gq ops.toList=true):∀(i:Nat) (o:Oper) c,ops[i]? = some o→o.op≠.defer c:=by
 intro i o c ho e
 have:=aD.1 h o (aw (by simpa using ho))
 rw[e] at this
 simp at this
theorem Gu (n:Nat):xY n (Array.replicate n false)=List.range' 0 n:=by
 rw[← cC]
 unfold xY
 rw[List.filter_eq_self]
 intro i hi
 have:i<n:=by simpa using hi
 simp[aM,this]
theorem L7 (ops:Array Oper):Gv ops (Array.replicate ops.size false):=by
 intro k o ho lq
 have:k<ops.size:=(aX.1 ho).1
 simp[aM,this] at lq
variable {L:Nat→Option PFunc} {r:Option Nat}
theorem L8 (hF:ze N P L) (hE:EnvOk E N) (hP:E.P=P) (dy:P.follows .mixedOrders=true) (dk:vs.Nodup) {cf:wE} (dP:CallOK N P cf) (ej:∀k args h r,cf k args h=some r→∃f,L k=some f)
  {id:Nat} {ops:Array Oper} {d:Bool} {pos:List PO} (hc:BE E nt vs ops d=some pos) {w:World} {G:GS} {st st':St} {a:Act} (hs:zd cf pos st=some st') (hb:BI N w G st a vs nt) (hQ:¬LetsOut Q)
  (hk:∀a' w' G',FI N w' G' st' a' vs (wq vs ops.toList)→Ext w G w' G'→nt≤a'.tmps.size→Q .normal a' w'):(Code.region id ops d).wpIn (W r) 0 P Q a w:=by
 unfold BE at hc
 split at hc
 ·rename_i cP
  simp only[al] at cP
  simp only[ai] at hc
  obtain⟨pos',dU,hc⟩:=hc
  split at hc
  ·simp at hc
  ·rename_i fj
   simp at hc; subst hc
   have nm:=Gw dk cP.1.1
   have cI:ops.size=pos'.length:=by have:=(CT dU).1; simpa using this
   have fU:=FI.begin hb (wq vs ops.toList) (Gt cP.1.2) pos'.length
   have hx:yD cf pos' (List.range' 0 pos'.length) (AW pos'.length st)=some st':=by
    rw[← Gx (all:=pos') (by simp)]; exact hs
   have dh:Next1 N w G a st' vs ops.toList (Q .normal):=λa' w' G' h1 h2 h3=>hk a' w' G' h1 h2 (by rw[h3]; exact hb.size)
   have dk:=IA cP.2
   cases d with
   | false =>
     refine wpIn_region (IB dk hQ ?_)
     have:List.range ops.size=List.range' 0 pos'.length:=by rw[cI,cC]
     rw[this]
     exact IC hF hE hP nm dP ej dU hx fU dh
   | true =>
     have j7:CP ops pos'=true:=by simpa using fj
     refine wpIn_region_draw λt=>IB dk hQ ?_
     have iW:FI N w.drew G (AW pos'.length st) a vs (wq vs ops.toList):=fU.ext (EY w G) (L6 w G) fU.gen fU.owlt fU.fixlt
     simp only[Region.schedule,dy,Bool.true_or,if_true]
     refine wpAny_sound ops.size t _ a _ ?_
     refine c14 hF hE hP nm dP ej dU j7 ops.size (by simp) (by rw[Gu]; simp) (L7 ops) (by rw[Gu,cI]; exact hx) iW (dh.trans (EY w G) rfl)
 ·simp at hc
theorem ID (hF:ze N P L) (hE:EnvOk E N) (hP:E.P=P) {ops:Array Oper} (nm:Names vs (wq vs ops.toList)) {cf:wE} (dP:CallOK N P cf) {ob:yq} (dF:DU N P ob) (dY:EZ N P ob)
  (ej:∀k args h x,cf k args h=some x→∃f,L k=some f) (iX:∀k args h x,ob k args h=some x→∃f,L k=some f) (hd:∀(i:Nat) (o:Oper) c,ops[i]? = some o→o.op≠.defer c) {pos:List PO} (dU:∀(i:Nat) (o:Oper),ops.toList[i]? = some o→∃p,pos[i]? = some p∧E0 E vs ops.toList o=some p) (cI:ops.size=pos.length)
  {res:Option PV} {st':St} (hQ:¬LetsOut Q):
  ∀ {l : List Nat} {st : St} {w : World} {G : GS} {a : Act}, zP cf ob pos l st = some (res, st') → FI N w G st a vs (wq vs ops.toList) → (res = none → Next1 N w G a st' vs ops.toList (Q .normal)) →
    (∀p,res=some p→∀a' w' G' v,a'.tmps.size=a.tmps.size→VR N w' G'.fix G'.heap v p→Ext w G w' G'→FI N w' G' st' a' vs (wq vs ops.toList)→Q (.panic [{ v,recovered:=false }]) a' w')→wpOpsIn (W r) 0 P ops Q l a w
 | [], st, w, G, a, h, hf, hk, hb => by
   simp only[zP,aa,ac] at h
   obtain⟨rfl,rfl⟩:=h
   exact hk rfl _ _ G hf (Ext.refl _ _) rfl
 | i :: l, st, w, G, a, h, hf, hk, hb => by
   simp only[zP] at h
   split at h
   ·rename_i p hp
    have hi:i<ops.size:=by rw[cI]; exact(aj.1 hp).1
    obtain⟨p',fk,fK⟩:=dU i ops[i] (by simp[hi])
    have:p'=p:=by rw[hp] at fk; simpa using fk.symm
    subst this
    rw[wpOpsIn_cons]
    have pX:ops[i]? = some ops[i]:=by simp[hi]
    split at h
    ·rename_i st1 hs
     refine L9 (res:=none) hF hE hP nm pX hf dP dF dY ej iX (λc=>hd i _ c pX) fK hs hQ ?_ (λp e=>by simp at e)
     intro _ a' w' G' ju he cQ
     exact ID hF hE hP nm dP dF dY ej iX hd dU cI hQ h ju (λhn=>(hk hn).trans he cQ)
      (λp hp a2 w2 G2 v h1 h2 h3 h4=>hb p hp a2 w2 G2 v (h1.trans cQ) h2 (he.trans h3) h4)
    ·rename_i c9
     have hs:yV cf ob i p' st=some (res,st'):=h
     cases res with
     | none=>exact absurd hs (c9 st')
     | some v =>
       refine L9 (res:=some v) hF hE hP nm pX hf dP dF dY ej iX (λc=>hd i _ c pX) fK hs hQ (λe=>by simp at e) ?_
       rintro p e w' G' u h1 h2 h3
       cases e
       exact hb v rfl a w' G' u rfl h1 h2 h3
   ·simp at h
theorem Gy:∀{os:List Oper} {pos:List PO} {ops:List Oper},EU E vs ops os=some pos→os.length=pos.length∧∀(i:Nat) (o:Oper),os[i]? = some o→∃p,pos[i]? = some p∧E0 E vs ops o=some p
 | [],pos,ops,h=>by simp[EU] at h; subst h; simp
 | o :: os, pos, ops, h => by
   simp only[EU,ai,ab] at h
   obtain⟨p,hp,ps,d9,rfl⟩:=h
   obtain⟨h1,h2⟩:=Gy d9
   refine⟨by simp[h1],?_⟩
   intro i x hx
   cases i with
   | zero=>simp at hx; subst hx; exact⟨p,rfl,hp⟩
   | succ i=>exact h2 i x (by simpa using hx)
theorem Gz (hF:ze N P L) (hE:EnvOk E N) (hP:E.P=P) (dy:P.follows .mixedOrders=true) (dk:vs.Nodup) {cf:wE} (dP:CallOK N P cf) {ob:yq} (dF:DU N P ob) (dY:EZ N P ob)
  (ej:∀k args h r,cf k args h=some r→∃f,L k=some f) (iX:∀k args h x,ob k args h=some x→∃f,L k=some f)
  {id:Nat} {ops:Array Oper} {d:Bool} {pos:List PO} (hc:CQ E nt vs ops d=some pos) {w:World} {G:GS} {st st':St} {a:Act} {res:Option PV} (hs:yd cf ob 0 pos (AW pos.length st)=some (res,st')) (hb:BI N w G st a vs nt) (hQ:¬LetsOut Q)
  (hk:res=none→∀a' w' G',FI N w' G' st' a' vs (wq vs ops.toList)→Ext w G w' G'→nt≤a'.tmps.size→Q .normal a' w')
  (qC:∀p,res=some p→∀a' w' G' v,VR N w' G'.fix G'.heap v p→Ext w G w' G'→BI N w' G' (xP st') a' vs nt→Q (.panic [{ v,recovered:=false }]) a' w'):(Code.region id ops d).wpIn (W r) 0 P Q a w:=by
 unfold CQ at hc
 split at hc
 ·rename_i cP
  simp only[al] at cP
  simp only[ai] at hc
  obtain⟨pos',dU,hc⟩:=hc
  split at hc
  ·simp at hc
  ·rename_i fj
   simp at hc; subst hc
   have nm:=Gw dk cP.1.1
   have cI:ops.size=pos'.length:=by have:=(Gy dU).1; simpa using this
   have fU:=FI.begin hb (wq vs ops.toList) (Gt cP.1.2) pos'.length
   have hx:zP cf ob pos' (List.range' 0 pos'.length) (AW pos'.length st)=some (res,st'):=by
    rw[← Ma (all:=pos') (by simp)]; exact hs
   have dh:res=none→Next1 N w G a st' vs ops.toList (Q .normal):=λhn a' w' G' h1 h2 h3=>hk hn a' w' G' h1 h2 (by rw[h3]; exact hb.size)
   have nT:∀p,res=some p→∀a' w' G' v,a'.tmps.size=a.tmps.size→VR N w' G'.fix G'.heap v p→Ext w G w' G'→FI N w' G' st' a' vs (wq vs ops.toList)→Q (.panic [{ v,recovered:=false }]) a' w':=
    λp hp a' w' G' v h1 h2 h3 h4=>qC p hp a' w' G' v h2 h3 (FI.finish h4 (by rw[h1]; exact hb.size))
   have dk:=IA cP.2
   cases d with
   | false =>
     refine wpIn_region ?_
     have:List.range ops.size=List.range' 0 pos'.length:=by rw[cI,cC]
     rw[this]
     exact ID hF hE hP nm dP dF dY ej iX dk (Gy dU).2 cI hQ hx fU dh nT
   | true =>
     have j7:CP ops pos'=true:=by simpa using fj
     refine wpIn_region_draw λt =>?_
     have iW:FI N w.drew G (AW pos'.length st) a vs (wq vs ops.toList):=fU.ext (EY w G) (L6 w G) fU.gen fU.owlt fU.fixlt
     simp only[Region.schedule,dy,Bool.true_or,if_true]
     have gZ:=c59 cI j7 ops.size t (listed:=Array.replicate ops.size false) (by simp) (by rw[Gu]; simp) (L7 ops) (by rw[Gu,cI]; exact hx)
     exact ID hF hE hP nm dP dF dY ej iX dk (Gy dU).2 cI hQ gZ iW (λhn=>(dh hn).trans (EY w G) rfl)
      (λp hp a' w' G' v h1 h2 h3 h4=>nT p hp a' w' G' v h1 h2 ((EY w G).trans h3) h4)
 ·simp at hc
theorem BI.putOther {w:World} {G:GS} {st:St} {a:Act} (h:BI N w G st a vs nt) {d:Tmp} (hd:(yt d vs 0).isNone=true) (v:Value):BI N w G st (a.put (some d) v) vs nt:=by
 refine⟨⟨h.fi.len,?_,(by intro j t u hj; simp at hj),λi t ht=>by simpa[Act.put] using h.fi.tv i t ht,(by intro j t hj; simp at hj),h.fi.defers,h.fi.gen,h.fi.owlt,h.fi.fixlt,h.fi.heap,h.fi.hdom⟩,by simpa[Act.put] using h.size⟩
 intro i t u h1 h2
 have c9:t≠d:=by
  rintro rfl
  have:=IE h1 0
  simp at hd
  rw[hd] at this
  simp at this
 have:(a.put (some d) v).eval (.tmp t)=a.eval (.tmp t):=by
  simp only[Act.eval,Act.put,aM,aY]
  rw[af (Ne.symm c9)]
 rw[this]
 exact h.fi.var i t u h1 h2
theorem Mb (hF:ze N P L) (hE:EnvOk E N) (hP:E.P=P) {ops:Array Oper} (nm:Names vs (wq vs ops.toList)) {cf:wE} (dP:CallOK N P cf)
  (ej:∀k args h x,cf k args h=some x→∃f,L k=some f) (hd:∀(i:Nat) (o:Oper) c,ops[i]? = some o→o.op≠.defer c) {pos:List PO} (dU:∀(i:Nat) (p:PO),pos[i]? = some p→∃o,ops[i]? = some o∧De E vs ops.toList o=some p)
  {st':St} (hQ:¬LetsOut Q) {rest:List Nat}:
  ∀{l:List Nat} {st:St} {w:World} {G:GS} {a:Act},yD cf pos l st=some st'→FI N w G st a vs (wq vs ops.toList)→Next1 N w G a st' vs ops.toList (wpOpsIn (W r) 0 P ops Q rest)→wpOpsIn (W r) 0 P ops Q (l++rest) a w
 | [], st, w, G, a, h, hf, hk => by
   simp only[yD,aa] at h
   subst h
   exact hk _ _ G hf (Ext.refl _ _) rfl
 | i :: l, st, w, G, a, h, hf, hk => by
   simp only[yD] at h
   split at h
   ·rename_i p hp
    simp only[ai] at h
    obtain⟨st1,h1,h2⟩:=h
    obtain⟨o,ho,fK⟩:=dU i p hp
    rw[aW,wpOpsIn_cons]
    refine IF (λo' c eN=>hd i o' c eN) hQ (GA hF hE hP nm ho hf dP ej fK h1 ?_)
    intro a' w' G' ju he cQ
    exact Mb hF hE hP nm dP ej hd dU hQ h2 ju (hk.trans he cQ)
   ·simp at h
theorem b8D (hF:ze N P L) (hE:EnvOk E N) (hP:E.P=P) (dk:vs.Nodup) {cf:wE} (dP:CallOK N P cf) (ej:∀k args h r,cf k args h=some r→∃f,L k=some f)
  {id:Nat} {ops:Array Oper} {pos:List PO} {t:Nat} {px:PX} (hc:EV E nt vs ops=some (pos,t,px)) {w:World} {G:GS} {st st1:St} {a:Act} {u:PV} (hs:zd cf pos st=some st1) (hu:rd st1 px=some u) (hb:BI N w G st a vs nt) (hQ:¬LetsOut Q)
  (qC:∀a' w' G' v,VR N w' G'.fix G'.heap v (.iface t u)→Ext w G w' G'→BI N w' G' (xP st1) a' vs nt→Q (.panic [{ v,recovered:=false }]) a' w'):(Code.region id ops false).wpIn (W r) 0 P Q a w:=by
 unfold EV at hc
 split at hc
 ·rename_i cP
  simp only[al] at cP
  split at hc
  ·rename_i d T x ty1 p1 af1 dst2 d' ty2 p2 af2 jv
   split at hc
   ·simp at hc
   ·simp at hc
   ·rename_i tu qD uj
    split at hc
    ·rename_i hX
     obtain⟨rfl,nn,h2⟩:=hX
     simp only[ai,ab,ac] at hc
     obtain⟨pos',dU,px',fL,i,hi,rfl,rfl,rfl⟩:=hc
     obtain⟨m,hm⟩:∃m,ops.size=m+2:=⟨ops.size - 2,by omega⟩
     rw[hm] at jv dU
     simp only[Nat.add_sub_cancel] at jv dU
     have nm:=Gw dk cP.1.1
     have gl:pos'.length=m:=by
      have:=(CT dU).1
      rw[bG] at this
      simp at this
      omega
     have ec:=IA cP.2
     have uk:∀(i:Nat) (p:PO),pos'[i]? = some p→∃o,ops[i]? = some o∧De E vs ops.toList o=some p:=by
      intro i p hp
      have cO:=(aj.1 hp).1
      have j8:i<ops.size:=by omega
      obtain⟨p',fk,fK⟩:=(CT dU).2 i ops[i] (by rw[List.getElem?_take_of_lt (by omega)]; simp[j8])
      rw[hp] at fk
      cases fk
      exact⟨ops[i],by simp[j8],fK⟩
     have fU:=FI.begin hb (wq vs ops.toList) (Gt cP.1.2) pos'.length
     have hx:yD cf pos' (List.range' 0 pos'.length) (AW pos'.length st)=some st1:=by
      rw[← Gx (all:=pos') (by simp)]; exact hs
     have s5:ops.toList[m]? = some ⟨some d,.makeInterface T x,ty1,p1,af1,none⟩:=by
      have:=aH (·[0]?) jv
      simpa[aU] using this
     have qE:ops.toList[m+1]? = some ⟨dst2,.panic (.tmp d),ty2,p2,af2,none⟩:=by
      have:=aH (·[1]?) jv
      simpa[aU] using this
     have da:d<nt:=by
      have:=aD.1 cP.1.2 _ (aw s5)
      simpa using this
     have iY:List.range ops.size=List.range' 0 pos'.length++[m,m+1]:=by
      rw[hm,gl,cC,List.range'_eq_append_iff]
      exact⟨m,by omega,rfl,by rw[show m+2 - m=2 by omega]; simp[List.range'_succ]⟩
     refine wpIn_region ?_
     rw[iY]
     refine Mb hF hE hP nm dP ej ec uk hQ hx fU ?_
     intro a' w' G' ju he cQ
     have eh:=(wW hE fL ju hu).1
     have ul:=hE.pt T i hi
     have um:P.underlying T=some tu:=by rw[← hP]; exact uj
     rw[wpOpsIn_cons]
     unfold wpOpIn
     have uq:ops[m]? = some ⟨some d,.makeInterface T x,ty1,p1,af1,none⟩:=by simpa using s5
     have ur:ops[m+1]? = some ⟨dst2,.panic (.tmp d),ty2,p2,af2,none⟩:=by simpa using qE
     simp only[uq,Region.wanted,if_true]
     refine⟨λ_ _=>AE _,?_⟩
     rw[Oper.semAt_eq _ _ _ (by simp)]
     have cL:(execOp a'.eval (⟨some d,.makeInterface T x,ty1,p1,af1,none⟩:Oper)).run P w' = .ok (.value (.iface T (a'.eval x))) w':=by
      have ut:=run_underlying um w'
      simp only[execOp,Instr.makeInterface,Sem.run_bind,ut,Result.andThen_ok]
      cases tu<;>first|(exfalso; exact qD _ rfl)|simp
     rw[cL,Oper.uponIn_value]
     rw[wpOpsIn_cons]
     unfold wpOpIn
     simp only[ur,Region.wanted,if_true]
     refine⟨λ_ _=>AE _,?_⟩
     rw[Oper.semAt_eq _ _ _ (by simp)]
     have eO:(a'.put (some d) (.iface T (a'.eval x))).eval (.tmp d) = .iface T (a'.eval x):=by
      have:d<a'.tmps.size:=by rw[cQ]; exact aO da hb.size
      simp[Act.eval,Act.put,aM,aY,this]
     have j9:(execOp (a'.put (some d) (.iface T (a'.eval x))).eval (⟨dst2,.panic (.tmp d),ty2,p2,af2,none⟩:Oper)).run P w' = .halt (.panic (.iface T (a'.eval x))) w':=by
      simp only[execOp,Instr.panic,eO]
      rfl
     rw[j9,Oper.uponIn_panic]
     refine qC _ w' G' _ ?_ he ((FI.finish ju (by rw[cQ]; exact hb.size)).putOther nn _)
     rw[← ul]
     exact .iface _ _ _ eh
    ·simp at hc
  ·simp at hc
 ·simp at hc
end
end PI
