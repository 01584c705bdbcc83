import Derived.Test.YtljbhgpanekomaaGreatDoorPiOrd
import Derived.Test.YtljbhgpanekomaaGreatDoorPiSoundN
import Derived.RangeFuncLeaves
import Derived.RangeFuncIn
import Derived.LoopNIn
import Derived.OrdersIn
import Derived.BigRegion
set_option linter.unusedSimpArgs false
set_option linter.unusedVariables false
set_option linter.unusedSectionVars false
namespace PI
open Go Go.RowKit
abbrev FL (p:PO) (st st':St):Prop:=Sim p.op (zD p) st st'
theorem Dr (p:PO):∀x∈wy p.op,x∈zD p:=λx hx=>by simp only[zD,aw]; exact .inr hx
theorem HY (o:POp):∀x∈xP o,x∈wy o:=by
 intro x hx
 cases o with
 | h o=>cases o<;>simp[xP,wy,xd] at hx ⊢; exact .inl hx
 | take y=>simpa[xP,wy] using hx
 | append a b c d=>simp[xP,wy] at hx ⊢; exact .inl hx
 | appstr a b=>simp[xP,wy] at hx ⊢; exact .inl hx
 | pcallx k xs own =>
   cases own with
   | none=>simp[xP] at hx
   | some i=>simp only[xP,Option.mem_toList] at hx; exact av hx
 | _=>simp[xP] at hx
theorem Ln {cf:vZ} {j:Nat} {p:PO} {st st1:St} (hm:wH p.op≠2) (h:xn cf j p st=some st1):
  ∃(d:Dm) (u:PV),st1=put (d.app st) j p.dst u∧zl p.op d∧∀st',FL p st st'→xn cf j p st'=some (put (d.app st') j p.dst u):=by
 have run:(opv cf p.op st).map (λr=>put r.2 j p.dst r.1)=some st1→∃(d:Dm) (u:PV),st1=put (d.app st) j p.dst u∧zl p.op d∧∀st',FL p st st'→(opv cf p.op st').map (λr=>put r.2 j p.dst r.1)=some (put (d.app st') j p.dst u):=by
  intro h
  simp only[ab] at h
  obtain⟨⟨u,st2⟩,h1,rfl⟩:=h
  obtain⟨d,e,hf,hs⟩:=c7G (rs:=zD p) hm (Dr p) h1
  exact ⟨d,u,by rw[e],hf,λst' dt=>by rw[hs st' dt]; rfl⟩
 unfold xn at h
 split at h
 ·rename_i hg
  obtain⟨d,u,h1,h2,h3⟩:=run h
  exact ⟨d,u,h1,h2,λst' hs=>by simp only[xn,hg]; exact h3 st' hs⟩
 ·rename_i x want hg
  have hx:x∈zD p:=by simp[zD,hg]
  split at h
  ·rename_i b hb
   split at h
   ·rename_i mi
    obtain⟨d,u,h1,h2,h3⟩:=run h
    refine⟨d,u,h1,h2,λst' hs =>?_⟩
    have cX:rd st' x=some (.bool b):=by rw[← hs.rd hx]; exact hb
    simp only[xn,hg,cX,ah mi]
    exact h3 st' hs
   ·rename_i mi
    simp only[aa] at h; subst h
    refine⟨.none,.tuple [],rfl,trivial,λst' hs =>?_⟩
    have cX:rd st' x=some (.bool b):=by rw[← hs.rd hx]; exact hb
    simp only[xn,hg,cX,ae mi]
    rfl
  ·rename_i hb
   simp only[aa] at h; subst h
   refine⟨.none,.tuple [],rfl,trivial,λst' hs =>?_⟩
   have cX:rd st' x=some (.tuple []):=by rw[← hs.rd hx]; exact hb
   simp only[xn,hg,cX]
   rfl
  ·simp at h
theorem Lo {st:St} {j:Nat} {d:PD} {u:PV} {x:PX} (h:isX d j x=false):raw (put st j d u) x=raw st x:=by
 cases d<;>cases x<;>simp[isX,xQ] at h<;>simp only[put,raw]<;>first|rfl|(rw[aI]; simp[h])
theorem Lp (v:PV):vw (dem v)=vw v:=by cases v<;>rfl
theorem b8o (off:Nat) (v:PV):vw (Bl off v)=vw v:=by cases v<;>rfl
theorem b9G {y x:PX} (st:St) (h:xQ y x=false):raw (x8 y st) x=raw st x:=by
 cases y with
 | v i =>
   cases x with
   | v k=>simp[xQ] at h; simp[x8,raw,aZ,h]
   | _=>rfl
 | _=>cases x<;>rfl
theorem HZ:∀{xs:List PX} {x:PX} (st:St),(∀y∈xs,xQ y x=false)→raw (xI xs st) x=raw st x
 | [],_,_,_=>rfl
 | y :: xs, x, st, h => by
   simp only[xI]
   rw[HZ (xs:=xs) _ (λz hz=>h z (bx _ hz)),b9G st (h y (bS ..))]
theorem Lq:∀(xs:List PX) (st:St),(xI xs st).heap=st.heap
 | [],_=>rfl
 | x::xs,st=>by simp only[xI]; rw[Lq xs]; cases x<;>rfl
theorem H2:∀(xs:List PX) (st:St) (h:List PObj),xI xs { st with heap:=h }={ xI xs st with heap:=h }
 | [],_,_=>rfl
 | x :: xs, st, h => by
   simp only[xI]
   rw[← H2 xs]
   cases x<;>rfl
theorem b8p (d:Dm) (st:St) (x:PX) (dX:∀xs,d = .shut xs→∀y∈xs,xQ y x=false):(raw (d.app st) x).map vw=(raw st x).map vw:=by
 cases d with
 | none=>rfl
 | heap h=>cases x<;>rfl
 | shut xs=>simp only[Dm.app]; rw[HZ st (dX xs rfl)]
 | src y =>
   cases y with
   | c p=>rfl
   | v i =>
     cases x with
     | v k =>
       simp only[Dm.app,raw,aZ]
       cases st.vars[k]?<;>simp
       split<;>simp[Lp]
     | _=>rfl
   | l i =>
     cases x with
     | l k =>
       simp only[Dm.app,raw,aZ]
       cases st.locs[k]?<;>simp
       split<;>simp[Lp]
     | _=>rfl
 | cell s off =>
   cases x with
   | v k =>
     simp only[Dm.app,raw,aZ]
     cases st.vars[k]?<;>simp
     split<;>simp[b8o]
   | _=>rfl
theorem b6A {o:POp} {d:Dm} (hd:zl o d) (st:St) (x:PX) (hx:∀y∈xP o,xQ y x=false) (dX:∀xs,d = .shut xs→∀y∈xs,xQ y x=false) (es:List PV):raw (d.app st) x=some (.list true es)↔raw st x=some (.list true es):=by
 cases d with
 | none=>exact Iff.rfl
 | heap h=>cases x<;>exact Iff.rfl
 | shut xs=>simp only[Dm.app]; rw[HZ st (dX xs rfl)]
 | src y =>
   have hy:=hx y hd
   cases y with
   | c p=>exact Iff.rfl
   | v i =>
     cases x with
     | v k=>simp[xQ] at hy; simp[Dm.app,raw,aZ,hy]
     | _=>exact Iff.rfl
   | l i =>
     cases x with
     | l k=>simp[xQ] at hy; simp[Dm.app,raw,aZ,hy]
     | _=>exact Iff.rfl
 | cell s off =>
   cases x with
   | v k =>
     simp only[Dm.app,raw,aZ]
     cases hv:st.vars[k]? with
     | none=>simp
     | some v =>
       simp only[ay,aa]
       split
       ·cases v<;>simp[Bl]
       ·simp
   | _=>exact Iff.rfl
theorem c37 (v:PV):dem (dem v)=dem v:=by cases v<;>rfl
theorem Ia (cs:List PV) (off:Nat):(cs.modify off dem).map dem=cs.map dem:=by
 apply bY
 intro k
 simp only[aA,aZ]
 cases cs[k]?<;>simp
 split<;>simp[c37]
theorem Lr {o:POp} {d:Dm} (hd:zl o d) (st:St) (exact:Bool) (he:exact=true→wH o≠3) (h4:wH o≠4):AZ exact st (d.app st)∧AZ exact (d.app st) st:=by
 have same:∀(st st':St),(∀s:Nat,∀g cs,st.vars[s]? = some (.loc g cs)→st'.vars[s]? = some (.loc g cs))→AZ exact st st':=λst st' h s g cs hs=>⟨cs,h s g cs hs,rfl,λ_=>rfl⟩
 cases d with
 | none=>exact ⟨same _ _ (λ_ _ _ h=>h),same _ _ (λ_ _ _ h=>h)⟩
 | heap h=>exact ⟨same _ _ (λ_ _ _ h=>h),same _ _ (λ_ _ _ h=>h)⟩
 | shut xs=>exact absurd hd.1 h4
 | src y =>
   cases y with
   | c p=>exact ⟨same _ _ (λ_ _ _ h=>h),same _ _ (λ_ _ _ h=>h)⟩
   | l i=>exact ⟨same _ _ (λ_ _ _ h=>h),same _ _ (λ_ _ _ h=>h)⟩
   | v i =>
     refine⟨same _ _ ?_,same _ _ ?_⟩
     ·intro s g cs h
      simp only[Dm.app,aZ,h,ay]
      split<;>rfl
     ·intro s g cs h
      simp only[Dm.app,aZ] at h
      cases hv:st.vars[s]? with
      | none=>simp[hv] at h
      | some v =>
        rw[hv] at h
        simp only[cG,ay,aa] at h
        split at h
        ·have:v = .loc g cs:=by cases v<;>simp_all [dem]
         rw[this]
        ·rw[h]
 | cell s off =>
   have h3:wH o=3:=hd
   have c9:exact=false:=by
    cases exact with
    | false=>rfl
    | true=>exact absurd h3 (he rfl)
   subst c9
   refine⟨?_,?_⟩
   ·intro k g cs h
    simp only[Dm.app,aZ,h,ay]
    split
    ·exact ⟨cs.modify off dem,rfl,Ia cs off,by simp⟩
    ·exact ⟨cs,rfl,rfl,by simp⟩
   ·intro k g cs h
    simp only[Dm.app,aZ] at h
    cases hv:st.vars[k]? with
    | none=>simp[hv] at h
    | some v =>
      rw[hv] at h
      simp only[cG,ay,aa] at h
      split at h
      ·have:∃cs0,v = .loc g cs0∧cs0.modify off dem=cs:=by cases v<;>simp_all [Bl]
       obtain⟨cs0,rfl,rfl⟩:=this
       exact ⟨_,rfl,(Ia _ off).symm,by simp⟩
      ·exact ⟨cs,by rw[h],rfl,by simp⟩
structure Comm (jp:Nat) (p:PO) (jq:Nat) (q:PO):Prop where
 mp:wH p.op≠2
 mq:wH q.op≠2
 mm:¬(wH p.op=3∧wH q.op=3)
 pq:∀x∈zD q,isX p.dst jp x=false
 pv:isV p.dst=true→wH q.op=0
 qp:∀x∈zD p,isX q.dst jq x=false
 qv:isV q.dst=true→wH p.op=0
 dd:CF p.dst q.dst=false
 tt:∀x∈xP p.op,∀y∈xP q.op,xQ x y=false
 m4:wH p.op=4→wH q.op=0
 n4:wH q.op=4→wH p.op=0
 h2:xO p.op=2→xO q.op=0
 k2:xO q.op=2→xO p.op=0
 sp:∀x∈Ce p.op,∀y∈zD q,xQ x y=false
 sq:∀x∈Ce q.op,∀y∈zD p,xQ x y=false
theorem b8q (x y:PX):xQ x y=xQ y x:=by cases x<;>cases y<;>simp[xQ]<;>exact Bool.beq_comm
theorem Ls (x y:PD):CF x y=CF y x:=by cases x<;>cases y<;>simp[CF]<;>exact Bool.beq_comm
theorem Lj {jp jq:Nat} {p q:PO} (h:Do jp p jq q=true):Comm jp p jq q:=by
 simp only[Do,C8,am,bF,bne_iff_ne,ne_eq,aG,bu,bm,Bool.and_eq_false_iff,beq_eq_false_iff_ne,bne_eq_false_iff_eq,List.any_eq_false] at h
 obtain⟨⟨⟨⟨⟨⟨⟨⟨⟨⟨⟨⟨h1,h2⟩,h3⟩,a1⟩,a2⟩,a3⟩,a4⟩,a5⟩,a6⟩,h4,h5⟩,h6,h7⟩,h8⟩,h9⟩:=h
 have neg:∀{a b:Nat} {c:Nat},(¬a=c∨b=0)→a=c→b=0:=by
  intro a b c h e
  rcases h with h|h
  ·exact absurd e h
  ·exact h
 refine⟨h1,h2,?_,h4,?_,h6,?_,h8,?_,neg a1,neg a2,neg a3,neg a4,?_,?_⟩
 ·rintro⟨a,b⟩; rcases h3 with h3|h3
  ·exact h3 a
  ·exact h3 b
 ·intro hv; rcases h5 with h5|h5
  ·rw[hv] at h5; simp at h5
  ·exact h5
 ·intro hv; rcases h7 with h7|h7
  ·rw[hv] at h7; simp at h7
  ·exact h7
 ·intro x hx y hy
  simpa using h9 x hx y hy
 ·intro x hx y hy
  simpa using a5 x hx y hy
 ·intro x hx y hy
  simpa using a6 x hx y hy
theorem Comm.symm {jp jq:Nat} {p q:PO} (h:Comm jp p jq q):Comm jq q jp p:=
 ⟨h.mq,h.mp,fun⟨a,b⟩=>h.mm ⟨b,a⟩,h.qp,h.qv,h.pq,h.pv,by rw[Ls]; exact h.dd,λx hx y hy=>by rw[b8q]; exact h.tt y hy x hx,h.n4,h.m4,h.k2,h.h2,h.sq,h.sp⟩
theorem Lt:∀(xs:List PX) (st:St) (s:Nat),(∀y∈xs,xQ y (.v s)=false)→(xI xs st).vars[s]? = st.vars[s]?
 | [],_,_,_=>rfl
 | x :: xs, st, s, h => by
   simp only[xI]
   rw[Lt xs _ s (λy hy=>h y (by simp[hy]))]
   have:=h x (by simp)
   cases x with
   | v i =>
     have c9:¬i=s:=by simpa[xQ] using this
     simp only[x8,aZ,ae c9]
     cases st.vars[s]?<;>rfl
   | l i=>rfl
   | c p=>rfl
theorem c1u {o:POp} {d:Dm} (hd:zl o d) (st:St) (s:Nat) (dX:∀xs,d = .shut xs→∀y∈xs,xQ y (.v s)=false):Cf s st (d.app st)∧Cf s (d.app st) st:=by
 have by_loc:wH o≠4→Cf s st (d.app st)∧Cf s (d.app st) st:=by
  intro h4
  obtain⟨h1,h2⟩:=Lr hd st false (by simp) h4
  exact ⟨λg cs h=>let ⟨cs',a,b,_⟩:=h1 s g cs h; ⟨cs',a,b⟩,λg cs h=>let ⟨cs',a,b,_⟩:=h2 s g cs h; ⟨cs',a,b⟩⟩
 cases d with
 | none=>exact ⟨λg cs h=>⟨cs,h,rfl⟩,λg cs h=>⟨cs,h,rfl⟩⟩
 | heap h=>exact ⟨λg cs h=>⟨cs,h,rfl⟩,λg cs h=>⟨cs,h,rfl⟩⟩
 | shut xs =>
   have:=Lt xs st s (dX xs rfl)
   exact ⟨λg cs h=>⟨cs,by simp only[Dm.app]; rw[this]; exact h,rfl⟩,λg cs h=>⟨cs,by simp only[Dm.app] at h; rw[this] at h; exact h,rfl⟩⟩
 | src y =>
   refine by_loc ?_
   have hy:y∈xP o:=hd
   intro h4
   cases o<;>simp[xP] at hy<;>simp[wH] at h4
   case h o=>cases o<;>simp[xP] at hy<;>simp[wH] at h4
   all_goals (try (split at h4<;>simp at h4))
 | cell s' off =>
   refine by_loc ?_
   have h3:wH o=3:=hd
   omega
theorem Lu {jp jq:Nat} {p q:PO} (hc:Comm jp p jq q) {d:Dm} (hd:zl p.op d) (st:St) (u:PV):FL q st (put (d.app st) jp p.dst u)∧FL q (put (d.app st) jp p.dst u) st:=by
 have dX:∀x∈zD q,∀xs,d = .shut xs→∀y∈xs,xQ y x=false:=by
  intro x hx xs e y hy
  subst e
  exact hc.sp y (hd.2▸hy) x hx
 have jW:∀x∈zD q,(raw st x).map vw=(raw (put (d.app st) jp p.dst u) x).map vw:=λx hx=>by
  rw[Lo (hc.pq x hx),b8p d st x (dX x hx)]
 have jX:∀x∈xP q.op,∀es,raw st x=some (.list true es)↔raw (put (d.app st) jp p.dst u) x=some (.list true es):=λx hx es=>by
  rw[Lo (hc.pq x (Dr q x (HY _ x hx))),b6A hd st x (λy hy=>hc.tt y hy x hx) (dX x (Dr q x (HY _ x hx)))]
 have dW:1≤wH q.op→AZ (wH q.op==3) st (put (d.app st) jp p.dst u)∧AZ (wH q.op==3) (put (d.app st) jp p.dst u) st:=λh1=>by
  have hv:(put (d.app st) jp p.dst u).vars=(d.app st).vars:=by
   cases hd:p.dst with
   | v i=>have:=hc.pv (by rw[hd]; rfl); omega
   | l=>rfl
   | n=>rfl
  have:=Lr hd st (wH q.op==3) (λhe h3=>hc.mm ⟨h3,by simpa using he⟩) (λh4=>by have:=hc.m4 h4; omega)
  unfold AZ at this ⊢
  rw[hv]
  exact this
 have dQ:1≤xO q.op→(put (d.app st) jp p.dst u).heap=st.heap:=by
  intro h1
  have hp:(put (d.app st) jp p.dst u).heap=(d.app st).heap:=by cases p.dst<;>rfl
  rw[hp]
  cases d with
  | none=>rfl
  | src y=>cases y<;>rfl
  | cell s off=>rfl
  | heap h=>have:=hc.h2 hd; omega
  | shut xs=>exact Lq xs st
 have lB:∀s,HS q.op=some s→Cf s st (put (d.app st) jp p.dst u)∧Cf s (put (d.app st) jp p.dst u) st:=by
  intro s hs
  have hx:PX.v s∈zD q:=by
   refine Dr q _ ?_
   cases hq:q.op<;>rw[hq] at hs<;>simp[HS] at hs
   subst hs
   simp[wy]
  have hp:(put (d.app st) jp p.dst u).vars[s]? = (d.app st).vars[s]? := by
   have h1:=hc.pq _ hx
   cases gU:p.dst with
   | v i =>
     rw[gU] at h1
     have c9:¬i=s:=by simpa[isX,xQ] using h1
     simp only[put,aI,ae c9]
   | l=>rfl
   | n=>rfl
  obtain⟨h1,h2⟩:=c1u hd st s (λxs e y hy=>dX _ hx xs e y hy)
  refine⟨λg cs h =>?_,λg cs h =>?_⟩
  ·obtain⟨cs',a,b⟩:=h1 g cs h
   exact ⟨cs',by rw[hp]; exact a,b⟩
  ·rw[hp] at h
   exact h2 g cs h
 exact ⟨⟨jW,jX,λh=>(dW h).1,dQ,lB⟩,⟨λx hx=>(jW x hx).symm,λx hx es=>(jX x hx es).symm,λh=>(dW h).2,λh=>(dQ h).symm,λs hs=>(lB s hs).symm⟩⟩
theorem Ek (l:List PV) (i k:Nat) (f g:PV→PV) (h:i=k→∀v,f (g v)=g (f v)):(l.modify i f).modify k g=(l.modify k g).modify i f:=by
 apply bY
 intro m
 simp only[aZ,cG,aE]
 cases l[m]? with
 | none=>rfl
 | some v =>
   simp only[ay,Function.comp]
   by_cases h1:i=m<;>by_cases h2:k=m<;>simp[h1,h2]
   exact (h (by omega) v).symm
theorem Lv (off:Nat) (v:PV):dem (Bl off v)=Bl off (dem v):=by cases v<;>rfl
theorem b9I (v:PV):Bm (dem v)=dem (Bm v):=by cases v<;>rfl
theorem b30 (off:Nat) (v:PV):Bm (Bl off v)=Bl off (Bm v):=by
 cases v<;>simp[Bl,Bm,Ia]
theorem b9J (x y:PX) (st:St):x8 x ((Dm.src y).app st)=(Dm.src y).app (x8 x st):=by
 cases x<;>cases y<;>(try simp only[Dm.app,x8])<;>(try rfl)
 rw[Ek]; intro _ v; exact (b9I v).symm
theorem b8r (x:PX) (s off:Nat) (st:St):x8 x ((Dm.cell s off).app st)=(Dm.cell s off).app (x8 x st):=by
 cases x<;>(try simp only[Dm.app,x8])<;>(try rfl)
 rw[Ek]; intro _ v; exact (b30 off v).symm
theorem Ib:∀(xs:List PX) (y:PX) (st:St),xI xs ((Dm.src y).app st)=(Dm.src y).app (xI xs st)
 | [],_,_=>rfl
 | x::xs,y,st=>by simp only[xI]; rw[b9J,Ib xs]
theorem Ic:∀(xs:List PX) (s off:Nat) (st:St),xI xs ((Dm.cell s off).app st)=(Dm.cell s off).app (xI xs st)
 | [],_,_,_=>rfl
 | x::xs,s,off,st=>by simp only[xI]; rw[b8r,Ic xs]
theorem c38 {o o':POp} {d d':Dm} (hd:zl o d) (gU:zl o' d') (hm:¬(wH o=3∧wH o'=3)) (h4:wH o=4→wH o'=0) (h2:xO o=2→xO o'=0) (st:St):d.app (d'.app st)=d'.app (d.app st):=by
 cases d with
 | none=>rfl
 | heap h =>
   cases d' with
   | none=>rfl
   | src y=>cases y<;>rfl
   | cell s off=>rfl
   | heap h' =>
     have a:=h2 hd
     have b:xO o'=2:=gU
     omega
   | shut xs=>exact (H2 xs st h).symm
 | shut xs =>
   cases d' with
   | none=>rfl
   | src y=>exact Ib xs y st
   | cell s off=>exact Ic xs s off st
   | heap h'=>exact H2 xs st h'
   | shut ys =>
     have a:=h4 hd.1
     have b:wH o'=4:=gU.1
     omega
 | src y =>
   cases d' with
   | heap h'=>cases y<;>rfl
   | shut xs=>exact (Ib xs y st).symm
   | none=>rfl
   | src y' =>
     cases y<;>cases y'<;>(try simp only[Dm.app])<;>(try rfl)<;>(rw[Ek]; intro _ v; rfl)
   | cell s off =>
     cases y<;>(try simp only[Dm.app])<;>(try rfl)
     rw[Ek]; intro _ v; exact (Lv off v).symm
 | cell s off =>
   cases d' with
   | heap h'=>rfl
   | shut xs=>exact (Ic xs s off st).symm
   | none=>rfl
   | src y' =>
     cases y'<;>(try simp only[Dm.app])<;>(try rfl)
     rw[Ek]; intro _ v; exact Lv off v
   | cell s' off'=>exact absurd ⟨hd,gU⟩ hm
theorem Id (l:List PV) (i k:Nat) (f:PV→PV) (u:PV) (h:i≠k):(l.set i u).modify k f=(l.modify k f).set i u:=by
 apply bY
 intro m
 simp only[aZ,aI,List.length_modify]
 by_cases h1:i=m
 ·subst h1
  have:¬k=i:=λe=>h e.symm
  simp[this]
 ·simp[h1]
theorem b9K {x:PX} {j:Nat} {d:PD} (st:St) (u:PV) (h:isX d j x=false):x8 x (put st j d u)=put (x8 x st) j d u:=by
 cases x with
 | v k =>
   cases d with
   | v i=>simp[isX,xQ] at h; simp only[x8,put]; rw[Id _ _ _ _ _ h]
   | _=>rfl
 | _=>cases d<;>rfl
theorem Lw:∀{xs:List PX} {j:Nat} {d:PD} (st:St) (u:PV),(∀x∈xs,isX d j x=false)→xI xs (put st j d u)=put (xI xs st) j d u
 | [],_,_,_,_,_=>rfl
 | x :: xs, j, d, st, u, h => by
   simp only[xI]
   rw[b9K st u (h x (bS ..)),Lw _ _ (λy hy=>h y (bx _ hy))]
theorem b9L (o:POp):∀x∈Ce o,x∈wy o:=by
 intro x hx
 cases o with
 | h o=>cases o<;>simp[Ce,wy,xd] at hx ⊢; exact hx
 | _=>simp[Ce] at hx
theorem Lx {p:PO} {q:PO} {jp jq:Nat} (hc:Comm jp p jq q) {d:Dm} (hd:zl p.op d) (st:St) (u:PV):d.app (put st jq q.dst u)=put (d.app st) jq q.dst u:=by
 cases d with
 | none=>rfl
 | heap h=>cases q.dst<;>rfl
 | shut xs=>exact Lw st u (λx hx=>hc.qp x (Dr p x (b9L _ x (hd.2▸hx))))
 | src y =>
   have hy:=hc.qp y (Dr p y (HY _ y hd))
   cases hq:q.dst with
   | n=>rfl
   | v i =>
     rw[hq] at hy
     cases y with
     | c z=>rfl
     | l k=>rfl
     | v k=>simp[isX,xQ] at hy; simp only[Dm.app,put]; rw[Id _ _ _ _ _ hy]
   | l =>
     rw[hq] at hy
     cases y with
     | c z=>rfl
     | v k=>rfl
     | l k=>simp[isX,xQ] at hy; simp only[Dm.app,put]; rw[Id _ _ _ _ _ hy]
 | cell s off =>
   cases hq:q.dst with
   | n=>rfl
   | l=>rfl
   | v i =>
     have h0:=hc.qv (by rw[hq]; rfl)
     have h3:wH p.op=3:=hd
     omega
theorem c39 {jp jq:Nat} {d d':PD} (hj:jp≠jq) (h:CF d d'=false) (st:St) (u u':PV):put (put st jp d u) jq d' u'=put (put st jq d' u') jp d u:=by
 cases d<;>cases d'<;>simp[CF] at h<;>simp only[put]<;>(try rfl)
 ·rw[List.set_comm _ _ h]
 ·rw[List.set_comm _ _ hj]
theorem d2Q {cf:vZ} {jp jq:Nat} {p q:PO} (hj:jp≠jq) (hc:Comm jp p jq q) {st st1 st2:St} (h1:xn cf jp p st=some st1) (h2:xn cf jq q st1=some st2):
  ∃st1',xn cf jq q st=some st1'∧xn cf jp p st1'=some st2:=by
 obtain⟨d,u,e1,f1,s1⟩:=Ln hc.mp h1
 obtain⟨d',u',e2,f2,s2⟩:=Ln hc.mq h2
 subst e1
 have hq:=s2 st (Lu hc f1 st u).2
 refine⟨_,hq,?_⟩
 have hp:=s1 _ (Lu hc.symm f2 st u').1
 rw[hp,e2]
 congr 1
 rw[Lx hc f1,Lx hc.symm f2,c38 f1 f2 hc.mm hc.m4 hc.h2]
 exact c39 (λe=>hj e.symm) (by rw[Ls]; exact hc.dd) _ _ _
theorem HO {cf:vZ} {pos:List PO} {i:Nat} {q:PO} (hi:pos[i]? = some q) {post:List Nat}:∀{pre:List Nat} {st st':St},(∀j∈pre,j≠i∧∀p,pos[j]? = some p→Comm j p i q) →
  xM cf pos (pre++i::post) st=some st'→xM cf pos (i::(pre++post)) st=some st'
 | [],st,st',_,h=>h
 | j :: pre, st, st', hc, h => by
   simp only[ba,xM] at h
   split at h
   ·rename_i p hp
    simp only[af] at h
    obtain⟨st1,h1,h2⟩:=h
    have ih:=HO hi (λj' sK=>hc j' (by simp[sK])) h2
    simp only[xM,hi,af] at ih
    obtain⟨st2,h3,h4⟩:=ih
    obtain⟨hj,gm⟩:=hc j (by simp)
    obtain⟨st1',h5,h6⟩:=d2Q hj (gm p hp) h1 h3
    simp only[ba,xM,hi,hp,h5,ar,h6]
    exact h4
   ·simp at h
inductive Pre (ops:Array Oper):Nat→Nat→Prop where
 | edge {i:Nat} {o:Oper} {e:Edge} (ho:ops[i]? = some o) (he:e∈o.after) (hb:Region.binds .any e=true):Pre ops e.on i
 | far {i j:Nat} {o:Oper} {e:Edge} (ho:ops[i]? = some o) (he:e∈o.after) (hb:Region.binds .any e=true) (h:Pre ops j e.on):Pre ops j i
def FM {α:Type} (m:Nat) (f:Nat→α):α:=
 match m with
 | 0=>f 0
 | n+1=>f (n+1)
theorem FJ {α:Type} (m:Nat) (f:Nat→α):FM m f=f m:=by cases m<;>rfl
def wide:Nat:=1024
def El (M:Nat):List Edge→Nat→Nat
 | [],m=>m
 | e::es,m=>if Region.binds .any e then FM (m ||| 1 <<< e.on ||| M >>> (e.on*1024) % 2 ^ wide) (El M es) else El M es m
def rows:List Oper→Nat→Nat→Nat
 | [],_,M=>M
 | o::os,i,M=>FM (M ||| (El M o.after.toList 0 % 2 ^ wide) <<< (i*1024)) (rows os (i+1))
def Ei (ops:Array Oper) (M:Nat):Prop:=∀i j,j<1024→M.testBit (i*1024+j)=true→Pre ops j i
theorem Ie {ops:Array Oper} {M:Nat} (hM:Ei ops M) {i:Nat} {o:Oper} (ho:ops[i]? = some o):∀(es:List Edge) (m:Nat),(∀e∈es,e∈o.after)→(∀j,j<1024→m.testBit j=true→Pre ops j i)→∀j,j<1024→(El M es m).testBit j=true→Pre ops j i
 | [],m,_,hm=>hm
 | e :: es, m, fE, hm => by
   intro j hj h
   simp only[El] at h
   split at h
   ·rename_i hb
    rw[FJ] at h
    refine Ie hM ho es _ (λx hx=>fE x (by simp[hx])) ?_ j hj h
    intro k hk ez
    simp only[Nat.testBit_or,bu] at ez
    rcases ez with(ez|ez)|ez
    ·exact hm k hk ez
    ·rw[Nat.one_shiftLeft,Nat.testBit_two_pow] at ez
     have:e.on=k:=by simpa using ez
     exact this▸Pre.edge ho (fE e (by simp)) hb
    ·rw[Nat.testBit_mod_two_pow,Nat.testBit_shiftRight] at ez
     simp only[am] at ez
     exact Pre.far ho (fE e (by simp)) hb (hM e.on k hk ez.2)
   ·exact Ie hM ho es m (λx hx=>fE x (by simp[hx])) hm j hj h
theorem HP {ops:Array Oper}:∀(os:List Oper) (i M:Nat),(∀k,os[k]? = ops[i+k]?)→Ei ops M→Ei ops (rows os i M)
 | [],_,_,_,hM=>hM
 | o :: os, i, M, hs, hM => by
   simp only[rows,FJ]
   have ho:ops[i]? = some o:=by simpa using(hs 0).symm
   refine HP os (i+1) _ (λk=>by have:=hs (k+1); simp only[cE] at this; rw[this]; congr 1; omega) ?_
   intro a j hj h
   simp only[Nat.testBit_or,bu] at h
   rcases h with h|h
   ·exact hM a j hj h
   ·rw[Nat.testBit_shiftLeft,Nat.testBit_mod_two_pow] at h
    simp only[am,an] at h
    obtain⟨h1,h2,h3⟩:=h
    have hw:wide=1024:=rfl
    have ha:a=i:=by omega
    subst ha
    rw[Nat.add_sub_cancel_left] at h3
    exact Ie hM ho o.after.toList 0 (by simp) (by simp) j hj h3
def Ej (M:Nat) (pos:List PO) (i j:Nat):Bool:=
 (match pos[j]?,pos[i]? with
 | some p,some q=>Do j p i q
 | _,_=>false)||(decide (j<1024)&&M.testBit (i*1024+j))
def HQ (ops:Array Oper) (pos:List PO) (M:Nat):Bool:=
 (List.range ops.size).all λi=>(match ops[i]? with | some o=>o.after.all (λe => !Region.binds .any e||decide (e.on<i)) | none=>true)&&(List.range i).all (Ej M pos i)
def B6 (ops:Array Oper) (pos:List PO):Bool:=FM (rows ops.toList 0 0) (HQ ops pos)
def Fx (ops:Array Oper) (listed:Array Bool):Prop:=
 ∀(k:Nat) (o:Oper),ops[k]? = some o→listed.getD k false=true→∀e∈o.after,Region.binds .any e=true→listed.getD e.on false=true
theorem Li {ops:Array Oper} {listed:Array Bool} (dS:Fx ops listed) {j i:Nat} (h:Pre ops j i):∀{o:Oper},ops[i]? = some o→(∀e∈o.after,Region.binds .any e=true→listed.getD e.on false=true)→listed.getD j false=true:=by
 induction h with
 | edge ho he hb=>intro o eE hl; rw[ho] at eE; cases eE; exact hl _ he hb
 | @far i j o1 e ho he hb hp ih =>
   intro o eE hl; rw[ho] at eE; cases eE
   have sL:=hl _ he hb
   cases h':ops[e.on]? with
   | none => exfalso; cases hp with
     | edge h1=>rw[h'] at h1; cases h1
     | far h1=>rw[h'] at h1; cases h1
   | some o'=>exact ih h' (dS e.on o' h' sL)
def xo (n:Nat) (listed:Array Bool):List Nat:=(List.range n).filter λi => !listed.getD i false
theorem Lh {l:List Nat} {f:Nat→Bool} {i:Nat} (hs:l.Pairwise (·<·)) (hi:i∈l) (hf:f i=true):
  ∃pre post,l.filter f=pre++i::post∧(∀j∈pre,j<i∧j∈l∧f j=true)∧l.filter (λk=>f k&&k != i)=pre++post:=by
 induction l with
 | nil=>simp at hi
 | cons x xs ih =>
   rw[List.pairwise_cons] at hs
   rcases az.1 hi with rfl|hi
   ·refine⟨[],xs.filter f,by simp[hf],by simp,?_⟩
    simp only[List.filter_cons,hf,bne_self_eq_false,Bool.and_false,aH,if_false,be]
    apply List.filter_congr
    intro k hk
    have:k≠i:=λe=>by have:=hs.1 k hk; omega
    simp[this]
   ·obtain⟨pre,post,h1,h2,h3⟩:=ih hs.2 hi
    have cO:=hs.1 i hi
    have c9:(x != i)=true:=by simp; omega
    by_cases hx:f x=true
    ·refine⟨x::pre,post,by simp[hx,h1],?_,by simp[List.filter_cons,hx,c9,h3]⟩
     intro j hj
     rcases az.1 hj with rfl|hj
     ·exact ⟨cO,by simp,hx⟩
     ·obtain⟨a,b,c⟩:=h2 j hj
      exact ⟨a,by simp[b],c⟩
    ·refine⟨pre,post,by simp[hx,h1],?_,by simp[List.filter_cons,hx,h3]⟩
     intro j hj
     obtain⟨a,b,c⟩:=h2 j hj
     exact ⟨a,by simp[b],c⟩
section
variable {E:Env} {N:Nm} {vs:List Tmp} {P:Program} {ops:Array Oper} {Q:Exit→Act→World→Prop}
theorem b9Q {L:Nat→Option PFunc} (hF:x7 N P L) (hE:EnvOk E N) (hP:E.P=P) (nm:Names vs (vS vs ops.toList)) {cf:vZ} (dH:CallOK N P cf)
  (ef:∀k args h r,cf k args h=some r→∃f,L k=some f) {pos:List PO} (hc:BK E vs ops.toList ops.toList=some pos) (eT:B6 ops pos=true):
  ∀ (fuel : Nat) {listed : Array Bool} {st st' : St} {w : World} {G : GS} {a : Act}, listed.size = ops.size → (xo ops.size listed).length ≤ fuel → Fx ops listed → xM cf pos (xo ops.size listed) st = some st' →
    FI N w G st a vs (vS vs ops.toList)→Next1 N w G a st' vs ops.toList (Q .normal)→wpAny P .any ops Q fuel listed a w:=by
 have cK:ops.size=pos.length:=by have:=(B8 hc).1; simpa using this
 have qI:Ei ops (rows ops.toList 0 0):=HP _ _ _ (by simp) (λi j _ h=>by simp at h)
 have eT:HQ ops pos (rows ops.toList 0 0)=true:=by rw[B6,FJ] at eT; exact eT
 have jU:∀i o,ops[i]? = some o→∀e∈o.after,Region.binds .any e=true→e.on<i:=by
  intro i o ho e he hb
  have hi:i<ops.size:=(aX.1 ho).1
  have:=aG.1 eT i (by simpa using hi)
  simp only[ho,am,Array.all_eq_true_iff_forall_mem] at this
  have:=this.1 e he
  simpa[hb] using this
 have jV:∀i j,i<ops.size→j<i→Ej (rows ops.toList 0 0) pos i j=true:=by
  intro i j hi hj
  have:=aG.1 eT i (by simpa using hi)
  simp only[am] at this
  exact aG.1 this.2 j (by simpa using hj)
 have iB:∀{listed:Array Bool},listed.size=ops.size→Region.ready .any ops listed=[]→xo ops.size listed=[]:=by
  intro listed cQ hr
  rcases List.eq_nil_or_concat (xo ops.size listed) with h|⟨_,_,h⟩
  ·exact h
  ·exfalso
   cases eW:xo ops.size listed with
   | nil=>rw[eW] at h; simp at h
   | cons m rest =>
     have hm:m∈xo ops.size listed:=by rw[eW]; simp
     simp only[xo,bD,ck,bF] at hm
     have gW:(xo ops.size listed).Pairwise (·<·):=List.Pairwise.filter _ List.pairwise_lt_range
     rw[eW,List.pairwise_cons] at gW
     have kP:m∈Region.ready .any ops listed:=by
      rw[mem_ready]
      refine⟨?_,ops[m],by simp[hm.1],?_⟩
      ·have:=hm.2
       simp only[aK] at this ⊢
       have cO:m<listed.size:=by omega
       simpa[cO] using this
      ·intro e he hb
       have cO:=jU m ops[m] (by simp[hm.1]) e he hb
       cases hl:listed.getD e.on false with
       | true=>rfl
       | false =>
         have dn:e.on∈xo ops.size listed:=by
          simp only[xo,bD,ck,hl,Bool.not_false,and_true]
          omega
         rw[eW] at dn
         rcases az.1 dn with h|h
         ·omega
         ·have:=gW.1 _ h; omega
     rw[hr] at kP
     simp at kP
 intro fuel
 induction fuel with
 | zero =>
   intro listed st st' w G a cQ hl dS hx hf hk
   have h0:xo ops.size listed=[]:=br.1 (by omega)
   rw[h0] at hx
   simp[xM] at hx; subst hx
   refine⟨?_,hk _ _ G hf (Ext.refl _ _) rfl⟩
   refine List.eq_nil_iff_forall_not_mem.2 λi hi =>?_
   rw[mem_ready] at hi
   obtain⟨gH,o,ho,_⟩:=hi
   have cO:i<ops.size:=(aX.1 ho).1
   have:i∈xo ops.size listed:=by
    simp only[xo,bD,ck,cO,true_and]
    have kQ:i<listed.size:=by omega
    simp only[aK] at gH ⊢
    simpa[kQ] using gH
   rw[h0] at this
   simp at this
 | succ fuel ih =>
   intro listed st st' w G a cQ hl dS hx hf hk
   refine⟨?_,?_⟩
   ·intro hr
    rw[iB cQ hr] at hx
    simp[xM] at hx; subst hx
    exact hk _ _ G hf (Ext.refl _ _) rfl
   ·intro i hi
    rw[mem_ready] at hi
    obtain⟨gH,o,ho,fo⟩:=hi
    have cO:i<ops.size:=(aX.1 ho).1
    have gX:listed.getD i false=false:=by
     have kQ:i<listed.size:=by omega
     simp only[aK] at gH ⊢
     simpa[kQ] using gH
    obtain⟨q,hq,uk⟩:=(B8 hc).2 i o (by simpa using ho)
    obtain⟨pre,post,e1,e2,e3⟩:=Lh (f:=λk => !listed.getD k false) (List.pairwise_lt_range (n:=ops.size)) (by simpa using cO) (by simp only[gX]; rfl)
    have ei:xM cf pos (i::(pre++post)) st=some st':=by
     refine HO hq ?_ (by rw[← e1]; exact hx)
     intro j hj
     obtain⟨a1,a2,a3⟩:=e2 j hj
     refine⟨by omega,λp hp =>?_⟩
     have lz:=jV i j cO a1
     simp only[Ej,hp,hq,bu] at lz
     rcases lz with h|h
     ·exact Lj h
     ·simp only[am,an] at h
      have:=Li dS (qI i j h.1 h.2) ho fo
      simp only[this] at a3
      simp at a3
    simp only[xM,hq,af] at ei
    obtain⟨st1,d7,nL⟩:=ei
    refine FC hF hE hP nm ho hf dH ef uk d7 ?_
    intro a' w' G' iQ he eP
    have eW:xo ops.size (listed.setIfInBounds i true)=pre++post:=by
     rw[← e3]
     unfold xo
     apply List.filter_congr
     intro k dg
     by_cases gY:k=i
     ·subst gY
      have kQ:k<listed.size:=by omega
      simp[aK,aY,kQ]
     ·rw[getD_set_ne _ (Ne.symm gY)]
      simp[gY]
    refine ih (by simp[cQ]) ?_ ?_ (by rw[eW]; exact nL) iQ (hk.trans he eP)
    ·rw[eW]
     have:(xo ops.size listed).length=(pre++i::post).length:=by unfold xo; rw[e1]
     simp at this ⊢
     omega
    ·intro k o' eE gn e dy hb
     by_cases gY:k=i
     ·subst gY
      have:o'=o:=by rw[ho] at eE; simpa using eE.symm
      subst this
      exact getD_set_true (fo e dy hb)
     ·rw[getD_set_ne _ (Ne.symm gY)] at gn
      exact getD_set_true (dS k o' eE gn e dy hb)
end
end PI
set_option linter.unusedSimpArgs false
set_option linter.unusedVariables false
namespace PI
open Go
def W (r:Option Nat):Fence:={ Fence.wide with round:=r }
section
variable {P:Program} {r:Option Nat} {n:Nat} {ops:Array Oper} {Q:Exit→Act→World→Prop}
theorem zO (f:FuncId):(W r).fn f:=trivial
theorem Eg (k:Nat):(W r).room k:=λd h=>by simp[W,Fence.wide] at h
theorem Dl:(W r).depth.isSome=true→1≤n:=λh=>by simp[W,Fence.wide] at h
theorem FH {f:FuncId} {args:Array Value} {w:World} {R:Ending→World→Prop} (h:Calls P f args w R):CallsIn (W r) n P f args w R:=(callsIn_wide (n:=n)).2 h
theorem b8k {f:FuncId} {args:Array Value} {w:World} {R:Ending→World→Prop} (h:CallsIn (W r) n P f args w R):Calls P f args w R:=(callsIn_wide (n:=n)).1 h
theorem d1D {row:String} {args:Array Value} {w:World} {R:Value→World→Prop} (h:Rows P row args w R):RowsIn (W r) n P row args w R:=
 λc cs _=>let ⟨v,w',hr,hs⟩:=h c cs; ⟨v,w',hr,stepsIn_wide.2 hs⟩
theorem c33 {o:Oper} {a:Act} {w:World} {K:Act→World→Prop} (hd:∀c,o.op≠.defer c) (h:o.wp P a w K Q):o.wpIn (W r) n P a w K Q:=by
 refine⟨λ_ _=>zO _,?_⟩
 rw[Oper.semAt_eq _ _ _ hd]
 unfold Oper.wp at h
 generalize (execOp a.eval o).run P w=res at h
 cases res with
 | ok x w' =>
   cases x<;>simp only[Oper.upon] at h<;>simp only[Oper.uponIn]<;>first|exact h|exact⟨Dl,FH h⟩|exact⟨Dl,d1D h⟩|exact h.elim
 | halt x w'=>cases x<;>simp only[Oper.upon] at h<;>simp only[Oper.uponIn]<;>first | exact h | exact h.elim
theorem Hv {i:Nat} {a:Act} {w:World} {K:Act→World→Prop} (hd:∀o c,ops[i]? = some o→o.op≠.defer c) (hQ:¬LetsOut Q) (h:wpOp P ops Q i K a w):wpOpIn (W r) n P ops Q i K a w:=by
 unfold wpOp at h
 unfold wpOpIn
 split
 ·rename_i ho; simp only[ho] at h; exact h
 ·rename_i o ho
  simp only[ho] at h
  split
  ·rename_i hw
   simp only[hw,if_true] at h
   rcases h with h|h
   ·exact c33 (λc=>hd o c ho) h
   ·exact absurd h.2 hQ
  ·rename_i hw
   simp only[hw] at h
   exact⟨λ_ _=>zO _,h⟩
theorem Hr (hd:∀(i:Nat) o c,ops[i]? = some o→o.op≠.defer c) (hQ:¬LetsOut Q):∀{l:List Nat} {a:Act} {w:World},wpOps P ops Q l a w→wpOpsIn (W r) n P ops Q l a w
 | [],_,_,h=>h
 | i :: l, a, w, h => by
   rw[wpOps_cons] at h
   rw[wpOpsIn_cons]
   exact wpOpIn_mono (λa w h=>Hr hd hQ h) (Hv (λo c=>hd i o c) hQ h)
def HK (P:Program) (l:Nat) (R:Ending→World→Prop):Exit→Act→World→Prop
 | .normal,_,w=>∃v w',(Instr.endRound l none).run P w = .ok v w'∧R (.returned v) w'
 | .ret,_,w=>∃v w',(Instr.endRound l (some .ret)).run P w = .ok v w'∧R (.returned v) w'
 | .exit id,_,w=>∃v w',(Instr.endRound l (some (.exit id))).run P w = .ok v w'∧R (.returned v) w'
 | .panic chain,a,w=>a.defers=[]∧R (.panicked chain) w
 | _,_,_=>False
theorem yM (m:Machine):m.fenced P (W r):=fenced_wide P m
theorem b1b {fr c:Frame} {cs:List Frame} {w:World} {chain:List PanicEntry} {fn:Func} (hm:fr.mode = .panicking chain) (hd:fr.defers=[]) (hf:P.funcs[fr.fn]? = some fn):
  step P (lone fr (c::cs) w) = .next (lone (c.raise chain) cs w):=
 step_lone_go (by simp[stepG,unwind,Frame.catches,hm,hd,hf])
end
noncomputable def yK (cf:vZ) (ob:xF) (pos:List PO):List Nat→St→Option (Option PV×St)
 | [],st=>some (none,st)
 | i :: l, st =>
   match pos[i]? with
   | some p => match xX cf ob i p st with
     | some (none,st)=>yK cf ob pos l st
     | r=>r
   | none=>none
section
variable {cf:vZ} {ob:xF} {pos:List PO}
theorem Le {j:Nat} {p:PO} {st:St} (h:isB p=false):xX cf ob j p st=(xn cf j p st).map λst=>(none,st):=by
 unfold xX
 unfold isB at h
 split
 ·rename_i h1 h2; rw[h1] at h; simp at h
 ·rename_i h1 h2; rw[h1] at h; simp at h
 ·rename_i h1 h2; rw[h1] at h; simp at h
 ·rename_i h1 h2; rw[h1] at h; simp at h
 ·rfl
theorem HM:∀{l:List Nat} {st:St},(∀i∈l,∀p,pos[i]? = some p→isB p=false)→yK cf ob pos l st=(xM cf pos l st).map λst=>(none,st)
 | [],st,_=>rfl
 | i :: l, st, h => by
   simp only[yK,xM]
   cases hp:pos[i]? with
   | none=>rfl
   | some p =>
     simp only[Le (h i (by simp) p hp)]
     cases xn cf i p st with
     | none=>rfl
     | some st1=>simpa using HM (λj hj=>h j (by simp[hj]))
theorem HN:∀(l1 l2:List Nat) (st:St),yK cf ob pos (l1++l2) st=match yK cf ob pos l1 st with
  | some (none,st)=>yK cf ob pos l2 st
  | r=>r
 | [],l2,st=>rfl
 | i :: l1, l2, st => by
   simp only[ba,yK]
   cases hp:pos[i]? with
   | none=>rfl
   | some p =>
     simp only
     cases xX cf ob i p st with
     | none=>rfl
     | some x =>
       obtain⟨y,st1⟩:=x
       cases y with
       | none=>exact HN l1 l2 st1
       | some v=>rfl
theorem KD {all:List PO}:∀{os:List PO} {j:Nat} {st:St},all.drop j=os→xt cf ob j os st=yK cf ob all (List.range' j os.length) st
 | [],j,st,_=>rfl
 | o :: os, j, st, h => by
   have hj:all[j]? = some o:=by
    have:=aD List.head? h
    simpa[List.head?_drop] using this
   have ht:all.drop (j+1)=os:=by
    have:=aD List.tail h
    simpa[List.tail_drop] using this
   simp only[xt,bc,List.range'_succ,yK,hj]
   cases xX cf ob j o st with
   | none=>rfl
   | some x =>
     obtain⟨y,st1⟩:=x
     cases y with
     | none=>exact KD ht
     | some v=>rfl
theorem b6y {i:Nat} {q:PO} (hi:pos[i]? = some q) {pre post:List Nat} {st:St} {r:Option PV×St} (hb:pre≠[]→isB q=false) (fo:∀j∈pre,∀p,pos[j]? = some p→isB p=false)
  (hc:∀j∈pre,j≠i∧∀p,pos[j]? = some p→Comm j p i q) (h:yK cf ob pos (pre++i::post) st=some r):yK cf ob pos (i::(pre++post)) st=some r:=by
 cases pre with
 | nil=>exact h
 | cons j0 pre0 =>
   have hq:isB q=false:=hb (by simp)
   generalize fm:j0::pre0=pre at *
   have e1:pre++i::post=(pre++[i])++post:=by simp
   have e2:i::(pre++post)=(i::pre)++post:=rfl
   have p1:∀k∈pre++[i],∀p,pos[k]? = some p→isB p=false:=by
    intro k hk p hp
    rcases aw.1 hk with hk|hk
    ·exact fo k hk p hp
    ·simp at hk; subst hk; rw[hi] at hp; simp at hp; subst hp; exact hq
   have p2:∀k∈i::pre,∀p,pos[k]? = some p→isB p=false:=by
    intro k hk p hp
    rcases az.1 hk with rfl|hk
    ·rw[hi] at hp; simp at hp; subst hp; exact hq
    ·exact fo k hk p hp
   rw[e1,HN,HM p1] at h
   rw[e2,HN,HM p2]
   cases hx:xM cf pos (pre++[i]) st with
   | none=>rw[hx] at h; simp at h
   | some st1 =>
     have:=HO hi hc (post:=[]) hx
     rw[aW] at this
     rw[this]
     rw[hx] at h
     exact h
theorem Lf {p:PO} (h:isB p=true):wH p.op=2:=by
 unfold isB at h
 split at h<;>first|(rename_i e; rw[e]; rfl)|simp at h
theorem Lg {i j:Nat} {p q:PO} (h:Do j p i q=true):isB p=false∧isB q=false:=by
 simp only[Do,am,bne_iff_ne,ne_eq] at h
 obtain⟨h1,h2⟩:=h.1.1.1.1.1.1.1.1.1.1.1
 exact⟨by cases hp:isB p with | false=>rfl | true=>exact absurd (Lf hp) h1,by cases hp:isB q with | false=>rfl | true=>exact absurd (Lf hp) h2⟩
end
theorem c35 {ops:Array Oper} {pos:List PO} {cf:vZ} {ob:xF} (cK:ops.size=pos.length) (eT:B6 ops pos=true):
  ∀ (fuel t : Nat) {listed : Array Bool} {st : St} {r : Option PV × St}, listed.size = ops.size → (xo ops.size listed).length ≤ fuel → Fx ops listed → yK cf ob pos (xo ops.size listed) st = some r →
    yK cf ob pos (Region.linearise.go .any ops fuel t listed []) st=some r:=by
 have qI:Ei ops (rows ops.toList 0 0):=HP _ _ _ (by simp) (λi j _ h=>by simp at h)
 have eT:HQ ops pos (rows ops.toList 0 0)=true:=by rw[B6,FJ] at eT; exact eT
 have jU:∀i o,ops[i]? = some o→∀e∈o.after,Region.binds .any e=true→e.on<i:=by
  intro i o ho e he hb
  have hi:i<ops.size:=(aX.1 ho).1
  have:=aG.1 eT i (by simpa using hi)
  simp only[ho,am,Array.all_eq_true_iff_forall_mem] at this
  have:=this.1 e he
  simpa[hb] using this
 have jV:∀i j,i<ops.size→j<i→Ej (rows ops.toList 0 0) pos i j=true:=by
  intro i j hi hj
  have:=aG.1 eT i (by simpa using hi)
  simp only[am] at this
  exact aG.1 this.2 j (by simpa using hj)
 have iB:∀{listed:Array Bool},listed.size=ops.size→Region.ready .any ops listed=[]→xo ops.size listed=[]:=by
  intro listed cQ hr
  rcases List.eq_nil_or_concat (xo ops.size listed) with h|⟨_,_,h⟩
  ·exact h
  ·exfalso
   cases eW:xo ops.size listed with
   | nil=>rw[eW] at h; simp at h
   | cons m rest =>
     have hm:m∈xo ops.size listed:=by rw[eW]; simp
     simp only[xo,bD,ck,bF] at hm
     have gW:(xo ops.size listed).Pairwise (·<·):=List.Pairwise.filter _ List.pairwise_lt_range
     rw[eW,List.pairwise_cons] at gW
     have kP:m∈Region.ready .any ops listed:=by
      rw[mem_ready]
      refine⟨?_,ops[m],by simp[hm.1],?_⟩
      ·have:=hm.2
       simp only[aK] at this ⊢
       have cO:m<listed.size:=by omega
       simpa[cO] using this
      ·intro e he hb
       have cO:=jU m ops[m] (by simp[hm.1]) e he hb
       cases hl:listed.getD e.on false with
       | true=>rfl
       | false =>
         have dn:e.on∈xo ops.size listed:=by
          simp only[xo,bD,ck,hl,Bool.not_false,and_true]
          omega
         rw[eW] at dn
         rcases az.1 dn with h|h
         ·omega
         ·have:=gW.1 _ h; omega
     rw[hr] at kP
     simp at kP
 intro fuel
 induction fuel with
 | zero =>
   intro t listed st r cQ hl dS hx
   have h0:xo ops.size listed=[]:=br.1 (by omega)
   rw[h0] at hx
   simpa[Region.linearise.go] using hx
 | succ fuel ih =>
   intro t listed st r cQ hl dS hx
   simp only[Region.linearise.go]
   change yK cf ob pos (match (Region.ready .any ops listed)[t % (Region.ready .any ops listed).length]? with
    | some i=>Region.linearise.go .any ops fuel (t / (Region.ready .any ops listed).length) (listed.setIfInBounds i true) [i]
    | none=>[].reverse) st=some r
   cases hi:(Region.ready .any ops listed)[t % (Region.ready .any ops listed).length]? with
   | none =>
     have iC:Region.ready .any ops listed=[]:=by
      cases hr:Region.ready .any ops listed with
      | nil=>rfl
      | cons x xs =>
        rw[hr] at hi
        have cO:t % (x::xs).length<(x::xs).length:=bW _ (by simp)
        simp at hi
        simp at cO
        omega
     rw[iB cQ iC] at hx
     simpa using hx
   | some i =>
     simp only[]
     rw[linearise_go_acc,List.reverse_singleton,List.singleton_append]
     have hi:=av hi
     rw[mem_ready] at hi
     obtain⟨gH,o,ho,fo⟩:=hi
     have cO:i<ops.size:=(aX.1 ho).1
     have gX:listed.getD i false=false:=by
      have kQ:i<listed.size:=by omega
      simp only[aK] at gH ⊢
      simpa[kQ] using gH
     obtain⟨q,hq⟩:∃q,pos[i]? = some q:=⟨pos[i],aq (by omega)⟩
     obtain⟨pre,post,e1,e2,e3⟩:=Lh (f:=λk => !listed.getD k false) (List.pairwise_lt_range (n:=ops.size)) (by simpa using cO) (by simp only[gX]; rfl)
     have gm:∀j∈pre,j<i∧∀p,pos[j]? = some p→Do j p i q=true:=by
      intro j hj
      obtain⟨a1,a2,a3⟩:=e2 j hj
      refine⟨by omega,λp hp =>?_⟩
      have lz:=jV i j cO a1
      simp only[Ej,hp,hq,bu] at lz
      rcases lz with h|h
      ·exact h
      ·simp only[am,an] at h
       have:=Li dS (qI i j h.1 h.2) ho fo
       simp only[this] at a3
       simp at a3
     have ei:yK cf ob pos (i::(pre++post)) st=some r:=by
      refine b6y hq ?_ (λj hj p hp=>(Lg ((gm j hj).2 p hp)).1) (λj hj=>⟨by have:=(gm j hj).1; omega,λp hp=>Lj ((gm j hj).2 p hp)⟩) (by rw[← e1]; exact hx)
      intro c9
      cases pre with
      | nil=>exact absurd rfl c9
      | cons j0 _ =>
        have mW:j0<pos.length:=by have:=(gm j0 (by simp)).1; omega
        exact(Lg ((gm j0 (by simp)).2 pos[j0] (aq mW))).2
     simp only[yK,hq] at ei ⊢
     cases hs:xX cf ob i q st with
     | none=>rw[hs] at ei; exact ei
     | some y =>
       obtain⟨z,st1⟩:=y
       rw[hs] at ei
       cases z with
       | some v=>exact ei
       | none =>
         simp only at ei ⊢
         have eW:xo ops.size (listed.setIfInBounds i true)=pre++post:=by
          rw[← e3]
          unfold xo
          apply List.filter_congr
          intro k dg
          by_cases gY:k=i
          ·subst gY
           have kQ:k<listed.size:=by omega
           simp[aK,aY,kQ]
          ·rw[getD_set_ne _ (Ne.symm gY)]
           simp[gY]
         refine ih _ (by simp[cQ]) ?_ ?_ (by rw[eW]; exact ei)
         ·rw[eW]
          have:(xo ops.size listed).length=(pre++i::post).length:=by unfold xo; rw[e1]
          simp at this ⊢
          omega
         ·intro k o' eE gn e dy hb
          by_cases gY:k=i
          ·subst gY
           have:o'=o:=by rw[ho] at eE; simpa using eE.symm
           subst this
           exact getD_set_true (fo e dy hb)
          ·rw[getD_set_ne _ (Ne.symm gY)] at gn
           exact getD_set_true (dS k o' eE gn e dy hb)
end PI
set_option linter.unusedSimpArgs false
set_option linter.unusedVariables false
namespace PI
open Go Go.RowKit
def GS.callee (G:GS):GS:={ fix:=G.fix,heap:=G.heap,box:=λ_=>none,ow:=yC G.ow }
section
variable {E:Env} {N:Nm} {w:World} {G:GS} {st:St} {a:Act} {vs:List Tmp} {lm:Nat→Option Tmp} {P:Program}
theorem Dc (hf:FI N w G st a vs lm):Between N w G.callee st.heap:=
 ⟨⟨λb k h=>(Dk h).2,λ_=>rfl⟩,hf.fixlt,λb k h=>hf.owlt b k (Dk h).1,hf.heap.sub rfl rfl (λb k hk h=>HI h hk),hf.hdom⟩
theorem FE (hf:FI N w G st a vs lm) {w':World} {G2:GS} {h':List PObj} (he:Ext w G.callee w' G2) (dB:Between N w' G2 h'):
  ∃G',Ext w G w' G'∧FI N w' G' { st with heap:=h' } a vs lm∧G'.fix=G2.fix∧G'.heap=G2.heap:=by
 let Gc:GS:=G.callee
 let G':GS:={ fix:=G2.fix,heap:=G2.heap,box:=G.box,ow:=λb=>match G.ow b with | some k=>if k.isH then G2.ow b else some k | none=>G2.ow b,df:=G.df }
 have cJ:Ext w G w' G':=by
  refine⟨he.os,he.tape,he.output,he.size,λb cO h=>he.same b cO (by simp[GS.callee,yC,h]),λb o h=>he.fix b o h,?_,?_,he.heap,he.shape,rfl⟩
  ·intro b o h
   rcases he.newfix b o h with h|h|h
   ·exact .inl h
   ·exact .inr (.inl h)
   ·refine .inr (.inr ?_)
    intro e
    apply h
    simp[GS.callee,yC,e]
  ·intro b h
   cases hb:G.ow b with
   | some k=>exact .inr (by simp)
   | none =>
     simp only[G',hb] at h
     rcases he.own b h with h|h
     ·exact .inl h
     ·exact absurd (by simp[GS.callee,yC,hb]) h
 have cN:xa (λk=>k.isH=true) w G w' G':=by
  refine⟨?_,λ_ _ h=>h⟩
  intro b key cX hn
  have fB:=hf.owlt _ _ cX
  have ed:Gc.ow b=none:=by simp[Gc,GS.callee,yC,cX,hn]
  refine⟨by simp[G',cX,hn],he.same b fB ed,?_⟩
  intro o h
  rcases he.newfix b o h with h|h|h
  ·exact h
  ·omega
  ·exact absurd ed h
 have dQ:HR N w' G' h':=by
  refine dB.heap.sub rfl rfl ?_
  intro b k vF h
  cases hb:G.ow b with
  | none=>simp only[G',hb]; exact h
  | some k0 =>
    by_cases lw:k0.isH=true
    ·simp only[G',hb,lw,if_true]; exact h
    ·have ed:Gc.ow b=none:=by simp[Gc,GS.callee,yC,hb,lw]
     have cO:=hf.owlt _ _ hb
     rcases he.own b (by rw[h]; simp) with h2|h2
     ·omega
     ·exact absurd ed h2
 have db:FI N w' G' { st with heap:=h' } a vs lm:=by
  refine⟨hf.len,λi t u h1 h2=>(hf.var i t u h1 h2).keep cJ cN (by simp[Key.isH]) (by simp[Key.isH]),λj t u h1 h2=>(hf.loc j t u h1 h2).keep cJ cN (by simp[Key.isH]) (by simp[Key.isH]),hf.tv,hf.tl,(hf.defers.trans cJ.df.symm),hf.gen,?_,dB.fixlt,dQ,dB.hdom⟩
  intro b k h
  cases hb:G.ow b with
  | some k0=>exact aN (hf.owlt _ _ hb) he.size
  | none =>
    simp only[G',hb] at h
    exact dB.owlt _ _ h
 exact⟨G',cJ,db,rfl,rfl⟩
def zP (N:Nm) (w':World) (G':GS) (e:Ending):Out→Prop
 | .val r=>∃v,e = .returned v∧VR N w' G'.fix G'.heap v r
 | .boom p=>∃v,e = .panicked [{ v,recovered:=false }]∧VR N w' G'.fix G'.heap v p
def C9 (N:Nm) (P:Program) (ob:xF):Prop:=
 ∀ (k : Nat) (args : List PV) (o : Out) (h h' : List PObj), ob k args h = some (o, h') → N.yl k = none → ∀ (w : World) (G : GS) (vals : Array Value), Between N w G h → vals.size = args.length →
   (∀(i:Nat) (v:Value) (p:PV),vals[i]? = some v→args[i]? = some p→VR N w G.fix G.heap v p) →
   Calls P (N.fn k) vals w λe w'=>∃G',zP N w' G' e o∧Ext w G w' G'∧Between N w' G' h'
def D9 (N:Nm) (P:Program) (ob:xF):Prop:=
 ∀ (k : Nat) (y : YL) (n l : Nat) (tmps : Array Value) (caps args : List PV) (o : Out) (h h' : List PObj), N.yl k = some y → ob k (.ptr n 0 :: caps ++ args) h = some (o, h') → ∀ (w : World) (G : GS) (vals : Array Value), Between N w G h →
   VR N w G.fix G.heap (.func (.yield l) #[] #[]) (.func k (.ptr n 0::caps) [])→vals.size=args.length→(∀(i:Nat) (v:Value) (p:PV),vals[i]? = some v→args[i]? = some p→VR N w G.fix G.heap v p) →
   ∃tmps',(Instr.yield l vals).run P w = .ok (.round l y.fn tmps' y.assign y.body) w∧∀r n',RoundIn (W r) n' P l y.fn tmps' y.assign y.body w λe w'=>∃G',zP N w' G' e o∧Ext w G w' G'∧Between N w' G' h'
variable {ops:Array Oper} {o:Oper} {j:Nat} {Q:Exit→Act→World→Prop} {K:Act→World→Prop} {r:Option Nat} {n:Nat}
def Hd (N:Nm) (w:World) (G:GS) (a:Act) (st1:St) (vs:List Tmp) (lm:Nat→Option Tmp) (p:PV) (Q:Exit→Act→World→Prop):Prop:=
 ∀w' G' v,VR N w' G'.fix G'.heap v p→Ext w G w' G'→FI N w' G' st1 a vs lm→Q (.panic [{ v,recovered:=false }]) a w'
theorem Kk (nm:Names vs (vS vs ops.toList)) (ho:ops[j]? = some o) (hf:FI N w G st a vs (vS vs ops.toList)) {out:Out} {h':List PObj} (hQ:¬LetsOut Q)
  (hv:∀u,out = .val u→Next1 N w G a (put { st with heap:=h' } j (wv vs o.dst) (dem u)) vs ops.toList K) (hb:∀p,out = .boom p→Hd N w G a { st with heap:=h' } vs (vS vs ops.toList) p Q)
  {e:Ending} {w':World} {G2:GS} (h:zP N w' G2 e out) (he:Ext w G.callee w' G2) (dB:Between N w' G2 h'):
  (match e with
   | .returned v=>K (a.put o.dst v) w'
   | .panicked chain=>Q (.panic chain) a w'
   | .outgrown=>LetsOut Q):=by
 obtain⟨G',cJ,db,e1,e2⟩:=FE hf he dB
 cases out with
 | val u =>
   obtain⟨v,rfl,cR⟩:=h
   have ga:VR N w' G'.fix G'.heap v (dem u):=by rw[e1,e2]; exact cR.dem
   exact hv u rfl _ _ G' (db.put nm (yI (by simpa using ho)) (SR.of_pure ga cR.cp_dem)) cJ (yJ _ _ _)
 | boom p =>
   obtain⟨v,rfl,cR⟩:=h
   exact hb p rfl w' G' v (by rw[e1,e2]; exact cR) cJ db
theorem Pb {c:Call} (cL:o.op = .call c) (ρ:Operand→Value):o.semAt (W r).round ρ=execOp ρ o:=Oper.semAt_eq _ _ _ (λc' h=>by rw[cL] at h; cases h)
theorem Pc {L:Nat→Option PFunc} (hF:x7 N P L) (hE:EnvOk E N) (nm:Names vs (vS vs ops.toList)) (ho:ops[j]? = some o) (hf:FI N w G st a vs (vS vs ops.toList)) {ob:xF} (dz:C9 N P ob) (it:∀k args h x,ob k args h=some x→∃f,L k=some f)
  {f:FuncId} {k:Nat} {xs:Array Operand} {ts:Array TypeId} {pxs:List PX} {args:List PV} (cL:o.op = .call { callee := .value (.func f),args:=xs,argTypes:=ts }) (dg:E.inv f=some k) (hx:cxs E vs ops.toList xs.toList=some pxs)
  (eL:rdAll st pxs=some args) {out:Out} {h':List PObj} (hc:ob k args st.heap=some (out,h')) (hQ:¬LetsOut Q)
  (hv:∀u,out = .val u→Next1 N w G a (put { st with heap:=h' } j (wv vs o.dst) (dem u)) vs ops.toList K) (hb:∀p,out = .boom p→Hd N w G a { st with heap:=h' } vs (vS vs ops.toList) p Q):o.wpIn (W r) n P a w K Q:=by
 obtain⟨h1,h2⟩:=AD hE hf hx eL
 obtain⟨g1,g2⟩:=Cv (w:=w) (G:=G) h1 h2
 obtain⟨pf,hL⟩:=it _ _ _ _ hc
 have ev:=hE.fn _ _ dg
 refine⟨λ_ _=>zO _,?_⟩
 rw[Pb cL]
 have cM:(execOp a.eval o).run P w = .ok (.enter (N.fn k) (xs.map a.eval)) w:=by
  have:=BM hF hL (xs.map a.eval) w
  rw[ev] at this
  rw[ev]
  simp[execOp,cL,resolve,Act.eval,Deferred.ofValue,invoke]
  exact this
 rw[cM,Oper.uponIn_enter]
 refine⟨Dl,FH ?_⟩
 refine(dz k args out st.heap h' hc (hE.yl _ _ dg) w G.callee (xs.map a.eval) (Dc hf) g1 g2).mono ?_
 rintro e w' ⟨G2,hR,he,dB⟩
 have:=Kk nm ho hf hQ hv hb hR he dB
 cases e<;>exact this
theorem Pd {L:Nat→Option PFunc} (hF:x7 N P L) (hE:EnvOk E N) (nm:Names vs (vS vs ops.toList)) (ho:ops[j]? = some o) (hf:FI N w G st a vs (vS vs ops.toList)) {ob:xF} (dz:C9 N P ob) (dT:D9 N P ob) (it:∀k args h x,ob k args h=some x→∃f,L k=some f)
  {t:Tmp} {px:PX} {k:Nat} {first captured:List PV} {xs:Array Operand} {ts:Array TypeId} {pxs:List PX} {args:List PV} (cL:o.op = .call { callee := .value (.tmp t),args:=xs,argTypes:=ts }) (fu:cx E vs ops.toList (.tmp t)=some px) (hx:cxs E vs ops.toList xs.toList=some pxs)
  (lO:rd st px=some (.func k first captured)) (eL:rdAll st pxs=some args) {out:Out} {h':List PObj} (hc:ob k (first++args++captured) st.heap=some (out,h')) (hQ:¬LetsOut Q)
  (hv:∀u,out = .val u→Next1 N w G a (put { st with heap:=h' } j (wv vs o.dst) (dem u)) vs ops.toList K) (hb:∀p,out = .boom p→Hd N w G a { st with heap:=h' } vs (vS vs ops.toList) p Q):o.wpIn (W r) n P a w K Q:=by
 obtain⟨h1,h2⟩:=AD hE hf hx eL
 obtain⟨g1,g2⟩:=Cv (w:=w) (G:=G) h1 h2
 obtain⟨pf,hL⟩:=it _ _ _ _ hc
 have ij:=(wB hE fu hf lO).1
 refine⟨λ_ _=>zO _,?_⟩
 rw[Pb cL]
 generalize ee:a.eval (.tmp t)=v at ij
 cases ij with
 | yield _ m l y tmps caps hy hl hr cK cQ cT =>
   have cR:VR N w G.callee.fix G.callee.heap (.func (.yield l) #[] #[]) (.func k (.ptr m 0::caps) []) := .yield k m l y tmps caps hy hl hr cK cQ cT
   rw[aW] at hc
   obtain⟨tmps',oC,ep⟩:=dT k y m l tmps caps args out st.heap h' hy hc w G.callee (xs.map a.eval) (Dc hf) cR g1 g2
   have cM:(execOp a.eval o).run P w = .ok (.round l y.fn tmps' y.assign y.body) w:=by
    simp only[execOp,cL,resolve,Sem.run_bind,ee,Deferred.ofValue,Sem.run_pure,Result.andThen_ok,invoke]
    simpa using oC
   rw[cM,Oper.uponIn_round]
   refine⟨Dl,(ep r (n - 1)).mono ?_⟩
   rintro e w' ⟨G2,hR,he,dB⟩
   have:=Kk nm ho hf hQ hv hb hR he dB
   cases e<;>exact this
 | func _ fs cs _ _ hy e1 e2 kM dY =>
   have cM:(execOp a.eval o).run P w = .ok (.enter (N.fn k) (fs++xs.map a.eval++cs)) w:=by
    have:=BM hF hL (fs++xs.map a.eval++cs) w
    simp only[execOp,cL,resolve,Sem.run_bind,ee,Deferred.ofValue,Sem.run_pure,Result.andThen_ok,invoke]
    exact this
   rw[cM,Oper.uponIn_enter]
   refine⟨Dl,FH ?_⟩
   refine(dz k _ out st.heap h' hc hy w G.callee (fs++xs.map a.eval++cs) (Dc hf) (by simp[e1,e2]; simpa using h1) ?_).mono ?_
   ·intro i v p dJ hp
    by_cases hi:i<fs.size
    ·rw[bU,bk hi] at dJ
     rw[aJ,al (by omega)] at hp
     exact kM i v p dJ hp
    ·rw[bU,bV (by omega)] at dJ
     rw[aJ,ap (by omega),← e1] at hp
     by_cases dK:i - fs.size<(xs.map a.eval).size
     ·rw[bk dK] at dJ
      rw[al (by omega)] at hp
      exact g2 _ v p dJ hp
     ·rw[bV (by omega)] at dJ
      rw[ap (by omega),← g1] at hp
      exact dY _ v p dJ hp
   ·rintro e w' ⟨G2,hR,he,dB⟩
    have:=Kk nm ho hf hQ hv hb hR he dB
    cases e<;>exact this
theorem KC {L:Nat→Option PFunc} (hF:x7 N P L) (hE:EnvOk E N) (hP:E.P=P) (nm:Names vs (vS vs ops.toList)) (ho:ops[j]? = some o) (hf:FI N w G st a vs (vS vs ops.toList)) {cf:vZ} (dH:CallOK N P cf) {ob:xF} (dz:C9 N P ob) (dT:D9 N P ob)
  (ef:∀k args h x,cf k args h=some x→∃f,L k=some f) (it:∀k args h x,ob k args h=some x→∃f,L k=some f) (hd:∀c,o.op≠.defer c) {po:PO} (hc:Ea E vs ops.toList o=some po) {res:Option PV} {st1:St} (hs:xX cf ob j po st=some (res,st1)) (hQ:¬LetsOut Q)
  (hk:res=none→Next1 N w G a st1 vs ops.toList K) (hb:∀p,res=some p→Hd N w G a st1 vs (vS vs ops.toList) p Q):wpOpIn (W r) n P ops Q j K a w:=by
 have plain:∀{po:PO},Ed E vs ops.toList o=some po→xX cf ob j po st=some (res,st1)→wpOpIn (W r) n P ops Q j K a w:=by
  intro po hc hs
  simp only[Ed,af] at hc
  obtain⟨p,hp,hc⟩:=hc
  split at hc
  ·simp at hc
  ·rename_i vI
   simp only[aa] at hc
   subst hc
   rw[Le (by simpa using vI)] at hs
   simp only[ab,ac] at hs
   obtain⟨st2,h1,rfl,rfl⟩:=hs
   refine Hv (λo' c eE =>?_) hQ (FC hF hE hP nm ho hf dH ef hp h1 (hk rfl))
   rw[ho] at eE
   simp only[aa] at eE
   subst eE
   exact hd c
 unfold Ea at hc
 split at hc
 ·rename_i dst f xs ts ty pos aft
  split at hc
  ·simp only[af,ab] at hc
   obtain⟨k,dg,ps,d4,rfl⟩:=hc
   simp only[xX] at hs
   split at hs
   ·rename_i us eL
    unfold wpOpIn
    simp only[ho,Region.wanted,if_true]
    split at hs
    ·rename_i u h' cW
     simp only[aa,ac] at hs
     obtain⟨rfl,rfl⟩:=hs
     exact Pc hF hE nm ho hf dz it rfl dg d4 eL cW hQ (λu' e=>by cases e; exact hk rfl) (λp e=>by cases e)
    ·rename_i v h' cW
     simp only[aa,ac] at hs
     obtain⟨rfl,rfl⟩:=hs
     exact Pc hF hE nm ho hf dz it rfl dg d4 eL cW hQ (λu' e=>by cases e) (λp e=>by cases e; exact hb _ rfl)
    ·simp at hs
   ·simp at hs
  ·exact plain hc hs
 ·rename_i dst t xs ts ty pos aft
  split at hc
  ·simp only[af,ab] at hc
   obtain⟨px,fu,ps,d4,rfl⟩:=hc
   simp only[xX] at hs
   split at hs
   ·rename_i k first captured us lO eL
    unfold wpOpIn
    simp only[ho,Region.wanted,if_true]
    split at hs
    ·rename_i u h' cW
     simp only[aa,ac] at hs
     obtain⟨rfl,rfl⟩:=hs
     exact Pd hF hE nm ho hf dz dT it rfl fu d4 lO eL cW hQ (λu' e=>by cases e; exact hk rfl) (λp e=>by cases e)
    ·rename_i v h' cW
     simp only[aa,ac] at hs
     obtain⟨rfl,rfl⟩:=hs
     exact Pd hF hE nm ho hf dz dT it rfl fu d4 lO eL cW hQ (λu' e=>by cases e) (λp e=>by cases e; exact hb _ rfl)
    ·simp at hs
   ·simp at hs
  ·exact plain hc hs
 ·exact plain hc hs
end
end PI
set_option linter.unusedSimpArgs false
set_option linter.unusedVariables false
namespace PI
open Go
def wpN (r:Option Nat) (fid:FuncId) (P:Program) (c:Code) (Q:Exit→Act→World→Prop) (a:Act) (w:World):Prop:=
 ∀ (b : Frame) (k : List Item) (cs : List Frame), b.roundOf = r → b.fn = fid →
   ∃e a' w',Q e a' w'∧ArrivesIn (Machine.fenced P (W r)) P (lone (b.atR a (.code c::k)) cs w) b k cs e a' w'
section
variable {P:Program} {r:Option Nat} {fid:FuncId} {n:Nat} {Q:Exit→Act→World→Prop} {a:Act} {w:World}
theorem B9 {c:Code} (h:c.wpIn (W r) n P Q a w):wpN r fid P c Q a w:=λb k cs dT _=>h b k cs dT (zO _) (Eg _)
theorem c2T {c:Code} {Q':Exit→Act→World→Prop} (h:wpN r fid P c Q a w) (hq:∀e a w,Q e a w→Q' e a w):wpN r fid P c Q' a w:=
 λb k cs dT hb=>let ⟨e,a',w',q,r⟩:=h b k cs dT hb; ⟨e,a',w',hq _ _ _ q,r⟩
theorem c2U (h:Q .normal a w):wpN r fid P .skip Q a w:=λ_ _ _ _ _=>⟨.normal,a,w,h,.one (yM _) stepR_skip⟩
theorem KF {id:Nat} (h:Q (.exit id) a w):wpN r fid P (.exit id) Q a w:=
 λ_ k _ _ _=>⟨.exit id,a,w,h,λ_ hk => .one (yM _) (stepR_exit hk),λ_ hk=>⟨k,hk,.refl _⟩⟩
theorem KG (h:Q .ret a w):wpN r fid P .ret Q a w:=
 λ_ k _ _ _=>⟨.ret,a,w,h,λhn=>⟨_,.one (yM _) (stepR_ret hn)⟩,λ_=>⟨k,.refl _⟩⟩
theorem Cz {x y:Code} (h:wpN r fid P x (Exit.then (wpN r fid P y Q) Q) a w):wpN r fid P (.seq x y) Q a w:=by
 intro b k cs dT hb
 have h0:(lone (b.atR a (.code (.seq x y)::k)) cs w).fenced P (W r):=yM _
 obtain⟨e,a₁,w₁,hq,dk⟩:=h b (.code y::k) cs dT hb
 cases e with
 | normal =>
   obtain⟨e₂,a₂,w₂,hq₂,harr₂⟩:=hq b k cs dT hb
   exact⟨e₂,a₂,w₂,hq₂,.of_steps (.head h0 stepR_seq dk) harr₂⟩
 | exit id=>exact⟨_,a₁,w₁,hq,.of_steps (.one h0 stepR_seq) (.pass (x := .code y) rfl (λ_ _ => .inl (by simp)) dk)⟩
 | goto l=>exact⟨_,a₁,w₁,hq,.of_steps (.one h0 stepR_seq) (.pass (x := .code y) rfl (λ_ _ => .inl (by simp)) dk)⟩
 | ret=>exact⟨_,a₁,w₁,hq,.of_steps (.one h0 stepR_seq) (.pass (x := .code y) rfl (λ_ _ => .inl (by simp)) dk)⟩
 | panic ch=>exact⟨_,a₁,w₁,hq,.of_steps (.one h0 stepR_seq) (.pass (x := .code y) rfl (λ_ _ => .inl (by simp)) dk)⟩
 | outgrown=>exact⟨_,a₁,w₁,hq,.of_steps (.one h0 stepR_seq) (.pass (x := .code y) rfl (λ_ _ => .inl (by simp)) dk)⟩
theorem Hx {c:Operand} {x y:Code} {t:Bool} (hc:a.eval c = .bool t) (h:wpN r fid P (if t then x else y) Q a w):wpN r fid P (.cond c x y) Q a w:=
 λb k cs dT hb=>let ⟨e,a',w',q,r⟩:=h b k cs dT hb; ⟨e,a',w',q,.of_steps (.one (yM _) (stepR_cond hc)) r⟩
theorem c01 {id:Nat} {c:Code} (h:wpN r fid P c (Exit.inBlock id Q) a w):wpN r fid P (.block id c) Q a w:=by
 intro b k cs dT hb
 have h0:(lone (b.atR a (.code (.block id c)::k)) cs w).fenced P (W r):=yM _
 obtain⟨e,a₁,w₁,hq,dk⟩:=h b (.inBlock id::k) cs dT hb
 cases e with
 | normal=>exact⟨.normal,a₁,w₁,hq,.head h0 stepR_block (StepsIn.trans dk (.one (yM _) stepR_inBlock))⟩
 | exit id' =>
   by_cases gZ:id'=id
   ·simp only[Exit.inBlock,gZ,if_true] at hq
    exact⟨.normal,a₁,w₁,hq,.head h0 stepR_block (dk.1 k (by simp[exitTo,gZ]))⟩
   ·simp only[Exit.inBlock,gZ,if_false] at hq
    have this:(id==id')=false:=by simp; exact λh=>gZ h.symm
    have hx:exitTo id' (.inBlock id::k)=exitTo id' k:=by simp[exitTo,this]
    exact⟨.exit id',a₁,w₁,hq,λk' hk => .head h0 stepR_block (dk.1 k' (by rw[hx]; exact hk)),
     λeU hk=>let ⟨k₁,h1,h2⟩:=dk.2 eU (by rw[hx]; exact hk); ⟨k₁,h1,.head h0 stepR_block h2⟩⟩
 | goto l =>
   have hx:gotoIn l (.inBlock id::k)=gotoIn l k:=by simp[gotoIn]
   exact⟨_,a₁,w₁,hq,λk' hk => .head h0 stepR_block (dk.1 k' (by rw[hx]; exact hk)),
    λeU hk=>let ⟨k₁,h1,h2⟩:=dk.2 eU (by rw[hx]; exact hk); ⟨k₁,h1,.head h0 stepR_block h2⟩⟩
 | ret=>exact⟨_,a₁,w₁,hq,.of_steps (.one h0 stepR_block) dk⟩
 | panic ch=>exact⟨_,a₁,w₁,hq,.of_steps (.one h0 stepR_block) dk⟩
 | outgrown=>exact⟨_,a₁,w₁,hq,.of_steps (.one h0 stepR_block) dk⟩
def Db (r:Option Nat) (fid:FuncId) (P:Program) (c:Code) (Q:Exit→Act→World→Prop):Nat→Act→World→Prop
 | 0,_,_=>False
 | m+1,a,w=>wpN r fid P c (Exit.then (Db r fid P c Q m) Q) a w
theorem b6q {c:Code} {m:Nat}:Db r fid P c Q (m+1) a w=wpN r fid P c (Exit.then (Db r fid P c Q m) Q) a w:=rfl
theorem b2W {c:Code} (m:Nat) (h:Db r fid P c Q m a w):wpN r fid P (.loop c) Q a w:=by
 intro b k cs dT hb
 have key:∀m a w,Db r fid P c Q m a w →
   ∃e a' w',Q e a' w'∧ArrivesIn (Machine.fenced P (W r)) P (lone (b.atR a (.code c :: .inLoop c::k)) cs w) b k cs e a' w':=by
  intro m
  induction m with
  | zero=>intro a w h; exact h.elim
  | succ m ih =>
    intro a w h
    obtain⟨e,a₁,w₁,hq,dk⟩:=h b (.inLoop c::k) cs dT hb
    cases e with
    | normal =>
      obtain⟨e₂,a₂,w₂,hq₂,harr₂⟩:=ih a₁ w₁ hq
      exact⟨e₂,a₂,w₂,hq₂,.of_steps (StepsIn.trans dk (.one (yM _) stepR_inLoop)) harr₂⟩
    | exit id=>exact⟨_,a₁,w₁,hq,.pass (x := .inLoop c) rfl (λ_ _ => .inl (by simp)) dk⟩
    | goto l=>exact⟨_,a₁,w₁,hq,.pass (x := .inLoop c) rfl (λ_ _ => .inl (by simp)) dk⟩
    | ret=>exact⟨_,a₁,w₁,hq,.pass (x := .inLoop c) rfl (λ_ _ => .inl (by simp)) dk⟩
    | panic ch=>exact⟨_,a₁,w₁,hq,.pass (x := .inLoop c) rfl (λ_ _ => .inl (by simp)) dk⟩
    | outgrown=>exact⟨_,a₁,w₁,hq,.pass (x := .inLoop c) rfl (λ_ _ => .inl (by simp)) dk⟩
 obtain⟨e,a',w',hq,dk⟩:=key m a w h
 exact⟨e,a',w',hq,.of_steps (.one (yM _) stepR_loop) dk⟩
theorem KH {g:Operand} {ps:Array Tmp} {assign body:Code} {l:Nat} {mark:List Deferred} {w₁:World} {d:Deferred} {f:FuncId} {args:Array Value}
  (he:(Instr.enterLoop fid a.tmps ps assign body none).run P w = .ok (l,mark) w₁) (dp:(resolve a.eval (rangeCall g l) 0).run P w₁ = .ok d w₁) (jg:(invoke d.target d.args).run P w₁ = .ok (.enter f args) w₁)
  (hc:Calls P f args w₁ fun
   | .returned _, w₃ => ∃ j w₄, (Instr.endLoop l).run P w₃ = .ok j w₄ ∧ (match j with
     | none=>Q .normal { a with defers:=mark++a.defers } w₄
     | some c=>wpN none fid P c Q { a with defers:=mark++a.defers } w₄)
   | .panicked chain,w₃=>Q (.panic chain) { a with defers:=mark++a.defers } w₃
   | .outgrown,_=>LetsOut Q):wpN none fid P (.rangeFunc g ps assign body) Q a w:=by
 intro b k cs dT hb
 subst hb
 rw[← dT] at he
 have el:=stepR_rangeFunc (P:=P) (b:=b) (a:=a) (k:=k) (cs:=cs) (w:=w) he dp jg
 obtain⟨e,w₃,fr,hR,iO,ev,kw⟩:=(FH (r:=none) (n:=0) hc).2 (b.atR { a with defers:=mark++a.defers } (.inRangeFunc l::k)::cs) (Eg _)
 cases e with
 | outgrown =>
   obtain⟨a₀,w₀,hq⟩:=hR
   exact⟨.outgrown,a₀,w₀,hq,.inr (Outgrown.of_steps (.one el) iO)⟩
 | returned v =>
   obtain⟨j,w₄,eV,hj⟩:=hR
   have sback:StepsIn (Machine.fenced P (W none)) P (lone (b.atR a (.code (.rangeFunc g ps assign body)::k)) cs w) (lone (b.atR { a with defers:=mark++a.defers } ((j.map Item.code).toList++k)) cs w₄):=by
    refine .head (yM _) el (StepsIn.trans iO (.head (yM _) ?_ (.one (yM _) (stepR_endRangeFunc (b:=b) (a:={ a with defers:=mark++a.defers }) (k:=k) eV))))
    rw[← finish_atR_inRangeFunc l v]; exact step_leave_returned kw
   cases j with
   | none=>exact⟨.normal,_,w₄,hj,sback⟩
   | some c =>
     obtain⟨e₂,a₂,w₅,hq,hr⟩:=hj b k cs dT rfl
     exact⟨e₂,a₂,w₅,hq,.of_steps sback hr⟩
 | panicked chain =>
   refine⟨.panic chain,_,w₃,hR,.inRangeFunc l::k,.head (yM _) el (StepsIn.trans iO (.one (yM _) ?_))⟩
   rw[← Frame.raise_atR]; exact step_leave_panicked kw
def KX (P:Program) (fn:Func) (R:Ending→World→Prop):Exit→Act→World→Prop
 | .normal,a,w | .ret,a,w=>LeavesInM (W none) 0 P fn a.tmps R a.defers .returning w
 | .panic chain,a,w=>LeavesInM (W none) 0 P fn a.tmps R a.defers (.panicking chain) w
 | _,_,_=>False
theorem KY {f:FuncId} {fn:Func} {c:Code} {args:Array Value} {R:Ending→World→Prop} (hf:P.funcs[f]? = some fn) (hb:fn.body=some c)
  (h:wpN none f P c (KX P fn R) { tmps:=args++Array.replicate (fn.ntmps - args.size) undef,defers:=[] } w):Calls P f args w R:=by
 refine b8k (r:=none) (n:=0) ⟨trivial,λcs hr =>?_⟩
 let b:Frame:={ (default:Frame) with fn:=f,kind := .normal,roundOf:=none }
 have el:Frame.enter P f args .normal=b.atR { tmps:=args++Array.replicate (fn.ntmps - args.size) undef,defers:=[] } [.code c]:=by
  simp[Frame.enter,Frame.atR,hf,hb,b]
 obtain⟨e,a',w',hq,dk⟩:=h b [] cs rfl rfl
 rw[← el] at dk
 cases e with
 | normal =>
   obtain⟨e',w'',fr',hR,hs,ev,hl⟩:=leaves_stepsInM a'.defers .returning w' { b.atR a' [] with mode := .returning } cs rfl rfl rfl hf rfl trivial (Eg _) hq
   exact⟨e',w'',fr',hR,ComesIn.of_steps (StepsIn.trans dk (.one (yM _) (stepR_end rfl))) hs,ev,hl⟩
 | ret =>
   obtain⟨todo,hs₀⟩:=dk.1 rfl
   obtain⟨e',w'',fr',hR,hs,ev,hl⟩:=leaves_stepsInM a'.defers .returning w' { b.atR a' todo with mode := .returning } cs rfl rfl rfl hf rfl trivial (Eg _) hq
   exact⟨e',w'',fr',hR,ComesIn.of_steps hs₀ hs,ev,hl⟩
 | panic chain =>
   obtain⟨todo,hs₀⟩:=dk
   obtain⟨e',w'',fr',hR,hs,ev,hl⟩:=leaves_stepsInM a'.defers (.panicking chain) w' { b.atR a' todo with mode := .panicking chain } cs rfl rfl rfl hf rfl trivial (Eg _) hq
   exact⟨e',w'',fr',hR,ComesIn.of_steps hs₀ hs,ev,hl⟩
 | exit id=>exact hq.elim
 | goto l=>exact hq.elim
 | outgrown=>exact hq.elim
theorem c9Y {l:Nat} {f:FuncId} {fn:Func} {tmps:Array Value} {assign body:Code} {R:Ending→World→Prop} (ev:P.funcs[f]? = some fn)
  (h:wpN (some l) f P assign (Exit.then (λa₁ w₁=>∃w₂,(Instr.beginRound l).run P w₁ = .ok () w₂∧wpN (some l) f P body (HK P l R) a₁ w₂) (λ_ _ _=>False)) { tmps:=tmps,defers:=[] } w):
  RoundIn (W r) n P l f tmps assign body w R:=by
 refine⟨zO _,λc cs hr =>?_⟩
 let b:Frame:={ (default:Frame) with fn:=f,kind := .normal,roundOf:=some l }
 have gS:Frame.round l f tmps assign body .normal=b.atR { tmps:=tmps,defers:=[] } [.code assign,.beginRound,.code body]:=by
  simp[Frame.round,Frame.atR,b]
 obtain⟨e,a₁,w₁,hq,dk⟩:=h b [.beginRound,.code body] (c::cs) rfl rfl
 rw[← gS] at dk
 cases e with
 | normal =>
   obtain⟨w₂,eS,fH⟩:=hq
   have s1:StepsIn (Machine.fenced P (W (some l))) P (lone (b.atR a₁ [.beginRound,.code body]) (c::cs) w₁) (lone (b.atR a₁ [.code body]) (c::cs) w₂):=
    .one (yM _) (stepR_beginRound rfl eS)
   obtain⟨e₂,a₂,w₃,hq₂,harr₂⟩:=fH b [] (c::cs) rfl rfl
   cases e₂ with
   | normal =>
     obtain⟨v,w₄,eV,hR⟩:=hq₂
     exact⟨.returned v,w₄,hR,(StepsIn.trans dk s1).trans (StepsIn.trans harr₂ (.one (yM _) (stepR_round_end rfl rfl eV)))⟩
   | panic chain =>
     obtain⟨hd,hR⟩:=hq₂
     obtain⟨todo,hs⟩:=harr₂
     refine⟨.panicked chain,w₃,hR,(StepsIn.trans dk s1).trans (StepsIn.trans hs (.one (yM _) (b1b (fn:=fn) rfl ?_ ev)))⟩
     exact hd
   | ret =>
     obtain⟨v,w₄,eV,hR⟩:=hq₂
     obtain⟨k₁,hs⟩:=harr₂.2 rfl
     exact⟨.returned v,w₄,hR,(StepsIn.trans dk s1).trans (StepsIn.trans hs (.one (yM _) (stepR_round_ret rfl rfl eV)))⟩
   | exit id =>
     obtain⟨v,w₄,eV,hR⟩:=hq₂
     obtain⟨k₁,hk,hs⟩:=harr₂.2 rfl rfl
     exact⟨.returned v,w₄,hR,(StepsIn.trans dk s1).trans (StepsIn.trans hs (.one (yM _) (stepR_round_exit rfl rfl hk eV)))⟩
   | goto t=>exact hq₂.elim
   | outgrown=>exact hq₂.elim
 | exit id=>exact hq.elim
 | goto t=>exact hq.elim
 | ret=>exact hq.elim
 | panic chain=>exact hq.elim
 | outgrown=>exact hq.elim
end
end PI
set_option linter.unusedSimpArgs false
set_option linter.unusedVariables false
namespace PI
open Go Go.RowKit
section
variable {E:Env} {N:Nm} {w:World} {G:GS} {st:St} {a:Act} {vs:List Tmp} {lm:Nat→Option Tmp} {P:Program}
theorem KI (hf:FI N w G st a vs lm) {n b:Nat} {ob':PObj} {mob:Obj} (hb:G.heap n=some b) (how:G.ow b=some (.hobj n))
  (gI:∀o,¬G.fix b o) (fJ:w.shape? b=none) (lA:∀s,yd w b=some s→yd { w with heap:=w.heap.setIfInBounds b mob } b=some s)
  (hR:ob' = .gone∨ObjR N { w with heap:=w.heap.setIfInBounds b mob } G n b ob'):
  Ext w G { w with heap:=w.heap.setIfInBounds b mob } G∧FI N { w with heap:=w.heap.setIfInBounds b mob } G (wA st n ob') a vs lm:=by
 let w':World:={ w with heap:=w.heap.setIfInBounds b mob }
 have eX:b<w.heap.size:=hf.owlt _ _ how
 have cU:∀x,x≠b→w'.heap[x]? = w.heap[x]? := λx hx=>by
  simp only[w',aY]; rw[ae (by omega)]
 have cJ:Ext w G w' G:=by
  refine⟨rfl,rfl,rfl,by simp[w'],λx _ iV=>cU x (by rintro rfl; rw[how] at iV; simp at iV),?_,λ_ _ h => .inl h,λ_ h => .inr h,λ_ _ h=>h,.one b (λk _ hk=>cU k hk) (λs hx=>by rw[fJ] at hx; simp at hx) lA,rfl⟩
  intro x o' fl
  have gc:x≠b:=by rintro rfl; exact gI _ fl
  refine⟨fl,?_⟩
  simp only[World.cell?,cU x gc]
 have cN:xa (λk=>k = .hobj n) w G w' G:=by
  refine⟨?_,λ_ _ h=>h⟩
  intro x k hx gp
  have gc:x≠b:=by rintro rfl; rw[how] at hx; simp at hx; exact gp hx.symm
  exact⟨hx,cU x gc,λ_ h=>h⟩
 have db:FI N w' G (wA st n ob') a vs lm:=by
  refine⟨hf.len,λi t' u' h1 h2=>(hf.var i t' u' h1 h2).keep cJ cN (by simp) (by simp),λi t' u' h1 h2=>(hf.loc i t' u' h1 h2).keep cJ cN (by simp) (by simp),hf.tv,hf.tl,hf.defers,hf.gen,?_,?_,?_,?_⟩
  ·intro b' k cX; simpa[w'] using hf.owlt _ _ cX
  ·intro b' k cX; simpa[w'] using hf.fixlt _ _ cX
  ·exact hf.heap.keepBut cJ cN (λm k c9=>⟨by simp; omega,by simp⟩) (λ_=>hR.imp id λhR=>⟨b,hb,how,hR⟩)
  ·intro m b' h; have:=hf.hdom _ _ h; simpa[wA] using this
 exact⟨cJ,db⟩
theorem c36 (hf:FI N w G st a vs lm) {ob:PObj} {mob:Obj}
  (hR:∀G',G'=G.more w.heap.size st.heap.length→Ext w G (w.alloc mob) G'→ObjR N (w.alloc mob) G' st.heap.length w.heap.size ob):
  Ext w G (w.alloc mob) (G.more w.heap.size st.heap.length)∧FI N (w.alloc mob) (G.more w.heap.size st.heap.length) { st with heap:=st.heap++[ob] } a vs lm:=by
 let G':GS:=G.more w.heap.size st.heap.length
 have cJ:Ext w G (w.alloc mob) G':=by
  refine⟨rfl,rfl,rfl,by simp,λb hb _=>yr hb,λb o h=>⟨h,CE (hf.fixlt _ _ h)⟩,λ_ _ h => .inl h,?_,?_,.same λk hk=>yr hk,rfl⟩
  ·intro b hb
   by_cases cO:b<w.heap.size
   ·refine .inr ?_
    simp only[G',GS.more] at hb
    rw[ae (by omega)] at hb
    exact hb
   ·exact .inl (by omega)
  ·intro n b h
   have:=hf.hdom _ _ h
   simp only[G',GS.more]
   rw[ae (by omega)]; exact h
 have cN:xa (λ_=>False) w G (w.alloc mob) G':=by
  refine⟨?_,λ_ _ h=>h⟩
  intro b k hb _
  have cO:=hf.owlt _ _ hb
  refine⟨?_,yr cO,λ_ h=>h⟩
  simp only[G',GS.more]
  rw[ae (by omega)]; exact hb
 have db:FI N (w.alloc mob) G' { st with heap:=st.heap++[ob] } a vs lm:=by
  refine⟨hf.len,λi t u h1 h2=>(hf.var i t u h1 h2).keep cJ cN (λh=>h) (λ_ _ _ h=>h),λj t u h1 h2=>(hf.loc j t u h1 h2).keep cJ cN (λh=>h) (λ_ _ _ h=>h),hf.tv,hf.tl,hf.defers,hf.gen,?_,?_,?_,?_⟩
  ·intro b k hb
   simp only[G',GS.more] at hb
   split at hb
   ·simp; omega
   ·have:=hf.owlt _ _ hb; simp; omega
  ·intro b o h; have:=hf.fixlt _ _ h; simp; omega
  ·exact hf.heap.push cJ cN (λ_ _ _=>⟨λh=>h,λh=>h⟩) (.inr ⟨w.heap.size,by simp[G',GS.more],by simp[G',GS.more],hR G' rfl cJ⟩)
  ·intro n b h
   simp only[G',GS.more] at h
   simp only[ax,List.length_singleton]
   split at h
   ·omega
   ·have:=hf.hdom _ _ h; omega
 exact⟨cJ,db⟩
theorem b9A (hf:FI N w G st a vs lm) (mob:Obj):Ext w G (w.alloc mob) G∧FI N (w.alloc mob) G st a vs lm:=by
 have cJ:Ext w G (w.alloc mob) G:=
  ⟨rfl,rfl,rfl,by simp,λb hb _=>yr hb,λb o h=>⟨h,CE (hf.fixlt _ _ h)⟩,λ_ _ h => .inl h,λ_ h => .inr h,λ_ _ h=>h,.same λk hk=>yr hk,rfl⟩
 have cN:xa (λ_=>False) w G (w.alloc mob) G:=⟨λb k hb _=>⟨hb,yr (hf.owlt _ _ hb),λ_ h=>h⟩,λ_ _ h=>h⟩
 exact⟨cJ,hf.ext cJ cN hf.gen (λb k h=>by have:=hf.owlt _ _ h; simp; omega) (λb o h=>by have:=hf.fixlt _ _ h; simp; omega)⟩
theorem FI.setDf (hf:FI N w G st a vs lm) (ds:List Deferred):FI N w { G with df:=ds } st { a with defers:=ds } vs lm:=
 ⟨hf.len,hf.var,hf.loc,hf.tv,hf.tl,rfl,hf.gen,hf.owlt,hf.fixlt,hf.heap,hf.hdom⟩
theorem Ext.setDf {w':World} {G':GS} (h:Ext w G w' G') (ds:List Deferred):Ext w { G with df:=ds } w' { G' with df:=ds }:=
 ⟨h.os,h.tape,h.output,h.size,h.same,h.fix,h.newfix,h.own,h.heap,h.shape,rfl⟩
def ExtD (w:World) (G:GS) (w':World) (G':GS):Prop:=Ext w { G with df:=G'.df } w' G'
theorem ExtD.of {w':World} {G':GS} (h:Ext w G w' G'):ExtD w G w' G':=by
 have:=h.setDf G'.df
 exact this
theorem ExtD.refl (w:World) (G:GS):ExtD w G w G := .of (Ext.refl w G)
theorem ExtD.trans {w1 w2:World} {G1 G2:GS} (h:ExtD w G w1 G1) (k:ExtD w1 G1 w2 G2):ExtD w G w2 G2:=by
 have h1:=Ext.setDf h G2.df
 exact Ext.trans h1 k
theorem ExtD.to {w':World} {G':GS} (h:ExtD w G w' G') (hd:G'.df=G.df):Ext w G w' G':=by
 unfold ExtD at h
 rw[hd] at h
 exact h
def Marks (w w':World) (G':GS) (ms:List Deferred):Prop:=
 ∃bs:List Nat,ms=bs.map (λb=>{ target := .collected b,args := #[] })∧bs.Nodup∧∀b∈bs,w.heap.size≤b∧w'.heap[b]? = some (.deferred (some []))∧G'.ow b=none
theorem Marks.nil (w w':World) (G':GS):Marks w w' G' []:=⟨[],rfl,List.nodup_nil,by simp⟩
theorem Marks.lt {w':World} {G':GS} {b:Nat} (h:w'.heap[b]? = some (.deferred (some []))):b<w'.heap.size:=(aX.1 h).1
theorem Marks.join {w1 w2:World} {G1 G2:GS} {ms1 ms2:List Deferred} (hs:w.heap.size≤w1.heap.size) (h1:Marks w w1 G1 ms1) (e:ExtD w1 G1 w2 G2) (h2:Marks w1 w2 G2 ms2):Marks w w2 G2 (ms2++ms1):=by
 obtain⟨b1,rfl,n1,k1⟩:=h1
 obtain⟨b2,rfl,n2,k2⟩:=h2
 refine⟨b2++b1,by simp,?_,?_⟩
 ·rw[cj]
  refine⟨n2,n1,?_⟩
  rintro x hx y hy rfl
  have:=(k2 x hx).1
  have:=Marks.lt (G':=G1) (k1 x hy).2.1
  omega
 ·intro b hb
  rcases aw.1 hb with hb|hb
  ·obtain⟨j1,j2,j3⟩:=k2 b hb
   exact⟨by omega,j2,j3⟩
  ·obtain⟨j1,j2,j3⟩:=k1 b hb
   have cO:=Marks.lt (G':=G1) j2
   refine⟨j1,(Ext.same e b cO j3).trans j2,?_⟩
   cases hx:G2.ow b with
   | none=>rfl
   | some k =>
     rcases Ext.own e b (by rw[hx]; simp) with h|h
     ·omega
     ·exact absurd j3 h
end
def D4 (nt:Nat) (ops:List Oper):Bool:=ops.all λo=>match o.dst with | some t=>decide (t<nt) | none=>true
def Fs (ops:List Oper):Bool:=ops.all λo=>match o.op with | .defer _=>false | _=>true
def AW (E:Env) (nt:Nat) (vs:List Tmp) (ops:Array Oper) (draw:Bool):Option (List PO):=
 if B5 vs ops.toList&&D4 nt ops.toList&&Fs ops.toList then
  (BK E vs ops.toList ops.toList).bind λpos=>if draw && !B6 ops pos then none else some pos
 else none
def B7 (E:Env) (nt:Nat) (vs:List Tmp) (ops:Array Oper) (draw:Bool):Option (List PO):=
 if B5 vs ops.toList&&D4 nt ops.toList&&Fs ops.toList then
  (D5 E vs ops.toList ops.toList).bind λpos=>if draw && !B6 ops pos then none else some pos
 else none
def D6 (E:Env) (nt:Nat) (vs:List Tmp) (ops:Array Oper):Option (List PO×Nat×PX):=
 if B5 vs ops.toList&&D4 nt ops.toList&&Fs ops.toList then
  match ops.toList.drop (ops.size - 2) with
  | [{ dst := some d, op := .makeInterface T x, guard := none, .. }, { op := .panic (.tmp d'), guard := none, .. }] =>
    match E.P.underlying T with
    | none | some (.interface _)=>none
    | some _=>if d=d'∧(xH d vs 0).isNone∧2≤ops.size then(BK E vs ops.toList (ops.toList.take (ops.size - 2))).bind λpos=>(cx E vs ops.toList x).bind λpx=>(xH T E.pt 0).map λi=>(pos,i+1,px) else none
  | _=>none
 else none
def Hp (E:Env) (nt:Nat) (vs:List Tmp) (ops:Array Oper):Option (Nat×List PX):=
 match ops.toList with
 | [{ dst := some d, op := .makeFunc (.func f) first caps, guard := none, .. }, { dst := none, op := .defer { callee := .value (.tmp d'), args, .. }, guard := none, .. }] =>
   if d=d'∧(xH d vs 0).isNone∧d<nt∧first.toList=[]∧args.toList=[] then(E.inv f).bind λk=>(cxs E vs [] caps.toList).map λps=>(k,ps) else none
 | _=>none
inductive Cmp (E:Env) (nt:Nat) (vs:List Tmp):Code→PC→Prop where
 | skip:Cmp E nt vs .skip .skip
 | region (id:Nat) (ops:Array Oper) (d:Bool) (pos:List PO) (h:AW E nt vs ops d=some pos):Cmp E nt vs (.region id ops d) (.region pos)
 | bregion (id:Nat) (ops:Array Oper) (d:Bool) (pos:List PO) (h:B7 E nt vs ops d=some pos):Cmp E nt vs (.region id ops d) (.bregion pos)
 | raise (id:Nat) (ops:Array Oper) (pos:List PO) (t:Nat) (px:PX) (h:D6 E nt vs ops=some (pos,t,px)):Cmp E nt vs (.region id ops false) (.raise pos t px)
 | branch (id : Nat) (ops : Array Oper) (d : Bool) (pos : List PO) (c : Operand) (px : PX) (x y : Code) (px1 px2 : PC) (h : AW E nt vs ops d = some pos) (hc : cx E vs ops.toList c = some px) (hx : Cmp E nt vs x px1) (hy : Cmp E nt vs y px2) :
   Cmp E nt vs (.seq (.region id ops d) (.cond c x y)) (.branch pos px px1 px2)
 | branchSeq (id : Nat) (ops : Array Oper) (d : Bool) (pos : List PO) (c : Operand) (px : PX) (x y r : Code) (px1 px2 pr : PC) (h : AW E nt vs ops d = some pos) (hc : cx E vs ops.toList c = some px) (hx : Cmp E nt vs x px1) (hy : Cmp E nt vs y px2) (hr : Cmp E nt vs r pr) :
   Cmp E nt vs (.seq (.region id ops d) (.seq (.cond c x y) r)) (.seq (.branch pos px px1 px2) pr)
 | bbranch (id : Nat) (ops : Array Oper) (d : Bool) (pos : List PO) (c : Operand) (px : PX) (x y : Code) (px1 px2 : PC) (h : B7 E nt vs ops d = some pos) (hc : cx E vs ops.toList c = some px) (hx : Cmp E nt vs x px1) (hy : Cmp E nt vs y px2) :
   Cmp E nt vs (.seq (.region id ops d) (.cond c x y)) (.bbranch pos px px1 px2)
 | bbranchSeq (id : Nat) (ops : Array Oper) (d : Bool) (pos : List PO) (c : Operand) (px : PX) (x y r : Code) (px1 px2 pr : PC) (h : B7 E nt vs ops d = some pos) (hc : cx E vs ops.toList c = some px) (hx : Cmp E nt vs x px1) (hy : Cmp E nt vs y px2) (hr : Cmp E nt vs r pr) :
   Cmp E nt vs (.seq (.region id ops d) (.seq (.cond c x y) r)) (.seq (.bbranch pos px px1 px2) pr)
 | guarded (id:Nat) (ops:Array Oper) (kd:Nat) (caps:List PX) (y:Code) (q:PC) (h:Hp E nt vs ops=some (kd,caps)) (hy:Cmp E nt vs y q):Cmp E nt vs (.seq (.region id ops false) y) (.guarded kd caps q)
 | seq (x y:Code) (p q:PC) (hx:Cmp E nt vs x p) (hy:Cmp E nt vs y q):Cmp E nt vs (.seq x y) (.seq p q)
 | cond (c:Operand) (px:PX) (x y:Code) (p q:PC) (hc:cx E vs [] c=some px) (hx:Cmp E nt vs x p) (hy:Cmp E nt vs y q):Cmp E nt vs (.cond c x y) (.branch [] px p q)
 | block (id:Nat) (x:Code) (p:PC) (hx:Cmp E nt vs x p):Cmp E nt vs (.block id x) (.block id p)
 | loop (x:Code) (p:PC) (hx:Cmp E nt vs x p):Cmp E nt vs (.loop x) (.loop p)
 | rangeF (g : Operand) (ps : Array Tmp) (as body : Code) (px : PX) (kb : Nat) (vars : List Tmp) (caps : List PX) (hg : cx E vs [] g = some px) (hl : (ps, kb, vars) ∈ E.lps) (hv : cxs E vs [] (vars.map .tmp) = some caps) :
   Cmp E nt vs (.rangeFunc g ps as body) (.rangeF px kb caps)
 | stuck (x:Code):Cmp E nt vs x zN
 | exit (id:Nat):Cmp E nt vs (.exit id) (.exit id)
 | ret:Cmp E nt vs .ret .ret
def Ft (E:Env) (nt:Nat) (vs:List Tmp) (ops:Array Oper) (d:Bool):PC:=
 if Kx E ops.toList then(match B7 E nt vs ops d with | some pos => .bregion pos | none=>zN)
 else match AW E nt vs ops d with
  | some pos=>if d then .region pos else(match D6 E nt vs ops with | some r => .raise r.1 r.2.1 r.2.2 | none => .region pos)
  | none=>if d then zN else(match D6 E nt vs ops with | some r => .raise r.1 r.2.1 r.2.2 | none=>zN)
def brC (E:Env) (nt:Nat) (vs:List Tmp) (ops:Array Oper) (d:Bool) (c:Operand) (p q:PC):PC:=
 if Kx E ops.toList then(match B7 E nt vs ops d,cx E vs ops.toList c with | some pos,some px => .bbranch pos px p q | _,_=>zN)
 else match AW E nt vs ops d,cx E vs ops.toList c with
  | some pos,some px => .branch pos px p q
  | _,_=>zN
theorem Ky {E:Env} {nt:Nat} {vs:List Tmp} (id:Nat) (ops:Array Oper) (d:Bool):Cmp E nt vs (.region id ops d) (Ft E nt vs ops d):=by
 unfold Ft
 split
 ·split
  ·exact .bregion id ops d _ (by assumption)
  ·exact .stuck _
 ·split
  ·split
   ·exact .region id ops d _ (by assumption)
   ·rename_i hd
    have:d=false:=by simpa using hd
    subst this
    split
    ·exact .raise id ops _ _ _ (by assumption)
    ·exact .region id ops false _ (by assumption)
  ·split
   ·exact .stuck _
   ·rename_i hd
    have:d=false:=by simpa using hd
    subst this
    split
    ·exact .raise id ops _ _ _ (by assumption)
    ·exact .stuck _
theorem c3Y {E:Env} {nt:Nat} {vs:List Tmp} (id:Nat) (ops:Array Oper) (d:Bool) (c:Operand) {x y:Code} {p q:PC} (hx:Cmp E nt vs x p) (hy:Cmp E nt vs y q):Cmp E nt vs (.seq (.region id ops d) (.cond c x y)) (brC E nt vs ops d c p q):=by
 unfold brC
 split
 ·split
  ·exact .bbranch id ops d _ c _ x y p q (by assumption) (by assumption) hx hy
  ·exact .stuck _
 ·split
  ·exact .branch id ops d _ c _ x y p q (by assumption) (by assumption) hx hy
  ·exact .stuck _
def Fu:PC→Bool
 | .branch [] (.c .dead) .skip .skip=>true
 | _=>false
theorem c3Z {E:Env} {nt:Nat} {vs:List Tmp} (id:Nat) (ops:Array Oper) (d:Bool) (c:Operand) {x y r:Code} {p q pr:PC} (hx:Cmp E nt vs x p) (hy:Cmp E nt vs y q) (hr:Cmp E nt vs r pr):
  Cmp E nt vs (.seq (.region id ops d) (.seq (.cond c x y) r)) (if Fu (brC E nt vs ops d c p q) then zN else .seq (brC E nt vs ops d c p q) pr):=by
 split
 ·exact .stuck _
 ·rename_i hs
  unfold brC at hs ⊢
  split
  ·rename_i hb
   rw[ah hb] at hs
   split
   ·exact .bbranchSeq id ops d _ c _ x y r p q pr (by assumption) (by assumption) hx hy hr
   ·rename_i h1
    split at hs
    ·rename_i a b h2 h3; exact absurd rfl (λe:(0:Nat)=0=>h1 _ _ h2 h3)
    ·simp[Fu,zN] at hs
  ·rename_i hb
   rw[ae hb] at hs
   split
   ·exact .branchSeq id ops d _ c _ x y r p q pr (by assumption) (by assumption) hx hy hr
   ·rename_i h1
    split at hs
    ·rename_i a b h2 h3; exact absurd rfl (λe:(0:Nat)=0=>h1 _ _ h2 h3)
    ·simp[Fu,zN] at hs
def xL (E:Env) (nt:Nat) (vs:List Tmp):Code→PC
 | .skip => .skip
 | .region _ ops d=>Ft E nt vs ops d
 | .seq (.region _ ops d) (.cond c x y)=>brC E nt vs ops d c (xL E nt vs x) (xL E nt vs y)
 | .seq (.region _ ops d) (.seq (.cond c x y) r)=>if Fu (brC E nt vs ops d c (xL E nt vs x) (xL E nt vs y)) then zN else .seq (brC E nt vs ops d c (xL E nt vs x) (xL E nt vs y)) (xL E nt vs r)
 | .seq (.region _ ops false) y => match Hp E nt vs ops with
   | some r => .guarded r.1 r.2 (xL E nt vs y)
   | none => .seq (Ft E nt vs ops false) (xL E nt vs y)
 | .seq x y => .seq (xL E nt vs x) (xL E nt vs y)
 | .cond c x y => match cx E vs [] c with
   | some px => .branch [] px (xL E nt vs x) (xL E nt vs y)
   | none=>zN
 | .block id x => .block id (xL E nt vs x)
 | .loop x => .loop (xL E nt vs x)
 | .rangeFunc g ps _ _ => match cx E vs [] g, E.lps.find? (fun y => y.1 == ps) with
   | some px, some y => match cxs E vs [] (y.2.2.map .tmp) with
     | some caps => .rangeF px y.2.1 caps
     | none=>zN
   | _,_=>zN
 | .exit id => .exit id
 | .ret => .ret
 | _=>zN
theorem D7 {E:Env} {nt:Nat} {vs:List Tmp}:∀{c:Code},Cmp E nt vs c (xL E nt vs c):=by
 intro c
 fun_induction xL E nt vs c with
 | case1=>exact .skip
 | case2 id ops d=>exact Ky id ops d
 | case3 id ops d c x y ihx ihy=>exact c3Y id ops d c ihx ihy
 | case4=>exact .stuck _
 | case5 id ops d c x y r h ihx ihy ihr =>
   have:=c3Z id ops d c ihx ihy ihr
   rw[ae h] at this
   exact this
 | case6 id ops y _ _ r h ihy=>exact .guarded id ops _ _ y _ h ihy
 | case7 id ops y _ _ h ihy=>exact .seq _ y _ _ (Ky id ops false) ihy
 | case8 x y _ _ _ ihx ihy=>exact .seq x y _ _ ihx ihy
 | case9 c x y px h ihx ihy=>exact .cond c px x y _ _ h ihx ihy
 | case10=>exact .stuck _
 | case11 id x ih=>exact .block id x _ ih
 | case12 x ih=>exact .loop x _ ih
 | case13 g ps a b px y e1 e2 caps e3 =>
   have h2:E.lps.find? (λy=>y.1==ps)=some y:=by assumption
   have hm:=List.mem_of_find?_eq_some h2
   have he:=List.find?_some h2
   obtain⟨y1,y2,y3⟩:=y
   have dy:y1=ps:=by simpa using he
   subst dy
   exact .rangeF g y1 a b px y2 y3 caps (by assumption) hm (by assumption)
 | case14=>exact .stuck _
 | case15=>exact .stuck _
 | case16 id=>exact .exit id
 | case17=>exact .ret
 | case18=>exact .stuck _
structure BI (N:Nm) (w:World) (G:GS) (st:St) (a:Act) (vs:List Tmp) (nt:Nat):Prop where
 fi:FI N w G st a vs (λ_=>none)
 size:nt≤a.tmps.size
theorem D8 (w:World) (G:GS):Ext w G w.drew G:=
 ⟨rfl,rfl,rfl,ao _,λ_ _ _=>rfl,λ_ _ h=>⟨h,rfl⟩,λ_ _ h => .inl h,λ_ h => .inr h,λ_ _ h=>h,ShapeLe.refl w,rfl⟩
theorem Kz (w:World) (G:GS):xa (λ_=>False) w G w.drew G:=⟨λ_ _ h _=>⟨h,rfl,λ_ h=>h⟩,λ_ _ h=>h⟩
section
variable {E:Env} {N:Nm} {vs:List Tmp} {P:Program} {nt:Nat} {Q:Exit→Act→World→Prop}
theorem FI.begin {w:World} {G:GS} {st:St} {a:Act} (h:BI N w G st a vs nt) (lm:Nat→Option Tmp) (hl:∀j t,lm j=some t→t<nt) (n:Nat):FI N w G (An n st) a vs lm:=by
 refine⟨h.fi.len,h.fi.var,?_,h.fi.tv,λj t hj=>aN (hl j t hj) h.size,h.fi.defers,h.fi.gen,h.fi.owlt,h.fi.fixlt,h.fi.heap,h.fi.hdom⟩
 intro j t u _ hu
 simp only[An,ct] at hu
 split at hu
 ·simp at hu; subst hu; trivial
 ·simp at hu
theorem FI.finish {w:World} {G:GS} {st:St} {a:Act} {lm:Nat→Option Tmp} (h:FI N w G st a vs lm) (hs:nt≤a.tmps.size):BI N w G (xc st) a vs nt:=
 ⟨⟨h.len,h.var,(by intro j t u hj; simp at hj),h.tv,(by intro j t hj; simp at hj),h.defers,h.gen,h.owlt,h.fixlt,h.heap,h.hdom⟩,hs⟩
theorem Fv {ops:List Oper} (h:D4 nt ops=true):∀j t,vS vs ops j=some t→t<nt:=by
 intro j t hj
 unfold vS at hj
 split at hj
 ·rename_i o ho
  split at hj
  ·rename_i t' jf
   split at hj
   ·simp at hj
   ·simp at hj; subst hj
    have:=aG.1 h o (av ho)
    simpa[jf] using this
  ·simp at hj
 ·simp at hj
theorem Hq {ops:Array Oper} (h:Fs ops.toList=true):∀(i:Nat) (o:Oper) c,ops[i]? = some o→o.op≠.defer c:=by
 intro i o c ho e
 have:=aG.1 h o (av (by simpa using ho))
 rw[e] at this
 simp at this
theorem Fw (n:Nat):xo n (Array.replicate n false)=List.range' 0 n:=by
 rw[← cD]
 unfold xo
 rw[List.filter_eq_self]
 intro i hi
 have:i<n:=by simpa using hi
 simp[aK,this]
theorem KA (ops:Array Oper):Fx ops (Array.replicate ops.size false):=by
 intro k o ho kL
 have:k<ops.size:=(aX.1 ho).1
 simp[aK,this] at kL
variable {L:Nat→Option PFunc} {r:Option Nat}
theorem KB (hF:x7 N P L) (hE:EnvOk E N) (hP:E.P=P) (dl:P.follows .mixedOrders=true) (dj:vs.Nodup) {cf:vZ} (dH:CallOK N P cf) (ef:∀k args h r,cf k args h=some r→∃f,L k=some f)
  {id:Nat} {ops:Array Oper} {d:Bool} {pos:List PO} (hc:AW E nt vs ops d=some pos) {w:World} {G:GS} {st st':St} {a:Act} (hs:x6 cf pos st=some st') (hb:BI N w G st a vs nt) (hQ:¬LetsOut Q)
  (hk:∀a' w' G',FI N w' G' st' a' vs (vS vs ops.toList)→Ext w G w' G'→nt≤a'.tmps.size→Q .normal a' w'):(Code.region id ops d).wpIn (W r) 0 P Q a w:=by
 unfold AW at hc
 split at hc
 ·rename_i cP
  simp only[am] at cP
  simp only[af] at hc
  obtain⟨pos',dI,hc⟩:=hc
  split at hc
  ·simp at hc
  ·rename_i eT
   simp at hc; subst hc
   have nm:=Fy dj cP.1.1
   have cK:ops.size=pos'.length:=by have:=(B8 dI).1; simpa using this
   have fC:=FI.begin hb (vS vs ops.toList) (Fv cP.1.2) pos'.length
   have hx:xM cf pos' (List.range' 0 pos'.length) (An pos'.length st)=some st':=by
    rw[← Fz (all:=pos') (by simp)]; exact hs
   have dg:Next1 N w G a st' vs ops.toList (Q .normal):=λa' w' G' h1 h2 h3=>hk a' w' G' h1 h2 (by rw[h3]; exact hb.size)
   have dj:=Hq cP.2
   cases d with
   | false =>
     refine wpIn_region (Hr dj hQ ?_)
     have:List.range ops.size=List.range' 0 pos'.length:=by rw[cK,cD]
     rw[this]
     exact Hs hF hE hP nm dH ef dI hx fC dg
   | true =>
     have jJ:B6 ops pos'=true:=by simpa using eT
     refine wpIn_region_draw λt=>Hr dj hQ ?_
     have fF:FI N w.drew G (An pos'.length st) a vs (vS vs ops.toList):=fC.ext (D8 w G) (Kz w G) fC.gen fC.owlt fC.fixlt
     simp only[Region.schedule,dl,Bool.true_or,if_true]
     refine wpAny_sound ops.size t _ a _ ?_
     refine b9Q hF hE hP nm dH ef dI jJ ops.size (by simp) (by rw[Fw]; simp) (KA ops) (by rw[Fw,cK]; exact hx) fF (dg.trans (D8 w G) rfl)
 ·simp at hc
theorem Ht (hF:x7 N P L) (hE:EnvOk E N) (hP:E.P=P) {ops:Array Oper} (nm:Names vs (vS vs ops.toList)) {cf:vZ} (dH:CallOK N P cf) {ob:xF} (dz:C9 N P ob) (dT:D9 N P ob)
  (ef:∀k args h x,cf k args h=some x→∃f,L k=some f) (it:∀k args h x,ob k args h=some x→∃f,L k=some f) (hd:∀(i:Nat) (o:Oper) c,ops[i]? = some o→o.op≠.defer c) {pos:List PO} (dI:∀(i:Nat) (o:Oper),ops.toList[i]? = some o→∃p,pos[i]? = some p∧Ea E vs ops.toList o=some p) (cK:ops.size=pos.length)
  {res:Option PV} {st':St} (hQ:¬LetsOut Q):
  ∀ {l : List Nat} {st : St} {w : World} {G : GS} {a : Act}, yK cf ob pos l st = some (res, st') → FI N w G st a vs (vS vs ops.toList) → (res = none → Next1 N w G a st' vs ops.toList (Q .normal)) →
    (∀p,res=some p→∀a' w' G' v,a'.tmps.size=a.tmps.size→VR N w' G'.fix G'.heap v p→Ext w G w' G'→FI N w' G' st' a' vs (vS vs ops.toList)→Q (.panic [{ v,recovered:=false }]) a' w')→wpOpsIn (W r) 0 P ops Q l a w
 | [], st, w, G, a, h, hf, hk, hb => by
   simp only[yK,aa,ac] at h
   obtain⟨rfl,rfl⟩:=h
   exact hk rfl _ _ G hf (Ext.refl _ _) rfl
 | i :: l, st, w, G, a, h, hf, hk, hb => by
   simp only[yK] at h
   split at h
   ·rename_i p hp
    have hi:i<ops.size:=by rw[cK]; exact(aj.1 hp).1
    obtain⟨p',ek,ft⟩:=dI i ops[i] (by simp[hi])
    have:p'=p:=by rw[hp] at ek; simpa using ek.symm
    subst this
    rw[wpOpsIn_cons]
    have pD:ops[i]? = some ops[i]:=by simp[hi]
    split at h
    ·rename_i st1 hs
     refine KC (res:=none) hF hE hP nm pD hf dH dz dT ef it (λc=>hd i _ c pD) ft hs hQ ?_ (λp e=>by simp at e)
     intro _ a' w' G' iQ he cQ
     exact Ht hF hE hP nm dH dz dT ef it hd dI cK hQ h iQ (λhn=>(hk hn).trans he cQ)
      (λp hp a2 w2 G2 v h1 h2 h3 h4=>hb p hp a2 w2 G2 v (h1.trans cQ) h2 (he.trans h3) h4)
    ·rename_i c9
     have hs:xX cf ob i p' st=some (res,st'):=h
     cases res with
     | none=>exact absurd hs (c9 st')
     | some v =>
       refine KC (res:=some v) hF hE hP nm pD hf dH dz dT ef it (λc=>hd i _ c pD) ft hs hQ (λe=>by simp at e) ?_
       rintro p e w' G' u h1 h2 h3
       cases e
       exact hb v rfl a w' G' u rfl h1 h2 h3
   ·simp at h
theorem FA:∀{os:List Oper} {pos:List PO} {ops:List Oper},D5 E vs ops os=some pos→os.length=pos.length∧∀(i:Nat) (o:Oper),os[i]? = some o→∃p,pos[i]? = some p∧Ea E vs ops o=some p
 | [],pos,ops,h=>by simp[D5] at h; subst h; simp
 | o :: os, pos, ops, h => by
   simp only[D5,af,ab] at h
   obtain⟨p,hp,ps,d4,rfl⟩:=h
   obtain⟨h1,h2⟩:=FA d4
   refine⟨by simp[h1],?_⟩
   intro i x hx
   cases i with
   | zero=>simp at hx; subst hx; exact⟨p,rfl,hp⟩
   | succ i=>exact h2 i x (by simpa using hx)
theorem FB (hF:x7 N P L) (hE:EnvOk E N) (hP:E.P=P) (dl:P.follows .mixedOrders=true) (dj:vs.Nodup) {cf:vZ} (dH:CallOK N P cf) {ob:xF} (dz:C9 N P ob) (dT:D9 N P ob)
  (ef:∀k args h r,cf k args h=some r→∃f,L k=some f) (it:∀k args h x,ob k args h=some x→∃f,L k=some f)
  {id:Nat} {ops:Array Oper} {d:Bool} {pos:List PO} (hc:B7 E nt vs ops d=some pos) {w:World} {G:GS} {st st':St} {a:Act} {res:Option PV} (hs:xt cf ob 0 pos (An pos.length st)=some (res,st')) (hb:BI N w G st a vs nt) (hQ:¬LetsOut Q)
  (hk:res=none→∀a' w' G',FI N w' G' st' a' vs (vS vs ops.toList)→Ext w G w' G'→nt≤a'.tmps.size→Q .normal a' w')
  (p6:∀p,res=some p→∀a' w' G' v,VR N w' G'.fix G'.heap v p→Ext w G w' G'→BI N w' G' (xc st') a' vs nt→Q (.panic [{ v,recovered:=false }]) a' w'):(Code.region id ops d).wpIn (W r) 0 P Q a w:=by
 unfold B7 at hc
 split at hc
 ·rename_i cP
  simp only[am] at cP
  simp only[af] at hc
  obtain⟨pos',dI,hc⟩:=hc
  split at hc
  ·simp at hc
  ·rename_i eT
   simp at hc; subst hc
   have nm:=Fy dj cP.1.1
   have cK:ops.size=pos'.length:=by have:=(FA dI).1; simpa using this
   have fC:=FI.begin hb (vS vs ops.toList) (Fv cP.1.2) pos'.length
   have hx:yK cf ob pos' (List.range' 0 pos'.length) (An pos'.length st)=some (res,st'):=by
    rw[← KD (all:=pos') (by simp)]; exact hs
   have dg:res=none→Next1 N w G a st' vs ops.toList (Q .normal):=λhn a' w' G' h1 h2 h3=>hk hn a' w' G' h1 h2 (by rw[h3]; exact hb.size)
   have np:∀p,res=some p→∀a' w' G' v,a'.tmps.size=a.tmps.size→VR N w' G'.fix G'.heap v p→Ext w G w' G'→FI N w' G' st' a' vs (vS vs ops.toList)→Q (.panic [{ v,recovered:=false }]) a' w':=
    λp hp a' w' G' v h1 h2 h3 h4=>p6 p hp a' w' G' v h2 h3 (FI.finish h4 (by rw[h1]; exact hb.size))
   have dj:=Hq cP.2
   cases d with
   | false =>
     refine wpIn_region ?_
     have:List.range ops.size=List.range' 0 pos'.length:=by rw[cK,cD]
     rw[this]
     exact Ht hF hE hP nm dH dz dT ef it dj (FA dI).2 cK hQ hx fC dg np
   | true =>
     have jJ:B6 ops pos'=true:=by simpa using eT
     refine wpIn_region_draw λt =>?_
     have fF:FI N w.drew G (An pos'.length st) a vs (vS vs ops.toList):=fC.ext (D8 w G) (Kz w G) fC.gen fC.owlt fC.fixlt
     simp only[Region.schedule,dl,Bool.true_or,if_true]
     have gb:=c35 cK jJ ops.size t (listed:=Array.replicate ops.size false) (by simp) (by rw[Fw]; simp) (KA ops) (by rw[Fw,cK]; exact hx)
     exact Ht hF hE hP nm dH dz dT ef it dj (FA dI).2 cK hQ gb fF (λhn=>(dg hn).trans (D8 w G) rfl)
      (λp hp a' w' G' v h1 h2 h3 h4=>np p hp a' w' G' v h1 h2 ((D8 w G).trans h3) h4)
 ·simp at hc
theorem BI.putOther {w:World} {G:GS} {st:St} {a:Act} (h:BI N w G st a vs nt) {d:Tmp} (hd:(xH d vs 0).isNone=true) (v:Value):BI N w G st (a.put (some d) v) vs nt:=by
 refine⟨⟨h.fi.len,?_,(by intro j t u hj; simp at hj),λi t ht=>by simpa[Act.put] using h.fi.tv i t ht,(by intro j t hj; simp at hj),h.fi.defers,h.fi.gen,h.fi.owlt,h.fi.fixlt,h.fi.heap,h.fi.hdom⟩,by simpa[Act.put] using h.size⟩
 intro i t u h1 h2
 have c9:t≠d:=by
  rintro rfl
  have:=Hu h1 0
  simp at hd
  rw[hd] at this
  simp at this
 have:(a.put (some d) v).eval (.tmp t)=a.eval (.tmp t):=by
  simp only[Act.eval,Act.put,aK,aY]
  rw[ae (Ne.symm c9)]
 rw[this]
 exact h.fi.var i t u h1 h2
theorem KE (hF:x7 N P L) (hE:EnvOk E N) (hP:E.P=P) {ops:Array Oper} (nm:Names vs (vS vs ops.toList)) {cf:vZ} (dH:CallOK N P cf)
  (ef:∀k args h x,cf k args h=some x→∃f,L k=some f) (hd:∀(i:Nat) (o:Oper) c,ops[i]? = some o→o.op≠.defer c) {pos:List PO} (dI:∀(i:Nat) (p:PO),pos[i]? = some p→∃o,ops[i]? = some o∧Cx E vs ops.toList o=some p)
  {st':St} (hQ:¬LetsOut Q) {rest:List Nat}:
  ∀{l:List Nat} {st:St} {w:World} {G:GS} {a:Act},xM cf pos l st=some st'→FI N w G st a vs (vS vs ops.toList)→Next1 N w G a st' vs ops.toList (wpOpsIn (W r) 0 P ops Q rest)→wpOpsIn (W r) 0 P ops Q (l++rest) a w
 | [], st, w, G, a, h, hf, hk => by
   simp only[xM,aa] at h
   subst h
   exact hk _ _ G hf (Ext.refl _ _) rfl
 | i :: l, st, w, G, a, h, hf, hk => by
   simp only[xM] at h
   split at h
   ·rename_i p hp
    simp only[af] at h
    obtain⟨st1,h1,h2⟩:=h
    obtain⟨o,ho,ft⟩:=dI i p hp
    rw[ba,wpOpsIn_cons]
    refine Hv (λo' c eE=>hd i o' c eE) hQ (FC hF hE hP nm ho hf dH ef ft h1 ?_)
    intro a' w' G' iQ he cQ
    exact KE hF hE hP nm dH ef hd dI hQ h2 iQ (hk.trans he cQ)
   ·simp at h
theorem b6u (hF:x7 N P L) (hE:EnvOk E N) (hP:E.P=P) (dj:vs.Nodup) {cf:vZ} (dH:CallOK N P cf) (ef:∀k args h r,cf k args h=some r→∃f,L k=some f)
  {id:Nat} {ops:Array Oper} {pos:List PO} {t:Nat} {px:PX} (hc:D6 E nt vs ops=some (pos,t,px)) {w:World} {G:GS} {st st1:St} {a:Act} {u:PV} (hs:x6 cf pos st=some st1) (hu:rd st1 px=some u) (hb:BI N w G st a vs nt) (hQ:¬LetsOut Q)
  (p6:∀a' w' G' v,VR N w' G'.fix G'.heap v (.iface t u)→Ext w G w' G'→BI N w' G' (xc st1) a' vs nt→Q (.panic [{ v,recovered:=false }]) a' w'):(Code.region id ops false).wpIn (W r) 0 P Q a w:=by
 unfold D6 at hc
 split at hc
 ·rename_i cP
  simp only[am] at cP
  split at hc
  ·rename_i d T x ty1 p1 af1 dst2 d' ty2 p2 af2 iR
   split at hc
   ·simp at hc
   ·simp at hc
   ·rename_i tu p7 tL
    split at hc
    ·rename_i gE
     obtain⟨rfl,mQ,h2⟩:=gE
     simp only[af,ab,ac] at hc
     obtain⟨pos',dI,px',fu,i,hi,rfl,rfl,rfl⟩:=hc
     obtain⟨m,hm⟩:∃m,ops.size=m+2:=⟨ops.size - 2,by omega⟩
     rw[hm] at iR dI
     simp only[Nat.add_sub_cancel] at iR dI
     have nm:=Fy dj cP.1.1
     have fN:pos'.length=m:=by
      have:=(B8 dI).1
      rw[bB] at this
      simp at this
      omega
     have d9:=Hq cP.2
     have tM:∀(i:Nat) (p:PO),pos'[i]? = some p→∃o,ops[i]? = some o∧Cx E vs ops.toList o=some p:=by
      intro i p hp
      have cO:=(aj.1 hp).1
      have jK:i<ops.size:=by omega
      obtain⟨p',ek,ft⟩:=(B8 dI).2 i ops[i] (by rw[List.getElem?_take_of_lt (by omega)]; simp[jK])
      rw[hp] at ek
      cases ek
      exact⟨ops[i],by simp[jK],ft⟩
     have fC:=FI.begin hb (vS vs ops.toList) (Fv cP.1.2) pos'.length
     have hx:xM cf pos' (List.range' 0 pos'.length) (An pos'.length st)=some st1:=by
      rw[← Fz (all:=pos') (by simp)]; exact hs
     have sB:ops.toList[m]? = some ⟨some d,.makeInterface T x,ty1,p1,af1,none⟩:=by
      have:=aD (·[0]?) iR
      simpa[aT] using this
     have p8:ops.toList[m+1]? = some ⟨dst2,.panic (.tmp d),ty2,p2,af2,none⟩:=by
      have:=aD (·[1]?) iR
      simpa[aT] using this
     have da:d<nt:=by
      have:=aG.1 cP.1.2 _ (av sB)
      simpa using this
     have iu:List.range ops.size=List.range' 0 pos'.length++[m,m+1]:=by
      rw[hm,fN,cD,List.range'_eq_append_iff]
      exact⟨m,by omega,rfl,by rw[show m+2 - m=2 by omega]; simp[List.range'_succ]⟩
     refine wpIn_region ?_
     rw[iu]
     refine KE hF hE hP nm dH ef d9 tM hQ hx fC ?_
     intro a' w' G' iQ he cQ
     have ee:=(wB hE fu iQ hu).1
     have tN:=hE.pt T i hi
     have tO:P.underlying T=some tu:=by rw[← hP]; exact tL
     rw[wpOpsIn_cons]
     unfold wpOpIn
     have nq:ops[m]? = some ⟨some d,.makeInterface T x,ty1,p1,af1,none⟩:=by simpa using sB
     have tP:ops[m+1]? = some ⟨dst2,.panic (.tmp d),ty2,p2,af2,none⟩:=by simpa using p8
     simp only[nq,Region.wanted,if_true]
     refine⟨λ_ _=>zO _,?_⟩
     rw[Oper.semAt_eq _ _ _ (by simp)]
     have cM:(execOp a'.eval (⟨some d,.makeInterface T x,ty1,p1,af1,none⟩:Oper)).run P w' = .ok (.value (.iface T (a'.eval x))) w':=by
      have tQ:=run_underlying tO w'
      simp only[execOp,Instr.makeInterface,Sem.run_bind,tQ,Result.andThen_ok]
      cases tu<;>first|(exfalso; exact p7 _ rfl)|simp
     rw[cM,Oper.uponIn_value]
     rw[wpOpsIn_cons]
     unfold wpOpIn
     simp only[tP,Region.wanted,if_true]
     refine⟨λ_ _=>zO _,?_⟩
     rw[Oper.semAt_eq _ _ _ (by simp)]
     have eu:(a'.put (some d) (.iface T (a'.eval x))).eval (.tmp d) = .iface T (a'.eval x):=by
      have:d<a'.tmps.size:=by rw[cQ]; exact aN da hb.size
      simp[Act.eval,Act.put,aK,aY,this]
     have jL:(execOp (a'.put (some d) (.iface T (a'.eval x))).eval (⟨dst2,.panic (.tmp d),ty2,p2,af2,none⟩:Oper)).run P w' = .halt (.panic (.iface T (a'.eval x))) w':=by
      simp only[execOp,Instr.panic,eu]
      rfl
     rw[jL,Oper.uponIn_panic]
     refine p6 _ w' G' _ ?_ he ((FI.finish iQ (by rw[cQ]; exact hb.size)).putOther mQ _)
     rw[← tN]
     exact .iface _ _ _ ee
    ·simp at hc
  ·simp at hc
 ·simp at hc
end
end PI
