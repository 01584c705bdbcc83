import Derived.Test.YtljbhgpanekomaaGreatDoorPiOrd
import Derived.Test.YtljbhgpanekomaaGreatDoorPiSoundN
import Derived.RangeFuncLeaves
import Derived.RangeFuncIn
import Derived.LoopNIn
import Derived.OrdersIn
import Derived.BigRegion
set_option linter.unusedSimpArgs false
set_option linter.unusedVariables false
set_option linter.unusedSectionVars false
namespace PI
open Go Go.RowKit
abbrev Gd (p:PO) (st st':St):Prop:=Sim p.op (zU p) st st'
theorem DQ (p:PO):∀x∈wQ p.op,x∈zU p:=λx hx=>by simp only[zU,ak]; exact .inr hx
theorem IF (o:POp):∀x∈yg o,x∈wQ o:=by
 intro x hx
 cases o with
 | h o=>cases o<;>simp[yg,wQ,xw] at hx ⊢; exact .inl hx
 | take y=>simpa[yg,wQ] using hx
 | append a b c d=>simp[yg,wQ] at hx ⊢; exact .inl hx
 | appstr a b=>simp[yg,wQ] at hx ⊢; exact .inl hx
 | pcallx k xs own =>
   cases own with
   | none=>simp[yg] at hx
   | some i=>simp only[yg,Option.mem_toList] at hx; exact ax hx
 | _=>simp[yg] at hx
theorem LW {cf:wu} {j:Nat} {p:PO} {st st1:St} (hm:w8 p.op≠2) (h:xG cf j p st=some st1):
  ∃(d:Dm) (u:PV),st1=put (d.app st) j p.dst u∧zG p.op d∧∀st',Gd p st st'→xG cf j p st'=some (put (d.app st') j p.dst u):=by
 have run:(opv cf p.op st).map (λr=>put r.2 j p.dst r.1)=some st1→∃(d:Dm) (u:PV),st1=put (d.app st) j p.dst u∧zG p.op d∧∀st',Gd p st st'→(opv cf p.op st').map (λr=>put r.2 j p.dst r.1)=some (put (d.app st') j p.dst u):=by
  intro h
  simp only[ab] at h
  obtain⟨⟨u,st2⟩,h1,rfl⟩:=h
  obtain⟨d,e,hf,hs⟩:=c8f (rs:=zU p) hm (DQ p) h1
  exact ⟨d,u,by rw[e],hf,λst' dz=>by rw[hs st' dz]; rfl⟩
 unfold xG at h
 split at h
 ·rename_i hg
  obtain⟨d,u,h1,h2,h3⟩:=run h
  exact ⟨d,u,h1,h2,λst' hs=>by simp only[xG,hg]; exact h3 st' hs⟩
 ·rename_i x want hg
  have hx:x∈zU p:=by simp[zU,hg]
  split at h
  ·rename_i b hb
   split at h
   ·rename_i mz
    obtain⟨d,u,h1,h2,h3⟩:=run h
    refine⟨d,u,h1,h2,λst' hs =>?_⟩
    have cX:rd st' x=some (.bool b):=by rw[← hs.rd hx]; exact hb
    simp only[xG,hg,cX,ah mz]
    exact h3 st' hs
   ·rename_i mz
    simp only[aa] at h; subst h
    refine⟨.none,.tuple [],rfl,trivial,λst' hs =>?_⟩
    have cX:rd st' x=some (.bool b):=by rw[← hs.rd hx]; exact hb
    simp only[xG,hg,cX,af mz]
    rfl
  ·rename_i hb
   simp only[aa] at h; subst h
   refine⟨.none,.tuple [],rfl,trivial,λst' hs =>?_⟩
   have cX:rd st' x=some (.tuple []):=by rw[← hs.rd hx]; exact hb
   simp only[xG,hg,cX]
   rfl
  ·simp at h
theorem LX {st:St} {j:Nat} {d:PD} {u:PV} {x:PX} (h:isX d j x=false):raw (put st j d u) x=raw st x:=by
 cases d<;>cases x<;>simp[isX,yh] at h<;>simp only[put,raw]<;>first|rfl|(rw[aL]; simp[h])
theorem LY (v:PV):vw (dem v)=vw v:=by cases v<;>rfl
theorem b8O (off:Nat) (v:PV):vw (BN off v)=vw v:=by cases v<;>rfl
theorem c0a {y x:PX} (st:St) (h:yh y x=false):raw (yy y st) x=raw st x:=by
 cases y with
 | v i =>
   cases x with
   | v k=>simp[yh] at h; simp[yy,raw,bg,h]
   | _=>rfl
 | _=>cases x<;>rfl
theorem IG:∀{xs:List PX} {x:PX} (st:St),(∀y∈xs,yh y x=false)→raw (x7 xs st) x=raw st x
 | [],_,_,_=>rfl
 | y :: xs, x, st, h => by
   simp only[x7]
   rw[IG (xs:=xs) _ (λz hz=>h z (bC _ hz)),c0a st (h y (bW ..))]
theorem LZ:∀(xs:List PX) (st:St),(x7 xs st).heap=st.heap
 | [],_=>rfl
 | x::xs,st=>by simp only[x7]; rw[LZ xs]; cases x<;>rfl
theorem IH:∀(xs:List PX) (st:St) (h:List PObj),x7 xs { st with heap:=h }={ x7 xs st with heap:=h }
 | [],_,_=>rfl
 | x :: xs, st, h => by
   simp only[x7]
   rw[← IH xs]
   cases x<;>rfl
theorem b8P (d:Dm) (st:St) (x:PX) (d8:∀xs,d = .shut xs→∀y∈xs,yh y x=false):(raw (d.app st) x).map vw=(raw st x).map vw:=by
 cases d with
 | none=>rfl
 | heap h=>cases x<;>rfl
 | shut xs=>simp only[Dm.app]; rw[IG st (d8 xs rfl)]
 | src y =>
   cases y with
   | c p=>rfl
   | v i =>
     cases x with
     | v k =>
       simp only[Dm.app,raw,bg]
       cases st.vars[k]?<;>simp
       split<;>simp[LY]
     | _=>rfl
   | l i =>
     cases x with
     | l k =>
       simp only[Dm.app,raw,bg]
       cases st.locs[k]?<;>simp
       split<;>simp[LY]
     | _=>rfl
 | cell s off =>
   cases x with
   | v k =>
     simp only[Dm.app,raw,bg]
     cases st.vars[k]?<;>simp
     split<;>simp[b8O]
   | _=>rfl
theorem b63 {o:POp} {d:Dm} (hd:zG o d) (st:St) (x:PX) (hx:∀y∈yg o,yh y x=false) (d8:∀xs,d = .shut xs→∀y∈xs,yh y x=false) (es:List PV):raw (d.app st) x=some (.list true es)↔raw st x=some (.list true es):=by
 cases d with
 | none=>exact Iff.rfl
 | heap h=>cases x<;>exact Iff.rfl
 | shut xs=>simp only[Dm.app]; rw[IG st (d8 xs rfl)]
 | src y =>
   have hy:=hx y hd
   cases y with
   | c p=>exact Iff.rfl
   | v i =>
     cases x with
     | v k=>simp[yh] at hy; simp[Dm.app,raw,bg,hy]
     | _=>exact Iff.rfl
   | l i =>
     cases x with
     | l k=>simp[yh] at hy; simp[Dm.app,raw,bg,hy]
     | _=>exact Iff.rfl
 | cell s off =>
   cases x with
   | v k =>
     simp only[Dm.app,raw,bg]
     cases hv:st.vars[k]? with
     | none=>simp
     | some v =>
       simp only[aA,aa]
       split
       ·cases v<;>simp[BN]
       ·simp
   | _=>exact Iff.rfl
theorem c4F (v:PV):dem (dem v)=dem v:=by cases v<;>rfl
theorem II (cs:List PV) (off:Nat):(cs.modify off dem).map dem=cs.map dem:=by
 apply cg
 intro k
 simp only[aF,bg]
 cases cs[k]?<;>simp
 split<;>simp[c4F]
theorem L1 {o:POp} {d:Dm} (hd:zG o d) (st:St) (exact:Bool) (he:exact=true→w8 o≠3) (h4:w8 o≠4):Bl exact st (d.app st)∧Bl exact (d.app st) st:=by
 have same:∀(st st':St),(∀s:Nat,∀g cs,st.vars[s]? = some (.loc g cs)→st'.vars[s]? = some (.loc g cs))→Bl exact st st':=λst st' h s g cs hs=>⟨cs,h s g cs hs,rfl,λ_=>rfl⟩
 cases d with
 | none=>exact ⟨same _ _ (λ_ _ _ h=>h),same _ _ (λ_ _ _ h=>h)⟩
 | heap h=>exact ⟨same _ _ (λ_ _ _ h=>h),same _ _ (λ_ _ _ h=>h)⟩
 | shut xs=>exact absurd hd.1 h4
 | src y =>
   cases y with
   | c p=>exact ⟨same _ _ (λ_ _ _ h=>h),same _ _ (λ_ _ _ h=>h)⟩
   | l i=>exact ⟨same _ _ (λ_ _ _ h=>h),same _ _ (λ_ _ _ h=>h)⟩
   | v i =>
     refine⟨same _ _ ?_,same _ _ ?_⟩
     ·intro s g cs h
      simp only[Dm.app,bg,h,aA]
      split<;>rfl
     ·intro s g cs h
      simp only[Dm.app,bg] at h
      cases hv:st.vars[s]? with
      | none=>simp[hv] at h
      | some v =>
        rw[hv] at h
        simp only[cI,aA,aa] at h
        split at h
        ·have:v = .loc g cs:=by cases v<;>simp_all [dem]
         rw[this]
        ·rw[h]
 | cell s off =>
   have h3:w8 o=3:=hd
   have da:exact=false:=by
    cases exact with
    | false=>rfl
    | true=>exact absurd h3 (he rfl)
   subst da
   refine⟨?_,?_⟩
   ·intro k g cs h
    simp only[Dm.app,bg,h,aA]
    split
    ·exact ⟨cs.modify off dem,rfl,II cs off,by simp⟩
    ·exact ⟨cs,rfl,rfl,by simp⟩
   ·intro k g cs h
    simp only[Dm.app,bg] at h
    cases hv:st.vars[k]? with
    | none=>simp[hv] at h
    | some v =>
      rw[hv] at h
      simp only[cI,aA,aa] at h
      split at h
      ·have:∃cs0,v = .loc g cs0∧cs0.modify off dem=cs:=by cases v<;>simp_all [BN]
       obtain⟨cs0,rfl,rfl⟩:=this
       exact ⟨_,rfl,(II _ off).symm,by simp⟩
      ·exact ⟨cs,by rw[h],rfl,by simp⟩
structure Comm (jp:Nat) (p:PO) (jq:Nat) (q:PO):Prop where
 mp:w8 p.op≠2
 mq:w8 q.op≠2
 mm:¬(w8 p.op=3∧w8 q.op=3)
 pq:∀x∈zU q,isX p.dst jp x=false
 pv:isV p.dst=true→w8 q.op=0
 qp:∀x∈zU p,isX q.dst jq x=false
 qv:isV q.dst=true→w8 p.op=0
 dd:C6 p.dst q.dst=false
 tt:∀x∈yg p.op,∀y∈yg q.op,yh x y=false
 m4:w8 p.op=4→w8 q.op=0
 n4:w8 q.op=4→w8 p.op=0
 h2:x6 p.op=2→x6 q.op=0
 k2:x6 q.op=2→x6 p.op=0
 sp:∀x∈CI p.op,∀y∈zU q,yh x y=false
 sq:∀x∈CI q.op,∀y∈zU p,yh x y=false
theorem b8Q (x y:PX):yh x y=yh y x:=by cases x<;>cases y<;>simp[yh]<;>exact Bool.beq_comm
theorem L2 (x y:PD):C6 x y=C6 y x:=by cases x<;>cases y<;>simp[C6]<;>exact Bool.beq_comm
theorem LR {jp jq:Nat} {p q:PO} (h:DN jp p jq q=true):Comm jp p jq q:=by
 simp only[DN,Dx,al,bz,bne_iff_ne,ne_eq,aD,bA,bo,Bool.and_eq_false_iff,beq_eq_false_iff_ne,bne_eq_false_iff_eq,List.any_eq_false] at h
 obtain⟨⟨⟨⟨⟨⟨⟨⟨⟨⟨⟨⟨h1,h2⟩,h3⟩,a1⟩,a2⟩,a3⟩,a4⟩,a5⟩,a6⟩,h4,h5⟩,h6,h7⟩,h8⟩,h9⟩:=h
 have neg:∀{a b:Nat} {c:Nat},(¬a=c∨b=0)→a=c→b=0:=by
  intro a b c h e
  rcases h with h|h
  ·exact absurd e h
  ·exact h
 refine⟨h1,h2,?_,h4,?_,h6,?_,h8,?_,neg a1,neg a2,neg a3,neg a4,?_,?_⟩
 ·rintro⟨a,b⟩; rcases h3 with h3|h3
  ·exact h3 a
  ·exact h3 b
 ·intro hv; rcases h5 with h5|h5
  ·rw[hv] at h5; simp at h5
  ·exact h5
 ·intro hv; rcases h7 with h7|h7
  ·rw[hv] at h7; simp at h7
  ·exact h7
 ·intro x hx y hy
  simpa using h9 x hx y hy
 ·intro x hx y hy
  simpa using a5 x hx y hy
 ·intro x hx y hy
  simpa using a6 x hx y hy
theorem Comm.symm {jp jq:Nat} {p q:PO} (h:Comm jp p jq q):Comm jq q jp p:=
 ⟨h.mq,h.mp,fun⟨a,b⟩=>h.mm ⟨b,a⟩,h.qp,h.qv,h.pq,h.pv,by rw[L2]; exact h.dd,λx hx y hy=>by rw[b8Q]; exact h.tt y hy x hx,h.n4,h.m4,h.k2,h.h2,h.sq,h.sp⟩
theorem L3:∀(xs:List PX) (st:St) (s:Nat),(∀y∈xs,yh y (.v s)=false)→(x7 xs st).vars[s]? = st.vars[s]?
 | [],_,_,_=>rfl
 | x :: xs, st, s, h => by
   simp only[x7]
   rw[L3 xs _ s (λy hy=>h y (by simp[hy]))]
   have:=h x (by simp)
   cases x with
   | v i =>
     have da:¬i=s:=by simpa[yh] using this
     simp only[yy,bg,af da]
     cases st.vars[s]?<;>rfl
   | l i=>rfl
   | c p=>rfl
theorem c1Y {o:POp} {d:Dm} (hd:zG o d) (st:St) (s:Nat) (d8:∀xs,d = .shut xs→∀y∈xs,yh y (.v s)=false):CJ s st (d.app st)∧CJ s (d.app st) st:=by
 have by_loc:w8 o≠4→CJ s st (d.app st)∧CJ s (d.app st) st:=by
  intro h4
  obtain⟨h1,h2⟩:=L1 hd st false (by simp) h4
  exact ⟨λg cs h=>let ⟨cs',a,b,_⟩:=h1 s g cs h; ⟨cs',a,b⟩,λg cs h=>let ⟨cs',a,b,_⟩:=h2 s g cs h; ⟨cs',a,b⟩⟩
 cases d with
 | none=>exact ⟨λg cs h=>⟨cs,h,rfl⟩,λg cs h=>⟨cs,h,rfl⟩⟩
 | heap h=>exact ⟨λg cs h=>⟨cs,h,rfl⟩,λg cs h=>⟨cs,h,rfl⟩⟩
 | shut xs =>
   have:=L3 xs st s (d8 xs rfl)
   exact ⟨λg cs h=>⟨cs,by simp only[Dm.app]; rw[this]; exact h,rfl⟩,λg cs h=>⟨cs,by simp only[Dm.app] at h; rw[this] at h; exact h,rfl⟩⟩
 | src y =>
   refine by_loc ?_
   have hy:y∈yg o:=hd
   intro h4
   cases o<;>simp[yg] at hy<;>simp[w8] at h4
   case h o=>cases o<;>simp[yg] at hy<;>simp[w8] at h4
   all_goals (try (split at h4<;>simp at h4))
 | cell s' off =>
   refine by_loc ?_
   have h3:w8 o=3:=hd
   omega
theorem L4 {jp jq:Nat} {p q:PO} (hc:Comm jp p jq q) {d:Dm} (hd:zG p.op d) (st:St) (u:PV):Gd q st (put (d.app st) jp p.dst u)∧Gd q (put (d.app st) jp p.dst u) st:=by
 have d8:∀x∈zU q,∀xs,d = .shut xs→∀y∈xs,yh y x=false:=by
  intro x hx xs e y hy
  subst e
  exact hc.sp y (hd.2▸hy) x hx
 have ka:∀x∈zU q,(raw st x).map vw=(raw (put (d.app st) jp p.dst u) x).map vw:=λx hx=>by
  rw[LX (hc.pq x hx),b8P d st x (d8 x hx)]
 have kc:∀x∈yg q.op,∀es,raw st x=some (.list true es)↔raw (put (d.app st) jp p.dst u) x=some (.list true es):=λx hx es=>by
  rw[LX (hc.pq x (DQ q x (IF _ x hx))),b63 hd st x (λy hy=>hc.tt y hy x hx) (d8 x (DQ q x (IF _ x hx)))]
 have dX:1≤w8 q.op→Bl (w8 q.op==3) st (put (d.app st) jp p.dst u)∧Bl (w8 q.op==3) (put (d.app st) jp p.dst u) st:=λh1=>by
  have hv:(put (d.app st) jp p.dst u).vars=(d.app st).vars:=by
   cases hd:p.dst with
   | v i=>have:=hc.pv (by rw[hd]; rfl); omega
   | l=>rfl
   | n=>rfl
  have:=L1 hd st (w8 q.op==3) (λhe h3=>hc.mm ⟨h3,by simpa using he⟩) (λh4=>by have:=hc.m4 h4; omega)
  unfold Bl at this ⊢
  rw[hv]
  exact this
 have dU:1≤x6 q.op→(put (d.app st) jp p.dst u).heap=st.heap:=by
  intro h1
  have hp:(put (d.app st) jp p.dst u).heap=(d.app st).heap:=by cases p.dst<;>rfl
  rw[hp]
  cases d with
  | none=>rfl
  | src y=>cases y<;>rfl
  | cell s off=>rfl
  | heap h=>have:=hc.h2 hd; omega
  | shut xs=>exact LZ xs st
 have lN:∀s,Iz q.op=some s→CJ s st (put (d.app st) jp p.dst u)∧CJ s (put (d.app st) jp p.dst u) st:=by
  intro s hs
  have hx:PX.v s∈zU q:=by
   refine DQ q _ ?_
   cases hq:q.op<;>rw[hq] at hs<;>simp[Iz] at hs
   subst hs
   simp[wQ]
  have hp:(put (d.app st) jp p.dst u).vars[s]? = (d.app st).vars[s]? := by
   have h1:=hc.pq _ hx
   cases hX:p.dst with
   | v i =>
     rw[hX] at h1
     have da:¬i=s:=by simpa[isX,yh] using h1
     simp only[put,aL,af da]
   | l=>rfl
   | n=>rfl
  obtain⟨h1,h2⟩:=c1Y hd st s (λxs e y hy=>d8 _ hx xs e y hy)
  refine⟨λg cs h =>?_,λg cs h =>?_⟩
  ·obtain⟨cs',a,b⟩:=h1 g cs h
   exact ⟨cs',by rw[hp]; exact a,b⟩
  ·rw[hp] at h
   exact h2 g cs h
 exact ⟨⟨ka,kc,λh=>(dX h).1,dU,lN⟩,⟨λx hx=>(ka x hx).symm,λx hx es=>(kc x hx es).symm,λh=>(dX h).2,λh=>(dU h).symm,λs hs=>(lN s hs).symm⟩⟩
theorem EQ (l:List PV) (i k:Nat) (f g:PV→PV) (h:i=k→∀v,f (g v)=g (f v)):(l.modify i f).modify k g=(l.modify k g).modify i f:=by
 apply cg
 intro m
 simp only[bg,cI,aG]
 cases l[m]? with
 | none=>rfl
 | some v =>
   simp only[aA,Function.comp]
   by_cases h1:i=m<;>by_cases h2:k=m<;>simp[h1,h2]
   exact (h (by omega) v).symm
theorem L5 (off:Nat) (v:PV):dem (BN off v)=BN off (dem v):=by cases v<;>rfl
theorem c0c (v:PV):BO (dem v)=dem (BO v):=by cases v<;>rfl
theorem b4i (off:Nat) (v:PV):BO (BN off v)=BN off (BO v):=by
 cases v<;>simp[BN,BO,II]
theorem c0d (x y:PX) (st:St):yy x ((Dm.src y).app st)=(Dm.src y).app (yy x st):=by
 cases x<;>cases y<;>(try simp only[Dm.app,yy])<;>(try rfl)
 rw[EQ]; intro _ v; exact (c0c v).symm
theorem b8R (x:PX) (s off:Nat) (st:St):yy x ((Dm.cell s off).app st)=(Dm.cell s off).app (yy x st):=by
 cases x<;>(try simp only[Dm.app,yy])<;>(try rfl)
 rw[EQ]; intro _ v; exact (b4i off v).symm
theorem IJ:∀(xs:List PX) (y:PX) (st:St),x7 xs ((Dm.src y).app st)=(Dm.src y).app (x7 xs st)
 | [],_,_=>rfl
 | x::xs,y,st=>by simp only[x7]; rw[c0d,IJ xs]
theorem IK:∀(xs:List PX) (s off:Nat) (st:St),x7 xs ((Dm.cell s off).app st)=(Dm.cell s off).app (x7 xs st)
 | [],_,_,_=>rfl
 | x::xs,s,off,st=>by simp only[x7]; rw[b8R,IK xs]
theorem c4G {o o':POp} {d d':Dm} (hd:zG o d) (hX:zG o' d') (hm:¬(w8 o=3∧w8 o'=3)) (h4:w8 o=4→w8 o'=0) (h2:x6 o=2→x6 o'=0) (st:St):d.app (d'.app st)=d'.app (d.app st):=by
 cases d with
 | none=>rfl
 | heap h =>
   cases d' with
   | none=>rfl
   | src y=>cases y<;>rfl
   | cell s off=>rfl
   | heap h' =>
     have a:=h2 hd
     have b:x6 o'=2:=hX
     omega
   | shut xs=>exact (IH xs st h).symm
 | shut xs =>
   cases d' with
   | none=>rfl
   | src y=>exact IJ xs y st
   | cell s off=>exact IK xs s off st
   | heap h'=>exact IH xs st h'
   | shut ys =>
     have a:=h4 hd.1
     have b:w8 o'=4:=hX.1
     omega
 | src y =>
   cases d' with
   | heap h'=>cases y<;>rfl
   | shut xs=>exact (IJ xs y st).symm
   | none=>rfl
   | src y' =>
     cases y<;>cases y'<;>(try simp only[Dm.app])<;>(try rfl)<;>(rw[EQ]; intro _ v; rfl)
   | cell s off =>
     cases y<;>(try simp only[Dm.app])<;>(try rfl)
     rw[EQ]; intro _ v; exact (L5 off v).symm
 | cell s off =>
   cases d' with
   | heap h'=>rfl
   | shut xs=>exact (IK xs s off st).symm
   | none=>rfl
   | src y' =>
     cases y'<;>(try simp only[Dm.app])<;>(try rfl)
     rw[EQ]; intro _ v; exact L5 off v
   | cell s' off'=>exact absurd ⟨hd,hX⟩ hm
theorem IL (l:List PV) (i k:Nat) (f:PV→PV) (u:PV) (h:i≠k):(l.set i u).modify k f=(l.modify k f).set i u:=by
 apply cg
 intro m
 simp only[bg,aL,List.length_modify]
 by_cases h1:i=m
 ·subst h1
  have:¬k=i:=λe=>h e.symm
  simp[this]
 ·simp[h1]
theorem c0e {x:PX} {j:Nat} {d:PD} (st:St) (u:PV) (h:isX d j x=false):yy x (put st j d u)=put (yy x st) j d u:=by
 cases x with
 | v k =>
   cases d with
   | v i=>simp[isX,yh] at h; simp only[yy,put]; rw[IL _ _ _ _ _ h]
   | _=>rfl
 | _=>cases d<;>rfl
theorem L6:∀{xs:List PX} {j:Nat} {d:PD} (st:St) (u:PV),(∀x∈xs,isX d j x=false)→x7 xs (put st j d u)=put (x7 xs st) j d u
 | [],_,_,_,_,_=>rfl
 | x :: xs, j, d, st, u, h => by
   simp only[x7]
   rw[c0e st u (h x (bW ..)),L6 _ _ (λy hy=>h y (bC _ hy))]
theorem c0f (o:POp):∀x∈CI o,x∈wQ o:=by
 intro x hx
 cases o with
 | h o=>cases o<;>simp[CI,wQ,xw] at hx ⊢; exact hx
 | _=>simp[CI] at hx
theorem L7 {p:PO} {q:PO} {jp jq:Nat} (hc:Comm jp p jq q) {d:Dm} (hd:zG p.op d) (st:St) (u:PV):d.app (put st jq q.dst u)=put (d.app st) jq q.dst u:=by
 cases d with
 | none=>rfl
 | heap h=>cases q.dst<;>rfl
 | shut xs=>exact L6 st u (λx hx=>hc.qp x (DQ p x (c0f _ x (hd.2▸hx))))
 | src y =>
   have hy:=hc.qp y (DQ p y (IF _ y hd))
   cases hq:q.dst with
   | n=>rfl
   | v i =>
     rw[hq] at hy
     cases y with
     | c z=>rfl
     | l k=>rfl
     | v k=>simp[isX,yh] at hy; simp only[Dm.app,put]; rw[IL _ _ _ _ _ hy]
   | l =>
     rw[hq] at hy
     cases y with
     | c z=>rfl
     | v k=>rfl
     | l k=>simp[isX,yh] at hy; simp only[Dm.app,put]; rw[IL _ _ _ _ _ hy]
 | cell s off =>
   cases hq:q.dst with
   | n=>rfl
   | l=>rfl
   | v i =>
     have h0:=hc.qv (by rw[hq]; rfl)
     have h3:w8 p.op=3:=hd
     omega
theorem c4H {jp jq:Nat} {d d':PD} (hj:jp≠jq) (h:C6 d d'=false) (st:St) (u u':PV):put (put st jp d u) jq d' u'=put (put st jq d' u') jp d u:=by
 cases d<;>cases d'<;>simp[C6] at h<;>simp only[put]<;>(try rfl)
 ·rw[List.set_comm _ _ h]
 ·rw[List.set_comm _ _ hj]
theorem d3m {cf:wu} {jp jq:Nat} {p q:PO} (hj:jp≠jq) (hc:Comm jp p jq q) {st st1 st2:St} (h1:xG cf jp p st=some st1) (h2:xG cf jq q st1=some st2):
  ∃st1',xG cf jq q st=some st1'∧xG cf jp p st1'=some st2:=by
 obtain⟨d,u,e1,f1,s1⟩:=LW hc.mp h1
 obtain⟨d',u',e2,f2,s2⟩:=LW hc.mq h2
 subst e1
 have hq:=s2 st (L4 hc f1 st u).2
 refine⟨_,hq,?_⟩
 have hp:=s1 _ (L4 hc.symm f2 st u').1
 rw[hp,e2]
 congr 1
 rw[L7 hc f1,L7 hc.symm f2,c4G f1 f2 hc.mm hc.m4 hc.h2]
 exact c4H (λe=>hj e.symm) (by rw[L2]; exact hc.dd) _ _ _
theorem Iw {cf:wu} {pos:List PO} {i:Nat} {q:PO} (hi:pos[i]? = some q) {post:List Nat}:∀{pre:List Nat} {st st':St},(∀j∈pre,j≠i∧∀p,pos[j]? = some p→Comm j p i q) →
  ye cf pos (pre++i::post) st=some st'→ye cf pos (i::(pre++post)) st=some st'
 | [],st,st',_,h=>h
 | j :: pre, st, st', hc, h => by
   simp only[aJ,ye] at h
   split at h
   ·rename_i p hp
    simp only[ae] at h
    obtain⟨st1,h1,h2⟩:=h
    have ih:=Iw hi (λj' uI=>hc j' (by simp[uI])) h2
    simp only[ye,hi,ae] at ih
    obtain⟨st2,h3,h4⟩:=ih
    obtain⟨hj,f0⟩:=hc j (by simp)
    obtain⟨st1',h5,h6⟩:=d3m hj (f0 p hp) h1 h3
    simp only[aJ,ye,hi,hp,h5,aw,h6]
    exact h4
   ·simp at h
inductive Pre (ops:Array Oper):Nat→Nat→Prop where
 | edge {i:Nat} {o:Oper} {e:Edge} (ho:ops[i]? = some o) (he:e∈o.after) (hb:Region.binds .any e=true):Pre ops e.on i
 | far {i j:Nat} {o:Oper} {e:Edge} (ho:ops[i]? = some o) (he:e∈o.after) (hb:Region.binds .any e=true) (h:Pre ops j e.on):Pre ops j i
def Ge {α:Type} (m:Nat) (f:Nat→α):α:=
 match m with
 | 0=>f 0
 | n+1=>f (n+1)
theorem Ga {α:Type} (m:Nat) (f:Nat→α):Ge m f=f m:=by cases m<;>rfl
def wide:Nat:=1024
def ER (M:Nat):List Edge→Nat→Nat
 | [],m=>m
 | e::es,m=>if Region.binds .any e then Ge (m ||| 1 <<< e.on ||| M >>> (e.on*1024) % 2 ^ wide) (ER M es) else ER M es m
def rows:List Oper→Nat→Nat→Nat
 | [],_,M=>M
 | o::os,i,M=>Ge (M ||| (ER M o.after.toList 0 % 2 ^ wide) <<< (i*1024)) (rows os (i+1))
def EO (ops:Array Oper) (M:Nat):Prop:=∀i j,j<1024→M.testBit (i*1024+j)=true→Pre ops j i
theorem IM {ops:Array Oper} {M:Nat} (hM:EO ops M) {i:Nat} {o:Oper} (ho:ops[i]? = some o):∀(es:List Edge) (m:Nat),(∀e∈es,e∈o.after)→(∀j,j<1024→m.testBit j=true→Pre ops j i)→∀j,j<1024→(ER M es m).testBit j=true→Pre ops j i
 | [],m,_,hm=>hm
 | e :: es, m, fH, hm => by
   intro j hj h
   simp only[ER] at h
   split at h
   ·rename_i hb
    rw[Ga] at h
    refine IM hM ho es _ (λx hx=>fH x (by simp[hx])) ?_ j hj h
    intro k hk dY
    simp only[Nat.testBit_or,bA] at dY
    rcases dY with(dY|dY)|dY
    ·exact hm k hk dY
    ·rw[Nat.one_shiftLeft,Nat.testBit_two_pow] at dY
     have:e.on=k:=by simpa using dY
     exact this▸Pre.edge ho (fH e (by simp)) hb
    ·rw[Nat.testBit_mod_two_pow,Nat.testBit_shiftRight] at dY
     simp only[al] at dY
     exact Pre.far ho (fH e (by simp)) hb (hM e.on k hk dY.2)
   ·exact IM hM ho es m (λx hx=>fH x (by simp[hx])) hm j hj h
theorem Ix {ops:Array Oper}:∀(os:List Oper) (i M:Nat),(∀k,os[k]? = ops[i+k]?)→EO ops M→EO ops (rows os i M)
 | [],_,_,_,hM=>hM
 | o :: os, i, M, hs, hM => by
   simp only[rows,Ga]
   have ho:ops[i]? = some o:=by simpa using(hs 0).symm
   refine Ix os (i+1) _ (λk=>by have:=hs (k+1); simp only[cH] at this; rw[this]; congr 1; omega) ?_
   intro a j hj h
   simp only[Nat.testBit_or,bA] at h
   rcases h with h|h
   ·exact hM a j hj h
   ·rw[Nat.testBit_shiftLeft,Nat.testBit_mod_two_pow] at h
    simp only[al,aq] at h
    obtain⟨h1,h2,h3⟩:=h
    have hw:wide=1024:=rfl
    have ha:a=i:=by omega
    subst ha
    rw[Nat.add_sub_cancel_left] at h3
    exact IM hM ho o.after.toList 0 (by simp) (by simp) j hj h3
def EP (M:Nat) (pos:List PO) (i j:Nat):Bool:=
 (match pos[j]?,pos[i]? with
 | some p,some q=>DN j p i q
 | _,_=>false)||(decide (j<1024)&&M.testBit (i*1024+j))
def Iy (ops:Array Oper) (pos:List PO) (M:Nat):Bool:=
 (List.range ops.size).all λi=>(match ops[i]? with | some o=>o.after.all (λe => !Region.binds .any e||decide (e.on<i)) | none=>true)&&(List.range i).all (EP M pos i)
def CA (ops:Array Oper) (pos:List PO):Bool:=Ge (rows ops.toList 0 0) (Iy ops pos)
def FZ (ops:Array Oper) (listed:Array Bool):Prop:=
 ∀(k:Nat) (o:Oper),ops[k]? = some o→listed.getD k false=true→∀e∈o.after,Region.binds .any e=true→listed.getD e.on false=true
theorem LQ {ops:Array Oper} {listed:Array Bool} (dN:FZ ops listed) {j i:Nat} (h:Pre ops j i):∀{o:Oper},ops[i]? = some o→(∀e∈o.after,Region.binds .any e=true→listed.getD e.on false=true)→listed.getD j false=true:=by
 induction h with
 | edge ho he hb=>intro o eL hl; rw[ho] at eL; cases eL; exact hl _ he hb
 | @far i j o1 e ho he hb hp ih =>
   intro o eL hl; rw[ho] at eL; cases eL
   have uJ:=hl _ he hb
   cases h':ops[e.on]? with
   | none => exfalso; cases hp with
     | edge h1=>rw[h'] at h1; cases h1
     | far h1=>rw[h'] at h1; cases h1
   | some o'=>exact ih h' (dN e.on o' h' uJ)
def xH (n:Nat) (listed:Array Bool):List Nat:=(List.range n).filter λi => !listed.getD i false
theorem LP {l:List Nat} {f:Nat→Bool} {i:Nat} (hs:l.Pairwise (·<·)) (hi:i∈l) (hf:f i=true):
  ∃pre post,l.filter f=pre++i::post∧(∀j∈pre,j<i∧j∈l∧f j=true)∧l.filter (λk=>f k&&k != i)=pre++post:=by
 induction l with
 | nil=>simp at hi
 | cons x xs ih =>
   rw[List.pairwise_cons] at hs
   rcases ay.1 hi with rfl|hi
   ·refine⟨[],xs.filter f,by simp[hf],by simp,?_⟩
    simp only[List.filter_cons,hf,bne_self_eq_false,Bool.and_false,aH,if_false,aY]
    apply List.filter_congr
    intro k hk
    have:k≠i:=λe=>by have:=hs.1 k hk; omega
    simp[this]
   ·obtain⟨pre,post,h1,h2,h3⟩:=ih hs.2 hi
    have cQ:=hs.1 i hi
    have da:(x != i)=true:=by simp; omega
    by_cases hx:f x=true
    ·refine⟨x::pre,post,by simp[hx,h1],?_,by simp[List.filter_cons,hx,da,h3]⟩
     intro j hj
     rcases ay.1 hj with rfl|hj
     ·exact ⟨cQ,by simp,hx⟩
     ·obtain⟨a,b,c⟩:=h2 j hj
      exact ⟨a,by simp[b],c⟩
    ·refine⟨pre,post,by simp[hx,h1],?_,by simp[List.filter_cons,hx,h3]⟩
     intro j hj
     obtain⟨a,b,c⟩:=h2 j hj
     exact ⟨a,by simp[b],c⟩
section
variable {E:Env} {N:Nm} {vs:List Tmp} {P:Program} {ops:Array Oper} {Q:Exit→Act→World→Prop}
theorem c0k {L:Nat→Option PFunc} (hF:yr N P L) (hE:EnvOk E N) (hP:E.P=P) (nm:Names vs (wk vs ops.toList)) {cf:wu} (dE:CallOK N P cf)
  (ec:∀k args h r,cf k args h=some r→∃f,L k=some f) {pos:List PO} (hc:B9 E vs ops.toList ops.toList=some pos) (eX:CA ops pos=true):
  ∀ (fuel : Nat) {listed : Array Bool} {st st' : St} {w : World} {G : GS} {a : Act}, listed.size = ops.size → (xH ops.size listed).length ≤ fuel → FZ ops listed → ye cf pos (xH ops.size listed) st = some st' →
    FI N w G st a vs (wk vs ops.toList)→Next1 N w G a st' vs ops.toList (Q .normal)→wpAny P .any ops Q fuel listed a w:=by
 have cM:ops.size=pos.length:=by have:=(CC hc).1; simpa using this
 have rj:EO ops (rows ops.toList 0 0):=Ix _ _ _ (by simp) (λi j _ h=>by simp at h)
 have eX:Iy ops pos (rows ops.toList 0 0)=true:=by rw[CA,Ga] at eX; exact eX
 have j6:∀i o,ops[i]? = some o→∀e∈o.after,Region.binds .any e=true→e.on<i:=by
  intro i o ho e he hb
  have hi:i<ops.size:=(ba.1 ho).1
  have:=aD.1 eX i (by simpa using hi)
  simp only[ho,al,Array.all_eq_true_iff_forall_mem] at this
  have:=this.1 e he
  simpa[hb] using this
 have j7:∀i j,i<ops.size→j<i→EP (rows ops.toList 0 0) pos i j=true:=by
  intro i j hi hj
  have:=aD.1 eX i (by simpa using hi)
  simp only[al] at this
  exact aD.1 this.2 j (by simpa using hj)
 have iK:∀{listed:Array Bool},listed.size=ops.size→Region.ready .any ops listed=[]→xH ops.size listed=[]:=by
  intro listed cS hr
  rcases List.eq_nil_or_concat (xH ops.size listed) with h|⟨_,_,h⟩
  ·exact h
  ·exfalso
   cases fc:xH ops.size listed with
   | nil=>rw[fc] at h; simp at h
   | cons m rest =>
     have hm:m∈xH ops.size listed:=by rw[fc]; simp
     simp only[xH,List.mem_filter,cA,bz] at hm
     have ia:(xH ops.size listed).Pairwise (·<·):=List.Pairwise.filter _ List.pairwise_lt_range
     rw[fc,List.pairwise_cons] at ia
     have kZ:m∈Region.ready .any ops listed:=by
      rw[mem_ready]
      refine⟨?_,ops[m],by simp[hm.1],?_⟩
      ·have:=hm.2
       simp only[aM] at this ⊢
       have cQ:m<listed.size:=by omega
       simpa[cQ] using this
      ·intro e he hb
       have cQ:=j6 m ops[m] (by simp[hm.1]) e he hb
       cases hl:listed.getD e.on false with
       | true=>rfl
       | false =>
         have dC:e.on∈xH ops.size listed:=by
          simp only[xH,List.mem_filter,cA,hl,Bool.not_false,and_true]
          omega
         rw[fc] at dC
         rcases ay.1 dC with h|h
         ·omega
         ·have:=ia.1 _ h; omega
     rw[hr] at kZ
     simp at kZ
 intro fuel
 induction fuel with
 | zero =>
   intro listed st st' w G a cS hl dN hx hf hk
   have h0:xH ops.size listed=[]:=bj.1 (by omega)
   rw[h0] at hx
   simp[ye] at hx; subst hx
   refine⟨?_,hk _ _ G hf (Ext.refl _ _) rfl⟩
   refine List.eq_nil_iff_forall_not_mem.2 λi hi =>?_
   rw[mem_ready] at hi
   obtain⟨gO,o,ho,_⟩:=hi
   have cQ:i<ops.size:=(ba.1 ho).1
   have:i∈xH ops.size listed:=by
    simp only[xH,List.mem_filter,cA,cQ,true_and]
    have lc:i<listed.size:=by omega
    simp only[aM] at gO ⊢
    simpa[lc] using gO
   rw[h0] at this
   simp at this
 | succ fuel ih =>
   intro listed st st' w G a cS hl dN hx hf hk
   refine⟨?_,?_⟩
   ·intro hr
    rw[iK cS hr] at hx
    simp[ye] at hx; subst hx
    exact hk _ _ G hf (Ext.refl _ _) rfl
   ·intro i hi
    rw[mem_ready] at hi
    obtain⟨gO,o,ho,fB⟩:=hi
    have cQ:i<ops.size:=(ba.1 ho).1
    have ib:listed.getD i false=false:=by
     have lc:i<listed.size:=by omega
     simp only[aM] at gO ⊢
     simpa[lc] using gO
    obtain⟨q,hq,uK⟩:=(CC hc).2 i o (by simpa using ho)
    obtain⟨pre,post,e1,e2,e3⟩:=LP (f:=λk => !listed.getD k false) (List.pairwise_lt_range (n:=ops.size)) (by simpa using cQ) (by simp only[ib]; rfl)
    have eA:ye cf pos (i::(pre++post)) st=some st':=by
     refine Iw hq ?_ (by rw[← e1]; exact hx)
     intro j hj
     obtain⟨a1,a2,a3⟩:=e2 j hj
     refine⟨by omega,λp hp =>?_⟩
     have lM:=j7 i j cQ a1
     simp only[EP,hp,hq,bA] at lM
     rcases lM with h|h
     ·exact LR h
     ·simp only[al,aq] at h
      have:=LQ dN (rj i j h.1 h.2) ho fB
      simp only[this] at a3
      simp at a3
    simp only[ye,hq,ae] at eA
    obtain⟨st1,eb,oj⟩:=eA
    refine F4 hF hE hP nm ho hf dE ec uK eb ?_
    intro a' w' G' iX he eU
    have fc:xH ops.size (listed.setIfInBounds i true)=pre++post:=by
     rw[← e3]
     unfold xH
     apply List.filter_congr
     intro k dh
     by_cases ic:k=i
     ·subst ic
      have lc:k<listed.size:=by omega
      simp[aM,bb,lc]
     ·rw[getD_set_ne _ (Ne.symm ic)]
      simp[ic]
    refine ih (by simp[cS]) ?_ ?_ (by rw[fc]; exact oj) iX (hk.trans he eU)
    ·rw[fc]
     have:(xH ops.size listed).length=(pre++i::post).length:=by unfold xH; rw[e1]
     simp at this ⊢
     omega
    ·intro k o' eL gQ e dx hb
     by_cases ic:k=i
     ·subst ic
      have:o'=o:=by rw[ho] at eL; simpa using eL.symm
      subst this
      exact getD_set_true (fB e dx hb)
     ·rw[getD_set_ne _ (Ne.symm ic)] at gQ
      exact getD_set_true (dN k o' eL gQ e dx hb)
end
end PI
set_option linter.unusedSimpArgs false
set_option linter.unusedVariables false
namespace PI
open Go
def W (r:Option Nat):Fence:={ Fence.wide with round:=r }
section
variable {P:Program} {r:Option Nat} {n:Nat} {ops:Array Oper} {Q:Exit→Act→World→Prop}
theorem Ah (f:FuncId):(W r).fn f:=trivial
theorem EL (k:Nat):(W r).room k:=λd h=>by simp[W,Fence.wide] at h
theorem DL:(W r).depth.isSome=true→1≤n:=λh=>by simp[W,Fence.wide] at h
theorem F9 {f:FuncId} {args:Array Value} {w:World} {R:Ending→World→Prop} (h:Calls P f args w R):CallsIn (W r) n P f args w R:=(callsIn_wide (n:=n)).2 h
theorem b8K {f:FuncId} {args:Array Value} {w:World} {R:Ending→World→Prop} (h:CallsIn (W r) n P f args w R):Calls P f args w R:=(callsIn_wide (n:=n)).1 h
theorem d19 {row:String} {args:Array Value} {w:World} {R:Value→World→Prop} (h:Rows P row args w R):RowsIn (W r) n P row args w R:=
 λc cs _=>let ⟨v,w',hr,hs⟩:=h c cs; ⟨v,w',hr,stepsIn_wide.2 hs⟩
theorem c4B {o:Oper} {a:Act} {w:World} {K:Act→World→Prop} (hd:∀c,o.op≠.defer c) (h:o.wp P a w K Q):o.wpIn (W r) n P a w K Q:=by
 refine⟨λ_ _=>Ah _,?_⟩
 rw[Oper.semAt_eq _ _ _ hd]
 unfold Oper.wp at h
 generalize (execOp a.eval o).run P w=res at h
 cases res with
 | ok x w' =>
   cases x<;>simp only[Oper.upon] at h<;>simp only[Oper.uponIn]<;>first|exact h|exact⟨DL,F9 h⟩|exact⟨DL,d19 h⟩|exact h.elim
 | halt x w'=>cases x<;>simp only[Oper.upon] at h<;>simp only[Oper.uponIn]<;>first | exact h | exact h.elim
theorem Ie {i:Nat} {a:Act} {w:World} {K:Act→World→Prop} (hd:∀o c,ops[i]? = some o→o.op≠.defer c) (hQ:¬LetsOut Q) (h:wpOp P ops Q i K a w):wpOpIn (W r) n P ops Q i K a w:=by
 unfold wpOp at h
 unfold wpOpIn
 split
 ·rename_i ho; simp only[ho] at h; exact h
 ·rename_i o ho
  simp only[ho] at h
  split
  ·rename_i hw
   simp only[hw,if_true] at h
   rcases h with h|h
   ·exact c4B (λc=>hd o c ho) h
   ·exact absurd h.2 hQ
  ·rename_i hw
   simp only[hw] at h
   exact⟨λ_ _=>Ah _,h⟩
theorem Ia (hd:∀(i:Nat) o c,ops[i]? = some o→o.op≠.defer c) (hQ:¬LetsOut Q):∀{l:List Nat} {a:Act} {w:World},wpOps P ops Q l a w→wpOpsIn (W r) n P ops Q l a w
 | [],_,_,h=>h
 | i :: l, a, w, h => by
   rw[wpOps_cons] at h
   rw[wpOpsIn_cons]
   exact wpOpIn_mono (λa w h=>Ia hd hQ h) (Ie (λo c=>hd i o c) hQ h)
def Is (P:Program) (l:Nat) (R:Ending→World→Prop):Exit→Act→World→Prop
 | .normal,_,w=>∃v w',(Instr.endRound l none).run P w = .ok v w'∧R (.returned v) w'
 | .ret,_,w=>∃v w',(Instr.endRound l (some .ret)).run P w = .ok v w'∧R (.returned v) w'
 | .exit id,_,w=>∃v w',(Instr.endRound l (some (.exit id))).run P w = .ok v w'∧R (.returned v) w'
 | .panic chain,a,w=>a.defers=[]∧R (.panicked chain) w
 | _,_,_=>False
theorem zm (m:Machine):m.fenced P (W r):=fenced_wide P m
theorem b1y {fr c:Frame} {cs:List Frame} {w:World} {chain:List PanicEntry} {fn:Func} (hm:fr.mode = .panicking chain) (hd:fr.defers=[]) (hf:P.funcs[fr.fn]? = some fn):
  step P (lone fr (c::cs) w) = .next (lone (c.raise chain) cs w):=
 step_lone_go (by simp[stepG,unwind,Frame.catches,hm,hd,hf])
end
noncomputable def zk (cf:wu) (ob:xX) (pos:List PO):List Nat→St→Option (Option PV×St)
 | [],st=>some (none,st)
 | i :: l, st =>
   match pos[i]? with
   | some p => match yq cf ob i p st with
     | some (none,st)=>zk cf ob pos l st
     | r=>r
   | none=>none
section
variable {cf:wu} {ob:xX} {pos:List PO}
theorem LM {j:Nat} {p:PO} {st:St} (h:isB p=false):yq cf ob j p st=(xG cf j p st).map λst=>(none,st):=by
 unfold yq
 unfold isB at h
 split
 ·rename_i h1 h2; rw[h1] at h; simp at h
 ·rename_i h1 h2; rw[h1] at h; simp at h
 ·rename_i h1 h2; rw[h1] at h; simp at h
 ·rename_i h1 h2; rw[h1] at h; simp at h
 ·rfl
theorem Iu:∀{l:List Nat} {st:St},(∀i∈l,∀p,pos[i]? = some p→isB p=false)→zk cf ob pos l st=(ye cf pos l st).map λst=>(none,st)
 | [],st,_=>rfl
 | i :: l, st, h => by
   simp only[zk,ye]
   cases hp:pos[i]? with
   | none=>rfl
   | some p =>
     simp only[LM (h i (by simp) p hp)]
     cases xG cf i p st with
     | none=>rfl
     | some st1=>simpa using Iu (λj hj=>h j (by simp[hj]))
theorem Iv:∀(l1 l2:List Nat) (st:St),zk cf ob pos (l1++l2) st=match zk cf ob pos l1 st with
  | some (none,st)=>zk cf ob pos l2 st
  | r=>r
 | [],l2,st=>rfl
 | i :: l1, l2, st => by
   simp only[aJ,zk]
   cases hp:pos[i]? with
   | none=>rfl
   | some p =>
     simp only
     cases yq cf ob i p st with
     | none=>rfl
     | some x =>
       obtain⟨y,st1⟩:=x
       cases y with
       | none=>exact Iv l1 l2 st1
       | some v=>rfl
theorem Li {all:List PO}:∀{os:List PO} {j:Nat} {st:St},all.drop j=os→xJ cf ob j os st=zk cf ob all (List.range' j os.length) st
 | [],j,st,_=>rfl
 | o :: os, j, st, h => by
   have hj:all[j]? = some o:=by
    have:=aE List.head? h
    simpa[List.head?_drop] using this
   have ht:all.drop (j+1)=os:=by
    have:=aE List.tail h
    simpa[List.tail_drop] using this
   simp only[xJ,aP,List.range'_succ,zk,hj]
   cases yq cf ob j o st with
   | none=>rfl
   | some x =>
     obtain⟨y,st1⟩:=x
     cases y with
     | none=>exact Li ht
     | some v=>rfl
theorem b61 {i:Nat} {q:PO} (hi:pos[i]? = some q) {pre post:List Nat} {st:St} {r:Option PV×St} (hb:pre≠[]→isB q=false) (fB:∀j∈pre,∀p,pos[j]? = some p→isB p=false)
  (hc:∀j∈pre,j≠i∧∀p,pos[j]? = some p→Comm j p i q) (h:zk cf ob pos (pre++i::post) st=some r):zk cf ob pos (i::(pre++post)) st=some r:=by
 cases pre with
 | nil=>exact h
 | cons j0 pre0 =>
   have hq:isB q=false:=hb (by simp)
   generalize fw:j0::pre0=pre at *
   have e1:pre++i::post=(pre++[i])++post:=by simp
   have e2:i::(pre++post)=(i::pre)++post:=rfl
   have p1:∀k∈pre++[i],∀p,pos[k]? = some p→isB p=false:=by
    intro k hk p hp
    rcases ak.1 hk with hk|hk
    ·exact fB k hk p hp
    ·simp at hk; subst hk; rw[hi] at hp; simp at hp; subst hp; exact hq
   have p2:∀k∈i::pre,∀p,pos[k]? = some p→isB p=false:=by
    intro k hk p hp
    rcases ay.1 hk with rfl|hk
    ·rw[hi] at hp; simp at hp; subst hp; exact hq
    ·exact fB k hk p hp
   rw[e1,Iv,Iu p1] at h
   rw[e2,Iv,Iu p2]
   cases hx:ye cf pos (pre++[i]) st with
   | none=>rw[hx] at h; simp at h
   | some st1 =>
     have:=Iw hi hc (post:=[]) hx
     rw[aV] at this
     rw[this]
     rw[hx] at h
     exact h
theorem LN {p:PO} (h:isB p=true):w8 p.op=2:=by
 unfold isB at h
 split at h<;>first|(rename_i e; rw[e]; rfl)|simp at h
theorem LO {i j:Nat} {p q:PO} (h:DN j p i q=true):isB p=false∧isB q=false:=by
 simp only[DN,al,bne_iff_ne,ne_eq] at h
 obtain⟨h1,h2⟩:=h.1.1.1.1.1.1.1.1.1.1.1
 exact⟨by cases hp:isB p with | false=>rfl | true=>exact absurd (LN hp) h1,by cases hp:isB q with | false=>rfl | true=>exact absurd (LN hp) h2⟩
end
theorem c4D {ops:Array Oper} {pos:List PO} {cf:wu} {ob:xX} (cM:ops.size=pos.length) (eX:CA ops pos=true):
  ∀ (fuel t : Nat) {listed : Array Bool} {st : St} {r : Option PV × St}, listed.size = ops.size → (xH ops.size listed).length ≤ fuel → FZ ops listed → zk cf ob pos (xH ops.size listed) st = some r →
    zk cf ob pos (Region.linearise.go .any ops fuel t listed []) st=some r:=by
 have rj:EO ops (rows ops.toList 0 0):=Ix _ _ _ (by simp) (λi j _ h=>by simp at h)
 have eX:Iy ops pos (rows ops.toList 0 0)=true:=by rw[CA,Ga] at eX; exact eX
 have j6:∀i o,ops[i]? = some o→∀e∈o.after,Region.binds .any e=true→e.on<i:=by
  intro i o ho e he hb
  have hi:i<ops.size:=(ba.1 ho).1
  have:=aD.1 eX i (by simpa using hi)
  simp only[ho,al,Array.all_eq_true_iff_forall_mem] at this
  have:=this.1 e he
  simpa[hb] using this
 have j7:∀i j,i<ops.size→j<i→EP (rows ops.toList 0 0) pos i j=true:=by
  intro i j hi hj
  have:=aD.1 eX i (by simpa using hi)
  simp only[al] at this
  exact aD.1 this.2 j (by simpa using hj)
 have iK:∀{listed:Array Bool},listed.size=ops.size→Region.ready .any ops listed=[]→xH ops.size listed=[]:=by
  intro listed cS hr
  rcases List.eq_nil_or_concat (xH ops.size listed) with h|⟨_,_,h⟩
  ·exact h
  ·exfalso
   cases fc:xH ops.size listed with
   | nil=>rw[fc] at h; simp at h
   | cons m rest =>
     have hm:m∈xH ops.size listed:=by rw[fc]; simp
     simp only[xH,List.mem_filter,cA,bz] at hm
     have ia:(xH ops.size listed).Pairwise (·<·):=List.Pairwise.filter _ List.pairwise_lt_range
     rw[fc,List.pairwise_cons] at ia
     have kZ:m∈Region.ready .any ops listed:=by
      rw[mem_ready]
      refine⟨?_,ops[m],by simp[hm.1],?_⟩
      ·have:=hm.2
       simp only[aM] at this ⊢
       have cQ:m<listed.size:=by omega
       simpa[cQ] using this
      ·intro e he hb
       have cQ:=j6 m ops[m] (by simp[hm.1]) e he hb
       cases hl:listed.getD e.on false with
       | true=>rfl
       | false =>
         have dC:e.on∈xH ops.size listed:=by
          simp only[xH,List.mem_filter,cA,hl,Bool.not_false,and_true]
          omega
         rw[fc] at dC
         rcases ay.1 dC with h|h
         ·omega
         ·have:=ia.1 _ h; omega
     rw[hr] at kZ
     simp at kZ
 intro fuel
 induction fuel with
 | zero =>
   intro t listed st r cS hl dN hx
   have h0:xH ops.size listed=[]:=bj.1 (by omega)
   rw[h0] at hx
   simpa[Region.linearise.go] using hx
 | succ fuel ih =>
   intro t listed st r cS hl dN hx
   simp only[Region.linearise.go]
   change zk cf ob pos (match (Region.ready .any ops listed)[t % (Region.ready .any ops listed).length]? with
    | some i=>Region.linearise.go .any ops fuel (t / (Region.ready .any ops listed).length) (listed.setIfInBounds i true) [i]
    | none=>[].reverse) st=some r
   cases hi:(Region.ready .any ops listed)[t % (Region.ready .any ops listed).length]? with
   | none =>
     have j8:Region.ready .any ops listed=[]:=by
      cases hr:Region.ready .any ops listed with
      | nil=>rfl
      | cons x xs =>
        rw[hr] at hi
        have cQ:t % (x::xs).length<(x::xs).length:=cd _ (by simp)
        simp at hi
        simp at cQ
        omega
     rw[iK cS j8] at hx
     simpa using hx
   | some i =>
     simp only[]
     rw[linearise_go_acc,List.reverse_singleton,List.singleton_append]
     have hi:=ax hi
     rw[mem_ready] at hi
     obtain⟨gO,o,ho,fB⟩:=hi
     have cQ:i<ops.size:=(ba.1 ho).1
     have ib:listed.getD i false=false:=by
      have lc:i<listed.size:=by omega
      simp only[aM] at gO ⊢
      simpa[lc] using gO
     obtain⟨q,hq⟩:∃q,pos[i]? = some q:=⟨pos[i],av (by omega)⟩
     obtain⟨pre,post,e1,e2,e3⟩:=LP (f:=λk => !listed.getD k false) (List.pairwise_lt_range (n:=ops.size)) (by simpa using cQ) (by simp only[ib]; rfl)
     have f0:∀j∈pre,j<i∧∀p,pos[j]? = some p→DN j p i q=true:=by
      intro j hj
      obtain⟨a1,a2,a3⟩:=e2 j hj
      refine⟨by omega,λp hp =>?_⟩
      have lM:=j7 i j cQ a1
      simp only[EP,hp,hq,bA] at lM
      rcases lM with h|h
      ·exact h
      ·simp only[al,aq] at h
       have:=LQ dN (rj i j h.1 h.2) ho fB
       simp only[this] at a3
       simp at a3
     have eA:zk cf ob pos (i::(pre++post)) st=some r:=by
      refine b61 hq ?_ (λj hj p hp=>(LO ((f0 j hj).2 p hp)).1) (λj hj=>⟨by have:=(f0 j hj).1; omega,λp hp=>LR ((f0 j hj).2 p hp)⟩) (by rw[← e1]; exact hx)
      intro da
      cases pre with
      | nil=>exact absurd rfl da
      | cons j0 _ =>
        have nn:j0<pos.length:=by have:=(f0 j0 (by simp)).1; omega
        exact(LO ((f0 j0 (by simp)).2 pos[j0] (av nn))).2
     simp only[zk,hq] at eA ⊢
     cases hs:yq cf ob i q st with
     | none=>rw[hs] at eA; exact eA
     | some y =>
       obtain⟨z,st1⟩:=y
       rw[hs] at eA
       cases z with
       | some v=>exact eA
       | none =>
         simp only at eA ⊢
         have fc:xH ops.size (listed.setIfInBounds i true)=pre++post:=by
          rw[← e3]
          unfold xH
          apply List.filter_congr
          intro k dh
          by_cases ic:k=i
          ·subst ic
           have lc:k<listed.size:=by omega
           simp[aM,bb,lc]
          ·rw[getD_set_ne _ (Ne.symm ic)]
           simp[ic]
         refine ih _ (by simp[cS]) ?_ ?_ (by rw[fc]; exact eA)
         ·rw[fc]
          have:(xH ops.size listed).length=(pre++i::post).length:=by unfold xH; rw[e1]
          simp at this ⊢
          omega
         ·intro k o' eL gQ e dx hb
          by_cases ic:k=i
          ·subst ic
           have:o'=o:=by rw[ho] at eL; simpa using eL.symm
           subst this
           exact getD_set_true (fB e dx hb)
          ·rw[getD_set_ne _ (Ne.symm ic)] at gQ
           exact getD_set_true (dN k o' eL gQ e dx hb)
end PI
set_option linter.unusedSimpArgs false
set_option linter.unusedVariables false
namespace PI
open Go Go.RowKit
def GS.callee (G:GS):GS:={ fix:=G.fix,heap:=G.heap,box:=λ_=>none,ow:=yZ G.ow }
section
variable {E:Env} {N:Nm} {w:World} {G:GS} {st:St} {a:Act} {vs:List Tmp} {lm:Nat→Option Tmp} {P:Program}
theorem DB (hf:FI N w G st a vs lm):Between N w G.callee st.heap:=
 ⟨⟨λb k h=>(DK h).2,λ_=>rfl⟩,hf.fixlt,λb k h=>hf.owlt b k (DK h).1,hf.heap.sub rfl rfl (λb k hk h=>Iq h hk),hf.hdom⟩
theorem F6 (hf:FI N w G st a vs lm) {w':World} {G2:GS} {h':List PObj} (he:Ext w G.callee w' G2) (dy:Between N w' G2 h'):
  ∃G',Ext w G w' G'∧FI N w' G' { st with heap:=h' } a vs lm∧G'.fix=G2.fix∧G'.heap=G2.heap:=by
 let Gc:GS:=G.callee
 let G':GS:={ fix:=G2.fix,heap:=G2.heap,box:=G.box,ow:=λb=>match G.ow b with | some k=>if k.isH then G2.ow b else some k | none=>G2.ow b,df:=G.df }
 have cL:Ext w G w' G':=by
  refine⟨he.os,he.tape,he.output,he.size,λb cQ h=>he.same b cQ (by simp[GS.callee,yZ,h]),λb o h=>he.fix b o h,?_,?_,he.heap,he.shape,rfl⟩
  ·intro b o h
   rcases he.newfix b o h with h|h|h
   ·exact .inl h
   ·exact .inr (.inl h)
   ·refine .inr (.inr ?_)
    intro e
    apply h
    simp[GS.callee,yZ,e]
  ·intro b h
   cases hb:G.ow b with
   | some k=>exact .inr (by simp)
   | none =>
     simp only[G',hb] at h
     rcases he.own b h with h|h
     ·exact .inl h
     ·exact absurd (by simp[GS.callee,yZ,hb]) h
 have cP:xq (λk=>k.isH=true) w G w' G':=by
  refine⟨?_,λ_ _ h=>h⟩
  intro b key cX hn
  have fD:=hf.owlt _ _ cX
  have eg:Gc.ow b=none:=by simp[Gc,GS.callee,yZ,cX,hn]
  refine⟨by simp[G',cX,hn],he.same b fD eg,?_⟩
  intro o h
  rcases he.newfix b o h with h|h|h
  ·exact h
  ·omega
  ·exact absurd eg h
 have dU:HR N w' G' h':=by
  refine dy.heap.sub rfl rfl ?_
  intro b k vU h
  cases hb:G.ow b with
  | none=>simp only[G',hb]; exact h
  | some k0 =>
    by_cases lH:k0.isH=true
    ·simp only[G',hb,lH,if_true]; exact h
    ·have eg:Gc.ow b=none:=by simp[Gc,GS.callee,yZ,hb,lH]
     have cQ:=hf.owlt _ _ hb
     rcases he.own b (by rw[h]; simp) with h2|h2
     ·omega
     ·exact absurd eg h2
 have de:FI N w' G' { st with heap:=h' } a vs lm:=by
  refine⟨hf.len,λi t u h1 h2=>(hf.var i t u h1 h2).keep cL cP (by simp[Key.isH]) (by simp[Key.isH]),λj t u h1 h2=>(hf.loc j t u h1 h2).keep cL cP (by simp[Key.isH]) (by simp[Key.isH]),hf.tv,hf.tl,(hf.defers.trans cL.df.symm),hf.gen,?_,dy.fixlt,dU,dy.hdom⟩
  intro b k h
  cases hb:G.ow b with
  | some k0=>exact aK (hf.owlt _ _ hb) he.size
  | none =>
    simp only[G',hb] at h
    exact dy.owlt _ _ h
 exact⟨G',cL,de,rfl,rfl⟩
def Ai (N:Nm) (w':World) (G':GS) (e:Ending):Out→Prop
 | .val r=>∃v,e = .returned v∧VR N w' G'.fix G'.heap v r
 | .boom p=>∃v,e = .panicked [{ v,recovered:=false }]∧VR N w' G'.fix G'.heap v p
def Dy (N:Nm) (P:Program) (ob:xX):Prop:=
 ∀ (k : Nat) (args : List PV) (o : Out) (h h' : List PObj), ob k args h = some (o, h') → N.yl k = none → ∀ (w : World) (G : GS) (vals : Array Value), Between N w G h → vals.size = args.length →
   (∀(i:Nat) (v:Value) (p:PV),vals[i]? = some v→args[i]? = some p→VR N w G.fix G.heap v p) →
   Calls P (N.fn k) vals w λe w'=>∃G',Ai N w' G' e o∧Ext w G w' G'∧Between N w' G' h'
def ED (N:Nm) (P:Program) (ob:xX):Prop:=
 ∀ (k : Nat) (y : YL) (n l : Nat) (tmps : Array Value) (caps args : List PV) (o : Out) (h h' : List PObj), N.yl k = some y → ob k (.ptr n 0 :: caps ++ args) h = some (o, h') → ∀ (w : World) (G : GS) (vals : Array Value), Between N w G h →
   VR N w G.fix G.heap (.func (.yield l) #[] #[]) (.func k (.ptr n 0::caps) [])→vals.size=args.length→(∀(i:Nat) (v:Value) (p:PV),vals[i]? = some v→args[i]? = some p→VR N w G.fix G.heap v p) →
   ∃tmps',(Instr.yield l vals).run P w = .ok (.round l y.fn tmps' y.assign y.body) w∧∀r n',RoundIn (W r) n' P l y.fn tmps' y.assign y.body w λe w'=>∃G',Ai N w' G' e o∧Ext w G w' G'∧Between N w' G' h'
variable {ops:Array Oper} {o:Oper} {j:Nat} {Q:Exit→Act→World→Prop} {K:Act→World→Prop} {r:Option Nat} {n:Nat}
def HO (N:Nm) (w:World) (G:GS) (a:Act) (st1:St) (vs:List Tmp) (lm:Nat→Option Tmp) (p:PV) (Q:Exit→Act→World→Prop):Prop:=
 ∀w' G' v,VR N w' G'.fix G'.heap v p→Ext w G w' G'→FI N w' G' st1 a vs lm→Q (.panic [{ v,recovered:=false }]) a w'
theorem KV (nm:Names vs (wk vs ops.toList)) (ho:ops[j]? = some o) (hf:FI N w G st a vs (wk vs ops.toList)) {out:Out} {h':List PObj} (hQ:¬LetsOut Q)
  (hv:∀u,out = .val u→Next1 N w G a (put { st with heap:=h' } j (wO vs o.dst) (dem u)) vs ops.toList K) (hb:∀p,out = .boom p→HO N w G a { st with heap:=h' } vs (wk vs ops.toList) p Q)
  {e:Ending} {w':World} {G2:GS} (h:Ai N w' G2 e out) (he:Ext w G.callee w' G2) (dy:Between N w' G2 h'):
  (match e with
   | .returned v=>K (a.put o.dst v) w'
   | .panicked chain=>Q (.panic chain) a w'
   | .outgrown=>LetsOut Q):=by
 obtain⟨G',cL,de,e1,e2⟩:=F6 hf he dy
 cases out with
 | val u =>
   obtain⟨v,rfl,cT⟩:=h
   have fE:VR N w' G'.fix G'.heap v (dem u):=by rw[e1,e2]; exact cT.dem
   exact hv u rfl _ _ G' (de.put nm (yV (by simpa using ho)) (SR.of_pure fE cT.cp_dem)) cL (yW _ _ _)
 | boom p =>
   obtain⟨v,rfl,cT⟩:=h
   exact hb p rfl w' G' v (by rw[e1,e2]; exact cT) cL de
theorem P4 {c:Call} (cN:o.op = .call c) (ρ:Operand→Value):o.semAt (W r).round ρ=execOp ρ o:=Oper.semAt_eq _ _ _ (λc' h=>by rw[cN] at h; cases h)
theorem P5 {L:Nat→Option PFunc} (hF:yr N P L) (hE:EnvOk E N) (nm:Names vs (wk vs ops.toList)) (ho:ops[j]? = some o) (hf:FI N w G st a vs (wk vs ops.toList)) {ob:xX} (dB:Dy N P ob) (iD:∀k args h x,ob k args h=some x→∃f,L k=some f)
  {f:FuncId} {k:Nat} {xs:Array Operand} {ts:Array TypeId} {pxs:List PX} {args:List PV} (cN:o.op = .call { callee := .value (.func f),args:=xs,argTypes:=ts }) (dh:E.inv f=some k) (hx:cxs E vs ops.toList xs.toList=some pxs)
  (eG:rdAll st pxs=some args) {out:Out} {h':List PObj} (hc:ob k args st.heap=some (out,h')) (hQ:¬LetsOut Q)
  (hv:∀u,out = .val u→Next1 N w G a (put { st with heap:=h' } j (wO vs o.dst) (dem u)) vs ops.toList K) (hb:∀p,out = .boom p→HO N w G a { st with heap:=h' } vs (wk vs ops.toList) p Q):o.wpIn (W r) n P a w K Q:=by
 obtain⟨h1,h2⟩:=AG hE hf hx eG
 obtain⟨g1,g2⟩:=Cr (w:=w) (G:=G) h1 h2
 obtain⟨pf,hL⟩:=iD _ _ _ _ hc
 have ei:=hE.fn _ _ dh
 refine⟨λ_ _=>Ah _,?_⟩
 rw[P4 cN]
 have cO:(execOp a.eval o).run P w = .ok (.enter (N.fn k) (xs.map a.eval)) w:=by
  have:=BK hF hL (xs.map a.eval) w
  rw[ei] at this
  rw[ei]
  simp[execOp,cN,resolve,Act.eval,Deferred.ofValue,invoke]
  exact this
 rw[cO,Oper.uponIn_enter]
 refine⟨DL,F9 ?_⟩
 refine(dB k args out st.heap h' hc (hE.yl _ _ dh) w G.callee (xs.map a.eval) (DB hf) g1 g2).mono ?_
 rintro e w' ⟨G2,hR,he,dy⟩
 have:=KV nm ho hf hQ hv hb hR he dy
 cases e<;>exact this
theorem P6 {L:Nat→Option PFunc} (hF:yr N P L) (hE:EnvOk E N) (nm:Names vs (wk vs ops.toList)) (ho:ops[j]? = some o) (hf:FI N w G st a vs (wk vs ops.toList)) {ob:xX} (dB:Dy N P ob) (dW:ED N P ob) (iD:∀k args h x,ob k args h=some x→∃f,L k=some f)
  {t:Tmp} {px:PX} {k:Nat} {first captured:List PV} {xs:Array Operand} {ts:Array TypeId} {pxs:List PX} {args:List PV} (cN:o.op = .call { callee := .value (.tmp t),args:=xs,argTypes:=ts }) (fv:cx E vs ops.toList (.tmp t)=some px) (hx:cxs E vs ops.toList xs.toList=some pxs)
  (ma:rd st px=some (.func k first captured)) (eG:rdAll st pxs=some args) {out:Out} {h':List PObj} (hc:ob k (first++args++captured) st.heap=some (out,h')) (hQ:¬LetsOut Q)
  (hv:∀u,out = .val u→Next1 N w G a (put { st with heap:=h' } j (wO vs o.dst) (dem u)) vs ops.toList K) (hb:∀p,out = .boom p→HO N w G a { st with heap:=h' } vs (wk vs ops.toList) p Q):o.wpIn (W r) n P a w K Q:=by
 obtain⟨h1,h2⟩:=AG hE hf hx eG
 obtain⟨g1,g2⟩:=Cr (w:=w) (G:=G) h1 h2
 obtain⟨pf,hL⟩:=iD _ _ _ _ hc
 have iq:=(wU hE fv hf ma).1
 refine⟨λ_ _=>Ah _,?_⟩
 rw[P4 cN]
 generalize eh:a.eval (.tmp t)=v at iq
 cases iq with
 | yield _ m l y tmps caps hy hl hr cM cS cV =>
   have cT:VR N w G.callee.fix G.callee.heap (.func (.yield l) #[] #[]) (.func k (.ptr m 0::caps) []) := .yield k m l y tmps caps hy hl hr cM cS cV
   rw[aV] at hc
   obtain⟨tmps',oU,ey⟩:=dW k y m l tmps caps args out st.heap h' hy hc w G.callee (xs.map a.eval) (DB hf) cT g1 g2
   have cO:(execOp a.eval o).run P w = .ok (.round l y.fn tmps' y.assign y.body) w:=by
    simp only[execOp,cN,resolve,Sem.run_bind,eh,Deferred.ofValue,Sem.run_pure,Result.andThen_ok,invoke]
    simpa using oU
   rw[cO,Oper.uponIn_round]
   refine⟨DL,(ey r (n - 1)).mono ?_⟩
   rintro e w' ⟨G2,hR,he,dy⟩
   have:=KV nm ho hf hQ hv hb hR he dy
   cases e<;>exact this
 | func _ fs cs _ _ hy e1 e2 kX d9 =>
   have cO:(execOp a.eval o).run P w = .ok (.enter (N.fn k) (fs++xs.map a.eval++cs)) w:=by
    have:=BK hF hL (fs++xs.map a.eval++cs) w
    simp only[execOp,cN,resolve,Sem.run_bind,eh,Deferred.ofValue,Sem.run_pure,Result.andThen_ok,invoke]
    exact this
   rw[cO,Oper.uponIn_enter]
   refine⟨DL,F9 ?_⟩
   refine(dB k _ out st.heap h' hc hy w G.callee (fs++xs.map a.eval++cs) (DB hf) (by simp[e1,e2]; simpa using h1) ?_).mono ?_
   ·intro i v p dI hp
    by_cases hi:i<fs.size
    ·rw[bX,bm hi] at dI
     rw[az,am (by omega)] at hp
     exact kX i v p dI hp
    ·rw[bX,bY (by omega)] at dI
     rw[az,ar (by omega),← e1] at hp
     by_cases dM:i - fs.size<(xs.map a.eval).size
     ·rw[bm dM] at dI
      rw[am (by omega)] at hp
      exact g2 _ v p dI hp
     ·rw[bY (by omega)] at dI
      rw[ar (by omega),← g1] at hp
      exact d9 _ v p dI hp
   ·rintro e w' ⟨G2,hR,he,dy⟩
    have:=KV nm ho hf hQ hv hb hR he dy
    cases e<;>exact this
theorem Lh {L:Nat→Option PFunc} (hF:yr N P L) (hE:EnvOk E N) (hP:E.P=P) (nm:Names vs (wk vs ops.toList)) (ho:ops[j]? = some o) (hf:FI N w G st a vs (wk vs ops.toList)) {cf:wu} (dE:CallOK N P cf) {ob:xX} (dB:Dy N P ob) (dW:ED N P ob)
  (ec:∀k args h x,cf k args h=some x→∃f,L k=some f) (iD:∀k args h x,ob k args h=some x→∃f,L k=some f) (hd:∀c,o.op≠.defer c) {po:PO} (hc:EE E vs ops.toList o=some po) {res:Option PV} {st1:St} (hs:yq cf ob j po st=some (res,st1)) (hQ:¬LetsOut Q)
  (hk:res=none→Next1 N w G a st1 vs ops.toList K) (hb:∀p,res=some p→HO N w G a st1 vs (wk vs ops.toList) p Q):wpOpIn (W r) n P ops Q j K a w:=by
 have plain:∀{po:PO},EH E vs ops.toList o=some po→yq cf ob j po st=some (res,st1)→wpOpIn (W r) n P ops Q j K a w:=by
  intro po hc hs
  simp only[EH,ae] at hc
  obtain⟨p,hp,hc⟩:=hc
  split at hc
  ·simp at hc
  ·rename_i vX
   simp only[aa] at hc
   subst hc
   rw[LM (by simpa using vX)] at hs
   simp only[ab,ac] at hs
   obtain⟨st2,h1,rfl,rfl⟩:=hs
   refine Ie (λo' c eL =>?_) hQ (F4 hF hE hP nm ho hf dE ec hp h1 (hk rfl))
   rw[ho] at eL
   simp only[aa] at eL
   subst eL
   exact hd c
 unfold EE at hc
 split at hc
 ·rename_i dst f xs ts ty pos aft
  split at hc
  ·simp only[ae,ab] at hc
   obtain⟨k,dh,ps,ea,rfl⟩:=hc
   simp only[yq] at hs
   split at hs
   ·rename_i us eG
    unfold wpOpIn
    simp only[ho,Region.wanted,if_true]
    split at hs
    ·rename_i u h' db
     simp only[aa,ac] at hs
     obtain⟨rfl,rfl⟩:=hs
     exact P5 hF hE nm ho hf dB iD rfl dh ea eG db hQ (λu' e=>by cases e; exact hk rfl) (λp e=>by cases e)
    ·rename_i v h' db
     simp only[aa,ac] at hs
     obtain⟨rfl,rfl⟩:=hs
     exact P5 hF hE nm ho hf dB iD rfl dh ea eG db hQ (λu' e=>by cases e) (λp e=>by cases e; exact hb _ rfl)
    ·simp at hs
   ·simp at hs
  ·exact plain hc hs
 ·rename_i dst t xs ts ty pos aft
  split at hc
  ·simp only[ae,ab] at hc
   obtain⟨px,fv,ps,ea,rfl⟩:=hc
   simp only[yq] at hs
   split at hs
   ·rename_i k first captured us ma eG
    unfold wpOpIn
    simp only[ho,Region.wanted,if_true]
    split at hs
    ·rename_i u h' db
     simp only[aa,ac] at hs
     obtain⟨rfl,rfl⟩:=hs
     exact P6 hF hE nm ho hf dB dW iD rfl fv ea ma eG db hQ (λu' e=>by cases e; exact hk rfl) (λp e=>by cases e)
    ·rename_i v h' db
     simp only[aa,ac] at hs
     obtain⟨rfl,rfl⟩:=hs
     exact P6 hF hE nm ho hf dB dW iD rfl fv ea ma eG db hQ (λu' e=>by cases e) (λp e=>by cases e; exact hb _ rfl)
    ·simp at hs
   ·simp at hs
  ·exact plain hc hs
 ·exact plain hc hs
end
end PI
set_option linter.unusedSimpArgs false
set_option linter.unusedVariables false
namespace PI
open Go
def wpN (r:Option Nat) (fid:FuncId) (P:Program) (c:Code) (Q:Exit→Act→World→Prop) (a:Act) (w:World):Prop:=
 ∀ (b : Frame) (k : List Item) (cs : List Frame), b.roundOf = r → b.fn = fid →
   ∃e a' w',Q e a' w'∧ArrivesIn (Machine.fenced P (W r)) P (lone (b.atR a (.code c::k)) cs w) b k cs e a' w'
section
variable {P:Program} {r:Option Nat} {fid:FuncId} {n:Nat} {Q:Exit→Act→World→Prop} {a:Act} {w:World}
theorem CD {c:Code} (h:c.wpIn (W r) n P Q a w):wpN r fid P c Q a w:=λb k cs dW _=>h b k cs dW (Ah _) (EL _)
theorem c3r {c:Code} {Q':Exit→Act→World→Prop} (h:wpN r fid P c Q a w) (hq:∀e a w,Q e a w→Q' e a w):wpN r fid P c Q' a w:=
 λb k cs dW hb=>let ⟨e,a',w',q,r⟩:=h b k cs dW hb; ⟨e,a',w',hq _ _ _ q,r⟩
theorem c3s (h:Q .normal a w):wpN r fid P .skip Q a w:=λ_ _ _ _ _=>⟨.normal,a,w,h,.one (zm _) stepR_skip⟩
theorem Lk {id:Nat} (h:Q (.exit id) a w):wpN r fid P (.exit id) Q a w:=
 λ_ k _ _ _=>⟨.exit id,a,w,h,λ_ hk => .one (zm _) (stepR_exit hk),λ_ hk=>⟨k,hk,.refl _⟩⟩
theorem Ll (h:Q .ret a w):wpN r fid P .ret Q a w:=
 λ_ k _ _ _=>⟨.ret,a,w,h,λhn=>⟨_,.one (zm _) (stepR_ret hn)⟩,λ_=>⟨k,.refl _⟩⟩
theorem C0 {x y:Code} (h:wpN r fid P x (Exit.then (wpN r fid P y Q) Q) a w):wpN r fid P (.seq x y) Q a w:=by
 intro b k cs dW hb
 have h0:(lone (b.atR a (.code (.seq x y)::k)) cs w).fenced P (W r):=zm _
 obtain⟨e,a₁,w₁,hq,dn⟩:=h b (.code y::k) cs dW hb
 cases e with
 | normal =>
   obtain⟨e₂,a₂,w₂,hq₂,harr₂⟩:=hq b k cs dW hb
   exact⟨e₂,a₂,w₂,hq₂,.of_steps (.head h0 stepR_seq dn) harr₂⟩
 | exit id=>exact⟨_,a₁,w₁,hq,.of_steps (.one h0 stepR_seq) (.pass (x := .code y) rfl (λ_ _ => .inl (by simp)) dn)⟩
 | goto l=>exact⟨_,a₁,w₁,hq,.of_steps (.one h0 stepR_seq) (.pass (x := .code y) rfl (λ_ _ => .inl (by simp)) dn)⟩
 | ret=>exact⟨_,a₁,w₁,hq,.of_steps (.one h0 stepR_seq) (.pass (x := .code y) rfl (λ_ _ => .inl (by simp)) dn)⟩
 | panic ch=>exact⟨_,a₁,w₁,hq,.of_steps (.one h0 stepR_seq) (.pass (x := .code y) rfl (λ_ _ => .inl (by simp)) dn)⟩
 | outgrown=>exact⟨_,a₁,w₁,hq,.of_steps (.one h0 stepR_seq) (.pass (x := .code y) rfl (λ_ _ => .inl (by simp)) dn)⟩
theorem Ig {c:Operand} {x y:Code} {t:Bool} (hc:a.eval c = .bool t) (h:wpN r fid P (if t then x else y) Q a w):wpN r fid P (.cond c x y) Q a w:=
 λb k cs dW hb=>let ⟨e,a',w',q,r⟩:=h b k cs dW hb; ⟨e,a',w',q,.of_steps (.one (zm _) (stepR_cond hc)) r⟩
theorem c1w {id:Nat} {c:Code} (h:wpN r fid P c (Exit.inBlock id Q) a w):wpN r fid P (.block id c) Q a w:=by
 intro b k cs dW hb
 have h0:(lone (b.atR a (.code (.block id c)::k)) cs w).fenced P (W r):=zm _
 obtain⟨e,a₁,w₁,hq,dn⟩:=h b (.inBlock id::k) cs dW hb
 cases e with
 | normal=>exact⟨.normal,a₁,w₁,hq,.head h0 stepR_block (StepsIn.trans dn (.one (zm _) stepR_inBlock))⟩
 | exit id' =>
   by_cases ge:id'=id
   ·simp only[Exit.inBlock,ge,if_true] at hq
    exact⟨.normal,a₁,w₁,hq,.head h0 stepR_block (dn.1 k (by simp[exitTo,ge]))⟩
   ·simp only[Exit.inBlock,ge,if_false] at hq
    have this:(id==id')=false:=by simp; exact λh=>ge h.symm
    have hx:exitTo id' (.inBlock id::k)=exitTo id' k:=by simp[exitTo,this]
    exact⟨.exit id',a₁,w₁,hq,λk' hk => .head h0 stepR_block (dn.1 k' (by rw[hx]; exact hk)),
     λeY hk=>let ⟨k₁,h1,h2⟩:=dn.2 eY (by rw[hx]; exact hk); ⟨k₁,h1,.head h0 stepR_block h2⟩⟩
 | goto l =>
   have hx:gotoIn l (.inBlock id::k)=gotoIn l k:=by simp[gotoIn]
   exact⟨_,a₁,w₁,hq,λk' hk => .head h0 stepR_block (dn.1 k' (by rw[hx]; exact hk)),
    λeY hk=>let ⟨k₁,h1,h2⟩:=dn.2 eY (by rw[hx]; exact hk); ⟨k₁,h1,.head h0 stepR_block h2⟩⟩
 | ret=>exact⟨_,a₁,w₁,hq,.of_steps (.one h0 stepR_block) dn⟩
 | panic ch=>exact⟨_,a₁,w₁,hq,.of_steps (.one h0 stepR_block) dn⟩
 | outgrown=>exact⟨_,a₁,w₁,hq,.of_steps (.one h0 stepR_block) dn⟩
def DA (r:Option Nat) (fid:FuncId) (P:Program) (c:Code) (Q:Exit→Act→World→Prop):Nat→Act→World→Prop
 | 0,_,_=>False
 | m+1,a,w=>wpN r fid P c (Exit.then (DA r fid P c Q m) Q) a w
theorem b6T {c:Code} {m:Nat}:DA r fid P c Q (m+1) a w=wpN r fid P c (Exit.then (DA r fid P c Q m) Q) a w:=rfl
theorem b29 {c:Code} (m:Nat) (h:DA r fid P c Q m a w):wpN r fid P (.loop c) Q a w:=by
 intro b k cs dW hb
 have key:∀m a w,DA r fid P c Q m a w →
   ∃e a' w',Q e a' w'∧ArrivesIn (Machine.fenced P (W r)) P (lone (b.atR a (.code c :: .inLoop c::k)) cs w) b k cs e a' w':=by
  intro m
  induction m with
  | zero=>intro a w h; exact h.elim
  | succ m ih =>
    intro a w h
    obtain⟨e,a₁,w₁,hq,dn⟩:=h b (.inLoop c::k) cs dW hb
    cases e with
    | normal =>
      obtain⟨e₂,a₂,w₂,hq₂,harr₂⟩:=ih a₁ w₁ hq
      exact⟨e₂,a₂,w₂,hq₂,.of_steps (StepsIn.trans dn (.one (zm _) stepR_inLoop)) harr₂⟩
    | exit id=>exact⟨_,a₁,w₁,hq,.pass (x := .inLoop c) rfl (λ_ _ => .inl (by simp)) dn⟩
    | goto l=>exact⟨_,a₁,w₁,hq,.pass (x := .inLoop c) rfl (λ_ _ => .inl (by simp)) dn⟩
    | ret=>exact⟨_,a₁,w₁,hq,.pass (x := .inLoop c) rfl (λ_ _ => .inl (by simp)) dn⟩
    | panic ch=>exact⟨_,a₁,w₁,hq,.pass (x := .inLoop c) rfl (λ_ _ => .inl (by simp)) dn⟩
    | outgrown=>exact⟨_,a₁,w₁,hq,.pass (x := .inLoop c) rfl (λ_ _ => .inl (by simp)) dn⟩
 obtain⟨e,a',w',hq,dn⟩:=key m a w h
 exact⟨e,a',w',hq,.of_steps (.one (zm _) stepR_loop) dn⟩
theorem Lm {g:Operand} {ps:Array Tmp} {assign body:Code} {l:Nat} {mark:List Deferred} {w₁:World} {d:Deferred} {f:FuncId} {args:Array Value}
  (he:(Instr.enterLoop fid a.tmps ps assign body none).run P w = .ok (l,mark) w₁) (dt:(resolve a.eval (rangeCall g l) 0).run P w₁ = .ok d w₁) (jt:(invoke d.target d.args).run P w₁ = .ok (.enter f args) w₁)
  (hc:Calls P f args w₁ fun
   | .returned _, w₃ => ∃ j w₄, (Instr.endLoop l).run P w₃ = .ok j w₄ ∧ (match j with
     | none=>Q .normal { a with defers:=mark++a.defers } w₄
     | some c=>wpN none fid P c Q { a with defers:=mark++a.defers } w₄)
   | .panicked chain,w₃=>Q (.panic chain) { a with defers:=mark++a.defers } w₃
   | .outgrown,_=>LetsOut Q):wpN none fid P (.rangeFunc g ps assign body) Q a w:=by
 intro b k cs dW hb
 subst hb
 rw[← dW] at he
 have ep:=stepR_rangeFunc (P:=P) (b:=b) (a:=a) (k:=k) (cs:=cs) (w:=w) he dt jt
 obtain⟨e,w₃,fr,hR,iV,ei,kL⟩:=(F9 (r:=none) (n:=0) hc).2 (b.atR { a with defers:=mark++a.defers } (.inRangeFunc l::k)::cs) (EL _)
 cases e with
 | outgrown =>
   obtain⟨a₀,w₀,hq⟩:=hR
   exact⟨.outgrown,a₀,w₀,hq,.inr (Outgrown.of_steps (.one ep) iV)⟩
 | returned v =>
   obtain⟨j,w₄,eZ,hj⟩:=hR
   have sback:StepsIn (Machine.fenced P (W none)) P (lone (b.atR a (.code (.rangeFunc g ps assign body)::k)) cs w) (lone (b.atR { a with defers:=mark++a.defers } ((j.map Item.code).toList++k)) cs w₄):=by
    refine .head (zm _) ep (StepsIn.trans iV (.head (zm _) ?_ (.one (zm _) (stepR_endRangeFunc (b:=b) (a:={ a with defers:=mark++a.defers }) (k:=k) eZ))))
    rw[← finish_atR_inRangeFunc l v]; exact step_leave_returned kL
   cases j with
   | none=>exact⟨.normal,_,w₄,hj,sback⟩
   | some c =>
     obtain⟨e₂,a₂,w₅,hq,hr⟩:=hj b k cs dW rfl
     exact⟨e₂,a₂,w₅,hq,.of_steps sback hr⟩
 | panicked chain =>
   refine⟨.panic chain,_,w₃,hR,.inRangeFunc l::k,.head (zm _) ep (StepsIn.trans iV (.one (zm _) ?_))⟩
   rw[← Frame.raise_atR]; exact step_leave_panicked kL
def LB (P:Program) (fn:Func) (R:Ending→World→Prop):Exit→Act→World→Prop
 | .normal,a,w | .ret,a,w=>LeavesInM (W none) 0 P fn a.tmps R a.defers .returning w
 | .panic chain,a,w=>LeavesInM (W none) 0 P fn a.tmps R a.defers (.panicking chain) w
 | _,_,_=>False
theorem LC {f:FuncId} {fn:Func} {c:Code} {args:Array Value} {R:Ending→World→Prop} (hf:P.funcs[f]? = some fn) (hb:fn.body=some c)
  (h:wpN none f P c (LB P fn R) { tmps:=args++Array.replicate (fn.ntmps - args.size) undef,defers:=[] } w):Calls P f args w R:=by
 refine b8K (r:=none) (n:=0) ⟨trivial,λcs hr =>?_⟩
 let b:Frame:={ (default:Frame) with fn:=f,kind := .normal,roundOf:=none }
 have ep:Frame.enter P f args .normal=b.atR { tmps:=args++Array.replicate (fn.ntmps - args.size) undef,defers:=[] } [.code c]:=by
  simp[Frame.enter,Frame.atR,hf,hb,b]
 obtain⟨e,a',w',hq,dn⟩:=h b [] cs rfl rfl
 rw[← ep] at dn
 cases e with
 | normal =>
   obtain⟨e',w'',fr',hR,hs,ei,hl⟩:=leaves_stepsInM a'.defers .returning w' { b.atR a' [] with mode := .returning } cs rfl rfl rfl hf rfl trivial (EL _) hq
   exact⟨e',w'',fr',hR,ComesIn.of_steps (StepsIn.trans dn (.one (zm _) (stepR_end rfl))) hs,ei,hl⟩
 | ret =>
   obtain⟨todo,hs₀⟩:=dn.1 rfl
   obtain⟨e',w'',fr',hR,hs,ei,hl⟩:=leaves_stepsInM a'.defers .returning w' { b.atR a' todo with mode := .returning } cs rfl rfl rfl hf rfl trivial (EL _) hq
   exact⟨e',w'',fr',hR,ComesIn.of_steps hs₀ hs,ei,hl⟩
 | panic chain =>
   obtain⟨todo,hs₀⟩:=dn
   obtain⟨e',w'',fr',hR,hs,ei,hl⟩:=leaves_stepsInM a'.defers (.panicking chain) w' { b.atR a' todo with mode := .panicking chain } cs rfl rfl rfl hf rfl trivial (EL _) hq
   exact⟨e',w'',fr',hR,ComesIn.of_steps hs₀ hs,ei,hl⟩
 | exit id=>exact hq.elim
 | goto l=>exact hq.elim
 | outgrown=>exact hq.elim
theorem d0t {l:Nat} {f:FuncId} {fn:Func} {tmps:Array Value} {assign body:Code} {R:Ending→World→Prop} (ei:P.funcs[f]? = some fn)
  (h:wpN (some l) f P assign (Exit.then (λa₁ w₁=>∃w₂,(Instr.beginRound l).run P w₁ = .ok () w₂∧wpN (some l) f P body (Is P l R) a₁ w₂) (λ_ _ _=>False)) { tmps:=tmps,defers:=[] } w):
  RoundIn (W r) n P l f tmps assign body w R:=by
 refine⟨Ah _,λc cs hr =>?_⟩
 let b:Frame:={ (default:Frame) with fn:=f,kind := .normal,roundOf:=some l }
 have fI:Frame.round l f tmps assign body .normal=b.atR { tmps:=tmps,defers:=[] } [.code assign,.beginRound,.code body]:=by
  simp[Frame.round,Frame.atR,b]
 obtain⟨e,a₁,w₁,hq,dn⟩:=h b [.beginRound,.code body] (c::cs) rfl rfl
 rw[← fI] at dn
 cases e with
 | normal =>
   obtain⟨w₂,eW,fK⟩:=hq
   have s1:StepsIn (Machine.fenced P (W (some l))) P (lone (b.atR a₁ [.beginRound,.code body]) (c::cs) w₁) (lone (b.atR a₁ [.code body]) (c::cs) w₂):=
    .one (zm _) (stepR_beginRound rfl eW)
   obtain⟨e₂,a₂,w₃,hq₂,harr₂⟩:=fK b [] (c::cs) rfl rfl
   cases e₂ with
   | normal =>
     obtain⟨v,w₄,eZ,hR⟩:=hq₂
     exact⟨.returned v,w₄,hR,(StepsIn.trans dn s1).trans (StepsIn.trans harr₂ (.one (zm _) (stepR_round_end rfl rfl eZ)))⟩
   | panic chain =>
     obtain⟨hd,hR⟩:=hq₂
     obtain⟨todo,hs⟩:=harr₂
     refine⟨.panicked chain,w₃,hR,(StepsIn.trans dn s1).trans (StepsIn.trans hs (.one (zm _) (b1y (fn:=fn) rfl ?_ ei)))⟩
     exact hd
   | ret =>
     obtain⟨v,w₄,eZ,hR⟩:=hq₂
     obtain⟨k₁,hs⟩:=harr₂.2 rfl
     exact⟨.returned v,w₄,hR,(StepsIn.trans dn s1).trans (StepsIn.trans hs (.one (zm _) (stepR_round_ret rfl rfl eZ)))⟩
   | exit id =>
     obtain⟨v,w₄,eZ,hR⟩:=hq₂
     obtain⟨k₁,hk,hs⟩:=harr₂.2 rfl rfl
     exact⟨.returned v,w₄,hR,(StepsIn.trans dn s1).trans (StepsIn.trans hs (.one (zm _) (stepR_round_exit rfl rfl hk eZ)))⟩
   | goto t=>exact hq₂.elim
   | outgrown=>exact hq₂.elim
 | exit id=>exact hq.elim
 | goto t=>exact hq.elim
 | ret=>exact hq.elim
 | panic chain=>exact hq.elim
 | outgrown=>exact hq.elim
end
end PI
set_option linter.unusedSimpArgs false
set_option linter.unusedVariables false
namespace PI
open Go Go.RowKit
section
variable {E:Env} {N:Nm} {w:World} {G:GS} {st:St} {a:Act} {vs:List Tmp} {lm:Nat→Option Tmp} {P:Program}
theorem Ln (hf:FI N w G st a vs lm) {n b:Nat} {ob':PObj} {mob:Obj} (hb:G.heap n=some b) (how:G.ow b=some (.hobj n))
  (gR:∀o,¬G.fix b o) (gc:w.shape? b=none) (nZ:∀s,yC w b=some s→yC { w with heap:=w.heap.setIfInBounds b mob } b=some s)
  (hR:ob' = .gone∨ObjR N { w with heap:=w.heap.setIfInBounds b mob } G n b ob'):
  Ext w G { w with heap:=w.heap.setIfInBounds b mob } G∧FI N { w with heap:=w.heap.setIfInBounds b mob } G (wT st n ob') a vs lm:=by
 let w':World:={ w with heap:=w.heap.setIfInBounds b mob }
 have fe:b<w.heap.size:=hf.owlt _ _ how
 have cW:∀x,x≠b→w'.heap[x]? = w.heap[x]? := λx hx=>by
  simp only[w',bb]; rw[af (by omega)]
 have cL:Ext w G w' G:=by
  refine⟨rfl,rfl,rfl,by simp[w'],λx _ jb=>cW x (by rintro rfl; rw[how] at jb; simp at jb),?_,λ_ _ h => .inl h,λ_ h => .inr h,λ_ _ h=>h,.one b (λk _ hk=>cW k hk) (λs hx=>by rw[gc] at hx; simp at hx) nZ,rfl⟩
  intro x o' fo
  have gl:x≠b:=by rintro rfl; exact gR _ fo
  refine⟨fo,?_⟩
  simp only[World.cell?,cW x gl]
 have cP:xq (λk=>k = .hobj n) w G w' G:=by
  refine⟨?_,λ_ _ h=>h⟩
  intro x k hx gw
  have gl:x≠b:=by rintro rfl; rw[how] at hx; simp at hx; exact gw hx.symm
  exact⟨hx,cW x gl,λ_ h=>h⟩
 have de:FI N w' G (wT st n ob') a vs lm:=by
  refine⟨hf.len,λi t' u' h1 h2=>(hf.var i t' u' h1 h2).keep cL cP (by simp) (by simp),λi t' u' h1 h2=>(hf.loc i t' u' h1 h2).keep cL cP (by simp) (by simp),hf.tv,hf.tl,hf.defers,hf.gen,?_,?_,?_,?_⟩
  ·intro b' k cX; simpa[w'] using hf.owlt _ _ cX
  ·intro b' k cX; simpa[w'] using hf.fixlt _ _ cX
  ·exact hf.heap.keepBut cL cP (λm k da=>⟨by simp; omega,by simp⟩) (λ_=>hR.imp id λhR=>⟨b,hb,how,hR⟩)
  ·intro m b' h; have:=hf.hdom _ _ h; simpa[wT] using this
 exact⟨cL,de⟩
theorem c4E (hf:FI N w G st a vs lm) {ob:PObj} {mob:Obj}
  (hR:∀G',G'=G.more w.heap.size st.heap.length→Ext w G (w.alloc mob) G'→ObjR N (w.alloc mob) G' st.heap.length w.heap.size ob):
  Ext w G (w.alloc mob) (G.more w.heap.size st.heap.length)∧FI N (w.alloc mob) (G.more w.heap.size st.heap.length) { st with heap:=st.heap++[ob] } a vs lm:=by
 let G':GS:=G.more w.heap.size st.heap.length
 have cL:Ext w G (w.alloc mob) G':=by
  refine⟨rfl,rfl,rfl,by simp,λb hb _=>yN hb,λb o h=>⟨h,C5 (hf.fixlt _ _ h)⟩,λ_ _ h => .inl h,?_,?_,.same λk hk=>yN hk,rfl⟩
  ·intro b hb
   by_cases cQ:b<w.heap.size
   ·refine .inr ?_
    simp only[G',GS.more] at hb
    rw[af (by omega)] at hb
    exact hb
   ·exact .inl (by omega)
  ·intro n b h
   have:=hf.hdom _ _ h
   simp only[G',GS.more]
   rw[af (by omega)]; exact h
 have cP:xq (λ_=>False) w G (w.alloc mob) G':=by
  refine⟨?_,λ_ _ h=>h⟩
  intro b k hb _
  have cQ:=hf.owlt _ _ hb
  refine⟨?_,yN cQ,λ_ h=>h⟩
  simp only[G',GS.more]
  rw[af (by omega)]; exact hb
 have de:FI N (w.alloc mob) G' { st with heap:=st.heap++[ob] } a vs lm:=by
  refine⟨hf.len,λi t u h1 h2=>(hf.var i t u h1 h2).keep cL cP (λh=>h) (λ_ _ _ h=>h),λj t u h1 h2=>(hf.loc j t u h1 h2).keep cL cP (λh=>h) (λ_ _ _ h=>h),hf.tv,hf.tl,hf.defers,hf.gen,?_,?_,?_,?_⟩
  ·intro b k hb
   simp only[G',GS.more] at hb
   split at hb
   ·simp; omega
   ·have:=hf.owlt _ _ hb; simp; omega
  ·intro b o h; have:=hf.fixlt _ _ h; simp; omega
  ·exact hf.heap.push cL cP (λ_ _ _=>⟨λh=>h,λh=>h⟩) (.inr ⟨w.heap.size,by simp[G',GS.more],by simp[G',GS.more],hR G' rfl cL⟩)
  ·intro n b h
   simp only[G',GS.more] at h
   simp only[ap,ck]
   split at h
   ·omega
   ·have:=hf.hdom _ _ h; omega
 exact⟨cL,de⟩
theorem b94 (hf:FI N w G st a vs lm) (mob:Obj):Ext w G (w.alloc mob) G∧FI N (w.alloc mob) G st a vs lm:=by
 have cL:Ext w G (w.alloc mob) G:=
  ⟨rfl,rfl,rfl,by simp,λb hb _=>yN hb,λb o h=>⟨h,C5 (hf.fixlt _ _ h)⟩,λ_ _ h => .inl h,λ_ h => .inr h,λ_ _ h=>h,.same λk hk=>yN hk,rfl⟩
 have cP:xq (λ_=>False) w G (w.alloc mob) G:=⟨λb k hb _=>⟨hb,yN (hf.owlt _ _ hb),λ_ h=>h⟩,λ_ _ h=>h⟩
 exact⟨cL,hf.ext cL cP hf.gen (λb k h=>by have:=hf.owlt _ _ h; simp; omega) (λb o h=>by have:=hf.fixlt _ _ h; simp; omega)⟩
theorem FI.setDf (hf:FI N w G st a vs lm) (ds:List Deferred):FI N w { G with df:=ds } st { a with defers:=ds } vs lm:=
 ⟨hf.len,hf.var,hf.loc,hf.tv,hf.tl,rfl,hf.gen,hf.owlt,hf.fixlt,hf.heap,hf.hdom⟩
theorem Ext.setDf {w':World} {G':GS} (h:Ext w G w' G') (ds:List Deferred):Ext w { G with df:=ds } w' { G' with df:=ds }:=
 ⟨h.os,h.tape,h.output,h.size,h.same,h.fix,h.newfix,h.own,h.heap,h.shape,rfl⟩
def ExtD (w:World) (G:GS) (w':World) (G':GS):Prop:=Ext w { G with df:=G'.df } w' G'
theorem ExtD.of {w':World} {G':GS} (h:Ext w G w' G'):ExtD w G w' G':=by
 have:=h.setDf G'.df
 exact this
theorem ExtD.refl (w:World) (G:GS):ExtD w G w G := .of (Ext.refl w G)
theorem ExtD.trans {w1 w2:World} {G1 G2:GS} (h:ExtD w G w1 G1) (k:ExtD w1 G1 w2 G2):ExtD w G w2 G2:=by
 have h1:=Ext.setDf h G2.df
 exact Ext.trans h1 k
theorem ExtD.to {w':World} {G':GS} (h:ExtD w G w' G') (hd:G'.df=G.df):Ext w G w' G':=by
 unfold ExtD at h
 rw[hd] at h
 exact h
def Marks (w w':World) (G':GS) (ms:List Deferred):Prop:=
 ∃bs:List Nat,ms=bs.map (λb=>{ target := .collected b,args := #[] })∧bs.Nodup∧∀b∈bs,w.heap.size≤b∧w'.heap[b]? = some (.deferred (some []))∧G'.ow b=none
theorem Marks.nil (w w':World) (G':GS):Marks w w' G' []:=⟨[],rfl,List.nodup_nil,by simp⟩
theorem Marks.lt {w':World} {G':GS} {b:Nat} (h:w'.heap[b]? = some (.deferred (some []))):b<w'.heap.size:=(ba.1 h).1
theorem Marks.join {w1 w2:World} {G1 G2:GS} {ms1 ms2:List Deferred} (hs:w.heap.size≤w1.heap.size) (h1:Marks w w1 G1 ms1) (e:ExtD w1 G1 w2 G2) (h2:Marks w1 w2 G2 ms2):Marks w w2 G2 (ms2++ms1):=by
 obtain⟨b1,rfl,n1,k1⟩:=h1
 obtain⟨b2,rfl,n2,k2⟩:=h2
 refine⟨b2++b1,by simp,?_,?_⟩
 ·rw[cz]
  refine⟨n2,n1,?_⟩
  rintro x hx y hy rfl
  have:=(k2 x hx).1
  have:=Marks.lt (G':=G1) (k1 x hy).2.1
  omega
 ·intro b hb
  rcases ak.1 hb with hb|hb
  ·obtain⟨j1,j2,j3⟩:=k2 b hb
   exact⟨by omega,j2,j3⟩
  ·obtain⟨j1,j2,j3⟩:=k1 b hb
   have cQ:=Marks.lt (G':=G1) j2
   refine⟨j1,(Ext.same e b cQ j3).trans j2,?_⟩
   cases hx:G2.ow b with
   | none=>rfl
   | some k =>
     rcases Ext.own e b (by rw[hx]; simp) with h|h
     ·omega
     ·exact absurd j3 h
end
def Ey (nt:Nat) (ops:List Oper):Bool:=ops.all λo=>match o.dst with | some t=>decide (t<nt) | none=>true
def FU (ops:List Oper):Bool:=ops.all λo=>match o.op with | .defer _=>false | _=>true
def Bi (E:Env) (nt:Nat) (vs:List Tmp) (ops:Array Oper) (draw:Bool):Option (List PO):=
 if Cz vs ops.toList&&Ey nt ops.toList&&FU ops.toList then
  (B9 E vs ops.toList ops.toList).bind λpos=>if draw && !CA ops pos then none else some pos
 else none
def CB (E:Env) (nt:Nat) (vs:List Tmp) (ops:Array Oper) (draw:Bool):Option (List PO):=
 if Cz vs ops.toList&&Ey nt ops.toList&&FU ops.toList then
  (Ez E vs ops.toList ops.toList).bind λpos=>if draw && !CA ops pos then none else some pos
 else none
def EA (E:Env) (nt:Nat) (vs:List Tmp) (ops:Array Oper):Option (List PO×Nat×PX):=
 if Cz vs ops.toList&&Ey nt ops.toList&&FU ops.toList then
  match ops.toList.drop (ops.size - 2) with
  | [{ dst := some d, op := .makeInterface T x, guard := none, .. }, { op := .panic (.tmp d'), guard := none, .. }] =>
    match E.P.underlying T with
    | none | some (.interface _)=>none
    | some _=>if d=d'∧(x5 d vs 0).isNone∧2≤ops.size then(B9 E vs ops.toList (ops.toList.take (ops.size - 2))).bind λpos=>(cx E vs ops.toList x).bind λpx=>(x5 T E.pt 0).map λi=>(pos,i+1,px) else none
  | _=>none
 else none
def HZ (E:Env) (nt:Nat) (vs:List Tmp) (ops:Array Oper):Option (Nat×List PX):=
 match ops.toList with
 | [{ dst := some d, op := .makeFunc (.func f) first caps, guard := none, .. }, { dst := none, op := .defer { callee := .value (.tmp d'), args, .. }, guard := none, .. }] =>
   if d=d'∧(x5 d vs 0).isNone∧d<nt∧first.toList=[]∧args.toList=[] then(E.inv f).bind λk=>(cxs E vs [] caps.toList).map λps=>(k,ps) else none
 | _=>none
inductive Cmp (E:Env) (nt:Nat) (vs:List Tmp):Code→PC→Prop where
 | skip:Cmp E nt vs .skip .skip
 | region (id:Nat) (ops:Array Oper) (d:Bool) (pos:List PO) (h:Bi E nt vs ops d=some pos):Cmp E nt vs (.region id ops d) (.region pos)
 | bregion (id:Nat) (ops:Array Oper) (d:Bool) (pos:List PO) (h:CB E nt vs ops d=some pos):Cmp E nt vs (.region id ops d) (.bregion pos)
 | raise (id:Nat) (ops:Array Oper) (pos:List PO) (t:Nat) (px:PX) (h:EA E nt vs ops=some (pos,t,px)):Cmp E nt vs (.region id ops false) (.raise pos t px)
 | branch (id : Nat) (ops : Array Oper) (d : Bool) (pos : List PO) (c : Operand) (px : PX) (x y : Code) (px1 px2 : PC) (h : Bi E nt vs ops d = some pos) (hc : cx E vs ops.toList c = some px) (hx : Cmp E nt vs x px1) (hy : Cmp E nt vs y px2) :
   Cmp E nt vs (.seq (.region id ops d) (.cond c x y)) (.branch pos px px1 px2)
 | branchSeq (id : Nat) (ops : Array Oper) (d : Bool) (pos : List PO) (c : Operand) (px : PX) (x y r : Code) (px1 px2 pr : PC) (h : Bi E nt vs ops d = some pos) (hc : cx E vs ops.toList c = some px) (hx : Cmp E nt vs x px1) (hy : Cmp E nt vs y px2) (hr : Cmp E nt vs r pr) :
   Cmp E nt vs (.seq (.region id ops d) (.seq (.cond c x y) r)) (.seq (.branch pos px px1 px2) pr)
 | bbranch (id : Nat) (ops : Array Oper) (d : Bool) (pos : List PO) (c : Operand) (px : PX) (x y : Code) (px1 px2 : PC) (h : CB E nt vs ops d = some pos) (hc : cx E vs ops.toList c = some px) (hx : Cmp E nt vs x px1) (hy : Cmp E nt vs y px2) :
   Cmp E nt vs (.seq (.region id ops d) (.cond c x y)) (.bbranch pos px px1 px2)
 | bbranchSeq (id : Nat) (ops : Array Oper) (d : Bool) (pos : List PO) (c : Operand) (px : PX) (x y r : Code) (px1 px2 pr : PC) (h : CB E nt vs ops d = some pos) (hc : cx E vs ops.toList c = some px) (hx : Cmp E nt vs x px1) (hy : Cmp E nt vs y px2) (hr : Cmp E nt vs r pr) :
   Cmp E nt vs (.seq (.region id ops d) (.seq (.cond c x y) r)) (.seq (.bbranch pos px px1 px2) pr)
 | guarded (id:Nat) (ops:Array Oper) (kd:Nat) (caps:List PX) (y:Code) (q:PC) (h:HZ E nt vs ops=some (kd,caps)) (hy:Cmp E nt vs y q):Cmp E nt vs (.seq (.region id ops false) y) (.guarded kd caps q)
 | seq (x y:Code) (p q:PC) (hx:Cmp E nt vs x p) (hy:Cmp E nt vs y q):Cmp E nt vs (.seq x y) (.seq p q)
 | cond (c:Operand) (px:PX) (x y:Code) (p q:PC) (hc:cx E vs [] c=some px) (hx:Cmp E nt vs x p) (hy:Cmp E nt vs y q):Cmp E nt vs (.cond c x y) (.branch [] px p q)
 | block (id:Nat) (x:Code) (p:PC) (hx:Cmp E nt vs x p):Cmp E nt vs (.block id x) (.block id p)
 | loop (x:Code) (p:PC) (hx:Cmp E nt vs x p):Cmp E nt vs (.loop x) (.loop p)
 | rangeF (g : Operand) (ps : Array Tmp) (as body : Code) (px : PX) (kb : Nat) (vars : List Tmp) (caps : List PX) (hg : cx E vs [] g = some px) (hl : (ps, kb, vars) ∈ E.lps) (hv : cxs E vs [] (vars.map .tmp) = some caps) :
   Cmp E nt vs (.rangeFunc g ps as body) (.rangeF px kb caps)
 | stuck (x:Code):Cmp E nt vs x Ag
 | exit (id:Nat):Cmp E nt vs (.exit id) (.exit id)
 | ret:Cmp E nt vs .ret .ret
def FV (E:Env) (nt:Nat) (vs:List Tmp) (ops:Array Oper) (d:Bool):PC:=
 if Lc E ops.toList then(match CB E nt vs ops d with | some pos => .bregion pos | none=>Ag)
 else match Bi E nt vs ops d with
  | some pos=>if d then .region pos else(match EA E nt vs ops with | some r => .raise r.1 r.2.1 r.2.2 | none => .region pos)
  | none=>if d then Ag else(match EA E nt vs ops with | some r => .raise r.1 r.2.1 r.2.2 | none=>Ag)
def brC (E:Env) (nt:Nat) (vs:List Tmp) (ops:Array Oper) (d:Bool) (c:Operand) (p q:PC):PC:=
 if Lc E ops.toList then(match CB E nt vs ops d,cx E vs ops.toList c with | some pos,some px => .bbranch pos px p q | _,_=>Ag)
 else match Bi E nt vs ops d,cx E vs ops.toList c with
  | some pos,some px => .branch pos px p q
  | _,_=>Ag
theorem Ld {E:Env} {nt:Nat} {vs:List Tmp} (id:Nat) (ops:Array Oper) (d:Bool):Cmp E nt vs (.region id ops d) (FV E nt vs ops d):=by
 unfold FV
 split
 ·split
  ·exact .bregion id ops d _ (by assumption)
  ·exact .stuck _
 ·split
  ·split
   ·exact .region id ops d _ (by assumption)
   ·rename_i hd
    have:d=false:=by simpa using hd
    subst this
    split
    ·exact .raise id ops _ _ _ (by assumption)
    ·exact .region id ops false _ (by assumption)
  ·split
   ·exact .stuck _
   ·rename_i hd
    have:d=false:=by simpa using hd
    subst this
    split
    ·exact .raise id ops _ _ _ (by assumption)
    ·exact .stuck _
theorem c4w {E:Env} {nt:Nat} {vs:List Tmp} (id:Nat) (ops:Array Oper) (d:Bool) (c:Operand) {x y:Code} {p q:PC} (hx:Cmp E nt vs x p) (hy:Cmp E nt vs y q):Cmp E nt vs (.seq (.region id ops d) (.cond c x y)) (brC E nt vs ops d c p q):=by
 unfold brC
 split
 ·split
  ·exact .bbranch id ops d _ c _ x y p q (by assumption) (by assumption) hx hy
  ·exact .stuck _
 ·split
  ·exact .branch id ops d _ c _ x y p q (by assumption) (by assumption) hx hy
  ·exact .stuck _
def FW:PC→Bool
 | .branch [] (.c .dead) .skip .skip=>true
 | _=>false
theorem c4x {E:Env} {nt:Nat} {vs:List Tmp} (id:Nat) (ops:Array Oper) (d:Bool) (c:Operand) {x y r:Code} {p q pr:PC} (hx:Cmp E nt vs x p) (hy:Cmp E nt vs y q) (hr:Cmp E nt vs r pr):
  Cmp E nt vs (.seq (.region id ops d) (.seq (.cond c x y) r)) (if FW (brC E nt vs ops d c p q) then Ag else .seq (brC E nt vs ops d c p q) pr):=by
 split
 ·exact .stuck _
 ·rename_i hs
  unfold brC at hs ⊢
  split
  ·rename_i hb
   rw[ah hb] at hs
   split
   ·exact .bbranchSeq id ops d _ c _ x y r p q pr (by assumption) (by assumption) hx hy hr
   ·rename_i h1
    split at hs
    ·rename_i a b h2 h3; exact absurd rfl (λe:(0:Nat)=0=>h1 _ _ h2 h3)
    ·simp[FW,Ag] at hs
  ·rename_i hb
   rw[af hb] at hs
   split
   ·exact .branchSeq id ops d _ c _ x y r p q pr (by assumption) (by assumption) hx hy hr
   ·rename_i h1
    split at hs
    ·rename_i a b h2 h3; exact absurd rfl (λe:(0:Nat)=0=>h1 _ _ h2 h3)
    ·simp[FW,Ag] at hs
def yd (E:Env) (nt:Nat) (vs:List Tmp):Code→PC
 | .skip => .skip
 | .region _ ops d=>FV E nt vs ops d
 | .seq (.region _ ops d) (.cond c x y)=>brC E nt vs ops d c (yd E nt vs x) (yd E nt vs y)
 | .seq (.region _ ops d) (.seq (.cond c x y) r)=>if FW (brC E nt vs ops d c (yd E nt vs x) (yd E nt vs y)) then Ag else .seq (brC E nt vs ops d c (yd E nt vs x) (yd E nt vs y)) (yd E nt vs r)
 | .seq (.region _ ops false) y => match HZ E nt vs ops with
   | some r => .guarded r.1 r.2 (yd E nt vs y)
   | none => .seq (FV E nt vs ops false) (yd E nt vs y)
 | .seq x y => .seq (yd E nt vs x) (yd E nt vs y)
 | .cond c x y => match cx E vs [] c with
   | some px => .branch [] px (yd E nt vs x) (yd E nt vs y)
   | none=>Ag
 | .block id x => .block id (yd E nt vs x)
 | .loop x => .loop (yd E nt vs x)
 | .rangeFunc g ps _ _ => match cx E vs [] g, E.lps.find? (fun y => y.1 == ps) with
   | some px, some y => match cxs E vs [] (y.2.2.map .tmp) with
     | some caps => .rangeF px y.2.1 caps
     | none=>Ag
   | _,_=>Ag
 | .exit id => .exit id
 | .ret => .ret
 | _=>Ag
theorem EB {E:Env} {nt:Nat} {vs:List Tmp}:∀{c:Code},Cmp E nt vs c (yd E nt vs c):=by
 intro c
 fun_induction yd E nt vs c with
 | case1=>exact .skip
 | case2 id ops d=>exact Ld id ops d
 | case3 id ops d c x y ihx ihy=>exact c4w id ops d c ihx ihy
 | case4=>exact .stuck _
 | case5 id ops d c x y r h ihx ihy ihr =>
   have:=c4x id ops d c ihx ihy ihr
   rw[af h] at this
   exact this
 | case6 id ops y _ _ r h ihy=>exact .guarded id ops _ _ y _ h ihy
 | case7 id ops y _ _ h ihy=>exact .seq _ y _ _ (Ld id ops false) ihy
 | case8 x y _ _ _ ihx ihy=>exact .seq x y _ _ ihx ihy
 | case9 c x y px h ihx ihy=>exact .cond c px x y _ _ h ihx ihy
 | case10=>exact .stuck _
 | case11 id x ih=>exact .block id x _ ih
 | case12 x ih=>exact .loop x _ ih
 | case13 g ps a b px y e1 e2 caps e3 =>
   have h2:E.lps.find? (λy=>y.1==ps)=some y:=by assumption
   have hm:=List.mem_of_find?_eq_some h2
   have he:=List.find?_some h2
   obtain⟨y1,y2,y3⟩:=y
   have dx:y1=ps:=by simpa using he
   subst dx
   exact .rangeF g y1 a b px y2 y3 caps (by assumption) hm (by assumption)
 | case14=>exact .stuck _
 | case15=>exact .stuck _
 | case16 id=>exact .exit id
 | case17=>exact .ret
 | case18=>exact .stuck _
structure BI (N:Nm) (w:World) (G:GS) (st:St) (a:Act) (vs:List Tmp) (nt:Nat):Prop where
 fi:FI N w G st a vs (λ_=>none)
 size:nt≤a.tmps.size
theorem EC (w:World) (G:GS):Ext w G w.drew G:=
 ⟨rfl,rfl,rfl,ao _,λ_ _ _=>rfl,λ_ _ h=>⟨h,rfl⟩,λ_ _ h => .inl h,λ_ h => .inr h,λ_ _ h=>h,ShapeLe.refl w,rfl⟩
theorem Le (w:World) (G:GS):xq (λ_=>False) w G w.drew G:=⟨λ_ _ h _=>⟨h,rfl,λ_ h=>h⟩,λ_ _ h=>h⟩
section
variable {E:Env} {N:Nm} {vs:List Tmp} {P:Program} {nt:Nat} {Q:Exit→Act→World→Prop}
theorem FI.begin {w:World} {G:GS} {st:St} {a:Act} (h:BI N w G st a vs nt) (lm:Nat→Option Tmp) (hl:∀j t,lm j=some t→t<nt) (n:Nat):FI N w G (AD n st) a vs lm:=by
 refine⟨h.fi.len,h.fi.var,?_,h.fi.tv,λj t hj=>aK (hl j t hj) h.size,h.fi.defers,h.fi.gen,h.fi.owlt,h.fi.fixlt,h.fi.heap,h.fi.hdom⟩
 intro j t u _ hu
 simp only[AD,ct] at hu
 split at hu
 ·simp at hu; subst hu; trivial
 ·simp at hu
theorem FI.finish {w:World} {G:GS} {st:St} {a:Act} {lm:Nat→Option Tmp} (h:FI N w G st a vs lm) (hs:nt≤a.tmps.size):BI N w G (xu st) a vs nt:=
 ⟨⟨h.len,h.var,(by intro j t u hj; simp at hj),h.tv,(by intro j t hj; simp at hj),h.defers,h.gen,h.owlt,h.fixlt,h.heap,h.hdom⟩,hs⟩
theorem FX {ops:List Oper} (h:Ey nt ops=true):∀j t,wk vs ops j=some t→t<nt:=by
 intro j t hj
 unfold wk at hj
 split at hj
 ·rename_i o ho
  split at hj
  ·rename_i t' js
   split at hj
   ·simp at hj
   ·simp at hj; subst hj
    have:=aD.1 h o (ax ho)
    simpa[js] using this
  ·simp at hj
 ·simp at hj
theorem H2 {ops:Array Oper} (h:FU ops.toList=true):∀(i:Nat) (o:Oper) c,ops[i]? = some o→o.op≠.defer c:=by
 intro i o c ho e
 have:=aD.1 h o (ax (by simpa using ho))
 rw[e] at this
 simp at this
theorem FY (n:Nat):xH n (Array.replicate n false)=List.range' 0 n:=by
 rw[← cG]
 unfold xH
 rw[List.filter_eq_self]
 intro i hi
 have:i<n:=by simpa using hi
 simp[aM,this]
theorem Lf (ops:Array Oper):FZ ops (Array.replicate ops.size false):=by
 intro k o ho jR
 have:k<ops.size:=(ba.1 ho).1
 simp[aM,this] at jR
variable {L:Nat→Option PFunc} {r:Option Nat}
theorem Lg (hF:yr N P L) (hE:EnvOk E N) (hP:E.P=P) (dq:P.follows .mixedOrders=true) (dl:vs.Nodup) {cf:wu} (dE:CallOK N P cf) (ec:∀k args h r,cf k args h=some r→∃f,L k=some f)
  {id:Nat} {ops:Array Oper} {d:Bool} {pos:List PO} (hc:Bi E nt vs ops d=some pos) {w:World} {G:GS} {st st':St} {a:Act} (hs:yx cf pos st=some st') (hb:BI N w G st a vs nt) (hQ:¬LetsOut Q)
  (hk:∀a' w' G',FI N w' G' st' a' vs (wk vs ops.toList)→Ext w G w' G'→nt≤a'.tmps.size→Q .normal a' w'):(Code.region id ops d).wpIn (W r) 0 P Q a w:=by
 unfold Bi at hc
 split at hc
 ·rename_i cR
  simp only[al] at cR
  simp only[ae] at hc
  obtain⟨pos',dQ,hc⟩:=hc
  split at hc
  ·simp at hc
  ·rename_i eX
   simp at hc; subst hc
   have nm:=F0 dl cR.1.1
   have cM:ops.size=pos'.length:=by have:=(CC dQ).1; simpa using this
   have fF:=FI.begin hb (wk vs ops.toList) (FX cR.1.2) pos'.length
   have hx:ye cf pos' (List.range' 0 pos'.length) (AD pos'.length st)=some st':=by
    rw[← F1 (all:=pos') (by simp)]; exact hs
   have dh:Next1 N w G a st' vs ops.toList (Q .normal):=λa' w' G' h1 h2 h3=>hk a' w' G' h1 h2 (by rw[h3]; exact hb.size)
   have dl:=H2 cR.2
   cases d with
   | false =>
     refine wpIn_region (Ia dl hQ ?_)
     have:List.range ops.size=List.range' 0 pos'.length:=by rw[cM,cG]
     rw[this]
     exact Ib hF hE hP nm dE ec dQ hx fF dh
   | true =>
     have jS:CA ops pos'=true:=by simpa using eX
     refine wpIn_region_draw λt=>Ia dl hQ ?_
     have iC:FI N w.drew G (AD pos'.length st) a vs (wk vs ops.toList):=fF.ext (EC w G) (Le w G) fF.gen fF.owlt fF.fixlt
     simp only[Region.schedule,dq,Bool.true_or,if_true]
     refine wpAny_sound ops.size t _ a _ ?_
     refine c0k hF hE hP nm dE ec dQ jS ops.size (by simp) (by rw[FY]; simp) (Lf ops) (by rw[FY,cM]; exact hx) iC (dh.trans (EC w G) rfl)
 ·simp at hc
theorem Ic (hF:yr N P L) (hE:EnvOk E N) (hP:E.P=P) {ops:Array Oper} (nm:Names vs (wk vs ops.toList)) {cf:wu} (dE:CallOK N P cf) {ob:xX} (dB:Dy N P ob) (dW:ED N P ob)
  (ec:∀k args h x,cf k args h=some x→∃f,L k=some f) (iD:∀k args h x,ob k args h=some x→∃f,L k=some f) (hd:∀(i:Nat) (o:Oper) c,ops[i]? = some o→o.op≠.defer c) {pos:List PO} (dQ:∀(i:Nat) (o:Oper),ops.toList[i]? = some o→∃p,pos[i]? = some p∧EE E vs ops.toList o=some p) (cM:ops.size=pos.length)
  {res:Option PV} {st':St} (hQ:¬LetsOut Q):
  ∀ {l : List Nat} {st : St} {w : World} {G : GS} {a : Act}, zk cf ob pos l st = some (res, st') → FI N w G st a vs (wk vs ops.toList) → (res = none → Next1 N w G a st' vs ops.toList (Q .normal)) →
    (∀p,res=some p→∀a' w' G' v,a'.tmps.size=a.tmps.size→VR N w' G'.fix G'.heap v p→Ext w G w' G'→FI N w' G' st' a' vs (wk vs ops.toList)→Q (.panic [{ v,recovered:=false }]) a' w')→wpOpsIn (W r) 0 P ops Q l a w
 | [], st, w, G, a, h, hf, hk, hb => by
   simp only[zk,aa,ac] at h
   obtain⟨rfl,rfl⟩:=h
   exact hk rfl _ _ G hf (Ext.refl _ _) rfl
 | i :: l, st, w, G, a, h, hf, hk, hb => by
   simp only[zk] at h
   split at h
   ·rename_i p hp
    have hi:i<ops.size:=by rw[cM]; exact(aj.1 hp).1
    obtain⟨p',eQ,fu⟩:=dQ i ops[i] (by simp[hi])
    have:p'=p:=by rw[hp] at eQ; simpa using eQ.symm
    subst this
    rw[wpOpsIn_cons]
    have pW:ops[i]? = some ops[i]:=by simp[hi]
    split at h
    ·rename_i st1 hs
     refine Lh (res:=none) hF hE hP nm pW hf dE dB dW ec iD (λc=>hd i _ c pW) fu hs hQ ?_ (λp e=>by simp at e)
     intro _ a' w' G' iX he cS
     exact Ic hF hE hP nm dE dB dW ec iD hd dQ cM hQ h iX (λhn=>(hk hn).trans he cS)
      (λp hp a2 w2 G2 v h1 h2 h3 h4=>hb p hp a2 w2 G2 v (h1.trans cS) h2 (he.trans h3) h4)
    ·rename_i da
     have hs:yq cf ob i p' st=some (res,st'):=h
     cases res with
     | none=>exact absurd hs (da st')
     | some v =>
       refine Lh (res:=some v) hF hE hP nm pW hf dE dB dW ec iD (λc=>hd i _ c pW) fu hs hQ (λe=>by simp at e) ?_
       rintro p e w' G' u h1 h2 h3
       cases e
       exact hb v rfl a w' G' u rfl h1 h2 h3
   ·simp at h
theorem F2:∀{os:List Oper} {pos:List PO} {ops:List Oper},Ez E vs ops os=some pos→os.length=pos.length∧∀(i:Nat) (o:Oper),os[i]? = some o→∃p,pos[i]? = some p∧EE E vs ops o=some p
 | [],pos,ops,h=>by simp[Ez] at h; subst h; simp
 | o :: os, pos, ops, h => by
   simp only[Ez,ae,ab] at h
   obtain⟨p,hp,ps,ea,rfl⟩:=h
   obtain⟨h1,h2⟩:=F2 ea
   refine⟨by simp[h1],?_⟩
   intro i x hx
   cases i with
   | zero=>simp at hx; subst hx; exact⟨p,rfl,hp⟩
   | succ i=>exact h2 i x (by simpa using hx)
theorem F3 (hF:yr N P L) (hE:EnvOk E N) (hP:E.P=P) (dq:P.follows .mixedOrders=true) (dl:vs.Nodup) {cf:wu} (dE:CallOK N P cf) {ob:xX} (dB:Dy N P ob) (dW:ED N P ob)
  (ec:∀k args h r,cf k args h=some r→∃f,L k=some f) (iD:∀k args h x,ob k args h=some x→∃f,L k=some f)
  {id:Nat} {ops:Array Oper} {d:Bool} {pos:List PO} (hc:CB E nt vs ops d=some pos) {w:World} {G:GS} {st st':St} {a:Act} {res:Option PV} (hs:xJ cf ob 0 pos (AD pos.length st)=some (res,st')) (hb:BI N w G st a vs nt) (hQ:¬LetsOut Q)
  (hk:res=none→∀a' w' G',FI N w' G' st' a' vs (wk vs ops.toList)→Ext w G w' G'→nt≤a'.tmps.size→Q .normal a' w')
  (qD:∀p,res=some p→∀a' w' G' v,VR N w' G'.fix G'.heap v p→Ext w G w' G'→BI N w' G' (xu st') a' vs nt→Q (.panic [{ v,recovered:=false }]) a' w'):(Code.region id ops d).wpIn (W r) 0 P Q a w:=by
 unfold CB at hc
 split at hc
 ·rename_i cR
  simp only[al] at cR
  simp only[ae] at hc
  obtain⟨pos',dQ,hc⟩:=hc
  split at hc
  ·simp at hc
  ·rename_i eX
   simp at hc; subst hc
   have nm:=F0 dl cR.1.1
   have cM:ops.size=pos'.length:=by have:=(F2 dQ).1; simpa using this
   have fF:=FI.begin hb (wk vs ops.toList) (FX cR.1.2) pos'.length
   have hx:zk cf ob pos' (List.range' 0 pos'.length) (AD pos'.length st)=some (res,st'):=by
    rw[← Li (all:=pos') (by simp)]; exact hs
   have dh:res=none→Next1 N w G a st' vs ops.toList (Q .normal):=λhn a' w' G' h1 h2 h3=>hk hn a' w' G' h1 h2 (by rw[h3]; exact hb.size)
   have nP:∀p,res=some p→∀a' w' G' v,a'.tmps.size=a.tmps.size→VR N w' G'.fix G'.heap v p→Ext w G w' G'→FI N w' G' st' a' vs (wk vs ops.toList)→Q (.panic [{ v,recovered:=false }]) a' w':=
    λp hp a' w' G' v h1 h2 h3 h4=>qD p hp a' w' G' v h2 h3 (FI.finish h4 (by rw[h1]; exact hb.size))
   have dl:=H2 cR.2
   cases d with
   | false =>
     refine wpIn_region ?_
     have:List.range ops.size=List.range' 0 pos'.length:=by rw[cM,cG]
     rw[this]
     exact Ic hF hE hP nm dE dB dW ec iD dl (F2 dQ).2 cM hQ hx fF dh nP
   | true =>
     have jS:CA ops pos'=true:=by simpa using eX
     refine wpIn_region_draw λt =>?_
     have iC:FI N w.drew G (AD pos'.length st) a vs (wk vs ops.toList):=fF.ext (EC w G) (Le w G) fF.gen fF.owlt fF.fixlt
     simp only[Region.schedule,dq,Bool.true_or,if_true]
     have gK:=c4D cM jS ops.size t (listed:=Array.replicate ops.size false) (by simp) (by rw[FY]; simp) (Lf ops) (by rw[FY,cM]; exact hx)
     exact Ic hF hE hP nm dE dB dW ec iD dl (F2 dQ).2 cM hQ gK iC (λhn=>(dh hn).trans (EC w G) rfl)
      (λp hp a' w' G' v h1 h2 h3 h4=>nP p hp a' w' G' v h1 h2 ((EC w G).trans h3) h4)
 ·simp at hc
theorem BI.putOther {w:World} {G:GS} {st:St} {a:Act} (h:BI N w G st a vs nt) {d:Tmp} (hd:(x5 d vs 0).isNone=true) (v:Value):BI N w G st (a.put (some d) v) vs nt:=by
 refine⟨⟨h.fi.len,?_,(by intro j t u hj; simp at hj),λi t ht=>by simpa[Act.put] using h.fi.tv i t ht,(by intro j t hj; simp at hj),h.fi.defers,h.fi.gen,h.fi.owlt,h.fi.fixlt,h.fi.heap,h.fi.hdom⟩,by simpa[Act.put] using h.size⟩
 intro i t u h1 h2
 have da:t≠d:=by
  rintro rfl
  have:=Id h1 0
  simp at hd
  rw[hd] at this
  simp at this
 have:(a.put (some d) v).eval (.tmp t)=a.eval (.tmp t):=by
  simp only[Act.eval,Act.put,aM,bb]
  rw[af (Ne.symm da)]
 rw[this]
 exact h.fi.var i t u h1 h2
theorem Lj (hF:yr N P L) (hE:EnvOk E N) (hP:E.P=P) {ops:Array Oper} (nm:Names vs (wk vs ops.toList)) {cf:wu} (dE:CallOK N P cf)
  (ec:∀k args h x,cf k args h=some x→∃f,L k=some f) (hd:∀(i:Nat) (o:Oper) c,ops[i]? = some o→o.op≠.defer c) {pos:List PO} (dQ:∀(i:Nat) (p:PO),pos[i]? = some p→∃o,ops[i]? = some o∧CY E vs ops.toList o=some p)
  {st':St} (hQ:¬LetsOut Q) {rest:List Nat}:
  ∀{l:List Nat} {st:St} {w:World} {G:GS} {a:Act},ye cf pos l st=some st'→FI N w G st a vs (wk vs ops.toList)→Next1 N w G a st' vs ops.toList (wpOpsIn (W r) 0 P ops Q rest)→wpOpsIn (W r) 0 P ops Q (l++rest) a w
 | [], st, w, G, a, h, hf, hk => by
   simp only[ye,aa] at h
   subst h
   exact hk _ _ G hf (Ext.refl _ _) rfl
 | i :: l, st, w, G, a, h, hf, hk => by
   simp only[ye] at h
   split at h
   ·rename_i p hp
    simp only[ae] at h
    obtain⟨st1,h1,h2⟩:=h
    obtain⟨o,ho,fu⟩:=dQ i p hp
    rw[aJ,wpOpsIn_cons]
    refine Ie (λo' c eL=>hd i o' c eL) hQ (F4 hF hE hP nm ho hf dE ec fu h1 ?_)
    intro a' w' G' iX he cS
    exact Lj hF hE hP nm dE ec hd dQ hQ h2 iX (hk.trans he cS)
   ·simp at h
theorem b6X (hF:yr N P L) (hE:EnvOk E N) (hP:E.P=P) (dl:vs.Nodup) {cf:wu} (dE:CallOK N P cf) (ec:∀k args h r,cf k args h=some r→∃f,L k=some f)
  {id:Nat} {ops:Array Oper} {pos:List PO} {t:Nat} {px:PX} (hc:EA E nt vs ops=some (pos,t,px)) {w:World} {G:GS} {st st1:St} {a:Act} {u:PV} (hs:yx cf pos st=some st1) (hu:rd st1 px=some u) (hb:BI N w G st a vs nt) (hQ:¬LetsOut Q)
  (qD:∀a' w' G' v,VR N w' G'.fix G'.heap v (.iface t u)→Ext w G w' G'→BI N w' G' (xu st1) a' vs nt→Q (.panic [{ v,recovered:=false }]) a' w'):(Code.region id ops false).wpIn (W r) 0 P Q a w:=by
 unfold EA at hc
 split at hc
 ·rename_i cR
  simp only[al] at cR
  split at hc
  ·rename_i d T x ty1 p1 af1 dst2 d' ty2 p2 af2 iY
   split at hc
   ·simp at hc
   ·simp at hc
   ·rename_i tu qE ug
    split at hc
    ·rename_i gL
     obtain⟨rfl,ng,h2⟩:=gL
     simp only[ae,ab,ac] at hc
     obtain⟨pos',dQ,px',fv,i,hi,rfl,rfl,rfl⟩:=hc
     obtain⟨m,hm⟩:∃m,ops.size=m+2:=⟨ops.size - 2,by omega⟩
     rw[hm] at iY dQ
     simp only[Nat.add_sub_cancel] at iY dQ
     have nm:=F0 dl cR.1.1
     have fW:pos'.length=m:=by
      have:=(CC dQ).1
      rw[bP] at this
      simp at this
      omega
     have ed:=H2 cR.2
     have uh:∀(i:Nat) (p:PO),pos'[i]? = some p→∃o,ops[i]? = some o∧CY E vs ops.toList o=some p:=by
      intro i p hp
      have cQ:=(aj.1 hp).1
      have jT:i<ops.size:=by omega
      obtain⟨p',eQ,fu⟩:=(CC dQ).2 i ops[i] (by rw[List.getElem?_take_of_lt (by omega)]; simp[jT])
      rw[hp] at eQ
      cases eQ
      exact⟨ops[i],by simp[jT],fu⟩
     have fF:=FI.begin hb (wk vs ops.toList) (FX cR.1.2) pos'.length
     have hx:ye cf pos' (List.range' 0 pos'.length) (AD pos'.length st)=some st1:=by
      rw[← F1 (all:=pos') (by simp)]; exact hs
     have sY:ops.toList[m]? = some ⟨some d,.makeInterface T x,ty1,p1,af1,none⟩:=by
      have:=aE (·[0]?) iY
      simpa[aW] using this
     have qF:ops.toList[m+1]? = some ⟨dst2,.panic (.tmp d),ty2,p2,af2,none⟩:=by
      have:=aE (·[1]?) iY
      simpa[aW] using this
     have dc:d<nt:=by
      have:=aD.1 cR.1.2 _ (ax sY)
      simpa using this
     have iE:List.range ops.size=List.range' 0 pos'.length++[m,m+1]:=by
      rw[hm,fW,cG,List.range'_eq_append_iff]
      exact⟨m,by omega,rfl,by rw[show m+2 - m=2 by omega]; simp[List.range'_succ]⟩
     refine wpIn_region ?_
     rw[iE]
     refine Lj hF hE hP nm dE ec ed uh hQ hx fF ?_
     intro a' w' G' iX he cS
     have eh:=(wU hE fv iX hu).1
     have ui:=hE.pt T i hi
     have uj:P.underlying T=some tu:=by rw[← hP]; exact ug
     rw[wpOpsIn_cons]
     unfold wpOpIn
     have uk:ops[m]? = some ⟨some d,.makeInterface T x,ty1,p1,af1,none⟩:=by simpa using sY
     have ul:ops[m+1]? = some ⟨dst2,.panic (.tmp d),ty2,p2,af2,none⟩:=by simpa using qF
     simp only[uk,Region.wanted,if_true]
     refine⟨λ_ _=>Ah _,?_⟩
     rw[Oper.semAt_eq _ _ _ (by simp)]
     have cO:(execOp a'.eval (⟨some d,.makeInterface T x,ty1,p1,af1,none⟩:Oper)).run P w' = .ok (.value (.iface T (a'.eval x))) w':=by
      have um:=run_underlying uj w'
      simp only[execOp,Instr.makeInterface,Sem.run_bind,um,Result.andThen_ok]
      cases tu<;>first|(exfalso; exact qE _ rfl)|simp
     rw[cO,Oper.uponIn_value]
     rw[wpOpsIn_cons]
     unfold wpOpIn
     simp only[ul,Region.wanted,if_true]
     refine⟨λ_ _=>Ah _,?_⟩
     rw[Oper.semAt_eq _ _ _ (by simp)]
     have eM:(a'.put (some d) (.iface T (a'.eval x))).eval (.tmp d) = .iface T (a'.eval x):=by
      have:d<a'.tmps.size:=by rw[cS]; exact aK dc hb.size
      simp[Act.eval,Act.put,aM,bb,this]
     have jU:(execOp (a'.put (some d) (.iface T (a'.eval x))).eval (⟨dst2,.panic (.tmp d),ty2,p2,af2,none⟩:Oper)).run P w' = .halt (.panic (.iface T (a'.eval x))) w':=by
      simp only[execOp,Instr.panic,eM]
      rfl
     rw[jU,Oper.uponIn_panic]
     refine qD _ w' G' _ ?_ he ((FI.finish iX (by rw[cS]; exact hb.size)).putOther ng _)
     rw[← ui]
     exact .iface _ _ _ eh
    ·simp at hc
  ·simp at hc
 ·simp at hc
end
end PI
