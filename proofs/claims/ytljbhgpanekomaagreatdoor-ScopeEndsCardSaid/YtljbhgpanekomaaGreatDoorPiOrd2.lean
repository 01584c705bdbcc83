import Derived.Test.YtljbhgpanekomaaGreatDoorPiOrd
import Derived.Test.YtljbhgpanekomaaGreatDoorPiSoundN
import Derived.RangeFuncLeaves
import Derived.RangeFuncIn
import Derived.LoopNIn
import Derived.OrdersIn
import Derived.BigRegion
set_option linter.unusedSimpArgs false
set_option linter.unusedVariables false
set_option linter.unusedSectionVars false
namespace PI
open Go Go.RowKit
abbrev c8N (p:PO) (st st':St):Prop:=Sim p.op (a4Y p) st st'
theorem a6c (p:PO):∀x∈a0r p.op,x∈a4Y p:=λx hx=>by simp only[a4Y,List.mem_append]; exact .inr hx
theorem b1k (o:POp):∀x∈a1k o,x∈a0r o:=by
 intro x hx
 cases o with
 | h o=>cases o<;>simp[a1k,a0r,a0A] at hx ⊢; exact .inl hx
 | take y=>simpa[a1k,a0r] using hx
 | append a b c d=>simp[a1k,a0r] at hx ⊢; exact .inl hx
 | appstr a b=>simp[a1k,a0r] at hx ⊢; exact .inl hx
 | pcallx k xs own =>
   cases own with
   | none=>simp[a1k] at hx
   | some i=>simp only[a1k,Option.mem_toList] at hx; exact List.mem_of_getElem? hx
 | _=>simp[a1k] at hx
theorem b6W {cf:a0v} {j:Nat} {p:PO} {st st1:St} (hm:a1o p.op≠2) (h:a20 cf j p st=some st1):
  ∃(d:Dm) (u:PV),st1=put (d.app st) j p.dst u∧b3Z p.op d∧∀st',c8N p st st'→a20 cf j p st'=some (put (d.app st') j p.dst u):=by
 have run:(opv cf p.op st).map (λr=>put r.2 j p.dst r.1)=some st1→∃(d:Dm) (u:PV),st1=put (d.app st) j p.dst u∧b3Z p.op d∧∀st',c8N p st st'→(opv cf p.op st').map (λr=>put r.2 j p.dst r.1)=some (put (d.app st') j p.dst u):=by
  intro h
  simp only[Option.map_eq_some_iff] at h
  obtain⟨⟨u,st2⟩,h1,rfl⟩:=h
  obtain⟨d,e,hf,hs⟩:=c6x (rs:=a4Y p) hm (a6c p) h1
  exact ⟨d,u,by rw[e],hf,λst' hsim=>by rw[hs st' hsim]; rfl⟩
 unfold a20 at h
 split at h
 ·rename_i hg
  obtain⟨d,u,h1,h2,h3⟩:=run h
  exact ⟨d,u,h1,h2,λst' hs=>by simp only[a20,hg]; exact h3 st' hs⟩
 ·rename_i x want hg
  have hx:x∈a4Y p:=by simp[a4Y,hg]
  split at h
  ·rename_i b hb
   split at h
   ·rename_i hbw
    obtain⟨d,u,h1,h2,h3⟩:=run h
    refine⟨d,u,h1,h2,λst' hs =>?_⟩
    have hb':rd st' x=some (.bool b):=by rw[← hs.rd hx]; exact hb
    simp only[a20,hg,hb',if_pos hbw]
    exact h3 st' hs
   ·rename_i hbw
    simp only[Option.some.injEq] at h; subst h
    refine⟨.none,.tuple [],rfl,trivial,λst' hs =>?_⟩
    have hb':rd st' x=some (.bool b):=by rw[← hs.rd hx]; exact hb
    simp only[a20,hg,hb',if_neg hbw]
    rfl
  ·rename_i hb
   simp only[Option.some.injEq] at h; subst h
   refine⟨.none,.tuple [],rfl,trivial,λst' hs =>?_⟩
   have hb':rd st' x=some (.tuple []):=by rw[← hs.rd hx]; exact hb
   simp only[a20,hg,hb']
   rfl
  ·simp at h
theorem b8K {st:St} {j:Nat} {d:PD} {u:PV} {x:PX} (h:isX d j x=false):raw (put st j d u) x=raw st x:=by
 cases d<;>cases x<;>simp[isX,a39] at h<;>simp only[put,raw]<;>first|rfl|(rw[List.getElem?_set]; simp[h])
theorem c1S (v:PV):vw (dem v)=vw v:=by cases v<;>rfl
theorem b7w (off:Nat) (v:PV):vw (a5U off v)=vw v:=by cases v<;>rfl
theorem b8L {y x:PX} (st:St) (h:a39 y x=false):raw (a4P y st) x=raw st x:=by
 cases y with
 | v i =>
   cases x with
   | v k=>simp[a39] at h; simp[a4P,raw,List.getElem?_modify,h]
   | _=>rfl
 | _=>cases x<;>rfl
theorem b1l:∀{xs:List PX} {x:PX} (st:St),(∀y∈xs,a39 y x=false)→raw (a3P xs st) x=raw st x
 | [],_,_,_=>rfl
 | y :: xs, x, st, h => by
   simp only[a3P]
   rw[b1l (xs:=xs) _ (λz hz=>h z (List.mem_cons_of_mem _ hz)),b8L st (h y (List.mem_cons_self ..))]
theorem b2C:∀(xs:List PX) (st:St),(a3P xs st).heap=st.heap
 | [],_=>rfl
 | x::xs,st=>by simp only[a3P]; rw[b2C xs]; cases x<;>rfl
theorem a6z:∀(xs:List PX) (st:St) (h:List PObj),a3P xs { st with heap:=h }={ a3P xs st with heap:=h }
 | [],_,_=>rfl
 | x :: xs, st, h => by
   simp only[a3P]
   rw[← a6z xs]
   cases x<;>rfl
theorem b7x (d:Dm) (st:St) (x:PX) (hsh:∀xs,d = .shut xs→∀y∈xs,a39 y x=false):(raw (d.app st) x).map vw=(raw st x).map vw:=by
 cases d with
 | none=>rfl
 | heap h=>cases x<;>rfl
 | shut xs=>simp only[Dm.app]; rw[b1l st (hsh xs rfl)]
 | src y =>
   cases y with
   | c p=>rfl
   | v i =>
     cases x with
     | v k =>
       simp only[Dm.app,raw,List.getElem?_modify]
       cases st.vars[k]?<;>simp
       split<;>simp[c1S]
     | _=>rfl
   | l i =>
     cases x with
     | l k =>
       simp only[Dm.app,raw,List.getElem?_modify]
       cases st.locs[k]?<;>simp
       split<;>simp[c1S]
     | _=>rfl
 | cell s off =>
   cases x with
   | v k =>
     simp only[Dm.app,raw,List.getElem?_modify]
     cases st.vars[k]?<;>simp
     split<;>simp[b7w]
   | _=>rfl
theorem b5X {o:POp} {d:Dm} (hd:b3Z o d) (st:St) (x:PX) (hx:∀y∈a1k o,a39 y x=false) (hsh:∀xs,d = .shut xs→∀y∈xs,a39 y x=false) (es:List PV):raw (d.app st) x=some (.list true es)↔raw st x=some (.list true es):=by
 cases d with
 | none=>exact Iff.rfl
 | heap h=>cases x<;>exact Iff.rfl
 | shut xs=>simp only[Dm.app]; rw[b1l st (hsh xs rfl)]
 | src y =>
   have hy:=hx y hd
   cases y with
   | c p=>exact Iff.rfl
   | v i =>
     cases x with
     | v k=>simp[a39] at hy; simp[Dm.app,raw,List.getElem?_modify,hy]
     | _=>exact Iff.rfl
   | l i =>
     cases x with
     | l k=>simp[a39] at hy; simp[Dm.app,raw,List.getElem?_modify,hy]
     | _=>exact Iff.rfl
 | cell s off =>
   cases x with
   | v k =>
     simp only[Dm.app,raw,List.getElem?_modify]
     cases hv:st.vars[k]? with
     | none=>simp
     | some v =>
       simp only[Option.map_some,Option.some.injEq]
       split
       ·cases v<;>simp[a5U]
       ·simp
   | _=>exact Iff.rfl
theorem c2Y (v:PV):dem (dem v)=dem v:=by cases v<;>rfl
theorem a5V (cs:List PV) (off:Nat):(cs.modify off dem).map dem=cs.map dem:=by
 apply List.ext_getElem?
 intro k
 simp only[List.getElem?_map,List.getElem?_modify]
 cases cs[k]?<;>simp
 split<;>simp[c2Y]
theorem b8M {o:POp} {d:Dm} (hd:b3Z o d) (st:St) (exact:Bool) (he:exact=true→a1o o≠3) (h4:a1o o≠4):b1h exact st (d.app st)∧b1h exact (d.app st) st:=by
 have same:∀(st st':St),(∀s:Nat,∀g cs,st.vars[s]? = some (.loc g cs)→st'.vars[s]? = some (.loc g cs))→b1h exact st st':=λst st' h s g cs hs=>⟨cs,h s g cs hs,rfl,λ_=>rfl⟩
 cases d with
 | none=>exact ⟨same _ _ (λ_ _ _ h=>h),same _ _ (λ_ _ _ h=>h)⟩
 | heap h=>exact ⟨same _ _ (λ_ _ _ h=>h),same _ _ (λ_ _ _ h=>h)⟩
 | shut xs=>exact absurd hd.1 h4
 | src y =>
   cases y with
   | c p=>exact ⟨same _ _ (λ_ _ _ h=>h),same _ _ (λ_ _ _ h=>h)⟩
   | l i=>exact ⟨same _ _ (λ_ _ _ h=>h),same _ _ (λ_ _ _ h=>h)⟩
   | v i =>
     refine⟨same _ _ ?_,same _ _ ?_⟩
     ·intro s g cs h
      simp only[Dm.app,List.getElem?_modify,h,Option.map_some]
      split<;>rfl
     ·intro s g cs h
      simp only[Dm.app,List.getElem?_modify] at h
      cases hv:st.vars[s]? with
      | none=>simp[hv] at h
      | some v =>
        rw[hv] at h
        simp only[Option.map_eq_map,Option.map_some,Option.some.injEq] at h
        split at h
        ·have:v = .loc g cs:=by cases v<;>simp_all [dem]
         rw[this]
        ·rw[h]
 | cell s off =>
   have h3:a1o o=3:=hd
   have hne:exact=false:=by
    cases exact with
    | false=>rfl
    | true=>exact absurd h3 (he rfl)
   subst hne
   refine⟨?_,?_⟩
   ·intro k g cs h
    simp only[Dm.app,List.getElem?_modify,h,Option.map_some]
    split
    ·exact ⟨cs.modify off dem,rfl,a5V cs off,by simp⟩
    ·exact ⟨cs,rfl,rfl,by simp⟩
   ·intro k g cs h
    simp only[Dm.app,List.getElem?_modify] at h
    cases hv:st.vars[k]? with
    | none=>simp[hv] at h
    | some v =>
      rw[hv] at h
      simp only[Option.map_eq_map,Option.map_some,Option.some.injEq] at h
      split at h
      ·have:∃cs0,v = .loc g cs0∧cs0.modify off dem=cs:=by cases v<;>simp_all [a5U]
       obtain⟨cs0,rfl,rfl⟩:=this
       exact ⟨_,rfl,(a5V _ off).symm,by simp⟩
      ·exact ⟨cs,by rw[h],rfl,by simp⟩
structure Comm (jp:Nat) (p:PO) (jq:Nat) (q:PO):Prop where
 mp:a1o p.op≠2
 mq:a1o q.op≠2
 mm:¬(a1o p.op=3∧a1o q.op=3)
 pq:∀x∈a4Y q,isX p.dst jp x=false
 pv:isV p.dst=true→a1o q.op=0
 qp:∀x∈a4Y p,isX q.dst jq x=false
 qv:isV q.dst=true→a1o p.op=0
 dd:b5W p.dst q.dst=false
 tt:∀x∈a1k p.op,∀y∈a1k q.op,a39 x y=false
 m4:a1o p.op=4→a1o q.op=0
 n4:a1o q.op=4→a1o p.op=0
 h2:a2c p.op=2→a2c q.op=0
 k2:a2c q.op=2→a2c p.op=0
 sp:∀x∈a7g p.op,∀y∈a4Y q,a39 x y=false
 sq:∀x∈a7g q.op,∀y∈a4Y p,a39 x y=false
theorem b7y (x y:PX):a39 x y=a39 y x:=by cases x<;>cases y<;>simp[a39]<;>exact Bool.beq_comm
theorem b2D (x y:PD):b5W x y=b5W y x:=by cases x<;>cases y<;>simp[b5W]<;>exact Bool.beq_comm
theorem b4q {jp jq:Nat} {p q:PO} (h:c4S jp p jq q=true):Comm jp p jq q:=by
 simp only[c4S,b7u,Bool.and_eq_true,Bool.not_eq_true',bne_iff_ne,ne_eq,List.all_eq_true,Bool.or_eq_true,beq_iff_eq,Bool.and_eq_false_iff,beq_eq_false_iff_ne,bne_eq_false_iff_eq,List.any_eq_false] at h
 obtain⟨⟨⟨⟨⟨⟨⟨⟨⟨⟨⟨⟨h1,h2⟩,h3⟩,a1⟩,a2⟩,a3⟩,a4⟩,a5⟩,a6⟩,h4,h5⟩,h6,h7⟩,h8⟩,h9⟩:=h
 have neg:∀{a b:Nat} {c:Nat},(¬a=c∨b=0)→a=c→b=0:=by
  intro a b c h e
  rcases h with h|h
  ·exact absurd e h
  ·exact h
 refine⟨h1,h2,?_,h4,?_,h6,?_,h8,?_,neg a1,neg a2,neg a3,neg a4,?_,?_⟩
 ·rintro⟨a,b⟩; rcases h3 with h3|h3
  ·exact h3 a
  ·exact h3 b
 ·intro hv; rcases h5 with h5|h5
  ·rw[hv] at h5; simp at h5
  ·exact h5
 ·intro hv; rcases h7 with h7|h7
  ·rw[hv] at h7; simp at h7
  ·exact h7
 ·intro x hx y hy
  simpa using h9 x hx y hy
 ·intro x hx y hy
  simpa using a5 x hx y hy
 ·intro x hx y hy
  simpa using a6 x hx y hy
theorem Comm.symm {jp jq:Nat} {p q:PO} (h:Comm jp p jq q):Comm jq q jp p:=
 ⟨h.mq,h.mp,fun⟨a,b⟩=>h.mm ⟨b,a⟩,h.qp,h.qv,h.pq,h.pv,by rw[b2D]; exact h.dd,λx hx y hy=>by rw[b7y]; exact h.tt y hy x hx,h.n4,h.m4,h.k2,h.h2,h.sq,h.sp⟩
theorem b4r:∀(xs:List PX) (st:St) (s:Nat),(∀y∈xs,a39 y (.v s)=false)→(a3P xs st).vars[s]? = st.vars[s]?
 | [],_,_,_=>rfl
 | x :: xs, st, s, h => by
   simp only[a3P]
   rw[b4r xs _ s (λy hy=>h y (by simp[hy]))]
   have:=h x (by simp)
   cases x with
   | v i =>
     have hne:¬i=s:=by simpa[a39] using this
     simp only[a4P,List.getElem?_modify,if_neg hne]
     cases st.vars[s]?<;>rfl
   | l i=>rfl
   | c p=>rfl
theorem c0w {o:POp} {d:Dm} (hd:b3Z o d) (st:St) (s:Nat) (hsh:∀xs,d = .shut xs→∀y∈xs,a39 y (.v s)=false):b0g s st (d.app st)∧b0g s (d.app st) st:=by
 have by_loc:a1o o≠4→b0g s st (d.app st)∧b0g s (d.app st) st:=by
  intro h4
  obtain⟨h1,h2⟩:=b8M hd st false (by simp) h4
  exact ⟨λg cs h=>let ⟨cs',a,b,_⟩:=h1 s g cs h; ⟨cs',a,b⟩,λg cs h=>let ⟨cs',a,b,_⟩:=h2 s g cs h; ⟨cs',a,b⟩⟩
 cases d with
 | none=>exact ⟨λg cs h=>⟨cs,h,rfl⟩,λg cs h=>⟨cs,h,rfl⟩⟩
 | heap h=>exact ⟨λg cs h=>⟨cs,h,rfl⟩,λg cs h=>⟨cs,h,rfl⟩⟩
 | shut xs =>
   have:=b4r xs st s (hsh xs rfl)
   exact ⟨λg cs h=>⟨cs,by simp only[Dm.app]; rw[this]; exact h,rfl⟩,λg cs h=>⟨cs,by simp only[Dm.app] at h; rw[this] at h; exact h,rfl⟩⟩
 | src y =>
   refine by_loc ?_
   have hy:y∈a1k o:=hd
   intro h4
   cases o<;>simp[a1k] at hy<;>simp[a1o] at h4
   case h o=>cases o<;>simp[a1k] at hy<;>simp[a1o] at h4
   all_goals (try (split at h4<;>simp at h4))
 | cell s' off =>
   refine by_loc ?_
   have h3:a1o o=3:=hd
   omega
theorem b2E {jp jq:Nat} {p q:PO} (hc:Comm jp p jq q) {d:Dm} (hd:b3Z p.op d) (st:St) (u:PV):c8N q st (put (d.app st) jp p.dst u)∧c8N q (put (d.app st) jp p.dst u) st:=by
 have hsh:∀x∈a4Y q,∀xs,d = .shut xs→∀y∈xs,a39 y x=false:=by
  intro x hx xs e y hy
  subst e
  exact hc.sp y (hd.2▸hy) x hx
 have hreads:∀x∈a4Y q,(raw st x).map vw=(raw (put (d.app st) jp p.dst u) x).map vw:=λx hx=>by
  rw[b8K (hc.pq x hx),b7x d st x (hsh x hx)]
 have htakes:∀x∈a1k q.op,∀es,raw st x=some (.list true es)↔raw (put (d.app st) jp p.dst u) x=some (.list true es):=λx hx es=>by
  rw[b8K (hc.pq x (a6c q x (b1k _ x hx))),b5X hd st x (λy hy=>hc.tt y hy x hx) (hsh x (a6c q x (b1k _ x hx)))]
 have hmem:1≤a1o q.op→b1h (a1o q.op==3) st (put (d.app st) jp p.dst u)∧b1h (a1o q.op==3) (put (d.app st) jp p.dst u) st:=λh1=>by
  have hv:(put (d.app st) jp p.dst u).vars=(d.app st).vars:=by
   cases hd:p.dst with
   | v i=>have:=hc.pv (by rw[hd]; rfl); omega
   | l=>rfl
   | n=>rfl
  have:=b8M hd st (a1o q.op==3) (λhe h3=>hc.mm ⟨h3,by simpa using he⟩) (λh4=>by have:=hc.m4 h4; omega)
  unfold b1h at this ⊢
  rw[hv]
  exact this
 have hheap:1≤a2c q.op→(put (d.app st) jp p.dst u).heap=st.heap:=by
  intro h1
  have hp:(put (d.app st) jp p.dst u).heap=(d.app st).heap:=by cases p.dst<;>rfl
  rw[hp]
  cases d with
  | none=>rfl
  | src y=>cases y<;>rfl
  | cell s off=>rfl
  | heap h=>have:=hc.h2 hd; omega
  | shut xs=>exact b2C xs st
 have hslot:∀s,b8G q.op=some s→b0g s st (put (d.app st) jp p.dst u)∧b0g s (put (d.app st) jp p.dst u) st:=by
  intro s hs
  have hx:PX.v s∈a4Y q:=by
   refine a6c q _ ?_
   cases hq:q.op<;>rw[hq] at hs<;>simp[b8G] at hs
   subst hs
   simp[a0r]
  have hp:(put (d.app st) jp p.dst u).vars[s]? = (d.app st).vars[s]? := by
   have h1:=hc.pq _ hx
   cases hd':p.dst with
   | v i =>
     rw[hd'] at h1
     have hne:¬i=s:=by simpa[isX,a39] using h1
     simp only[put,List.getElem?_set,if_neg hne]
   | l=>rfl
   | n=>rfl
  obtain⟨h1,h2⟩:=c0w hd st s (λxs e y hy=>hsh _ hx xs e y hy)
  refine⟨λg cs h =>?_,λg cs h =>?_⟩
  ·obtain⟨cs',a,b⟩:=h1 g cs h
   exact ⟨cs',by rw[hp]; exact a,b⟩
  ·rw[hp] at h
   exact h2 g cs h
 exact ⟨⟨hreads,htakes,λh=>(hmem h).1,hheap,hslot⟩,⟨λx hx=>(hreads x hx).symm,λx hx es=>(htakes x hx es).symm,λh=>(hmem h).2,λh=>(hheap h).symm,λs hs=>(hslot s hs).symm⟩⟩
theorem a5h (l:List PV) (i k:Nat) (f g:PV→PV) (h:i=k→∀v,f (g v)=g (f v)):(l.modify i f).modify k g=(l.modify k g).modify i f:=by
 apply List.ext_getElem?
 intro m
 simp only[List.getElem?_modify,Option.map_eq_map,Option.map_map]
 cases l[m]? with
 | none=>rfl
 | some v =>
   simp only[Option.map_some,Function.comp]
   by_cases h1:i=m<;>by_cases h2:k=m<;>simp[h1,h2]
   exact (h (by omega) v).symm
theorem b1m (off:Nat) (v:PV):dem (a5U off v)=a5U off (dem v):=by cases v<;>rfl
theorem b8N (v:PV):b2n (dem v)=dem (b2n v):=by cases v<;>rfl
theorem b3m (off:Nat) (v:PV):b2n (a5U off v)=a5U off (b2n v):=by
 cases v<;>simp[a5U,b2n,a5V]
theorem b8O (x y:PX) (st:St):a4P x ((Dm.src y).app st)=(Dm.src y).app (a4P x st):=by
 cases x<;>cases y<;>(try simp only[Dm.app,a4P])<;>(try rfl)
 rw[a5h]; intro _ v; exact (b8N v).symm
theorem b7z (x:PX) (s off:Nat) (st:St):a4P x ((Dm.cell s off).app st)=(Dm.cell s off).app (a4P x st):=by
 cases x<;>(try simp only[Dm.app,a4P])<;>(try rfl)
 rw[a5h]; intro _ v; exact (b3m off v).symm
theorem b1n:∀(xs:List PX) (y:PX) (st:St),a3P xs ((Dm.src y).app st)=(Dm.src y).app (a3P xs st)
 | [],_,_=>rfl
 | x::xs,y,st=>by simp only[a3P]; rw[b8O,b1n xs]
theorem a9A:∀(xs:List PX) (s off:Nat) (st:St),a3P xs ((Dm.cell s off).app st)=(Dm.cell s off).app (a3P xs st)
 | [],_,_,_=>rfl
 | x::xs,s,off,st=>by simp only[a3P]; rw[b7z,a9A xs]
theorem c2Z {o o':POp} {d d':Dm} (hd:b3Z o d) (hd':b3Z o' d') (hm:¬(a1o o=3∧a1o o'=3)) (h4:a1o o=4→a1o o'=0) (h2:a2c o=2→a2c o'=0) (st:St):d.app (d'.app st)=d'.app (d.app st):=by
 cases d with
 | none=>rfl
 | heap h =>
   cases d' with
   | none=>rfl
   | src y=>cases y<;>rfl
   | cell s off=>rfl
   | heap h' =>
     have a:=h2 hd
     have b:a2c o'=2:=hd'
     omega
   | shut xs=>exact (a6z xs st h).symm
 | shut xs =>
   cases d' with
   | none=>rfl
   | src y=>exact b1n xs y st
   | cell s off=>exact a9A xs s off st
   | heap h'=>exact a6z xs st h'
   | shut ys =>
     have a:=h4 hd.1
     have b:a1o o'=4:=hd'.1
     omega
 | src y =>
   cases d' with
   | heap h'=>cases y<;>rfl
   | shut xs=>exact (b1n xs y st).symm
   | none=>rfl
   | src y' =>
     cases y<;>cases y'<;>(try simp only[Dm.app])<;>(try rfl)<;>(rw[a5h]; intro _ v; rfl)
   | cell s off =>
     cases y<;>(try simp only[Dm.app])<;>(try rfl)
     rw[a5h]; intro _ v; exact (b1m off v).symm
 | cell s off =>
   cases d' with
   | heap h'=>rfl
   | shut xs=>exact (a9A xs s off st).symm
   | none=>rfl
   | src y' =>
     cases y'<;>(try simp only[Dm.app])<;>(try rfl)
     rw[a5h]; intro _ v; exact b1m off v
   | cell s' off'=>exact absurd ⟨hd,hd'⟩ hm
theorem a9B (l:List PV) (i k:Nat) (f:PV→PV) (u:PV) (h:i≠k):(l.set i u).modify k f=(l.modify k f).set i u:=by
 apply List.ext_getElem?
 intro m
 simp only[List.getElem?_modify,List.getElem?_set,List.length_modify]
 by_cases h1:i=m
 ·subst h1
  have:¬k=i:=λe=>h e.symm
  simp[this]
 ·simp[h1]
theorem b8P {x:PX} {j:Nat} {d:PD} (st:St) (u:PV) (h:isX d j x=false):a4P x (put st j d u)=put (a4P x st) j d u:=by
 cases x with
 | v k =>
   cases d with
   | v i=>simp[isX,a39] at h; simp only[a4P,put]; rw[a9B _ _ _ _ _ h]
   | _=>rfl
 | _=>cases d<;>rfl
theorem b4s:∀{xs:List PX} {j:Nat} {d:PD} (st:St) (u:PV),(∀x∈xs,isX d j x=false)→a3P xs (put st j d u)=put (a3P xs st) j d u
 | [],_,_,_,_,_=>rfl
 | x :: xs, j, d, st, u, h => by
   simp only[a3P]
   rw[b8P st u (h x (List.mem_cons_self ..)),b4s _ _ (λy hy=>h y (List.mem_cons_of_mem _ hy))]
theorem b8Q (o:POp):∀x∈a7g o,x∈a0r o:=by
 intro x hx
 cases o with
 | h o=>cases o<;>simp[a7g,a0r,a0A] at hx ⊢; exact hx
 | _=>simp[a7g] at hx
theorem b8R {p:PO} {q:PO} {jp jq:Nat} (hc:Comm jp p jq q) {d:Dm} (hd:b3Z p.op d) (st:St) (u:PV):d.app (put st jq q.dst u)=put (d.app st) jq q.dst u:=by
 cases d with
 | none=>rfl
 | heap h=>cases q.dst<;>rfl
 | shut xs=>exact b4s st u (λx hx=>hc.qp x (a6c p x (b8Q _ x (hd.2▸hx))))
 | src y =>
   have hy:=hc.qp y (a6c p y (b1k _ y hd))
   cases hq:q.dst with
   | n=>rfl
   | v i =>
     rw[hq] at hy
     cases y with
     | c z=>rfl
     | l k=>rfl
     | v k=>simp[isX,a39] at hy; simp only[Dm.app,put]; rw[a9B _ _ _ _ _ hy]
   | l =>
     rw[hq] at hy
     cases y with
     | c z=>rfl
     | v k=>rfl
     | l k=>simp[isX,a39] at hy; simp only[Dm.app,put]; rw[a9B _ _ _ _ _ hy]
 | cell s off =>
   cases hq:q.dst with
   | n=>rfl
   | l=>rfl
   | v i =>
     have h0:=hc.qv (by rw[hq]; rfl)
     have h3:a1o p.op=3:=hd
     omega
theorem c20 {jp jq:Nat} {d d':PD} (hj:jp≠jq) (h:b5W d d'=false) (st:St) (u u':PV):put (put st jp d u) jq d' u'=put (put st jq d' u') jp d u:=by
 cases d<;>cases d'<;>simp[b5W] at h<;>simp only[put]<;>(try rfl)
 ·rw[List.set_comm _ _ h]
 ·rw[List.set_comm _ _ hj]
theorem d1G {cf:a0v} {jp jq:Nat} {p q:PO} (hj:jp≠jq) (hc:Comm jp p jq q) {st st1 st2:St} (h1:a20 cf jp p st=some st1) (h2:a20 cf jq q st1=some st2):
  ∃st1',a20 cf jq q st=some st1'∧a20 cf jp p st1'=some st2:=by
 obtain⟨d,u,e1,f1,s1⟩:=b6W hc.mp h1
 obtain⟨d',u',e2,f2,s2⟩:=b6W hc.mq h2
 subst e1
 have hq:=s2 st (b2E hc f1 st u).2
 refine⟨_,hq,?_⟩
 have hp:=s1 _ (b2E hc.symm f2 st u').1
 rw[hp,e2]
 congr 1
 rw[b8R hc f1,b8R hc.symm f2,c2Z f1 f2 hc.mm hc.m4 hc.h2]
 exact c20 (λe=>hj e.symm) (by rw[b2D]; exact hc.dd) _ _ _
theorem a8r {cf:a0v} {pos:List PO} {i:Nat} {q:PO} (hi:pos[i]? = some q) {post:List Nat}:∀{pre:List Nat} {st st':St},(∀j∈pre,j≠i∧∀p,pos[j]? = some p→Comm j p i q) →
  a4b cf pos (pre++i::post) st=some st'→a4b cf pos (i::(pre++post)) st=some st'
 | [],st,st',_,h=>h
 | j :: pre, st, st', hc, h => by
   simp only[List.cons_append,a4b] at h
   split at h
   ·rename_i p hp
    simp only[Option.bind_eq_some_iff] at h
    obtain⟨st1,h1,h2⟩:=h
    have ih:=a8r hi (λj' hj'=>hc j' (by simp[hj'])) h2
    simp only[a4b,hi,Option.bind_eq_some_iff] at ih
    obtain⟨st2,h3,h4⟩:=ih
    obtain⟨hj,hcm⟩:=hc j (by simp)
    obtain⟨st1',h5,h6⟩:=d1G hj (hcm p hp) h1 h3
    simp only[List.cons_append,a4b,hi,hp,h5,Option.bind_some,h6]
    exact h4
   ·simp at h
inductive Pre (ops:Array Oper):Nat→Nat→Prop where
 | edge {i:Nat} {o:Oper} {e:Edge} (ho:ops[i]? = some o) (he:e∈o.after) (hb:Region.binds .any e=true):Pre ops e.on i
 | far {i j:Nat} {o:Oper} {e:Edge} (ho:ops[i]? = some o) (he:e∈o.after) (hb:Region.binds .any e=true) (h:Pre ops j e.on):Pre ops j i
def c0x {α:Type} (m:Nat) (f:Nat→α):α:=
 match m with
 | 0=>f 0
 | n+1=>f (n+1)
theorem b0S {α:Type} (m:Nat) (f:Nat→α):c0x m f=f m:=by cases m<;>rfl
def wide:Nat:=1024
def b8S (M:Nat):List Edge→Nat→Nat
 | [],m=>m
 | e::es,m=>if Region.binds .any e then c0x (m ||| 1 <<< e.on ||| M >>> (e.on*1024) % 2 ^ wide) (b8S M es) else b8S M es m
def rows:List Oper→Nat→Nat→Nat
 | [],_,M=>M
 | o::os,i,M=>c0x (M ||| (b8S M o.after.toList 0 % 2 ^ wide) <<< (i*1024)) (rows os (i+1))
def b8T (ops:Array Oper) (M:Nat):Prop:=∀i j,j<1024→M.testBit (i*1024+j)=true→Pre ops j i
theorem b3n {ops:Array Oper} {M:Nat} (hM:b8T ops M) {i:Nat} {o:Oper} (ho:ops[i]? = some o):∀(es:List Edge) (m:Nat),(∀e∈es,e∈o.after)→(∀j,j<1024→m.testBit j=true→Pre ops j i)→∀j,j<1024→(b8S M es m).testBit j=true→Pre ops j i
 | [],m,_,hm=>hm
 | e :: es, m, hes, hm => by
   intro j hj h
   simp only[b8S] at h
   split at h
   ·rename_i hb
    rw[b0S] at h
    refine b3n hM ho es _ (λx hx=>hes x (by simp[hx])) ?_ j hj h
    intro k hk hk2
    simp only[Nat.testBit_or,Bool.or_eq_true] at hk2
    rcases hk2 with(hk2|hk2)|hk2
    ·exact hm k hk hk2
    ·rw[Nat.one_shiftLeft,Nat.testBit_two_pow] at hk2
     have:e.on=k:=by simpa using hk2
     exact this▸Pre.edge ho (hes e (by simp)) hb
    ·rw[Nat.testBit_mod_two_pow,Nat.testBit_shiftRight] at hk2
     simp only[Bool.and_eq_true] at hk2
     exact Pre.far ho (hes e (by simp)) hb (hM e.on k hk hk2.2)
   ·exact b3n hM ho es m (λx hx=>hes x (by simp[hx])) hm j hj h
theorem b5Y {ops:Array Oper}:∀(os:List Oper) (i M:Nat),(∀k,os[k]? = ops[i+k]?)→b8T ops M→b8T ops (rows os i M)
 | [],_,_,_,hM=>hM
 | o :: os, i, M, hs, hM => by
   simp only[rows,b0S]
   have ho:ops[i]? = some o:=by simpa using(hs 0).symm
   refine b5Y os (i+1) _ (λk=>by have:=hs (k+1); simp only[List.getElem?_cons_succ] at this; rw[this]; congr 1; omega) ?_
   intro a j hj h
   simp only[Nat.testBit_or,Bool.or_eq_true] at h
   rcases h with h|h
   ·exact hM a j hj h
   ·rw[Nat.testBit_shiftLeft,Nat.testBit_mod_two_pow] at h
    simp only[Bool.and_eq_true,decide_eq_true_eq] at h
    obtain⟨h1,h2,h3⟩:=h
    have hw:wide=1024:=rfl
    have ha:a=i:=by omega
    subst ha
    rw[Nat.add_sub_cancel_left] at h3
    exact b3n hM ho o.after.toList 0 (by simp) (by simp) j hj h3
def b4t (M:Nat) (pos:List PO) (i j:Nat):Bool:=
 (match pos[j]?,pos[i]? with
 | some p,some q=>c4S j p i q
 | _,_=>false)||(decide (j<1024)&&M.testBit (i*1024+j))
def b8U (ops:Array Oper) (pos:List PO) (M:Nat):Bool:=
 (List.range ops.size).all λi=>(match ops[i]? with | some o=>o.after.all (λe => !Region.binds .any e||decide (e.on<i)) | none=>true)&&(List.range i).all (b4t M pos i)
def a7i (ops:Array Oper) (pos:List PO):Bool:=c0x (rows ops.toList 0 0) (b8U ops pos)
def b6X (ops:Array Oper) (listed:Array Bool):Prop:=
 ∀(k:Nat) (o:Oper),ops[k]? = some o→listed.getD k false=true→∀e∈o.after,Region.binds .any e=true→listed.getD e.on false=true
theorem b1o {ops:Array Oper} {listed:Array Bool} (hcl:b6X ops listed) {j i:Nat} (h:Pre ops j i):∀{o:Oper},ops[i]? = some o→(∀e∈o.after,Region.binds .any e=true→listed.getD e.on false=true)→listed.getD j false=true:=by
 induction h with
 | edge ho he hb=>intro o ho' hl; rw[ho] at ho'; cases ho'; exact hl _ he hb
 | @far i j o1 e ho he hb hp ih =>
   intro o ho' hl; rw[ho] at ho'; cases ho'
   have hon:=hl _ he hb
   cases h':ops[e.on]? with
   | none => exfalso; cases hp with
     | edge h1=>rw[h'] at h1; cases h1
     | far h1=>rw[h'] at h1; cases h1
   | some o'=>exact ih h' (hcl e.on o' h' hon)
def a22 (n:Nat) (listed:Array Bool):List Nat:=(List.range n).filter λi => !listed.getD i false
theorem b0i {l:List Nat} {f:Nat→Bool} {i:Nat} (hs:l.Pairwise (·<·)) (hi:i∈l) (hf:f i=true):
  ∃pre post,l.filter f=pre++i::post∧(∀j∈pre,j<i∧j∈l∧f j=true)∧l.filter (λk=>f k&&k != i)=pre++post:=by
 induction l with
 | nil=>simp at hi
 | cons x xs ih =>
   rw[List.pairwise_cons] at hs
   rcases List.mem_cons.1 hi with rfl|hi
   ·refine⟨[],xs.filter f,by simp[hf],by simp,?_⟩
    simp only[List.filter_cons,hf,bne_self_eq_false,Bool.and_false,Bool.false_eq_true,if_false,List.nil_append]
    apply List.filter_congr
    intro k hk
    have:k≠i:=λe=>by have:=hs.1 k hk; omega
    simp[this]
   ·obtain⟨pre,post,h1,h2,h3⟩:=ih hs.2 hi
    have hlt:=hs.1 i hi
    have hne:(x != i)=true:=by simp; omega
    by_cases hx:f x=true
    ·refine⟨x::pre,post,by simp[hx,h1],?_,by simp[List.filter_cons,hx,hne,h3]⟩
     intro j hj
     rcases List.mem_cons.1 hj with rfl|hj
     ·exact ⟨hlt,by simp,hx⟩
     ·obtain⟨a,b,c⟩:=h2 j hj
      exact ⟨a,by simp[b],c⟩
    ·refine⟨pre,post,by simp[hx,h1],?_,by simp[List.filter_cons,hx,h3]⟩
     intro j hj
     obtain⟨a,b,c⟩:=h2 j hj
     exact ⟨a,by simp[b],c⟩
section
variable {E:Env} {N:Nm} {vs:List Tmp} {P:Program} {ops:Array Oper} {Q:Exit→Act→World→Prop}
theorem b8V {L:Nat→Option PFunc} (hF:a4X N P L) (hE:EnvOk E N) (hP:E.P=P) (nm:Names vs (a0t vs ops.toList)) {cf:a0v} (hcf:CallOK N P cf)
  (hcL:∀k args h r,cf k args h=some r→∃f,L k=some f) {pos:List PO} (hc:a8J E vs ops.toList ops.toList=some pos) (hord:a7i ops pos=true):
  ∀ (fuel : Nat) {listed : Array Bool} {st st' : St} {w : World} {G : GS} {a : Act}, listed.size = ops.size → (a22 ops.size listed).length ≤ fuel → b6X ops listed → a4b cf pos (a22 ops.size listed) st = some st' →
    FI N w G st a vs (a0t vs ops.toList)→Next1 N w G a st' vs ops.toList (Q .normal)→wpAny P .any ops Q fuel listed a w:=by
 have hlen:ops.size=pos.length:=by have:=(a3J hc).1; simpa using this
 have hGM:b8T ops (rows ops.toList 0 0):=b5Y _ _ _ (by simp) (λi j _ h=>by simp at h)
 have hord:b8U ops pos (rows ops.toList 0 0)=true:=by rw[a7i,b0S] at hord; exact hord
 have hedge:∀i o,ops[i]? = some o→∀e∈o.after,Region.binds .any e=true→e.on<i:=by
  intro i o ho e he hb
  have hi:i<ops.size:=(Array.getElem?_eq_some_iff.1 ho).1
  have:=List.all_eq_true.1 hord i (by simpa using hi)
  simp only[ho,Bool.and_eq_true,Array.all_eq_true_iff_forall_mem] at this
  have:=this.1 e he
  simpa[hb] using this
 have hpair:∀i j,i<ops.size→j<i→b4t (rows ops.toList 0 0) pos i j=true:=by
  intro i j hi hj
  have:=List.all_eq_true.1 hord i (by simpa using hi)
  simp only[Bool.and_eq_true] at this
  exact List.all_eq_true.1 this.2 j (by simpa using hj)
 have hready:∀{listed:Array Bool},listed.size=ops.size→Region.ready .any ops listed=[]→a22 ops.size listed=[]:=by
  intro listed hsz hr
  rcases List.eq_nil_or_concat (a22 ops.size listed) with h|⟨_,_,h⟩
  ·exact h
  ·exfalso
   cases hrem:a22 ops.size listed with
   | nil=>rw[hrem] at h; simp at h
   | cons m rest =>
     have hm:m∈a22 ops.size listed:=by rw[hrem]; simp
     simp only[a22,List.mem_filter,List.mem_range,Bool.not_eq_true'] at hm
     have hsort:(a22 ops.size listed).Pairwise (·<·):=List.Pairwise.filter _ List.pairwise_lt_range
     rw[hrem,List.pairwise_cons] at hsort
     have hmr:m∈Region.ready .any ops listed:=by
      rw[mem_ready]
      refine⟨?_,ops[m],by simp[hm.1],?_⟩
      ·have:=hm.2
       simp only[Array.getD_eq_getD_getElem?] at this ⊢
       have hlt:m<listed.size:=by omega
       simpa[hlt] using this
      ·intro e he hb
       have hlt:=hedge m ops[m] (by simp[hm.1]) e he hb
       cases hl:listed.getD e.on false with
       | true=>rfl
       | false =>
         have hin:e.on∈a22 ops.size listed:=by
          simp only[a22,List.mem_filter,List.mem_range,hl,Bool.not_false,and_true]
          omega
         rw[hrem] at hin
         rcases List.mem_cons.1 hin with h|h
         ·omega
         ·have:=hsort.1 _ h; omega
     rw[hr] at hmr
     simp at hmr
 intro fuel
 induction fuel with
 | zero =>
   intro listed st st' w G a hsz hl hcl hx hf hk
   have h0:a22 ops.size listed=[]:=List.length_eq_zero_iff.1 (by omega)
   rw[h0] at hx
   simp[a4b] at hx; subst hx
   refine⟨?_,hk _ _ G hf (Ext.refl _ _) rfl⟩
   refine List.eq_nil_iff_forall_not_mem.2 λi hi =>?_
   rw[mem_ready] at hi
   obtain⟨hi1,o,ho,_⟩:=hi
   have hlt:i<ops.size:=(Array.getElem?_eq_some_iff.1 ho).1
   have:i∈a22 ops.size listed:=by
    simp only[a22,List.mem_filter,List.mem_range,hlt,true_and]
    have hl':i<listed.size:=by omega
    simp only[Array.getD_eq_getD_getElem?] at hi1 ⊢
    simpa[hl'] using hi1
   rw[h0] at this
   simp at this
 | succ fuel ih =>
   intro listed st st' w G a hsz hl hcl hx hf hk
   refine⟨?_,?_⟩
   ·intro hr
    rw[hready hsz hr] at hx
    simp[a4b] at hx; subst hx
    exact hk _ _ G hf (Ext.refl _ _) rfl
   ·intro i hi
    rw[mem_ready] at hi
    obtain⟨hi1,o,ho,hpre⟩:=hi
    have hlt:i<ops.size:=(Array.getElem?_eq_some_iff.1 ho).1
    have hun:listed.getD i false=false:=by
     have hl':i<listed.size:=by omega
     simp only[Array.getD_eq_getD_getElem?] at hi1 ⊢
     simpa[hl'] using hi1
    obtain⟨q,hq,hcq⟩:=(a3J hc).2 i o (by simpa using ho)
    obtain⟨pre,post,e1,e2,e3⟩:=b0i (f:=λk => !listed.getD k false) (List.pairwise_lt_range (n:=ops.size)) (by simpa using hlt) (by simp only[hun]; rfl)
    have hx':a4b cf pos (i::(pre++post)) st=some st':=by
     refine a8r hq ?_ (by rw[← e1]; exact hx)
     intro j hj
     obtain⟨a1,a2,a3⟩:=e2 j hj
     refine⟨by omega,λp hp =>?_⟩
     have hpo:=hpair i j hlt a1
     simp only[b4t,hp,hq,Bool.or_eq_true] at hpo
     rcases hpo with h|h
     ·exact b4q h
     ·simp only[Bool.and_eq_true,decide_eq_true_eq] at h
      have:=b1o hcl (hGM i j h.1 h.2) ho hpre
      simp only[this] at a3
      simp at a3
    simp only[a4b,hq,Option.bind_eq_some_iff] at hx'
    obtain⟨st1,hs1,hs2⟩:=hx'
    refine a6P hF hE hP nm ho hf hcf hcL hcq hs1 ?_
    intro a' w' G' hf' he hsize
    have hrem:a22 ops.size (listed.setIfInBounds i true)=pre++post:=by
     rw[← e3]
     unfold a22
     apply List.filter_congr
     intro k hk'
     by_cases hki:k=i
     ·subst hki
      have hl':k<listed.size:=by omega
      simp[Array.getD_eq_getD_getElem?,Array.getElem?_setIfInBounds,hl']
     ·rw[getD_set_ne _ (Ne.symm hki)]
      simp[hki]
    refine ih (by simp[hsz]) ?_ ?_ (by rw[hrem]; exact hs2) hf' (hk.trans he hsize)
    ·rw[hrem]
     have:(a22 ops.size listed).length=(pre++i::post).length:=by unfold a22; rw[e1]
     simp at this ⊢
     omega
    ·intro k o' ho' hk1 e he' hb
     by_cases hki:k=i
     ·subst hki
      have:o'=o:=by rw[ho] at ho'; simpa using ho'.symm
      subst this
      exact getD_set_true (hpre e he' hb)
     ·rw[getD_set_ne _ (Ne.symm hki)] at hk1
      exact getD_set_true (hcl k o' ho' hk1 e he' hb)
end
end PI
set_option linter.unusedSimpArgs false
set_option linter.unusedVariables false
namespace PI
open Go
def W (r:Option Nat):Fence:={ Fence.wide with round:=r }
section
variable {P:Program} {r:Option Nat} {n:Nat} {ops:Array Oper} {Q:Exit→Act→World→Prop}
theorem b5U (f:FuncId):(W r).fn f:=trivial
theorem b4l (k:Nat):(W r).room k:=λd h=>by simp[W,Fence.wide] at h
theorem a9x:(W r).depth.isSome=true→1≤n:=λh=>by simp[W,Fence.wide] at h
theorem b6R {f:FuncId} {args:Array Value} {w:World} {R:Ending→World→Prop} (h:Calls P f args w R):CallsIn (W r) n P f args w R:=(callsIn_wide (n:=n)).2 h
theorem b7s {f:FuncId} {args:Array Value} {w:World} {R:Ending→World→Prop} (h:CallsIn (W r) n P f args w R):Calls P f args w R:=(callsIn_wide (n:=n)).1 h
theorem d0q {row:String} {args:Array Value} {w:World} {R:Value→World→Prop} (h:Rows P row args w R):RowsIn (W r) n P row args w R:=
 λc cs _=>let ⟨v,w',hr,hs⟩:=h c cs; ⟨v,w',hr,stepsIn_wide.2 hs⟩
theorem c2U {o:Oper} {a:Act} {w:World} {K:Act→World→Prop} (hd:∀c,o.op≠.defer c) (h:o.wp P a w K Q):o.wpIn (W r) n P a w K Q:=by
 refine⟨λ_ _=>b5U _,?_⟩
 rw[Oper.semAt_eq _ _ _ hd]
 unfold Oper.wp at h
 generalize (execOp a.eval o).run P w=res at h
 cases res with
 | ok x w' =>
   cases x<;>simp only[Oper.upon] at h<;>simp only[Oper.uponIn]<;>first|exact h|exact⟨a9x,b6R h⟩|exact⟨a9x,d0q h⟩|exact h.elim
 | halt x w'=>cases x<;>simp only[Oper.upon] at h<;>simp only[Oper.uponIn]<;>first | exact h | exact h.elim
theorem b1e {i:Nat} {a:Act} {w:World} {K:Act→World→Prop} (hd:∀o c,ops[i]? = some o→o.op≠.defer c) (hQ:¬LetsOut Q) (h:wpOp P ops Q i K a w):wpOpIn (W r) n P ops Q i K a w:=by
 unfold wpOp at h
 unfold wpOpIn
 split
 ·rename_i ho; simp only[ho] at h; exact h
 ·rename_i o ho
  simp only[ho] at h
  split
  ·rename_i hw
   simp only[hw,if_true] at h
   rcases h with h|h
   ·exact c2U (λc=>hd o c ho) h
   ·exact absurd h.2 hQ
  ·rename_i hw
   simp only[hw] at h
   exact⟨λ_ _=>b5U _,h⟩
theorem a9y (hd:∀(i:Nat) o c,ops[i]? = some o→o.op≠.defer c) (hQ:¬LetsOut Q):∀{l:List Nat} {a:Act} {w:World},wpOps P ops Q l a w→wpOpsIn (W r) n P ops Q l a w
 | [],_,_,h=>h
 | i :: l, a, w, h => by
   rw[wpOps_cons] at h
   rw[wpOpsIn_cons]
   exact wpOpIn_mono (λa w h=>a9y hd hQ h) (b1e (λo c=>hd i o c) hQ h)
def a9z (P:Program) (l:Nat) (R:Ending→World→Prop):Exit→Act→World→Prop
 | .normal,_,w=>∃v w',(Instr.endRound l none).run P w = .ok v w'∧R (.returned v) w'
 | .ret,_,w=>∃v w',(Instr.endRound l (some .ret)).run P w = .ok v w'∧R (.returned v) w'
 | .exit id,_,w=>∃v w',(Instr.endRound l (some (.exit id))).run P w = .ok v w'∧R (.returned v) w'
 | .panic chain,a,w=>a.defers=[]∧R (.panicked chain) w
 | _,_,_=>False
theorem a2j (m:Machine):m.fenced P (W r):=fenced_wide P m
theorem b0G {fr c:Frame} {cs:List Frame} {w:World} {chain:List PanicEntry} {fn:Func} (hm:fr.mode = .panicking chain) (hd:fr.defers=[]) (hf:P.funcs[fr.fn]? = some fn):
  step P (lone fr (c::cs) w) = .next (lone (c.raise chain) cs w):=
 step_lone_go (by simp[stepG,unwind,Frame.catches,hm,hd,hf])
end
noncomputable def a6b (cf:a0v) (ob:a8E) (pos:List PO):List Nat→St→Option (Option PV×St)
 | [],st=>some (none,st)
 | i :: l, st =>
   match pos[i]? with
   | some p => match a4B cf ob i p st with
     | some (none,st)=>a6b cf ob pos l st
     | r=>r
   | none=>none
section
variable {cf:a0v} {ob:a8E} {pos:List PO}
theorem b1g {j:Nat} {p:PO} {st:St} (h:isB p=false):a4B cf ob j p st=(a20 cf j p st).map λst=>(none,st):=by
 unfold a4B
 unfold isB at h
 split
 ·rename_i h1 h2; rw[h1] at h; simp at h
 ·rename_i h1 h2; rw[h1] at h; simp at h
 ·rename_i h1 h2; rw[h1] at h; simp at h
 ·rename_i h1 h2; rw[h1] at h; simp at h
 ·rfl
theorem a8q:∀{l:List Nat} {st:St},(∀i∈l,∀p,pos[i]? = some p→isB p=false)→a6b cf ob pos l st=(a4b cf pos l st).map λst=>(none,st)
 | [],st,_=>rfl
 | i :: l, st, h => by
   simp only[a6b,a4b]
   cases hp:pos[i]? with
   | none=>rfl
   | some p =>
     simp only[b1g (h i (by simp) p hp)]
     cases a20 cf i p st with
     | none=>rfl
     | some st1=>simpa using a8q (λj hj=>h j (by simp[hj]))
theorem a7f:∀(l1 l2:List Nat) (st:St),a6b cf ob pos (l1++l2) st=match a6b cf ob pos l1 st with
  | some (none,st)=>a6b cf ob pos l2 st
  | r=>r
 | [],l2,st=>rfl
 | i :: l1, l2, st => by
   simp only[List.cons_append,a6b]
   cases hp:pos[i]? with
   | none=>rfl
   | some p =>
     simp only
     cases a4B cf ob i p st with
     | none=>rfl
     | some x =>
       obtain⟨y,st1⟩:=x
       cases y with
       | none=>exact a7f l1 l2 st1
       | some v=>rfl
theorem c1R {all:List PO}:∀{os:List PO} {j:Nat} {st:St},all.drop j=os→a7T cf ob j os st=a6b cf ob all (List.range' j os.length) st
 | [],j,st,_=>rfl
 | o :: os, j, st, h => by
   have hj:all[j]? = some o:=by
    have:=congrArg List.head? h
    simpa[List.head?_drop] using this
   have ht:all.drop (j+1)=os:=by
    have:=congrArg List.tail h
    simpa[List.tail_drop] using this
   simp only[a7T,List.length_cons,List.range'_succ,a6b,hj]
   cases a4B cf ob j o st with
   | none=>rfl
   | some x =>
     obtain⟨y,st1⟩:=x
     cases y with
     | none=>exact c1R ht
     | some v=>rfl
theorem b5V {i:Nat} {q:PO} (hi:pos[i]? = some q) {pre post:List Nat} {st:St} {r:Option PV×St} (hb:pre≠[]→isB q=false) (hpre:∀j∈pre,∀p,pos[j]? = some p→isB p=false)
  (hc:∀j∈pre,j≠i∧∀p,pos[j]? = some p→Comm j p i q) (h:a6b cf ob pos (pre++i::post) st=some r):a6b cf ob pos (i::(pre++post)) st=some r:=by
 cases pre with
 | nil=>exact h
 | cons j0 pre0 =>
   have hq:isB q=false:=hb (by simp)
   generalize hpr:j0::pre0=pre at *
   have e1:pre++i::post=(pre++[i])++post:=by simp
   have e2:i::(pre++post)=(i::pre)++post:=rfl
   have p1:∀k∈pre++[i],∀p,pos[k]? = some p→isB p=false:=by
    intro k hk p hp
    rcases List.mem_append.1 hk with hk|hk
    ·exact hpre k hk p hp
    ·simp at hk; subst hk; rw[hi] at hp; simp at hp; subst hp; exact hq
   have p2:∀k∈i::pre,∀p,pos[k]? = some p→isB p=false:=by
    intro k hk p hp
    rcases List.mem_cons.1 hk with rfl|hk
    ·rw[hi] at hp; simp at hp; subst hp; exact hq
    ·exact hpre k hk p hp
   rw[e1,a7f,a8q p1] at h
   rw[e2,a7f,a8q p2]
   cases hx:a4b cf pos (pre++[i]) st with
   | none=>rw[hx] at h; simp at h
   | some st1 =>
     have:=a8r hi hc (post:=[]) hx
     rw[List.append_nil] at this
     rw[this]
     rw[hx] at h
     exact h
theorem b8E {p:PO} (h:isB p=true):a1o p.op=2:=by
 unfold isB at h
 split at h<;>first|(rename_i e; rw[e]; rfl)|simp at h
theorem b6U {i j:Nat} {p q:PO} (h:c4S j p i q=true):isB p=false∧isB q=false:=by
 simp only[c4S,Bool.and_eq_true,bne_iff_ne,ne_eq] at h
 obtain⟨h1,h2⟩:=h.1.1.1.1.1.1.1.1.1.1.1
 exact⟨by cases hp:isB p with | false=>rfl | true=>exact absurd (b8E hp) h1,by cases hp:isB q with | false=>rfl | true=>exact absurd (b8E hp) h2⟩
end
theorem c2W {ops:Array Oper} {pos:List PO} {cf:a0v} {ob:a8E} (hlen:ops.size=pos.length) (hord:a7i ops pos=true):
  ∀ (fuel t : Nat) {listed : Array Bool} {st : St} {r : Option PV × St}, listed.size = ops.size → (a22 ops.size listed).length ≤ fuel → b6X ops listed → a6b cf ob pos (a22 ops.size listed) st = some r →
    a6b cf ob pos (Region.linearise.go .any ops fuel t listed []) st=some r:=by
 have hGM:b8T ops (rows ops.toList 0 0):=b5Y _ _ _ (by simp) (λi j _ h=>by simp at h)
 have hord:b8U ops pos (rows ops.toList 0 0)=true:=by rw[a7i,b0S] at hord; exact hord
 have hedge:∀i o,ops[i]? = some o→∀e∈o.after,Region.binds .any e=true→e.on<i:=by
  intro i o ho e he hb
  have hi:i<ops.size:=(Array.getElem?_eq_some_iff.1 ho).1
  have:=List.all_eq_true.1 hord i (by simpa using hi)
  simp only[ho,Bool.and_eq_true,Array.all_eq_true_iff_forall_mem] at this
  have:=this.1 e he
  simpa[hb] using this
 have hpair:∀i j,i<ops.size→j<i→b4t (rows ops.toList 0 0) pos i j=true:=by
  intro i j hi hj
  have:=List.all_eq_true.1 hord i (by simpa using hi)
  simp only[Bool.and_eq_true] at this
  exact List.all_eq_true.1 this.2 j (by simpa using hj)
 have hready:∀{listed:Array Bool},listed.size=ops.size→Region.ready .any ops listed=[]→a22 ops.size listed=[]:=by
  intro listed hsz hr
  rcases List.eq_nil_or_concat (a22 ops.size listed) with h|⟨_,_,h⟩
  ·exact h
  ·exfalso
   cases hrem:a22 ops.size listed with
   | nil=>rw[hrem] at h; simp at h
   | cons m rest =>
     have hm:m∈a22 ops.size listed:=by rw[hrem]; simp
     simp only[a22,List.mem_filter,List.mem_range,Bool.not_eq_true'] at hm
     have hsort:(a22 ops.size listed).Pairwise (·<·):=List.Pairwise.filter _ List.pairwise_lt_range
     rw[hrem,List.pairwise_cons] at hsort
     have hmr:m∈Region.ready .any ops listed:=by
      rw[mem_ready]
      refine⟨?_,ops[m],by simp[hm.1],?_⟩
      ·have:=hm.2
       simp only[Array.getD_eq_getD_getElem?] at this ⊢
       have hlt:m<listed.size:=by omega
       simpa[hlt] using this
      ·intro e he hb
       have hlt:=hedge m ops[m] (by simp[hm.1]) e he hb
       cases hl:listed.getD e.on false with
       | true=>rfl
       | false =>
         have hin:e.on∈a22 ops.size listed:=by
          simp only[a22,List.mem_filter,List.mem_range,hl,Bool.not_false,and_true]
          omega
         rw[hrem] at hin
         rcases List.mem_cons.1 hin with h|h
         ·omega
         ·have:=hsort.1 _ h; omega
     rw[hr] at hmr
     simp at hmr
 intro fuel
 induction fuel with
 | zero =>
   intro t listed st r hsz hl hcl hx
   have h0:a22 ops.size listed=[]:=List.length_eq_zero_iff.1 (by omega)
   rw[h0] at hx
   simpa[Region.linearise.go] using hx
 | succ fuel ih =>
   intro t listed st r hsz hl hcl hx
   simp only[Region.linearise.go]
   change a6b cf ob pos (match (Region.ready .any ops listed)[t % (Region.ready .any ops listed).length]? with
    | some i=>Region.linearise.go .any ops fuel (t / (Region.ready .any ops listed).length) (listed.setIfInBounds i true) [i]
    | none=>[].reverse) st=some r
   cases hi:(Region.ready .any ops listed)[t % (Region.ready .any ops listed).length]? with
   | none =>
     have hnil:Region.ready .any ops listed=[]:=by
      cases hr:Region.ready .any ops listed with
      | nil=>rfl
      | cons x xs =>
        rw[hr] at hi
        have hlt:t % (x::xs).length<(x::xs).length:=Nat.mod_lt _ (by simp)
        simp at hi
        simp at hlt
        omega
     rw[hready hsz hnil] at hx
     simpa using hx
   | some i =>
     simp only[]
     rw[linearise_go_acc,List.reverse_singleton,List.singleton_append]
     have hi:=List.mem_of_getElem? hi
     rw[mem_ready] at hi
     obtain⟨hi1,o,ho,hpre⟩:=hi
     have hlt:i<ops.size:=(Array.getElem?_eq_some_iff.1 ho).1
     have hun:listed.getD i false=false:=by
      have hl':i<listed.size:=by omega
      simp only[Array.getD_eq_getD_getElem?] at hi1 ⊢
      simpa[hl'] using hi1
     obtain⟨q,hq⟩:∃q,pos[i]? = some q:=⟨pos[i],List.getElem?_eq_getElem (by omega)⟩
     obtain⟨pre,post,e1,e2,e3⟩:=b0i (f:=λk => !listed.getD k false) (List.pairwise_lt_range (n:=ops.size)) (by simpa using hlt) (by simp only[hun]; rfl)
     have hcm:∀j∈pre,j<i∧∀p,pos[j]? = some p→c4S j p i q=true:=by
      intro j hj
      obtain⟨a1,a2,a3⟩:=e2 j hj
      refine⟨by omega,λp hp =>?_⟩
      have hpo:=hpair i j hlt a1
      simp only[b4t,hp,hq,Bool.or_eq_true] at hpo
      rcases hpo with h|h
      ·exact h
      ·simp only[Bool.and_eq_true,decide_eq_true_eq] at h
       have:=b1o hcl (hGM i j h.1 h.2) ho hpre
       simp only[this] at a3
       simp at a3
     have hx':a6b cf ob pos (i::(pre++post)) st=some r:=by
      refine b5V hq ?_ (λj hj p hp=>(b6U ((hcm j hj).2 p hp)).1) (λj hj=>⟨by have:=(hcm j hj).1; omega,λp hp=>b4q ((hcm j hj).2 p hp)⟩) (by rw[← e1]; exact hx)
      intro hne
      cases pre with
      | nil=>exact absurd rfl hne
      | cons j0 _ =>
        have hj0:j0<pos.length:=by have:=(hcm j0 (by simp)).1; omega
        exact(b6U ((hcm j0 (by simp)).2 pos[j0] (List.getElem?_eq_getElem hj0))).2
     simp only[a6b,hq] at hx' ⊢
     cases hs:a4B cf ob i q st with
     | none=>rw[hs] at hx'; exact hx'
     | some y =>
       obtain⟨z,st1⟩:=y
       rw[hs] at hx'
       cases z with
       | some v=>exact hx'
       | none =>
         simp only at hx' ⊢
         have hrem:a22 ops.size (listed.setIfInBounds i true)=pre++post:=by
          rw[← e3]
          unfold a22
          apply List.filter_congr
          intro k hk'
          by_cases hki:k=i
          ·subst hki
           have hl':k<listed.size:=by omega
           simp[Array.getD_eq_getD_getElem?,Array.getElem?_setIfInBounds,hl']
          ·rw[getD_set_ne _ (Ne.symm hki)]
           simp[hki]
         refine ih _ (by simp[hsz]) ?_ ?_ (by rw[hrem]; exact hx')
         ·rw[hrem]
          have:(a22 ops.size listed).length=(pre++i::post).length:=by unfold a22; rw[e1]
          simp at this ⊢
          omega
         ·intro k o' ho' hk1 e he' hb
          by_cases hki:k=i
          ·subst hki
           have:o'=o:=by rw[ho] at ho'; simpa using ho'.symm
           subst this
           exact getD_set_true (hpre e he' hb)
          ·rw[getD_set_ne _ (Ne.symm hki)] at hk1
           exact getD_set_true (hcl k o' ho' hk1 e he' hb)
end PI
set_option linter.unusedSimpArgs false
set_option linter.unusedVariables false
namespace PI
open Go Go.RowKit
def GS.callee (G:GS):GS:={ fix:=G.fix,heap:=G.heap,box:=λ_=>none,ow:=a56 G.ow }
section
variable {E:Env} {N:Nm} {w:World} {G:GS} {st:St} {a:Act} {vs:List Tmp} {lm:Nat→Option Tmp} {P:Program}
theorem a2H (hf:FI N w G st a vs lm):Between N w G.callee st.heap:=
 ⟨⟨λb k h=>(a5e h).2,λ_=>rfl⟩,hf.fixlt,λb k h=>hf.owlt b k (a5e h).1,hf.heap.sub rfl rfl (λb k hk h=>b3S h hk),hf.hdom⟩
theorem a9m (hf:FI N w G st a vs lm) {w':World} {G2:GS} {h':List PObj} (he:Ext w G.callee w' G2) (hb2:Between N w' G2 h'):
  ∃G',Ext w G w' G'∧FI N w' G' { st with heap:=h' } a vs lm∧G'.fix=G2.fix∧G'.heap=G2.heap:=by
 let Gc:GS:=G.callee
 let G':GS:={ fix:=G2.fix,heap:=G2.heap,box:=G.box,ow:=λb=>match G.ow b with | some k=>if k.isH then G2.ow b else some k | none=>G2.ow b,df:=G.df }
 have hext:Ext w G w' G':=by
  refine⟨he.os,he.tape,he.output,he.size,λb hlt h=>he.same b hlt (by simp[GS.callee,a56,h]),λb o h=>he.fix b o h,?_,?_,he.heap,he.shape,rfl⟩
  ·intro b o h
   rcases he.newfix b o h with h|h|h
   ·exact .inl h
   ·exact .inr (.inl h)
   ·refine .inr (.inr ?_)
    intro e
    apply h
    simp[GS.callee,a56,e]
  ·intro b h
   cases hb:G.ow b with
   | some k=>exact .inr (by simp)
   | none =>
     simp only[G',hb] at h
     rcases he.own b h with h|h
     ·exact .inl h
     ·exact absurd (by simp[GS.callee,a56,hb]) h
 have hkeep:a6B (λk=>k.isH=true) w G w' G':=by
  refine⟨?_,λ_ _ h=>h⟩
  intro b key hb' hn
  have hlt':=hf.owlt _ _ hb'
  have hnone:Gc.ow b=none:=by simp[Gc,GS.callee,a56,hb',hn]
  refine⟨by simp[G',hb',hn],he.same b hlt' hnone,?_⟩
  intro o h
  rcases he.newfix b o h with h|h|h
  ·exact h
  ·omega
  ·exact absurd hnone h
 have hheap:HR N w' G' h':=by
  refine hb2.heap.sub rfl rfl ?_
  intro b k hkH h
  cases hb:G.ow b with
  | none=>simp only[G',hb]; exact h
  | some k0 =>
    by_cases hk0:k0.isH=true
    ·simp only[G',hb,hk0,if_true]; exact h
    ·have hnone:Gc.ow b=none:=by simp[Gc,GS.callee,a56,hb,hk0]
     have hlt:=hf.owlt _ _ hb
     rcases he.own b (by rw[h]; simp) with h2|h2
     ·omega
     ·exact absurd hnone h2
 have hf1:FI N w' G' { st with heap:=h' } a vs lm:=by
  refine⟨hf.len,λi t u h1 h2=>(hf.var i t u h1 h2).keep hext hkeep (by simp[Key.isH]) (by simp[Key.isH]),λj t u h1 h2=>(hf.loc j t u h1 h2).keep hext hkeep (by simp[Key.isH]) (by simp[Key.isH]),hf.tv,hf.tl,(hf.defers.trans hext.df.symm),hf.gen,?_,hb2.fixlt,hheap,hb2.hdom⟩
  intro b k h
  cases hb:G.ow b with
  | some k0=>exact Nat.lt_of_lt_of_le (hf.owlt _ _ hb) he.size
  | none =>
    simp only[G',hb] at h
    exact hb2.owlt _ _ h
 exact⟨G',hext,hf1,rfl,rfl⟩
def b6C (N:Nm) (w':World) (G':GS) (e:Ending):Out→Prop
 | .val r=>∃v,e = .returned v∧VR N w' G'.fix G'.heap v r
 | .boom p=>∃v,e = .panicked [{ v,recovered:=false }]∧VR N w' G'.fix G'.heap v p
def b8g (N:Nm) (P:Program) (ob:a8E):Prop:=
 ∀ (k : Nat) (args : List PV) (o : Out) (h h' : List PObj), ob k args h = some (o, h') → N.yl k = none → ∀ (w : World) (G : GS) (vals : Array Value), Between N w G h → vals.size = args.length →
   (∀(i:Nat) (v:Value) (p:PV),vals[i]? = some v→args[i]? = some p→VR N w G.fix G.heap v p) →
   Calls P (N.fn k) vals w λe w'=>∃G',b6C N w' G' e o∧Ext w G w' G'∧Between N w' G' h'
def b2a (N:Nm) (P:Program) (ob:a8E):Prop:=
 ∀ (k : Nat) (y : YL) (n l : Nat) (tmps : Array Value) (caps args : List PV) (o : Out) (h h' : List PObj), N.yl k = some y → ob k (.ptr n 0 :: caps ++ args) h = some (o, h') → ∀ (w : World) (G : GS) (vals : Array Value), Between N w G h →
   VR N w G.fix G.heap (.func (.yield l) #[] #[]) (.func k (.ptr n 0::caps) [])→vals.size=args.length→(∀(i:Nat) (v:Value) (p:PV),vals[i]? = some v→args[i]? = some p→VR N w G.fix G.heap v p) →
   ∃tmps',(Instr.yield l vals).run P w = .ok (.round l y.fn tmps' y.assign y.body) w∧∀r n',RoundIn (W r) n' P l y.fn tmps' y.assign y.body w λe w'=>∃G',b6C N w' G' e o∧Ext w G w' G'∧Between N w' G' h'
variable {ops:Array Oper} {o:Oper} {j:Nat} {Q:Exit→Act→World→Prop} {K:Act→World→Prop} {r:Option Nat} {n:Nat}
def c1D (N:Nm) (w:World) (G:GS) (a:Act) (st1:St) (vs:List Tmp) (lm:Nat→Option Tmp) (p:PV) (Q:Exit→Act→World→Prop):Prop:=
 ∀w' G' v,VR N w' G'.fix G'.heap v p→Ext w G w' G'→FI N w' G' st1 a vs lm→Q (.panic [{ v,recovered:=false }]) a w'
theorem b3T (nm:Names vs (a0t vs ops.toList)) (ho:ops[j]? = some o) (hf:FI N w G st a vs (a0t vs ops.toList)) {out:Out} {h':List PObj} (hQ:¬LetsOut Q)
  (hv:∀u,out = .val u→Next1 N w G a (put { st with heap:=h' } j (a3j vs o.dst) (dem u)) vs ops.toList K) (hb:∀p,out = .boom p→c1D N w G a { st with heap:=h' } vs (a0t vs ops.toList) p Q)
  {e:Ending} {w':World} {G2:GS} (h:b6C N w' G2 e out) (he:Ext w G.callee w' G2) (hb2:Between N w' G2 h'):
  (match e with
   | .returned v=>K (a.put o.dst v) w'
   | .panicked chain=>Q (.panic chain) a w'
   | .outgrown=>LetsOut Q):=by
 obtain⟨G',hext,hf1,e1,e2⟩:=a9m hf he hb2
 cases out with
 | val u =>
   obtain⟨v,rfl,hvr⟩:=h
   have hvr':VR N w' G'.fix G'.heap v (dem u):=by rw[e1,e2]; exact hvr.dem
   exact hv u rfl _ _ G' (hf1.put nm (a17 (by simpa using ho)) (SR.of_pure hvr' hvr.cp_dem)) hext (a1v _ _ _)
 | boom p =>
   obtain⟨v,rfl,hvr⟩:=h
   exact hb p rfl w' G' v (by rw[e1,e2]; exact hvr) hext hf1
theorem b28 {c:Call} (hop:o.op = .call c) (ρ:Operand→Value):o.semAt (W r).round ρ=execOp ρ o:=Oper.semAt_eq _ _ _ (λc' h=>by rw[hop] at h; cases h)
theorem b2b {L:Nat→Option PFunc} (hF:a4X N P L) (hE:EnvOk E N) (nm:Names vs (a0t vs ops.toList)) (ho:ops[j]? = some o) (hf:FI N w G st a vs (a0t vs ops.toList)) {ob:a8E} (hob:b8g N P ob) (hoL:∀k args h x,ob k args h=some x→∃f,L k=some f)
  {f:FuncId} {k:Nat} {xs:Array Operand} {ts:Array TypeId} {pxs:List PX} {args:List PV} (hop:o.op = .call { callee := .value (.func f),args:=xs,argTypes:=ts }) (hk':E.inv f=some k) (hx:cxs E vs ops.toList xs.toList=some pxs)
  (hus:rdAll st pxs=some args) {out:Out} {h':List PObj} (hc:ob k args st.heap=some (out,h')) (hQ:¬LetsOut Q)
  (hv:∀u,out = .val u→Next1 N w G a (put { st with heap:=h' } j (a3j vs o.dst) (dem u)) vs ops.toList K) (hb:∀p,out = .boom p→c1D N w G a { st with heap:=h' } vs (a0t vs ops.toList) p Q):o.wpIn (W r) n P a w K Q:=by
 obtain⟨h1,h2⟩:=a1C hE hf hx hus
 obtain⟨g1,g2⟩:=a7I (w:=w) (G:=G) h1 h2
 obtain⟨pf,hL⟩:=hoL _ _ _ _ hc
 have hfn:=hE.fn _ _ hk'
 refine⟨λ_ _=>b5U _,?_⟩
 rw[b28 hop]
 have hrun:(execOp a.eval o).run P w = .ok (.enter (N.fn k) (xs.map a.eval)) w:=by
  have:=a15 hF hL (xs.map a.eval) w
  rw[hfn] at this
  rw[hfn]
  simp[execOp,hop,resolve,Act.eval,Deferred.ofValue,invoke]
  exact this
 rw[hrun,Oper.uponIn_enter]
 refine⟨a9x,b6R ?_⟩
 refine(hob k args out st.heap h' hc (hE.yl _ _ hk') w G.callee (xs.map a.eval) (a2H hf) g1 g2).mono ?_
 rintro e w' ⟨G2,hR,he,hb2⟩
 have:=b3T nm ho hf hQ hv hb hR he hb2
 cases e<;>exact this
theorem b0y {L:Nat→Option PFunc} (hF:a4X N P L) (hE:EnvOk E N) (nm:Names vs (a0t vs ops.toList)) (ho:ops[j]? = some o) (hf:FI N w G st a vs (a0t vs ops.toList)) {ob:a8E} (hob:b8g N P ob) (hro:b2a N P ob) (hoL:∀k args h x,ob k args h=some x→∃f,L k=some f)
  {t:Tmp} {px:PX} {k:Nat} {first captured:List PV} {xs:Array Operand} {ts:Array TypeId} {pxs:List PX} {args:List PV} (hop:o.op = .call { callee := .value (.tmp t),args:=xs,argTypes:=ts }) (hpx:cx E vs ops.toList (.tmp t)=some px) (hx:cxs E vs ops.toList xs.toList=some pxs)
  (hfv:rd st px=some (.func k first captured)) (hus:rdAll st pxs=some args) {out:Out} {h':List PObj} (hc:ob k (first++args++captured) st.heap=some (out,h')) (hQ:¬LetsOut Q)
  (hv:∀u,out = .val u→Next1 N w G a (put { st with heap:=h' } j (a3j vs o.dst) (dem u)) vs ops.toList K) (hb:∀p,out = .boom p→c1D N w G a { st with heap:=h' } vs (a0t vs ops.toList) p Q):o.wpIn (W r) n P a w K Q:=by
 obtain⟨h1,h2⟩:=a1C hE hf hx hus
 obtain⟨g1,g2⟩:=a7I (w:=w) (G:=G) h1 h2
 obtain⟨pf,hL⟩:=hoL _ _ _ _ hc
 have hfun:=(a0k hE hpx hf hfv).1
 refine⟨λ_ _=>b5U _,?_⟩
 rw[b28 hop]
 generalize hval:a.eval (.tmp t)=v at hfun
 cases hfun with
 | yield _ m l y tmps caps hy hl hr hlen hsz hcap =>
   have hvr:VR N w G.callee.fix G.callee.heap (.func (.yield l) #[] #[]) (.func k (.ptr m 0::caps) []) := .yield k m l y tmps caps hy hl hr hlen hsz hcap
   rw[List.append_nil] at hc
   obtain⟨tmps',hyr,hround⟩:=hro k y m l tmps caps args out st.heap h' hy hc w G.callee (xs.map a.eval) (a2H hf) hvr g1 g2
   have hrun:(execOp a.eval o).run P w = .ok (.round l y.fn tmps' y.assign y.body) w:=by
    simp only[execOp,hop,resolve,Sem.run_bind,hval,Deferred.ofValue,Sem.run_pure,Result.andThen_ok,invoke]
    simpa using hyr
   rw[hrun,Oper.uponIn_round]
   refine⟨a9x,(hround r (n - 1)).mono ?_⟩
   rintro e w' ⟨G2,hR,he,hb2⟩
   have:=b3T nm ho hf hQ hv hb hR he hb2
   cases e<;>exact this
 | func _ fs cs _ _ hy e1 e2 hfs hcs =>
   have hrun:(execOp a.eval o).run P w = .ok (.enter (N.fn k) (fs++xs.map a.eval++cs)) w:=by
    have:=a15 hF hL (fs++xs.map a.eval++cs) w
    simp only[execOp,hop,resolve,Sem.run_bind,hval,Deferred.ofValue,Sem.run_pure,Result.andThen_ok,invoke]
    exact this
   rw[hrun,Oper.uponIn_enter]
   refine⟨a9x,b6R ?_⟩
   refine(hob k _ out st.heap h' hc hy w G.callee (fs++xs.map a.eval++cs) (a2H hf) (by simp[e1,e2]; simpa using h1) ?_).mono ?_
   ·intro i v p hv' hp
    by_cases hi:i<fs.size
    ·rw[Array.append_assoc,Array.getElem?_append_left hi] at hv'
     rw[List.append_assoc,List.getElem?_append_left (by omega)] at hp
     exact hfs i v p hv' hp
    ·rw[Array.append_assoc,Array.getElem?_append_right (by omega)] at hv'
     rw[List.append_assoc,List.getElem?_append_right (by omega),← e1] at hp
     by_cases hi2:i - fs.size<(xs.map a.eval).size
     ·rw[Array.getElem?_append_left hi2] at hv'
      rw[List.getElem?_append_left (by omega)] at hp
      exact g2 _ v p hv' hp
     ·rw[Array.getElem?_append_right (by omega)] at hv'
      rw[List.getElem?_append_right (by omega),← g1] at hp
      exact hcs _ v p hv' hp
   ·rintro e w' ⟨G2,hR,he,hb2⟩
    have:=b3T nm ho hf hQ hv hb hR he hb2
    cases e<;>exact this
theorem b2c {L:Nat→Option PFunc} (hF:a4X N P L) (hE:EnvOk E N) (hP:E.P=P) (nm:Names vs (a0t vs ops.toList)) (ho:ops[j]? = some o) (hf:FI N w G st a vs (a0t vs ops.toList)) {cf:a0v} (hcf:CallOK N P cf) {ob:a8E} (hob:b8g N P ob) (hro:b2a N P ob)
  (hcL:∀k args h x,cf k args h=some x→∃f,L k=some f) (hoL:∀k args h x,ob k args h=some x→∃f,L k=some f) (hd:∀c,o.op≠.defer c) {po:PO} (hc:b4e E vs ops.toList o=some po) {res:Option PV} {st1:St} (hs:a4B cf ob j po st=some (res,st1)) (hQ:¬LetsOut Q)
  (hk:res=none→Next1 N w G a st1 vs ops.toList K) (hb:∀p,res=some p→c1D N w G a st1 vs (a0t vs ops.toList) p Q):wpOpIn (W r) n P ops Q j K a w:=by
 have plain:∀{po:PO},b4d E vs ops.toList o=some po→a4B cf ob j po st=some (res,st1)→wpOpIn (W r) n P ops Q j K a w:=by
  intro po hc hs
  simp only[b4d,Option.bind_eq_some_iff] at hc
  obtain⟨p,hp,hc⟩:=hc
  split at hc
  ·simp at hc
  ·rename_i hnb
   simp only[Option.some.injEq] at hc
   subst hc
   rw[b1g (by simpa using hnb)] at hs
   simp only[Option.map_eq_some_iff,Prod.mk.injEq] at hs
   obtain⟨st2,h1,rfl,rfl⟩:=hs
   refine b1e (λo' c ho' =>?_) hQ (a6P hF hE hP nm ho hf hcf hcL hp h1 (hk rfl))
   rw[ho] at ho'
   simp only[Option.some.injEq] at ho'
   subst ho'
   exact hd c
 unfold b4e at hc
 split at hc
 ·rename_i dst f xs ts ty pos aft
  split at hc
  ·simp only[Option.bind_eq_some_iff,Option.map_eq_some_iff] at hc
   obtain⟨k,hk',ps,hps,rfl⟩:=hc
   simp only[a4B] at hs
   split at hs
   ·rename_i us hus
    unfold wpOpIn
    simp only[ho,Region.wanted,if_true]
    split at hs
    ·rename_i u h' hcall
     simp only[Option.some.injEq,Prod.mk.injEq] at hs
     obtain⟨rfl,rfl⟩:=hs
     exact b2b hF hE nm ho hf hob hoL rfl hk' hps hus hcall hQ (λu' e=>by cases e; exact hk rfl) (λp e=>by cases e)
    ·rename_i v h' hcall
     simp only[Option.some.injEq,Prod.mk.injEq] at hs
     obtain⟨rfl,rfl⟩:=hs
     exact b2b hF hE nm ho hf hob hoL rfl hk' hps hus hcall hQ (λu' e=>by cases e) (λp e=>by cases e; exact hb _ rfl)
    ·simp at hs
   ·simp at hs
  ·exact plain hc hs
 ·rename_i dst t xs ts ty pos aft
  split at hc
  ·simp only[Option.bind_eq_some_iff,Option.map_eq_some_iff] at hc
   obtain⟨px,hpx,ps,hps,rfl⟩:=hc
   simp only[a4B] at hs
   split at hs
   ·rename_i k first captured us hfv hus
    unfold wpOpIn
    simp only[ho,Region.wanted,if_true]
    split at hs
    ·rename_i u h' hcall
     simp only[Option.some.injEq,Prod.mk.injEq] at hs
     obtain⟨rfl,rfl⟩:=hs
     exact b0y hF hE nm ho hf hob hro hoL rfl hpx hps hfv hus hcall hQ (λu' e=>by cases e; exact hk rfl) (λp e=>by cases e)
    ·rename_i v h' hcall
     simp only[Option.some.injEq,Prod.mk.injEq] at hs
     obtain⟨rfl,rfl⟩:=hs
     exact b0y hF hE nm ho hf hob hro hoL rfl hpx hps hfv hus hcall hQ (λu' e=>by cases e) (λp e=>by cases e; exact hb _ rfl)
    ·simp at hs
   ·simp at hs
  ·exact plain hc hs
 ·exact plain hc hs
end
end PI
set_option linter.unusedSimpArgs false
set_option linter.unusedVariables false
namespace PI
open Go
def wpN (r:Option Nat) (fid:FuncId) (P:Program) (c:Code) (Q:Exit→Act→World→Prop) (a:Act) (w:World):Prop:=
 ∀ (b : Frame) (k : List Item) (cs : List Frame), b.roundOf = r → b.fn = fid →
   ∃e a' w',Q e a' w'∧ArrivesIn (Machine.fenced P (W r)) P (lone (b.atR a (.code c::k)) cs w) b k cs e a' w'
section
variable {P:Program} {r:Option Nat} {fid:FuncId} {n:Nat} {Q:Exit→Act→World→Prop} {a:Act} {w:World}
theorem b0C {c:Code} (h:c.wpIn (W r) n P Q a w):wpN r fid P c Q a w:=λb k cs hro _=>h b k cs hro (b5U _) (b4l _)
theorem c1L {c:Code} {Q':Exit→Act→World→Prop} (h:wpN r fid P c Q a w) (hq:∀e a w,Q e a w→Q' e a w):wpN r fid P c Q' a w:=
 λb k cs hro hb=>let ⟨e,a',w',q,r⟩:=h b k cs hro hb; ⟨e,a',w',hq _ _ _ q,r⟩
theorem c1M (h:Q .normal a w):wpN r fid P .skip Q a w:=λ_ _ _ _ _=>⟨.normal,a,w,h,.one (a2j _) stepR_skip⟩
theorem b7n {id:Nat} (h:Q (.exit id) a w):wpN r fid P (.exit id) Q a w:=
 λ_ k _ _ _=>⟨.exit id,a,w,h,λ_ hk => .one (a2j _) (stepR_exit hk),λ_ hk=>⟨k,hk,.refl _⟩⟩
theorem b95 (h:Q .ret a w):wpN r fid P .ret Q a w:=
 λ_ k _ _ _=>⟨.ret,a,w,h,λhn=>⟨_,.one (a2j _) (stepR_ret hn)⟩,λ_=>⟨k,.refl _⟩⟩
theorem a8D {x y:Code} (h:wpN r fid P x (Exit.then (wpN r fid P y Q) Q) a w):wpN r fid P (.seq x y) Q a w:=by
 intro b k cs hro hb
 have h0:(lone (b.atR a (.code (.seq x y)::k)) cs w).fenced P (W r):=a2j _
 obtain⟨e,a₁,w₁,hq,harr⟩:=h b (.code y::k) cs hro hb
 cases e with
 | normal =>
   obtain⟨e₂,a₂,w₂,hq₂,harr₂⟩:=hq b k cs hro hb
   exact⟨e₂,a₂,w₂,hq₂,.of_steps (.head h0 stepR_seq harr) harr₂⟩
 | exit id=>exact⟨_,a₁,w₁,hq,.of_steps (.one h0 stepR_seq) (.pass (x := .code y) rfl (λ_ _ => .inl (by simp)) harr)⟩
 | goto l=>exact⟨_,a₁,w₁,hq,.of_steps (.one h0 stepR_seq) (.pass (x := .code y) rfl (λ_ _ => .inl (by simp)) harr)⟩
 | ret=>exact⟨_,a₁,w₁,hq,.of_steps (.one h0 stepR_seq) (.pass (x := .code y) rfl (λ_ _ => .inl (by simp)) harr)⟩
 | panic ch=>exact⟨_,a₁,w₁,hq,.of_steps (.one h0 stepR_seq) (.pass (x := .code y) rfl (λ_ _ => .inl (by simp)) harr)⟩
 | outgrown=>exact⟨_,a₁,w₁,hq,.of_steps (.one h0 stepR_seq) (.pass (x := .code y) rfl (λ_ _ => .inl (by simp)) harr)⟩
theorem b3Y {c:Operand} {x y:Code} {t:Bool} (hc:a.eval c = .bool t) (h:wpN r fid P (if t then x else y) Q a w):wpN r fid P (.cond c x y) Q a w:=
 λb k cs hro hb=>let ⟨e,a',w',q,r⟩:=h b k cs hro hb; ⟨e,a',w',q,.of_steps (.one (a2j _) (stepR_cond hc)) r⟩
theorem b96 {id:Nat} {c:Code} (h:wpN r fid P c (Exit.inBlock id Q) a w):wpN r fid P (.block id c) Q a w:=by
 intro b k cs hro hb
 have h0:(lone (b.atR a (.code (.block id c)::k)) cs w).fenced P (W r):=a2j _
 obtain⟨e,a₁,w₁,hq,harr⟩:=h b (.inBlock id::k) cs hro hb
 cases e with
 | normal=>exact⟨.normal,a₁,w₁,hq,.head h0 stepR_block (StepsIn.trans harr (.one (a2j _) stepR_inBlock))⟩
 | exit id' =>
   by_cases hid:id'=id
   ·simp only[Exit.inBlock,hid,if_true] at hq
    exact⟨.normal,a₁,w₁,hq,.head h0 stepR_block (harr.1 k (by simp[exitTo,hid]))⟩
   ·simp only[Exit.inBlock,hid,if_false] at hq
    have this:(id==id')=false:=by simp; exact λh=>hid h.symm
    have hx:exitTo id' (.inBlock id::k)=exitTo id' k:=by simp[exitTo,this]
    exact⟨.exit id',a₁,w₁,hq,λk' hk => .head h0 stepR_block (harr.1 k' (by rw[hx]; exact hk)),
     λhr' hk=>let ⟨k₁,h1,h2⟩:=harr.2 hr' (by rw[hx]; exact hk); ⟨k₁,h1,.head h0 stepR_block h2⟩⟩
 | goto l =>
   have hx:gotoIn l (.inBlock id::k)=gotoIn l k:=by simp[gotoIn]
   exact⟨_,a₁,w₁,hq,λk' hk => .head h0 stepR_block (harr.1 k' (by rw[hx]; exact hk)),
    λhr' hk=>let ⟨k₁,h1,h2⟩:=harr.2 hr' (by rw[hx]; exact hk); ⟨k₁,h1,.head h0 stepR_block h2⟩⟩
 | ret=>exact⟨_,a₁,w₁,hq,.of_steps (.one h0 stepR_block) harr⟩
 | panic ch=>exact⟨_,a₁,w₁,hq,.of_steps (.one h0 stepR_block) harr⟩
 | outgrown=>exact⟨_,a₁,w₁,hq,.of_steps (.one h0 stepR_block) harr⟩
def b0a (r:Option Nat) (fid:FuncId) (P:Program) (c:Code) (Q:Exit→Act→World→Prop):Nat→Act→World→Prop
 | 0,_,_=>False
 | m+1,a,w=>wpN r fid P c (Exit.then (b0a r fid P c Q m) Q) a w
theorem b5M {c:Code} {m:Nat}:b0a r fid P c Q (m+1) a w=wpN r fid P c (Exit.then (b0a r fid P c Q m) Q) a w:=rfl
theorem b2k {c:Code} (m:Nat) (h:b0a r fid P c Q m a w):wpN r fid P (.loop c) Q a w:=by
 intro b k cs hro hb
 have key:∀m a w,b0a r fid P c Q m a w →
   ∃e a' w',Q e a' w'∧ArrivesIn (Machine.fenced P (W r)) P (lone (b.atR a (.code c :: .inLoop c::k)) cs w) b k cs e a' w':=by
  intro m
  induction m with
  | zero=>intro a w h; exact h.elim
  | succ m ih =>
    intro a w h
    obtain⟨e,a₁,w₁,hq,harr⟩:=h b (.inLoop c::k) cs hro hb
    cases e with
    | normal =>
      obtain⟨e₂,a₂,w₂,hq₂,harr₂⟩:=ih a₁ w₁ hq
      exact⟨e₂,a₂,w₂,hq₂,.of_steps (StepsIn.trans harr (.one (a2j _) stepR_inLoop)) harr₂⟩
    | exit id=>exact⟨_,a₁,w₁,hq,.pass (x := .inLoop c) rfl (λ_ _ => .inl (by simp)) harr⟩
    | goto l=>exact⟨_,a₁,w₁,hq,.pass (x := .inLoop c) rfl (λ_ _ => .inl (by simp)) harr⟩
    | ret=>exact⟨_,a₁,w₁,hq,.pass (x := .inLoop c) rfl (λ_ _ => .inl (by simp)) harr⟩
    | panic ch=>exact⟨_,a₁,w₁,hq,.pass (x := .inLoop c) rfl (λ_ _ => .inl (by simp)) harr⟩
    | outgrown=>exact⟨_,a₁,w₁,hq,.pass (x := .inLoop c) rfl (λ_ _ => .inl (by simp)) harr⟩
 obtain⟨e,a',w',hq,harr⟩:=key m a w h
 exact⟨e,a',w',hq,.of_steps (.one (a2j _) stepR_loop) harr⟩
theorem a9q {g:Operand} {ps:Array Tmp} {assign body:Code} {l:Nat} {mark:List Deferred} {w₁:World} {d:Deferred} {f:FuncId} {args:Array Value}
  (he:(Instr.enterLoop fid a.tmps ps assign body none).run P w = .ok (l,mark) w₁) (hres:(resolve a.eval (rangeCall g l) 0).run P w₁ = .ok d w₁) (hinv:(invoke d.target d.args).run P w₁ = .ok (.enter f args) w₁)
  (hc:Calls P f args w₁ fun
   | .returned _, w₃ => ∃ j w₄, (Instr.endLoop l).run P w₃ = .ok j w₄ ∧ (match j with
     | none=>Q .normal { a with defers:=mark++a.defers } w₄
     | some c=>wpN none fid P c Q { a with defers:=mark++a.defers } w₄)
   | .panicked chain,w₃=>Q (.panic chain) { a with defers:=mark++a.defers } w₃
   | .outgrown,_=>LetsOut Q):wpN none fid P (.rangeFunc g ps assign body) Q a w:=by
 intro b k cs hro hb
 subst hb
 rw[← hro] at he
 have henter:=stepR_rangeFunc (P:=P) (b:=b) (a:=a) (k:=k) (cs:=cs) (w:=w) he hres hinv
 obtain⟨e,w₃,fr,hR,hsteps,hfn,hleave⟩:=(b6R (r:=none) (n:=0) hc).2 (b.atR { a with defers:=mark++a.defers } (.inRangeFunc l::k)::cs) (b4l _)
 cases e with
 | outgrown =>
   obtain⟨a₀,w₀,hq⟩:=hR
   exact⟨.outgrown,a₀,w₀,hq,.inr (Outgrown.of_steps (.one henter) hsteps)⟩
 | returned v =>
   obtain⟨j,w₄,hend,hj⟩:=hR
   have sback:StepsIn (Machine.fenced P (W none)) P (lone (b.atR a (.code (.rangeFunc g ps assign body)::k)) cs w) (lone (b.atR { a with defers:=mark++a.defers } ((j.map Item.code).toList++k)) cs w₄):=by
    refine .head (a2j _) henter (StepsIn.trans hsteps (.head (a2j _) ?_ (.one (a2j _) (stepR_endRangeFunc (b:=b) (a:={ a with defers:=mark++a.defers }) (k:=k) hend))))
    rw[← finish_atR_inRangeFunc l v]; exact step_leave_returned hleave
   cases j with
   | none=>exact⟨.normal,_,w₄,hj,sback⟩
   | some c =>
     obtain⟨e₂,a₂,w₅,hq,hr⟩:=hj b k cs hro rfl
     exact⟨e₂,a₂,w₅,hq,.of_steps sback hr⟩
 | panicked chain =>
   refine⟨.panic chain,_,w₃,hR,.inRangeFunc l::k,.head (a2j _) henter (StepsIn.trans hsteps (.one (a2j _) ?_))⟩
   rw[← Frame.raise_atR]; exact step_leave_panicked hleave
def d1F (P:Program) (fn:Func) (R:Ending→World→Prop):Exit→Act→World→Prop
 | .normal,a,w | .ret,a,w=>LeavesInM (W none) 0 P fn a.tmps R a.defers .returning w
 | .panic chain,a,w=>LeavesInM (W none) 0 P fn a.tmps R a.defers (.panicking chain) w
 | _,_,_=>False
theorem b0D {f:FuncId} {fn:Func} {c:Code} {args:Array Value} {R:Ending→World→Prop} (hf:P.funcs[f]? = some fn) (hb:fn.body=some c)
  (h:wpN none f P c (d1F P fn R) { tmps:=args++Array.replicate (fn.ntmps - args.size) undef,defers:=[] } w):Calls P f args w R:=by
 refine b7s (r:=none) (n:=0) ⟨trivial,λcs hr =>?_⟩
 let b:Frame:={ (default:Frame) with fn:=f,kind := .normal,roundOf:=none }
 have henter:Frame.enter P f args .normal=b.atR { tmps:=args++Array.replicate (fn.ntmps - args.size) undef,defers:=[] } [.code c]:=by
  simp[Frame.enter,Frame.atR,hf,hb,b]
 obtain⟨e,a',w',hq,harr⟩:=h b [] cs rfl rfl
 rw[← henter] at harr
 cases e with
 | normal =>
   obtain⟨e',w'',fr',hR,hs,hfn,hl⟩:=leaves_stepsInM a'.defers .returning w' { b.atR a' [] with mode := .returning } cs rfl rfl rfl hf rfl trivial (b4l _) hq
   exact⟨e',w'',fr',hR,ComesIn.of_steps (StepsIn.trans harr (.one (a2j _) (stepR_end rfl))) hs,hfn,hl⟩
 | ret =>
   obtain⟨todo,hs₀⟩:=harr.1 rfl
   obtain⟨e',w'',fr',hR,hs,hfn,hl⟩:=leaves_stepsInM a'.defers .returning w' { b.atR a' todo with mode := .returning } cs rfl rfl rfl hf rfl trivial (b4l _) hq
   exact⟨e',w'',fr',hR,ComesIn.of_steps hs₀ hs,hfn,hl⟩
 | panic chain =>
   obtain⟨todo,hs₀⟩:=harr
   obtain⟨e',w'',fr',hR,hs,hfn,hl⟩:=leaves_stepsInM a'.defers (.panicking chain) w' { b.atR a' todo with mode := .panicking chain } cs rfl rfl rfl hf rfl trivial (b4l _) hq
   exact⟨e',w'',fr',hR,ComesIn.of_steps hs₀ hs,hfn,hl⟩
 | exit id=>exact hq.elim
 | goto l=>exact hq.elim
 | outgrown=>exact hq.elim
theorem c8L {l:Nat} {f:FuncId} {fn:Func} {tmps:Array Value} {assign body:Code} {R:Ending→World→Prop} (hfn:P.funcs[f]? = some fn)
  (h:wpN (some l) f P assign (Exit.then (λa₁ w₁=>∃w₂,(Instr.beginRound l).run P w₁ = .ok () w₂∧wpN (some l) f P body (a9z P l R) a₁ w₂) (λ_ _ _=>False)) { tmps:=tmps,defers:=[] } w):
  RoundIn (W r) n P l f tmps assign body w R:=by
 refine⟨b5U _,λc cs hr =>?_⟩
 let b:Frame:={ (default:Frame) with fn:=f,kind := .normal,roundOf:=some l }
 have hb0:Frame.round l f tmps assign body .normal=b.atR { tmps:=tmps,defers:=[] } [.code assign,.beginRound,.code body]:=by
  simp[Frame.round,Frame.atR,b]
 obtain⟨e,a₁,w₁,hq,harr⟩:=h b [.beginRound,.code body] (c::cs) rfl rfl
 rw[← hb0] at harr
 cases e with
 | normal =>
   obtain⟨w₂,hbr,hbody⟩:=hq
   have s1:StepsIn (Machine.fenced P (W (some l))) P (lone (b.atR a₁ [.beginRound,.code body]) (c::cs) w₁) (lone (b.atR a₁ [.code body]) (c::cs) w₂):=
    .one (a2j _) (stepR_beginRound rfl hbr)
   obtain⟨e₂,a₂,w₃,hq₂,harr₂⟩:=hbody b [] (c::cs) rfl rfl
   cases e₂ with
   | normal =>
     obtain⟨v,w₄,hend,hR⟩:=hq₂
     exact⟨.returned v,w₄,hR,(StepsIn.trans harr s1).trans (StepsIn.trans harr₂ (.one (a2j _) (stepR_round_end rfl rfl hend)))⟩
   | panic chain =>
     obtain⟨hd,hR⟩:=hq₂
     obtain⟨todo,hs⟩:=harr₂
     refine⟨.panicked chain,w₃,hR,(StepsIn.trans harr s1).trans (StepsIn.trans hs (.one (a2j _) (b0G (fn:=fn) rfl ?_ hfn)))⟩
     exact hd
   | ret =>
     obtain⟨v,w₄,hend,hR⟩:=hq₂
     obtain⟨k₁,hs⟩:=harr₂.2 rfl
     exact⟨.returned v,w₄,hR,(StepsIn.trans harr s1).trans (StepsIn.trans hs (.one (a2j _) (stepR_round_ret rfl rfl hend)))⟩
   | exit id =>
     obtain⟨v,w₄,hend,hR⟩:=hq₂
     obtain⟨k₁,hk,hs⟩:=harr₂.2 rfl rfl
     exact⟨.returned v,w₄,hR,(StepsIn.trans harr s1).trans (StepsIn.trans hs (.one (a2j _) (stepR_round_exit rfl rfl hk hend)))⟩
   | goto t=>exact hq₂.elim
   | outgrown=>exact hq₂.elim
 | exit id=>exact hq.elim
 | goto t=>exact hq.elim
 | ret=>exact hq.elim
 | panic chain=>exact hq.elim
 | outgrown=>exact hq.elim
end
end PI
set_option linter.unusedSimpArgs false
set_option linter.unusedVariables false
namespace PI
open Go Go.RowKit
section
variable {E:Env} {N:Nm} {w:World} {G:GS} {st:St} {a:Act} {vs:List Tmp} {lm:Nat→Option Tmp} {P:Program}
theorem b6V (hf:FI N w G st a vs lm) {n b:Nat} {ob':PObj} {mob:Obj} (hb:G.heap n=some b) (how:G.ow b=some (.hobj n))
  (hnf:∀o,¬G.fix b o) (hnc:w.shape? b=none) (hlo:∀s,a2J w b=some s→a2J { w with heap:=w.heap.setIfInBounds b mob } b=some s)
  (hR:ob' = .gone∨ObjR N { w with heap:=w.heap.setIfInBounds b mob } G n b ob'):
  Ext w G { w with heap:=w.heap.setIfInBounds b mob } G∧FI N { w with heap:=w.heap.setIfInBounds b mob } G (a3L st n ob') a vs lm:=by
 let w':World:={ w with heap:=w.heap.setIfInBounds b mob }
 have hblt:b<w.heap.size:=hf.owlt _ _ how
 have hother:∀x,x≠b→w'.heap[x]? = w.heap[x]? := λx hx=>by
  simp only[w',Array.getElem?_setIfInBounds]; rw[if_neg (by omega)]
 have hext:Ext w G w' G:=by
  refine⟨rfl,rfl,rfl,by simp[w'],λx _ hxo=>hother x (by rintro rfl; rw[how] at hxo; simp at hxo),?_,λ_ _ h => .inl h,λ_ h => .inr h,λ_ _ h=>h,.one b (λk _ hk=>hother k hk) (λs hx=>by rw[hnc] at hx; simp at hx) hlo,rfl⟩
  intro x o' hfx
  have hxb:x≠b:=by rintro rfl; exact hnf _ hfx
  refine⟨hfx,?_⟩
  simp only[World.cell?,hother x hxb]
 have hkeep:a6B (λk=>k = .hobj n) w G w' G:=by
  refine⟨?_,λ_ _ h=>h⟩
  intro x k hx hnk
  have hxb:x≠b:=by rintro rfl; rw[how] at hx; simp at hx; exact hnk hx.symm
  exact⟨hx,hother x hxb,λ_ h=>h⟩
 have hf1:FI N w' G (a3L st n ob') a vs lm:=by
  refine⟨hf.len,λi t' u' h1 h2=>(hf.var i t' u' h1 h2).keep hext hkeep (by simp) (by simp),λi t' u' h1 h2=>(hf.loc i t' u' h1 h2).keep hext hkeep (by simp) (by simp),hf.tv,hf.tl,hf.defers,hf.gen,?_,?_,?_,?_⟩
  ·intro b' k hb'; simpa[w'] using hf.owlt _ _ hb'
  ·intro b' k hb'; simpa[w'] using hf.fixlt _ _ hb'
  ·exact hf.heap.keepBut hext hkeep (λm k hne=>⟨by simp; omega,by simp⟩) (λ_=>hR.imp id λhR=>⟨b,hb,how,hR⟩)
  ·intro m b' h; have:=hf.hdom _ _ h; simpa[a3L] using this
 exact⟨hext,hf1⟩
theorem c2X (hf:FI N w G st a vs lm) {ob:PObj} {mob:Obj}
  (hR:∀G',G'=G.more w.heap.size st.heap.length→Ext w G (w.alloc mob) G'→ObjR N (w.alloc mob) G' st.heap.length w.heap.size ob):
  Ext w G (w.alloc mob) (G.more w.heap.size st.heap.length)∧FI N (w.alloc mob) (G.more w.heap.size st.heap.length) { st with heap:=st.heap++[ob] } a vs lm:=by
 let G':GS:=G.more w.heap.size st.heap.length
 have hext:Ext w G (w.alloc mob) G':=by
  refine⟨rfl,rfl,rfl,by simp,λb hb _=>a0q hb,λb o h=>⟨h,a2a (hf.fixlt _ _ h)⟩,λ_ _ h => .inl h,?_,?_,.same λk hk=>a0q hk,rfl⟩
  ·intro b hb
   by_cases hlt:b<w.heap.size
   ·refine .inr ?_
    simp only[G',GS.more] at hb
    rw[if_neg (by omega)] at hb
    exact hb
   ·exact .inl (by omega)
  ·intro n b h
   have:=hf.hdom _ _ h
   simp only[G',GS.more]
   rw[if_neg (by omega)]; exact h
 have hkeep:a6B (λ_=>False) w G (w.alloc mob) G':=by
  refine⟨?_,λ_ _ h=>h⟩
  intro b k hb _
  have hlt:=hf.owlt _ _ hb
  refine⟨?_,a0q hlt,λ_ h=>h⟩
  simp only[G',GS.more]
  rw[if_neg (by omega)]; exact hb
 have hf1:FI N (w.alloc mob) G' { st with heap:=st.heap++[ob] } a vs lm:=by
  refine⟨hf.len,λi t u h1 h2=>(hf.var i t u h1 h2).keep hext hkeep (λh=>h) (λ_ _ _ h=>h),λj t u h1 h2=>(hf.loc j t u h1 h2).keep hext hkeep (λh=>h) (λ_ _ _ h=>h),hf.tv,hf.tl,hf.defers,hf.gen,?_,?_,?_,?_⟩
  ·intro b k hb
   simp only[G',GS.more] at hb
   split at hb
   ·simp; omega
   ·have:=hf.owlt _ _ hb; simp; omega
  ·intro b o h; have:=hf.fixlt _ _ h; simp; omega
  ·exact hf.heap.push hext hkeep (λ_ _ _=>⟨λh=>h,λh=>h⟩) (.inr ⟨w.heap.size,by simp[G',GS.more],by simp[G',GS.more],hR G' rfl hext⟩)
  ·intro n b h
   simp only[G',GS.more] at h
   simp only[List.length_append,List.length_singleton]
   split at h
   ·omega
   ·have:=hf.hdom _ _ h; omega
 exact⟨hext,hf1⟩
theorem b8F (hf:FI N w G st a vs lm) (mob:Obj):Ext w G (w.alloc mob) G∧FI N (w.alloc mob) G st a vs lm:=by
 have hext:Ext w G (w.alloc mob) G:=
  ⟨rfl,rfl,rfl,by simp,λb hb _=>a0q hb,λb o h=>⟨h,a2a (hf.fixlt _ _ h)⟩,λ_ _ h => .inl h,λ_ h => .inr h,λ_ _ h=>h,.same λk hk=>a0q hk,rfl⟩
 have hkeep:a6B (λ_=>False) w G (w.alloc mob) G:=⟨λb k hb _=>⟨hb,a0q (hf.owlt _ _ hb),λ_ h=>h⟩,λ_ _ h=>h⟩
 exact⟨hext,hf.ext hext hkeep hf.gen (λb k h=>by have:=hf.owlt _ _ h; simp; omega) (λb o h=>by have:=hf.fixlt _ _ h; simp; omega)⟩
theorem FI.setDf (hf:FI N w G st a vs lm) (ds:List Deferred):FI N w { G with df:=ds } st { a with defers:=ds } vs lm:=
 ⟨hf.len,hf.var,hf.loc,hf.tv,hf.tl,rfl,hf.gen,hf.owlt,hf.fixlt,hf.heap,hf.hdom⟩
theorem Ext.setDf {w':World} {G':GS} (h:Ext w G w' G') (ds:List Deferred):Ext w { G with df:=ds } w' { G' with df:=ds }:=
 ⟨h.os,h.tape,h.output,h.size,h.same,h.fix,h.newfix,h.own,h.heap,h.shape,rfl⟩
def ExtD (w:World) (G:GS) (w':World) (G':GS):Prop:=Ext w { G with df:=G'.df } w' G'
theorem ExtD.of {w':World} {G':GS} (h:Ext w G w' G'):ExtD w G w' G':=by
 have:=h.setDf G'.df
 exact this
theorem ExtD.refl (w:World) (G:GS):ExtD w G w G := .of (Ext.refl w G)
theorem ExtD.trans {w1 w2:World} {G1 G2:GS} (h:ExtD w G w1 G1) (k:ExtD w1 G1 w2 G2):ExtD w G w2 G2:=by
 have h1:=Ext.setDf h G2.df
 exact Ext.trans h1 k
theorem ExtD.to {w':World} {G':GS} (h:ExtD w G w' G') (hd:G'.df=G.df):Ext w G w' G':=by
 unfold ExtD at h
 rw[hd] at h
 exact h
def Marks (w w':World) (G':GS) (ms:List Deferred):Prop:=
 ∃bs:List Nat,ms=bs.map (λb=>{ target := .collected b,args := #[] })∧bs.Nodup∧∀b∈bs,w.heap.size≤b∧w'.heap[b]? = some (.deferred (some []))∧G'.ow b=none
theorem Marks.nil (w w':World) (G':GS):Marks w w' G' []:=⟨[],rfl,List.nodup_nil,by simp⟩
theorem Marks.lt {w':World} {G':GS} {b:Nat} (h:w'.heap[b]? = some (.deferred (some []))):b<w'.heap.size:=(Array.getElem?_eq_some_iff.1 h).1
theorem Marks.join {w1 w2:World} {G1 G2:GS} {ms1 ms2:List Deferred} (hs:w.heap.size≤w1.heap.size) (h1:Marks w w1 G1 ms1) (e:ExtD w1 G1 w2 G2) (h2:Marks w1 w2 G2 ms2):Marks w w2 G2 (ms2++ms1):=by
 obtain⟨b1,rfl,n1,k1⟩:=h1
 obtain⟨b2,rfl,n2,k2⟩:=h2
 refine⟨b2++b1,by simp,?_,?_⟩
 ·rw[List.nodup_append]
  refine⟨n2,n1,?_⟩
  rintro x hx y hy rfl
  have:=(k2 x hx).1
  have:=Marks.lt (G':=G1) (k1 x hy).2.1
  omega
 ·intro b hb
  rcases List.mem_append.1 hb with hb|hb
  ·obtain⟨j1,j2,j3⟩:=k2 b hb
   exact⟨by omega,j2,j3⟩
  ·obtain⟨j1,j2,j3⟩:=k1 b hb
   have hlt:=Marks.lt (G':=G1) j2
   refine⟨j1,(Ext.same e b hlt j3).trans j2,?_⟩
   cases hx:G2.ow b with
   | none=>rfl
   | some k =>
     rcases Ext.own e b (by rw[hx]; simp) with h|h
     ·omega
     ·exact absurd j3 h
end
def b4a (nt:Nat) (ops:List Oper):Bool:=ops.all λo=>match o.dst with | some t=>decide (t<nt) | none=>true
def b3h (ops:List Oper):Bool:=ops.all λo=>match o.op with | .defer _=>false | _=>true
def b06 (E:Env) (nt:Nat) (vs:List Tmp) (ops:Array Oper) (draw:Bool):Option (List PO):=
 if b0d vs ops.toList&&b4a nt ops.toList&&b3h ops.toList then
  (a8J E vs ops.toList ops.toList).bind λpos=>if draw && !a7i ops pos then none else some pos
 else none
def b4b (E:Env) (nt:Nat) (vs:List Tmp) (ops:Array Oper) (draw:Bool):Option (List PO):=
 if b0d vs ops.toList&&b4a nt ops.toList&&b3h ops.toList then
  (b1a E vs ops.toList ops.toList).bind λpos=>if draw && !a7i ops pos then none else some pos
 else none
def a7b (E:Env) (nt:Nat) (vs:List Tmp) (ops:Array Oper):Option (List PO×Nat×PX):=
 if b0d vs ops.toList&&b4a nt ops.toList&&b3h ops.toList then
  match ops.toList.drop (ops.size - 2) with
  | [{ dst := some d, op := .makeInterface T x, guard := none, .. }, { op := .panic (.tmp d'), guard := none, .. }] =>
    match E.P.underlying T with
    | none | some (.interface _)=>none
    | some _=>if d=d'∧(a3O d vs 0).isNone∧2≤ops.size then(a8J E vs ops.toList (ops.toList.take (ops.size - 2))).bind λpos=>(cx E vs ops.toList x).bind λpx=>(a3O T E.pt 0).map λi=>(pos,i+1,px) else none
  | _=>none
 else none
def b07 (E:Env) (nt:Nat) (vs:List Tmp) (ops:Array Oper):Option (Nat×List PX):=
 match ops.toList with
 | [{ dst := some d, op := .makeFunc (.func f) first caps, guard := none, .. }, { dst := none, op := .defer { callee := .value (.tmp d'), args, .. }, guard := none, .. }] =>
   if d=d'∧(a3O d vs 0).isNone∧d<nt∧first.toList=[]∧args.toList=[] then(E.inv f).bind λk=>(cxs E vs [] caps.toList).map λps=>(k,ps) else none
 | _=>none
inductive Cmp (E:Env) (nt:Nat) (vs:List Tmp):Code→PC→Prop where
 | skip:Cmp E nt vs .skip .skip
 | region (id:Nat) (ops:Array Oper) (d:Bool) (pos:List PO) (h:b06 E nt vs ops d=some pos):Cmp E nt vs (.region id ops d) (.region pos)
 | bregion (id:Nat) (ops:Array Oper) (d:Bool) (pos:List PO) (h:b4b E nt vs ops d=some pos):Cmp E nt vs (.region id ops d) (.bregion pos)
 | raise (id:Nat) (ops:Array Oper) (pos:List PO) (t:Nat) (px:PX) (h:a7b E nt vs ops=some (pos,t,px)):Cmp E nt vs (.region id ops false) (.raise pos t px)
 | branch (id : Nat) (ops : Array Oper) (d : Bool) (pos : List PO) (c : Operand) (px : PX) (x y : Code) (px1 px2 : PC) (h : b06 E nt vs ops d = some pos) (hc : cx E vs ops.toList c = some px) (hx : Cmp E nt vs x px1) (hy : Cmp E nt vs y px2) :
   Cmp E nt vs (.seq (.region id ops d) (.cond c x y)) (.branch pos px px1 px2)
 | branchSeq (id : Nat) (ops : Array Oper) (d : Bool) (pos : List PO) (c : Operand) (px : PX) (x y r : Code) (px1 px2 pr : PC) (h : b06 E nt vs ops d = some pos) (hc : cx E vs ops.toList c = some px) (hx : Cmp E nt vs x px1) (hy : Cmp E nt vs y px2) (hr : Cmp E nt vs r pr) :
   Cmp E nt vs (.seq (.region id ops d) (.seq (.cond c x y) r)) (.seq (.branch pos px px1 px2) pr)
 | bbranch (id : Nat) (ops : Array Oper) (d : Bool) (pos : List PO) (c : Operand) (px : PX) (x y : Code) (px1 px2 : PC) (h : b4b E nt vs ops d = some pos) (hc : cx E vs ops.toList c = some px) (hx : Cmp E nt vs x px1) (hy : Cmp E nt vs y px2) :
   Cmp E nt vs (.seq (.region id ops d) (.cond c x y)) (.bbranch pos px px1 px2)
 | bbranchSeq (id : Nat) (ops : Array Oper) (d : Bool) (pos : List PO) (c : Operand) (px : PX) (x y r : Code) (px1 px2 pr : PC) (h : b4b E nt vs ops d = some pos) (hc : cx E vs ops.toList c = some px) (hx : Cmp E nt vs x px1) (hy : Cmp E nt vs y px2) (hr : Cmp E nt vs r pr) :
   Cmp E nt vs (.seq (.region id ops d) (.seq (.cond c x y) r)) (.seq (.bbranch pos px px1 px2) pr)
 | guarded (id:Nat) (ops:Array Oper) (kd:Nat) (caps:List PX) (y:Code) (q:PC) (h:b07 E nt vs ops=some (kd,caps)) (hy:Cmp E nt vs y q):Cmp E nt vs (.seq (.region id ops false) y) (.guarded kd caps q)
 | seq (x y:Code) (p q:PC) (hx:Cmp E nt vs x p) (hy:Cmp E nt vs y q):Cmp E nt vs (.seq x y) (.seq p q)
 | cond (c:Operand) (px:PX) (x y:Code) (p q:PC) (hc:cx E vs [] c=some px) (hx:Cmp E nt vs x p) (hy:Cmp E nt vs y q):Cmp E nt vs (.cond c x y) (.branch [] px p q)
 | block (id:Nat) (x:Code) (p:PC) (hx:Cmp E nt vs x p):Cmp E nt vs (.block id x) (.block id p)
 | loop (x:Code) (p:PC) (hx:Cmp E nt vs x p):Cmp E nt vs (.loop x) (.loop p)
 | rangeF (g : Operand) (ps : Array Tmp) (as body : Code) (px : PX) (kb : Nat) (vars : List Tmp) (caps : List PX) (hg : cx E vs [] g = some px) (hl : (ps, kb, vars) ∈ E.lps) (hv : cxs E vs [] (vars.map .tmp) = some caps) :
   Cmp E nt vs (.rangeFunc g ps as body) (.rangeF px kb caps)
 | stuck (x:Code):Cmp E nt vs x a5g
 | exit (id:Nat):Cmp E nt vs (.exit id) (.exit id)
 | ret:Cmp E nt vs .ret .ret
def c8M (E:Env) (nt:Nat) (vs:List Tmp) (ops:Array Oper) (d:Bool):PC:=
 if d1o E ops.toList then(match b4b E nt vs ops d with | some pos => .bregion pos | none=>a5g)
 else match b06 E nt vs ops d with
  | some pos=>if d then .region pos else(match a7b E nt vs ops with | some r => .raise r.1 r.2.1 r.2.2 | none => .region pos)
  | none=>if d then a5g else(match a7b E nt vs ops with | some r => .raise r.1 r.2.1 r.2.2 | none=>a5g)
def brC (E:Env) (nt:Nat) (vs:List Tmp) (ops:Array Oper) (d:Bool) (c:Operand) (p q:PC):PC:=
 if d1o E ops.toList then(match b4b E nt vs ops d,cx E vs ops.toList c with | some pos,some px => .bbranch pos px p q | _,_=>a5g)
 else match b06 E nt vs ops d,cx E vs ops.toList c with
  | some pos,some px => .branch pos px p q
  | _,_=>a5g
theorem b6N {E:Env} {nt:Nat} {vs:List Tmp} (id:Nat) (ops:Array Oper) (d:Bool):Cmp E nt vs (.region id ops d) (c8M E nt vs ops d):=by
 unfold c8M
 split
 ·split
  ·exact .bregion id ops d _ (by assumption)
  ·exact .stuck _
 ·split
  ·split
   ·exact .region id ops d _ (by assumption)
   ·rename_i hd
    have:d=false:=by simpa using hd
    subst this
    split
    ·exact .raise id ops _ _ _ (by assumption)
    ·exact .region id ops false _ (by assumption)
  ·split
   ·exact .stuck _
   ·rename_i hd
    have:d=false:=by simpa using hd
    subst this
    split
    ·exact .raise id ops _ _ _ (by assumption)
    ·exact .stuck _
theorem c2P {E:Env} {nt:Nat} {vs:List Tmp} (id:Nat) (ops:Array Oper) (d:Bool) (c:Operand) {x y:Code} {p q:PC} (hx:Cmp E nt vs x p) (hy:Cmp E nt vs y q):Cmp E nt vs (.seq (.region id ops d) (.cond c x y)) (brC E nt vs ops d c p q):=by
 unfold brC
 split
 ·split
  ·exact .bbranch id ops d _ c _ x y p q (by assumption) (by assumption) hx hy
  ·exact .stuck _
 ·split
  ·exact .branch id ops d _ c _ x y p q (by assumption) (by assumption) hx hy
  ·exact .stuck _
def b3i:PC→Bool
 | .branch [] (.c .dead) .skip .skip=>true
 | _=>false
theorem c2Q {E:Env} {nt:Nat} {vs:List Tmp} (id:Nat) (ops:Array Oper) (d:Bool) (c:Operand) {x y r:Code} {p q pr:PC} (hx:Cmp E nt vs x p) (hy:Cmp E nt vs y q) (hr:Cmp E nt vs r pr):
  Cmp E nt vs (.seq (.region id ops d) (.seq (.cond c x y) r)) (if b3i (brC E nt vs ops d c p q) then a5g else .seq (brC E nt vs ops d c p q) pr):=by
 split
 ·exact .stuck _
 ·rename_i hs
  unfold brC at hs ⊢
  split
  ·rename_i hb
   rw[if_pos hb] at hs
   split
   ·exact .bbranchSeq id ops d _ c _ x y r p q pr (by assumption) (by assumption) hx hy hr
   ·rename_i h1
    split at hs
    ·rename_i a b h2 h3; exact absurd rfl (λe:(0:Nat)=0=>h1 _ _ h2 h3)
    ·simp[b3i,a5g] at hs
  ·rename_i hb
   rw[if_neg hb] at hs
   split
   ·exact .branchSeq id ops d _ c _ x y r p q pr (by assumption) (by assumption) hx hy hr
   ·rename_i h1
    split at hs
    ·rename_i a b h2 h3; exact absurd rfl (λe:(0:Nat)=0=>h1 _ _ h2 h3)
    ·simp[b3i,a5g] at hs
def a37 (E:Env) (nt:Nat) (vs:List Tmp):Code→PC
 | .skip => .skip
 | .region _ ops d=>c8M E nt vs ops d
 | .seq (.region _ ops d) (.cond c x y)=>brC E nt vs ops d c (a37 E nt vs x) (a37 E nt vs y)
 | .seq (.region _ ops d) (.seq (.cond c x y) r)=>if b3i (brC E nt vs ops d c (a37 E nt vs x) (a37 E nt vs y)) then a5g else .seq (brC E nt vs ops d c (a37 E nt vs x) (a37 E nt vs y)) (a37 E nt vs r)
 | .seq (.region _ ops false) y => match b07 E nt vs ops with
   | some r => .guarded r.1 r.2 (a37 E nt vs y)
   | none => .seq (c8M E nt vs ops false) (a37 E nt vs y)
 | .seq x y => .seq (a37 E nt vs x) (a37 E nt vs y)
 | .cond c x y => match cx E vs [] c with
   | some px => .branch [] px (a37 E nt vs x) (a37 E nt vs y)
   | none=>a5g
 | .block id x => .block id (a37 E nt vs x)
 | .loop x => .loop (a37 E nt vs x)
 | .rangeFunc g ps _ _ => match cx E vs [] g, E.lps.find? (fun y => y.1 == ps) with
   | some px, some y => match cxs E vs [] (y.2.2.map .tmp) with
     | some caps => .rangeF px y.2.1 caps
     | none=>a5g
   | _,_=>a5g
 | .exit id => .exit id
 | .ret => .ret
 | _=>a5g
theorem a7c {E:Env} {nt:Nat} {vs:List Tmp}:∀{c:Code},Cmp E nt vs c (a37 E nt vs c):=by
 intro c
 fun_induction a37 E nt vs c with
 | case1=>exact .skip
 | case2 id ops d=>exact b6N id ops d
 | case3 id ops d c x y ihx ihy=>exact c2P id ops d c ihx ihy
 | case4=>exact .stuck _
 | case5 id ops d c x y r h ihx ihy ihr =>
   have:=c2Q id ops d c ihx ihy ihr
   rw[if_neg h] at this
   exact this
 | case6 id ops y _ _ r h ihy=>exact .guarded id ops _ _ y _ h ihy
 | case7 id ops y _ _ h ihy=>exact .seq _ y _ _ (b6N id ops false) ihy
 | case8 x y _ _ _ ihx ihy=>exact .seq x y _ _ ihx ihy
 | case9 c x y px h ihx ihy=>exact .cond c px x y _ _ h ihx ihy
 | case10=>exact .stuck _
 | case11 id x ih=>exact .block id x _ ih
 | case12 x ih=>exact .loop x _ ih
 | case13 g ps a b px y e1 e2 caps e3 =>
   have h2:E.lps.find? (λy=>y.1==ps)=some y:=by assumption
   have hm:=List.mem_of_find?_eq_some h2
   have he:=List.find?_some h2
   obtain⟨y1,y2,y3⟩:=y
   have he':y1=ps:=by simpa using he
   subst he'
   exact .rangeF g y1 a b px y2 y3 caps (by assumption) hm (by assumption)
 | case14=>exact .stuck _
 | case15=>exact .stuck _
 | case16 id=>exact .exit id
 | case17=>exact .ret
 | case18=>exact .stuck _
structure BI (N:Nm) (w:World) (G:GS) (st:St) (a:Act) (vs:List Tmp) (nt:Nat):Prop where
 fi:FI N w G st a vs (λ_=>none)
 size:nt≤a.tmps.size
theorem a8G (w:World) (G:GS):Ext w G w.drew G:=
 ⟨rfl,rfl,rfl,Nat.le_refl _,λ_ _ _=>rfl,λ_ _ h=>⟨h,rfl⟩,λ_ _ h => .inl h,λ_ h => .inr h,λ_ _ h=>h,ShapeLe.refl w,rfl⟩
theorem b4c (w:World) (G:GS):a6B (λ_=>False) w G w.drew G:=⟨λ_ _ h _=>⟨h,rfl,λ_ h=>h⟩,λ_ _ h=>h⟩
section
variable {E:Env} {N:Nm} {vs:List Tmp} {P:Program} {nt:Nat} {Q:Exit→Act→World→Prop}
theorem FI.begin {w:World} {G:GS} {st:St} {a:Act} (h:BI N w G st a vs nt) (lm:Nat→Option Tmp) (hl:∀j t,lm j=some t→t<nt) (n:Nat):FI N w G (a9s n st) a vs lm:=by
 refine⟨h.fi.len,h.fi.var,?_,h.fi.tv,λj t hj=>Nat.lt_of_lt_of_le (hl j t hj) h.size,h.fi.defers,h.fi.gen,h.fi.owlt,h.fi.fixlt,h.fi.heap,h.fi.hdom⟩
 intro j t u _ hu
 simp only[a9s,List.getElem?_replicate] at hu
 split at hu
 ·simp at hu; subst hu; trivial
 ·simp at hu
theorem FI.finish {w:World} {G:GS} {st:St} {a:Act} {lm:Nat→Option Tmp} (h:FI N w G st a vs lm) (hs:nt≤a.tmps.size):BI N w G (a1i st) a vs nt:=
 ⟨⟨h.len,h.var,(by intro j t u hj; simp at hj),h.tv,(by intro j t hj; simp at hj),h.defers,h.gen,h.owlt,h.fixlt,h.heap,h.hdom⟩,hs⟩
theorem b3j {ops:List Oper} (h:b4a nt ops=true):∀j t,a0t vs ops j=some t→t<nt:=by
 intro j t hj
 unfold a0t at hj
 split at hj
 ·rename_i o ho
  split at hj
  ·rename_i t' ht'
   split at hj
   ·simp at hj
   ·simp at hj; subst hj
    have:=List.all_eq_true.1 h o (List.mem_of_getElem? ho)
    simpa[ht'] using this
  ·simp at hj
 ·simp at hj
theorem a7d {ops:Array Oper} (h:b3h ops.toList=true):∀(i:Nat) (o:Oper) c,ops[i]? = some o→o.op≠.defer c:=by
 intro i o c ho e
 have:=List.all_eq_true.1 h o (List.mem_of_getElem? (by simpa using ho))
 rw[e] at this
 simp at this
theorem a8H (n:Nat):a22 n (Array.replicate n false)=List.range' 0 n:=by
 rw[← List.range_eq_range']
 unfold a22
 rw[List.filter_eq_self]
 intro i hi
 have:i<n:=by simpa using hi
 simp[Array.getD_eq_getD_getElem?,this]
theorem b08 (ops:Array Oper):b6X ops (Array.replicate ops.size false):=by
 intro k o ho hkl
 have:k<ops.size:=(Array.getElem?_eq_some_iff.1 ho).1
 simp[Array.getD_eq_getD_getElem?,this] at hkl
variable {L:Nat→Option PFunc} {r:Option Nat}
theorem b0b (hF:a4X N P L) (hE:EnvOk E N) (hP:E.P=P) (hmix:P.follows .mixedOrders=true) (hnd:vs.Nodup) {cf:a0v} (hcf:CallOK N P cf) (hcL:∀k args h r,cf k args h=some r→∃f,L k=some f)
  {id:Nat} {ops:Array Oper} {d:Bool} {pos:List PO} (hc:b06 E nt vs ops d=some pos) {w:World} {G:GS} {st st':St} {a:Act} (hs:a1A cf pos st=some st') (hb:BI N w G st a vs nt) (hQ:¬LetsOut Q)
  (hk:∀a' w' G',FI N w' G' st' a' vs (a0t vs ops.toList)→Ext w G w' G'→nt≤a'.tmps.size→Q .normal a' w'):(Code.region id ops d).wpIn (W r) 0 P Q a w:=by
 unfold b06 at hc
 split at hc
 ·rename_i hcond
  simp only[Bool.and_eq_true] at hcond
  simp only[Option.bind_eq_some_iff] at hc
  obtain⟨pos',hpos,hc⟩:=hc
  split at hc
  ·simp at hc
  ·rename_i hord
   simp at hc; subst hc
   have nm:=b0Z hnd hcond.1.1
   have hlen:ops.size=pos'.length:=by have:=(a3J hpos).1; simpa using this
   have hfi:=FI.begin hb (a0t vs ops.toList) (b3j hcond.1.2) pos'.length
   have hx:a4b cf pos' (List.range' 0 pos'.length) (a9s pos'.length st)=some st':=by
    rw[← a7Q (all:=pos') (by simp)]; exact hs
   have hk':Next1 N w G a st' vs ops.toList (Q .normal):=λa' w' G' h1 h2 h3=>hk a' w' G' h1 h2 (by rw[h3]; exact hb.size)
   have hnd:=a7d hcond.2
   cases d with
   | false =>
     refine wpIn_region (a9y hnd hQ ?_)
     have:List.range ops.size=List.range' 0 pos'.length:=by rw[hlen,List.range_eq_range']
     rw[this]
     exact a95 hF hE hP nm hcf hcL hpos hx hfi hk'
   | true =>
     have hord':a7i ops pos'=true:=by simpa using hord
     refine wpIn_region_draw λt=>a9y hnd hQ ?_
     have hfd:FI N w.drew G (a9s pos'.length st) a vs (a0t vs ops.toList):=hfi.ext (a8G w G) (b4c w G) hfi.gen hfi.owlt hfi.fixlt
     simp only[Region.schedule,hmix,Bool.true_or,if_true]
     refine wpAny_sound ops.size t _ a _ ?_
     refine b8V hF hE hP nm hcf hcL hpos hord' ops.size (by simp) (by rw[a8H]; simp) (b08 ops) (by rw[a8H,hlen]; exact hx) hfd (hk'.trans (a8G w G) rfl)
 ·simp at hc
theorem a9u (hF:a4X N P L) (hE:EnvOk E N) (hP:E.P=P) {ops:Array Oper} (nm:Names vs (a0t vs ops.toList)) {cf:a0v} (hcf:CallOK N P cf) {ob:a8E} (hob:b8g N P ob) (hro:b2a N P ob)
  (hcL:∀k args h x,cf k args h=some x→∃f,L k=some f) (hoL:∀k args h x,ob k args h=some x→∃f,L k=some f) (hd:∀(i:Nat) (o:Oper) c,ops[i]? = some o→o.op≠.defer c) {pos:List PO} (hpos:∀(i:Nat) (o:Oper),ops.toList[i]? = some o→∃p,pos[i]? = some p∧b4e E vs ops.toList o=some p) (hlen:ops.size=pos.length)
  {res:Option PV} {st':St} (hQ:¬LetsOut Q):
  ∀ {l : List Nat} {st : St} {w : World} {G : GS} {a : Act}, a6b cf ob pos l st = some (res, st') → FI N w G st a vs (a0t vs ops.toList) → (res = none → Next1 N w G a st' vs ops.toList (Q .normal)) →
    (∀p,res=some p→∀a' w' G' v,a'.tmps.size=a.tmps.size→VR N w' G'.fix G'.heap v p→Ext w G w' G'→FI N w' G' st' a' vs (a0t vs ops.toList)→Q (.panic [{ v,recovered:=false }]) a' w')→wpOpsIn (W r) 0 P ops Q l a w
 | [], st, w, G, a, h, hf, hk, hb => by
   simp only[a6b,Option.some.injEq,Prod.mk.injEq] at h
   obtain⟨rfl,rfl⟩:=h
   exact hk rfl _ _ G hf (Ext.refl _ _) rfl
 | i :: l, st, w, G, a, h, hf, hk, hb => by
   simp only[a6b] at h
   split at h
   ·rename_i p hp
    have hi:i<ops.size:=by rw[hlen]; exact(List.getElem?_eq_some_iff.1 hp).1
    obtain⟨p',hp',hcp⟩:=hpos i ops[i] (by simp[hi])
    have:p'=p:=by rw[hp] at hp'; simpa using hp'.symm
    subst this
    rw[wpOpsIn_cons]
    have hoi:ops[i]? = some ops[i]:=by simp[hi]
    split at h
    ·rename_i st1 hs
     refine b2c (res:=none) hF hE hP nm hoi hf hcf hob hro hcL hoL (λc=>hd i _ c hoi) hcp hs hQ ?_ (λp e=>by simp at e)
     intro _ a' w' G' hf' he hsz
     exact a9u hF hE hP nm hcf hob hro hcL hoL hd hpos hlen hQ h hf' (λhn=>(hk hn).trans he hsz)
      (λp hp a2 w2 G2 v h1 h2 h3 h4=>hb p hp a2 w2 G2 v (h1.trans hsz) h2 (he.trans h3) h4)
    ·rename_i hne
     have hs:a4B cf ob i p' st=some (res,st'):=h
     cases res with
     | none=>exact absurd hs (hne st')
     | some v =>
       refine b2c (res:=some v) hF hE hP nm hoi hf hcf hob hro hcL hoL (λc=>hd i _ c hoi) hcp hs hQ (λe=>by simp at e) ?_
       rintro p e w' G' u h1 h2 h3
       cases e
       exact hb v rfl a w' G' u rfl h1 h2 h3
   ·simp at h
theorem a6w:∀{os:List Oper} {pos:List PO} {ops:List Oper},b1a E vs ops os=some pos→os.length=pos.length∧∀(i:Nat) (o:Oper),os[i]? = some o→∃p,pos[i]? = some p∧b4e E vs ops o=some p
 | [],pos,ops,h=>by simp[b1a] at h; subst h; simp
 | o :: os, pos, ops, h => by
   simp only[b1a,Option.bind_eq_some_iff,Option.map_eq_some_iff] at h
   obtain⟨p,hp,ps,hps,rfl⟩:=h
   obtain⟨h1,h2⟩:=a6w hps
   refine⟨by simp[h1],?_⟩
   intro i x hx
   cases i with
   | zero=>simp at hx; subst hx; exact⟨p,rfl,hp⟩
   | succ i=>exact h2 i x (by simpa using hx)
theorem a40 (hF:a4X N P L) (hE:EnvOk E N) (hP:E.P=P) (hmix:P.follows .mixedOrders=true) (hnd:vs.Nodup) {cf:a0v} (hcf:CallOK N P cf) {ob:a8E} (hob:b8g N P ob) (hro:b2a N P ob)
  (hcL:∀k args h r,cf k args h=some r→∃f,L k=some f) (hoL:∀k args h x,ob k args h=some x→∃f,L k=some f)
  {id:Nat} {ops:Array Oper} {d:Bool} {pos:List PO} (hc:b4b E nt vs ops d=some pos) {w:World} {G:GS} {st st':St} {a:Act} {res:Option PV} (hs:a7T cf ob 0 pos (a9s pos.length st)=some (res,st')) (hb:BI N w G st a vs nt) (hQ:¬LetsOut Q)
  (hk:res=none→∀a' w' G',FI N w' G' st' a' vs (a0t vs ops.toList)→Ext w G w' G'→nt≤a'.tmps.size→Q .normal a' w')
  (hbm:∀p,res=some p→∀a' w' G' v,VR N w' G'.fix G'.heap v p→Ext w G w' G'→BI N w' G' (a1i st') a' vs nt→Q (.panic [{ v,recovered:=false }]) a' w'):(Code.region id ops d).wpIn (W r) 0 P Q a w:=by
 unfold b4b at hc
 split at hc
 ·rename_i hcond
  simp only[Bool.and_eq_true] at hcond
  simp only[Option.bind_eq_some_iff] at hc
  obtain⟨pos',hpos,hc⟩:=hc
  split at hc
  ·simp at hc
  ·rename_i hord
   simp at hc; subst hc
   have nm:=b0Z hnd hcond.1.1
   have hlen:ops.size=pos'.length:=by have:=(a6w hpos).1; simpa using this
   have hfi:=FI.begin hb (a0t vs ops.toList) (b3j hcond.1.2) pos'.length
   have hx:a6b cf ob pos' (List.range' 0 pos'.length) (a9s pos'.length st)=some (res,st'):=by
    rw[← c1R (all:=pos') (by simp)]; exact hs
   have hk':res=none→Next1 N w G a st' vs ops.toList (Q .normal):=λhn a' w' G' h1 h2 h3=>hk hn a' w' G' h1 h2 (by rw[h3]; exact hb.size)
   have hbm':∀p,res=some p→∀a' w' G' v,a'.tmps.size=a.tmps.size→VR N w' G'.fix G'.heap v p→Ext w G w' G'→FI N w' G' st' a' vs (a0t vs ops.toList)→Q (.panic [{ v,recovered:=false }]) a' w':=
    λp hp a' w' G' v h1 h2 h3 h4=>hbm p hp a' w' G' v h2 h3 (FI.finish h4 (by rw[h1]; exact hb.size))
   have hnd:=a7d hcond.2
   cases d with
   | false =>
     refine wpIn_region ?_
     have:List.range ops.size=List.range' 0 pos'.length:=by rw[hlen,List.range_eq_range']
     rw[this]
     exact a9u hF hE hP nm hcf hob hro hcL hoL hnd (a6w hpos).2 hlen hQ hx hfi hk' hbm'
   | true =>
     have hord':a7i ops pos'=true:=by simpa using hord
     refine wpIn_region_draw λt =>?_
     have hfd:FI N w.drew G (a9s pos'.length st) a vs (a0t vs ops.toList):=hfi.ext (a8G w G) (b4c w G) hfi.gen hfi.owlt hfi.fixlt
     simp only[Region.schedule,hmix,Bool.true_or,if_true]
     have hx2:=c2W hlen hord' ops.size t (listed:=Array.replicate ops.size false) (by simp) (by rw[a8H]; simp) (b08 ops) (by rw[a8H,hlen]; exact hx)
     exact a9u hF hE hP nm hcf hob hro hcL hoL hnd (a6w hpos).2 hlen hQ hx2 hfd (λhn=>(hk' hn).trans (a8G w G) rfl)
      (λp hp a' w' G' v h1 h2 h3 h4=>hbm' p hp a' w' G' v h1 h2 ((a8G w G).trans h3) h4)
 ·simp at hc
theorem BI.putOther {w:World} {G:GS} {st:St} {a:Act} (h:BI N w G st a vs nt) {d:Tmp} (hd:(a3O d vs 0).isNone=true) (v:Value):BI N w G st (a.put (some d) v) vs nt:=by
 refine⟨⟨h.fi.len,?_,(by intro j t u hj; simp at hj),λi t ht=>by simpa[Act.put] using h.fi.tv i t ht,(by intro j t hj; simp at hj),h.fi.defers,h.fi.gen,h.fi.owlt,h.fi.fixlt,h.fi.heap,h.fi.hdom⟩,by simpa[Act.put] using h.size⟩
 intro i t u h1 h2
 have hne:t≠d:=by
  rintro rfl
  have:=b3K h1 0
  simp at hd
  rw[hd] at this
  simp at this
 have:(a.put (some d) v).eval (.tmp t)=a.eval (.tmp t):=by
  simp only[Act.eval,Act.put,Array.getD_eq_getD_getElem?,Array.getElem?_setIfInBounds]
  rw[if_neg (Ne.symm hne)]
 rw[this]
 exact h.fi.var i t u h1 h2
theorem b2y (hF:a4X N P L) (hE:EnvOk E N) (hP:E.P=P) {ops:Array Oper} (nm:Names vs (a0t vs ops.toList)) {cf:a0v} (hcf:CallOK N P cf)
  (hcL:∀k args h x,cf k args h=some x→∃f,L k=some f) (hd:∀(i:Nat) (o:Oper) c,ops[i]? = some o→o.op≠.defer c) {pos:List PO} (hpos:∀(i:Nat) (p:PO),pos[i]? = some p→∃o,ops[i]? = some o∧b5S E vs ops.toList o=some p)
  {st':St} (hQ:¬LetsOut Q) {rest:List Nat}:
  ∀{l:List Nat} {st:St} {w:World} {G:GS} {a:Act},a4b cf pos l st=some st'→FI N w G st a vs (a0t vs ops.toList)→Next1 N w G a st' vs ops.toList (wpOpsIn (W r) 0 P ops Q rest)→wpOpsIn (W r) 0 P ops Q (l++rest) a w
 | [], st, w, G, a, h, hf, hk => by
   simp only[a4b,Option.some.injEq] at h
   subst h
   exact hk _ _ G hf (Ext.refl _ _) rfl
 | i :: l, st, w, G, a, h, hf, hk => by
   simp only[a4b] at h
   split at h
   ·rename_i p hp
    simp only[Option.bind_eq_some_iff] at h
    obtain⟨st1,h1,h2⟩:=h
    obtain⟨o,ho,hcp⟩:=hpos i p hp
    rw[List.cons_append,wpOpsIn_cons]
    refine b1e (λo' c ho'=>hd i o' c ho') hQ (a6P hF hE hP nm ho hf hcf hcL hcp h1 ?_)
    intro a' w' G' hf' he hsz
    exact b2y hF hE hP nm hcf hcL hd hpos hQ h2 hf' (hk.trans he hsz)
   ·simp at h
theorem b5R (hF:a4X N P L) (hE:EnvOk E N) (hP:E.P=P) (hnd:vs.Nodup) {cf:a0v} (hcf:CallOK N P cf) (hcL:∀k args h r,cf k args h=some r→∃f,L k=some f)
  {id:Nat} {ops:Array Oper} {pos:List PO} {t:Nat} {px:PX} (hc:a7b E nt vs ops=some (pos,t,px)) {w:World} {G:GS} {st st1:St} {a:Act} {u:PV} (hs:a1A cf pos st=some st1) (hu:rd st1 px=some u) (hb:BI N w G st a vs nt) (hQ:¬LetsOut Q)
  (hbm:∀a' w' G' v,VR N w' G'.fix G'.heap v (.iface t u)→Ext w G w' G'→BI N w' G' (a1i st1) a' vs nt→Q (.panic [{ v,recovered:=false }]) a' w'):(Code.region id ops false).wpIn (W r) 0 P Q a w:=by
 unfold a7b at hc
 split at hc
 ·rename_i hcond
  simp only[Bool.and_eq_true] at hcond
  split at hc
  ·rename_i d T x ty1 p1 af1 dst2 d' ty2 p2 af2 hdrop
   split at hc
   ·simp at hc
   ·simp at hc
   ·rename_i tu hnif htu
    split at hc
    ·rename_i hdd
     obtain⟨rfl,hdv,h2⟩:=hdd
     simp only[Option.bind_eq_some_iff,Option.map_eq_some_iff,Prod.mk.injEq] at hc
     obtain⟨pos',hpos,px',hpx,i,hi,rfl,rfl,rfl⟩:=hc
     obtain⟨m,hm⟩:∃m,ops.size=m+2:=⟨ops.size - 2,by omega⟩
     rw[hm] at hdrop hpos
     simp only[Nat.add_sub_cancel] at hdrop hpos
     have nm:=b0Z hnd hcond.1.1
     have hpl:pos'.length=m:=by
      have:=(a3J hpos).1
      rw[List.length_take] at this
      simp at this
      omega
     have hdf:=a7d hcond.2
     have hpg:∀(i:Nat) (p:PO),pos'[i]? = some p→∃o,ops[i]? = some o∧b5S E vs ops.toList o=some p:=by
      intro i p hp
      have hlt:=(List.getElem?_eq_some_iff.1 hp).1
      have hlt2:i<ops.size:=by omega
      obtain⟨p',hp',hcp⟩:=(a3J hpos).2 i ops[i] (by rw[List.getElem?_take_of_lt (by omega)]; simp[hlt2])
      rw[hp] at hp'
      cases hp'
      exact⟨ops[i],by simp[hlt2],hcp⟩
     have hfi:=FI.begin hb (a0t vs ops.toList) (b3j hcond.1.2) pos'.length
     have hx:a4b cf pos' (List.range' 0 pos'.length) (a9s pos'.length st)=some st1:=by
      rw[← a7Q (all:=pos') (by simp)]; exact hs
     have hgm:ops.toList[m]? = some ⟨some d,.makeInterface T x,ty1,p1,af1,none⟩:=by
      have:=congrArg (·[0]?) hdrop
      simpa[List.getElem?_drop] using this
     have hgm1:ops.toList[m+1]? = some ⟨dst2,.panic (.tmp d),ty2,p2,af2,none⟩:=by
      have:=congrArg (·[1]?) hdrop
      simpa[List.getElem?_drop] using this
     have hdn:d<nt:=by
      have:=List.all_eq_true.1 hcond.1.2 _ (List.mem_of_getElem? hgm)
      simpa using this
     have hrange:List.range ops.size=List.range' 0 pos'.length++[m,m+1]:=by
      rw[hm,hpl,List.range_eq_range',List.range'_eq_append_iff]
      exact⟨m,by omega,rfl,by rw[show m+2 - m=2 by omega]; simp[List.range'_succ]⟩
     refine wpIn_region ?_
     rw[hrange]
     refine b2y hF hE hP nm hcf hcL hdf hpg hQ hx hfi ?_
     intro a' w' G' hf' he hsz
     have hval:=(a0k hE hpx hf' hu).1
     have hty:=hE.pt T i hi
     have hP':P.underlying T=some tu:=by rw[← hP]; exact htu
     rw[wpOpsIn_cons]
     unfold wpOpIn
     have hg0:ops[m]? = some ⟨some d,.makeInterface T x,ty1,p1,af1,none⟩:=by simpa using hgm
     have hg1:ops[m+1]? = some ⟨dst2,.panic (.tmp d),ty2,p2,af2,none⟩:=by simpa using hgm1
     simp only[hg0,Region.wanted,if_true]
     refine⟨λ_ _=>b5U _,?_⟩
     rw[Oper.semAt_eq _ _ _ (by simp)]
     have hrun:(execOp a'.eval (⟨some d,.makeInterface T x,ty1,p1,af1,none⟩:Oper)).run P w' = .ok (.value (.iface T (a'.eval x))) w':=by
      have hru:=run_underlying hP' w'
      simp only[execOp,Instr.makeInterface,Sem.run_bind,hru,Result.andThen_ok]
      cases tu<;>first|(exfalso; exact hnif _ rfl)|simp
     rw[hrun,Oper.uponIn_value]
     rw[wpOpsIn_cons]
     unfold wpOpIn
     simp only[hg1,Region.wanted,if_true]
     refine⟨λ_ _=>b5U _,?_⟩
     rw[Oper.semAt_eq _ _ _ (by simp)]
     have hev:(a'.put (some d) (.iface T (a'.eval x))).eval (.tmp d) = .iface T (a'.eval x):=by
      have:d<a'.tmps.size:=by rw[hsz]; exact Nat.lt_of_lt_of_le hdn hb.size
      simp[Act.eval,Act.put,Array.getD_eq_getD_getElem?,Array.getElem?_setIfInBounds,this]
     have hrun2:(execOp (a'.put (some d) (.iface T (a'.eval x))).eval (⟨dst2,.panic (.tmp d),ty2,p2,af2,none⟩:Oper)).run P w' = .halt (.panic (.iface T (a'.eval x))) w':=by
      simp only[execOp,Instr.panic,hev]
      rfl
     rw[hrun2,Oper.uponIn_panic]
     refine hbm _ w' G' _ ?_ he ((FI.finish hf' (by rw[hsz]; exact hb.size)).putOther hdv _)
     rw[← hty]
     exact .iface _ _ _ hval
    ·simp at hc
  ·simp at hc
 ·simp at hc
end
end PI
