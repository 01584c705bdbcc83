import Derived.Test.YtljbhgpanekomaaGreatPiSoundN
import Derived.Orders
import Derived.LoopN
import Derived.Test.YtljbhgpanekomaaGreatPiOrd
set_option linter.unusedSimpArgs false
set_option linter.unusedVariables false
set_option linter.unusedSectionVars false
namespace PI
open Go Go.RowKit
theorem BM:∀{ps:List PV},wz ps=true→∀p∈ps,wB p=true
 | [],_,p,hp=>by simp at hp
 | x :: xs, h, p, hp => by
   simp only[wz,ak] at h
   rcases aC.1 hp with rfl|hp
   ·exact h.1
   ·exact BM h.2 p hp
theorem b54 {p:PV} (h:wB p=true):∀x∈p.cells,wB x=true:=by
 intro x hx
 cases p<;>simp only[PV.cells,bF] at hx<;>first|(subst hx; exact h)|(simp at hx; done)|skip
 exact BM (by simpa[wB] using h) x hx
theorem VR.free {N:Nm} {w:World} {fix:Nat→Nat→Prop} {hp eM:Nat→Option Nat} {v:Value} {p:PV} (h:VR N w fix hp v p) (hr:wB p=true):VR N w fix eM v p:=by
 induction h with
 | bool b=>exact .bool b
 | int k n=>exact .int k n
 | str s=>exact .str s
 | nils own=>exact .nils own
 | void own a cap=>exact .void own a cap
 | nils'=>exact .nils'
 | void' a cap=>exact .void' a cap
 | list own b off len cap sz es cv cO cX cV cU hcell _ ih =>
   refine .list own b off len cap sz es cv cO cX cV cU hcell (λi e he j x hx=>ih i e he j x hx ?_)
   have:=BM (by simpa[wB] using hr) e (av he)
   exact b54 this x (av hx)
 | agg cs ps cO cU ej _ ih=>exact .agg cs ps cO cU ej (λi c p hc hp=>ih i c p hc hp (BM (by simpa[wB] using hr) p (av hp)))
 | tuple cs ps cO _ ih=>exact .tuple cs ps cO (λi c p hc hp=>ih i c p hc hp (BM (by simpa[wB] using hr) p (av hp)))
 | nilptr=>exact .nilptr
 | cptr b off ps cv cU hcell _ ih=>exact .cptr b off ps cv cU hcell (λk x hx=>ih k x hx (BM (by simpa[wB] using hr) x (av hx)))
 | ptr n off b h=>simp[wB] at hr
 | rowp n sz agg len b cap h cX dY=>simp[wB] at hr
 | rows n sz agg off len b o cap m T h cX ho dY hm=>simp[wB] at hr
 | mapn=>exact .mapn
 | map n b h=>simp[wB] at hr
 | yield k n l y tmps caps h0 hl p5 cO _ _ _=>simp[wB,wz] at hr
 | func k fs cs pf pc h0 h1 h2 _ _ ihf ihc =>
   simp only[wB,ak] at hr
   exact .func k fs cs pf pc h0 h1 h2 (λi c p hc hp=>ihf i c p hc hp (BM hr.1 p (av hp))) (λi c p hc hp=>ihc i c p hc hp (BM hr.2 p (av hp)))
 | nilfunc=>exact .nilfunc
 | iface t v p _ ih=>exact .iface t v p (ih (by simpa[wB] using hr))
 | nilIface=>exact .nilIface
theorem VR.cp_dem {N:Nm} {w:World} {fix:Nat→Nat→Prop} {hp:Nat→Option Nat} {v:Value} {p:PV} (h:VR N w fix hp v p):cp (PI.dem p)=some (PI.dem p):=by
 cases h<;>rfl
theorem HT {n sz len:Nat} {agg:Bool}:∀{ps:List PV},.rowp n sz agg len∈ps→n∈Br ps
 | p :: ps, h => by
   simp only[Br,ay]
   rcases aC.1 h with h|h
   ·subst h; exact .inl (by simp[xi])
   ·exact .inr (HT h)
def GS.shut (G:GS) (ns:List Nat) (heap:List PObj):GS:=
 { G with fix:=λb o=>G.fix b o∨∃n∈ns,∃cs:List PV,G.heap n=some b∧heap[n]? = some (.cells cs)∧o<cs.length }
section
variable {N:Nm}
theorem VR.shut {w:World} {G:GS} {ns:List Nat} {heap:List PObj} {v:Value} {p:PV} (h:VR N w G.fix G.heap v p):VR N w (G.shut ns heap).fix (G.shut ns heap).heap v p:=
 h.mono (λ_ _ h=>⟨.inl h,rfl⟩) (λ_ _ h=>h) (ShapeLe.refl w)
theorem KY:∀(ns:List Nat) (h:List PObj) (n:Nat),(n∈ns→(Aa ns h)[n]? = h[n]?.map (λ_ => .gone))∧(n∉ns→(Aa ns h)[n]? = h[n]?)
 | [],h,n=>by simp[Aa]
 | m :: ns, h, n => by
   simp only[Aa]
   obtain⟨i1,i2⟩:=KY ns (h.set m .gone) n
   rw[aO] at i1 i2
   by_cases hm:m=n
   ·subst hm
    refine⟨λ_ =>?_,λhn=>absurd (by simp) hn⟩
    by_cases hr:m∈ns
    ·rw[i1 hr]
     by_cases cS:m<h.length<;>simp[cS]
    ·rw[i2 hr]
     by_cases cS:m<h.length<;>simp[cS]
   ·have cZ:¬n=m:=λe=>hm e.symm
    rw[af hm] at i1 i2
    simp only[aC,cZ,false_or]
    exact⟨i1,i2⟩
theorem KZ:∀(ns:List Nat) (h:List PObj),(Aa ns h).length=h.length
 | [],h=>rfl
 | n::ns,h=>by simp only[Aa]; rw[KZ ns]; simp
theorem HR.shutG {w:World} {G:GS} {heap h2:List PObj} {ns:List Nat} (h:HR N w G heap) (hg:∀n:Nat,(n∈ns→h2[n]? = heap[n]?.map (λ_=>PObj.gone))∧(n∉ns→h2[n]? = heap[n]?)):HR N w (G.shut ns heap) h2:=by
 have own:∀n b,n∈ns→∀cs,G.heap n=some b→heap[n]? = some (.cells cs)→G.ow b=some (.hobj n):=by
  intro n b _ cs h1 h2
  rcases h.1 n _ h2 with h3|⟨b',k1,k2,_⟩
  ·simp at h3
  rw[h1] at k1; cases k1; exact k2
 have room:∀{n k:Nat} {v:Value} {es:List PV},Room w G (.hcell n k) v es→Room w (G.shut ns heap) (.hcell n k) v es:=by
  intro n k v es hr
  unfold Room at *
  split at hr
  ·rename_i a len cap
   rcases hr with hr|⟨h1,sz,cs,T,h2,h3,h4,h5,h6⟩
   ·exact .inl hr
   ·refine .inr ⟨h1,sz,cs,T,h2,h3,h4,h5,?_⟩
    rintro o ho (hf|⟨m,hm,cs',k1,k2,_⟩)
    ·exact h6 o ho hf
    ·have:=own m _ hm cs' k1 k2
     rw[h1] at this; simp at this
  ·trivial
 refine⟨?_,⟨λt ht=>⟨.inl (h.2.1 t ht).1,(h.2.1 t ht).2⟩,h.2.2⟩⟩
 intro n ob dB
 by_cases hn:n∈ns
 ·rw[(hg n).1 hn] at dB
  simp only[ab] at dB
  obtain⟨ob0,h0,rfl⟩:=dB
  exact .inl rfl
 ·rw[(hg n).2 hn] at dB
  rcases h.1 n _ dB with rfl|⟨b,k1,k2,k3⟩
  ·exact .inl rfl
  refine .inr ⟨b,k1,k2,?_⟩
  have nofix:(∀o,¬G.fix b o)→∀o,¬(G.shut ns heap).fix b o:=by
   rintro hf o (h1|⟨m,hm,cs',j1,j2,_⟩)
   ·exact hf o h1
   ·have:=own m _ hm cs' j1 j2
    rw[k2] at this
    simp at this; subst this; exact hn hm
  cases ob with
  | cells cs =>
    obtain⟨f,cv,T,a1,a2,a3⟩:=k3
    refine⟨nofix f,cv,T,a1,a2,?_⟩
    intro k c x hc hx
    obtain⟨b1,b2,b3⟩:=a3 k c x hc hx
    refine⟨b1.shut,b2,?_⟩
    split at b3
    ·exact room b3
    ·trivial
  | map es =>
    obtain⟨mes,clock,a1,a2,a3,a4,a5⟩:=k3
    refine⟨mes,clock,a1,a2,a3,a4,?_⟩
    intro i e p hi hp
    obtain⟨b1,b2,b3⟩:=a5 i e p hi hp
    refine⟨b1.shut,b2.shut,?_⟩
    split at b3
    ·exact room b3
    ·trivial
  | bld bs =>
    obtain⟨f,p,v,a1,a2,a3⟩:=k3
    refine⟨nofix f,p,v,a1,a2,?_⟩
    rcases a3 with a3|⟨g,cap,cur,b1,b2,b3,b4⟩
    ·exact .inl a3
    ·refine .inr ⟨g,cap,cur,b1,b2,?_,b4⟩
     rintro o (h1|⟨m,hm,cs',j1,j2,_⟩)
     ·exact b3 o h1
     ·have:=own m _ hm cs' j1 j2
      rw[b2] at this; simp at this
  | siter s pos =>
    obtain⟨f,s',a1,a2⟩:=k3
    exact⟨nofix f,s',a1,a2⟩
  | gone=>trivial
  | loop ready =>
    obtain⟨f,r,a1,a2⟩:=k3
    exact⟨nofix f,r,a1,a2⟩
  | over id =>
    obtain⟨f,r,a1,a2⟩:=k3
    exact⟨nofix f,r,a1,a2⟩
theorem PU {w:World} {G:GS} {heap:List PObj} (h:HR N w G heap) {ns:List Nat} {n sz len b cap:Nat} (cX:len≤cap) {agg:Bool} {cs es:List PV} (hn:n∈ns) (hb:G.heap n=some b) (hc:heap[n]? = some (.cells cs)) (cV:agg=true∨sz=1)
  (he:yF sz agg cs len 0=some es):VR N w (G.shut ns heap).fix (G.shut ns heap).heap (.slice (some ⟨b,0,none⟩) len cap) (.list false es):=by
 rcases h.1 n _ hc with hg|⟨b',k1,k2,f,cv,T,a1,a2,a3⟩
 ·simp at hg
 have:b'=b:=by rw[hb] at k1; cases k1; rfl
 subst this
 obtain⟨e1,e2⟩:=Hq he
 have gK:∀(i:Nat) (e:PV),es[i]? = some e→i*sz+sz≤cs.length∧e.cells.length=sz∧∀(j:Nat) (x:PV),e.cells[j]? = some x→∃y,cs[i*sz+j]? = some y∧x=dem y∧j<sz:=by
  intro i e hi
  have:=e2 i e hi
  rw[aM] at this
  unfold wq at this
  split at this
  ·split at this
   ·rename_i ez
    simp only[aa] at this; subst this
    refine⟨ez,by simp[PV.cells]; omega,?_⟩
    intro j x hx
    simp only[PV.cells,az,ab] at hx
    obtain⟨y,hy,rfl⟩:=hx
    rw[aW] at hy
    split at hy
    ·rw[aX] at hy
     exact⟨y,hy,rfl,by assumption⟩
    ·simp at hy
   ·simp at this
  ·rename_i gP
   have h1:sz=1:=by rcases cV with h|h; exact absurd h (by simpa using gP); exact h
   subst h1
   split at this
   ·rename_i y hy
    have cS:i*1<cs.length:=(ai.1 hy).1
    have fS:y.flat=true:=(a3 _ cv[i*1] y (by simp[a2,cS]) hy).2.1
    have fN:e=dem y∧y.cells=[y]:=by
     cases y<;>simp_all [cp,dem,PV.cells,PV.flat]
    obtain⟨rfl,_⟩:=fN
    have gG:(dem y).cells=[dem y]:=by cases y<;>simp_all [dem,PV.cells,PV.flat]
    refine⟨by omega,by rw[gG]; rfl,?_⟩
    intro j x hx
    rw[gG] at hx
    cases j with
    | zero=>simp at hx; subst hx; exact⟨y,hy,rfl,by omega⟩
    | succ j=>simp at hx
   ·simp at this
 have mZ:∀k,k<len*sz→k<cs.length:=by
  intro k hk
  have fK:0<sz:=by
   rcases Nat.eq_zero_or_pos sz with h|h
   ·subst h; simp at hk
   ·exact h
  have hi:k / sz<len:=by rw[Nat.div_lt_iff_lt_mul fK]; exact hk
  have:=(gK (k / sz) es[k / sz] (al (by omega))).1
  have h2:k / sz*sz+k % sz=k:=by rw[cw]; exact Nat.div_add_mod k sz
  have h3:k % sz<sz:=bJ _ fK
  omega
 refine .list false b' 0 len cap sz es (λk=>cv.getD k undef) e1 cX ?_ ?_ ?_ ?_
 ·intro e he
  obtain⟨i,hi⟩:=bi.1 he
  exact(gK i e hi).2.1
 ·intro e he x hx
  obtain⟨i,hi⟩:=bi.1 he
  obtain⟨j,hj⟩:=bi.1 hx
  obtain⟨y,hy,rfl,_⟩:=(gK i e hi).2.2 j x hj
  rw[DJ]
  have cS:i*sz+j<cs.length:=(ai.1 hy).1
  exact(a3 _ cv[i*sz+j] y (by simp[a2,cS]) hy).2.1
 ·intro k hk
  have cS:=mZ k hk
  refine⟨?_,.inr ⟨n,hn,cs,hb,hc,by omega⟩⟩
  have:k<cv.size:=by omega
  simp[World.cell?,a1,this]
 ·intro i e hi j x hx
  obtain⟨y,hy,rfl,_⟩:=(gK i e hi).2.2 j x hx
  have cS:i*sz+j<cs.length:=(ai.1 hy).1
  have j6:i*sz+j<cv.size:=by omega
  have:=(a3 _ cv[i*sz+j] y (by simp[j6]) hy).1
  simp only[aT,cM j6,bO]
  exact this.dem.shut
theorem Iw {w:World} {G:GS} {heap:List PObj} (h:HR N w G heap) {ns:List Nat} {v:Value} {p q:PV} (gW:∀m sz agg len,p = .rowp m sz agg len→m∈ns) (hv:VR N w G.fix G.heap v p) (hp:Ai heap p=some q):
  VR N w (G.shut ns heap).fix (G.shut ns heap).heap v q∧(p.flat=true→q.flat=true)∧(∀es,q = .list true es→p = .list true es):=by
 by_cases hr:∃m sz agg len,p = .rowp m sz agg len
 ·obtain⟨m,sz,agg,len,rfl⟩:=hr
  simp only[Ai] at hp
  split at hp
  ·rename_i cV
   split at hp
   ·rename_i cs hh
    simp only[ab] at hp
    obtain⟨es,fA,rfl⟩:=hp
    refine⟨?_,λ_=>rfl,λes e=>by simp at e⟩
    cases hv with
    | rowp _ _ _ _ b cap da cX _=>exact PU h cX (gW m sz agg len rfl) da hh cV fA
   ·simp at hp
  ·simp at hp
 ·have:Ai heap p=some p:=by cases p<;>first|rfl|exact absurd ⟨_,_,_,_,rfl⟩ hr
  rw[this] at hp
  simp only[aa] at hp
  subst hp
  exact⟨hv.shut,id,λes e=>e⟩
theorem Rj {heap:List PObj}:∀{ps qs:List PV},AJ heap ps=some qs→qs.length=ps.length∧∀(i:Nat) (q:PV),qs[i]? = some q→∃p,ps[i]? = some p∧Ai heap p=some q
 | [],qs,h=>by simp[AJ] at h; subst h; simp
 | p :: ps, qs, h => by
   simp only[AJ,ae,ab] at h
   obtain⟨q,h1,qs',h2,rfl⟩:=h
   obtain⟨k1,k2⟩:=Rj h2
   refine⟨by simp[k1],?_⟩
   intro i x hx
   cases i with
   | zero=>simp at hx; subst hx; exact⟨p,rfl,h1⟩
   | succ i=>exact k2 i x (by simpa using hx)
theorem PY {w:World} {G:GS} {heap:List PObj} (h:HR N w G heap) {ns:List Nat} {v:Value} {p q:PV} (gW:∀x∈p.cells,∀m sz agg len,x = .rowp m sz agg len→m∈ns) (hv:VR N w G.fix G.heap v p) (hp:xF heap p=some q):
  VR N w (G.shut ns heap).fix (G.shut ns heap).heap v q:=by
 by_cases ha:∃ps,p = .agg ps
 ·obtain⟨ps,rfl⟩:=ha
  simp only[xF,ab] at hp
  obtain⟨qs,jJ,rfl⟩:=hp
  obtain⟨f1,f2⟩:=Rj jJ
  cases hv with
  | agg cs _ cO cU ej hcell =>
    refine .agg cs qs (by rw[f1]; exact cO) ?_ ?_ ?_
    ·intro y hy
     obtain⟨i,hi⟩:=bi.1 hy
     obtain⟨x,hx,jK⟩:=f2 i y hi
     have cS:i<cs.size:=by have:=(ai.1 hx).1; omega
     exact(Iw h (gW x (av hx)) (hcell i cs[i] x (by simp[cS]) hx) jK).2.1 (cU x (av hx))
    ·intro i c es hc hy
     obtain⟨x,hx,jK⟩:=f2 i _ hy
     have:=(Iw h (gW x (av hx)) (hcell i c x hc hx) jK).2.2 es rfl
     subst this
     exact ej i c es hc hx
    ·intro i c y hc hy
     obtain⟨x,hx,jK⟩:=f2 i y hy
     exact(Iw h (gW x (av hx)) (hcell i c x hc hx) jK).1
 ·have:xF heap p=some p:=by cases p<;>first|rfl|exact absurd ⟨_,rfl⟩ ha
  rw[this] at hp
  simp only[aa] at hp
  subst hp
  exact hv.shut
mutual
theorem LU (h:List PObj):∀p:PV,(frz h p).flat=p.flat
 | .list _ _ | .agg _ | .tuple _=>rfl
 | .rowp n sz agg len => by
   simp only[frz]
   cases hf:Ai h (.rowp n sz agg len) with
   | none=>rfl
   | some q =>
     simp only[Ai] at hf
     split at hf
     ·split at hf
      ·simp only[ab] at hf
       obtain⟨_,_,rfl⟩:=hf; rfl
      ·simp at hf
     ·simp at hf
 | .bool _ | .int _ _ | .str _ | .nils | .void | .nilptr | .cptr _ | .loc _ _ | .lptr _ _ _ | .ptr _ _ | .rows _ _ _ _ _ | .fresh _ _ _ _ | .map _ | .func _ _ _ | .nilfunc | .iface _ _ | .nilIface | .dead=>rfl
end
theorem EM (h:List PObj):∀l:List PV,zJ h l=l.map (frz h)
 | []=>rfl
 | x::l=>by simp[zJ,EM h l]
theorem EO:∀l:List PV,BN l=l.flatMap AK
 | []=>rfl
 | x::l=>by simp[BN,EO l]
theorem LV (h:List PObj) (p:PV) (hp:∀x∈p.cells,x.flat=true):(frz h p).cells=p.cells.map (frz h):=by
 cases p with
 | agg cs=>simp[frz,PV.cells,EM]
 | tuple cs=>simp[frz,PV.cells]
 | rowp n sz agg len =>
   have:=LU h (.rowp n sz agg len)
   revert this
   generalize hq:frz h (.rowp n sz agg len)=q
   intro this
   cases q<;>simp_all [PV.cells,PV.flat]
 | _=>simp[frz,PV.cells]
theorem c09 {p x:PV} (hx:x∈p.cells):∀n∈AK x,n∈AK p:=by
 intro n hn
 cases p<;>simp only[PV.cells,bF,List.not_mem_nil] at hx<;>first|(subst hx; exact hn)|skip
 simp only[AK,EO]
 exact bM.2 ⟨x,hx,hn⟩
theorem c8e {h:List PObj} {p:PV} {es:List PV} (e:frz h p = .list true es):∃es',p = .list true es'∧es=zJ h es':=by
 cases p<;>simp only[frz] at e
 case list o l=>cases e; exact⟨_,rfl,rfl⟩
 case rowp n sz agg len=>
  cases hf:Ai h (.rowp n sz agg len) with
  | none=>rw[hf] at e; cases e
  | some q =>
    rw[hf] at e
    simp only[bO] at e
    subst e
    simp only[Ai] at hf
    split at hf
    ·split at hf
     ·simp only[ab] at hf
      obtain⟨_,_,e⟩:=hf; cases e
     ·simp at hf
    ·simp at hf
 all_goals cases e
theorem LW {w:World} {G:GS} {heap:List PObj} (h:HR N w G heap) {ns:List Nat} {v:Value} {p:PV} (hv:VR N w G.fix G.heap v p) (gW:∀n∈AK p,n∈ns):VR N w (G.shut ns heap).fix (G.shut ns heap).heap v (frz heap p):=by
 induction hv with
 | list own b off len cap sz es cv cO cX cV cU hcell cW ih =>
   simp only[frz,EM]
   refine .list own b off len cap sz (es.map (frz heap)) cv (by rw[aA]; exact cO) cX ?_ ?_ (λk hk=>⟨(hcell k hk).1,.inl (hcell k hk).2⟩) ?_
   ·intro e he
    obtain⟨e',dx,rfl⟩:=bc.1 he
    rw[LV heap e' (cU e' dx),aA]
    exact cV e' dx
   ·intro e he x hx
    obtain⟨e',dx,rfl⟩:=bc.1 he
    rw[LV heap e' (cU e' dx)] at hx
    obtain⟨y,hy,rfl⟩:=bc.1 hx
    rw[LU]
    exact cU e' dx y hy
   ·intro i e he j x hx
    rw[az,ab] at he
    obtain⟨e',dx,rfl⟩:=he
    have hm:=av dx
    rw[LV heap e' (cU e' hm),az,ab] at hx
    obtain⟨y,hy,rfl⟩:=hx
    refine ih i e' dx j y hy (λn hn=>gW n ?_)
    simp only[AK,EO]
    exact bM.2 ⟨e',hm,c09 (av hy) n hn⟩
 | agg cs ps cO cU ej cW ih =>
   simp only[frz,EM]
   refine .agg cs _ (by rw[aA]; exact cO) ?_ ?_ ?_
   ·intro x hx
    obtain⟨y,hy,rfl⟩:=bc.1 hx
    rw[LU]
    exact cU y hy
   ·intro i c es hc hp
    rw[az,ab] at hp
    obtain⟨y,hy,e⟩:=hp
    obtain⟨es',rfl,_⟩:=c8e e
    exact ej i c es' hc hy
   ·intro i c x hc hp
    rw[az,ab] at hp
    obtain⟨y,hy,rfl⟩:=hp
    refine ih i c y hc hy (λn hn=>gW n ?_)
    simp only[AK,EO]
    exact bM.2 ⟨y,av hy,hn⟩
 | tuple cs ps cO cW ih =>
   simp only[frz,EM]
   refine .tuple cs _ (by rw[aA]; exact cO) ?_
   intro i c x hc hp
   rw[az,ab] at hp
   obtain⟨y,hy,rfl⟩:=hp
   refine ih i c y hc hy (λn hn=>gW n ?_)
   simp only[AK,EO]
   exact bM.2 ⟨y,av hy,hn⟩
 | rowp n sz agg len b cap hb cX dY =>
   have hv:VR N w G.fix G.heap (.slice (some ⟨b,0,none⟩) len cap) (.rowp n sz agg len) := .rowp n sz agg len b cap hb cX dY
   simp only[frz]
   cases hf:Ai heap (.rowp n sz agg len) with
   | none=>exact hv.shut
   | some q=>exact(Iw h (λm _ _ _ e=>by cases e; exact gW _ (by simp[AK])) hv hf).1
 | bool b=>exact .bool b
 | int k n=>exact .int k n
 | str s=>exact .str s
 | nils own=>exact .nils own
 | void own a cap=>exact .void own a cap
 | nils'=>exact .nils'
 | void' a cap=>exact .void' a cap
 | nilptr=>exact .nilptr
 | cptr b off ps cv cU hcell cW _=>exact(VR.cptr b off ps cv cU hcell cW).shut
 | ptr n off b h=>exact(VR.ptr n off b h).shut
 | rows n sz agg off len b o cap m T h cX ho dY hm=>exact(VR.rows n sz agg off len b o cap m T h cX ho dY hm).shut
 | mapn=>exact .mapn
 | map n b h=>exact(VR.map n b h).shut
 | func k fs cs pf pc h0 h1 h2 hf hc _ _=>exact(VR.func k fs cs pf pc h0 h1 h2 hf hc).shut
 | yield k n l y tmps caps h0 hl hr cO cV hc _=>exact(VR.yield k n l y tmps caps h0 hl hr cO cV hc).shut
 | nilfunc=>exact .nilfunc
 | iface t v p h _=>exact(VR.iface t v p h).shut
 | nilIface=>exact .nilIface
end
structure HeapOnly (G:GS):Prop where
 ow:∀b k,G.ow b=some k→k.isH=true
 box:∀g,G.box g=none
structure Between (N:Nm) (w:World) (G:GS) (h:List PObj):Prop where
 only:HeapOnly G
 fixlt:∀b o,G.fix b o→b<w.heap.size
 owlt:∀b k,G.ow b=some k→b<w.heap.size
 heap:HR N w G h
 hdom:∀n b,G.heap n=some b→n<h.length
def DE (w0:World) (G0:GS) (w:World) (G:GS) (v:Value) (es:List PV):Prop:=
 match v with
 | .slice (some a) len cap => cap = len ∨
   ((w0.heap.size ≤ a.block ∨ G0.ow a.block ≠ none) ∧ ∃ sz cs T, (∀ e ∈ es, e.cells.length = sz) ∧ Live w a.block cs T ∧ a.off + cap * sz ≤ cs.size ∧
     0<len∧∀o,a.off+len*sz≤o→¬G.fix a.block o)
 | _=>True
structure OwnIn (N:Nm) (w:World) (G:GS) (own:Option Nat) (args:List PV) (vals:Array Value):Prop where
 ow:∀b k,G.ow b=some k→∃i,own=some i∧k = .var i
 box:∀g,G.box g=none
 heap:∀n,G.heap n=none
 fixlt:∀b o,G.fix b o→b<w.heap.size
 owlt:∀b k,G.ow b=some k→b<w.heap.size
 tab:Tab N w G.fix
 size:vals.size=args.length
 vr:∀(i:Nat) (v:Value) (p:PV),vals[i]? = some v→args[i]? = some p→VR N w G.fix G.heap v p
 room:∀(i:Nat) (v:Value) (es:List PV),own=some i→vals[i]? = some v→args[i]? = some (.list true es)→Room w G (.var i) v es
def d5f (N:Nm) (P:Program) (cf:wm):Prop:=
 ∀ (k : Nat) (own : Option Nat) (args : List PV) (r : PV) (h' : List PObj), cf k (Ah own args) [] = some (r, h') → N.yl k = none ∧ ∀ (w : World) (G : GS) (vals : Array Value), OwnIn N w G own args vals →
   Calls P (N.fn k) vals w λe w'=>∃v G',e = .returned v∧VR N w' G'.fix G'.heap v r∧Ext w G w' G'∧(∀b o,G'.fix b o→b<w'.heap.size)∧∀es,r = .list true es→DE w G w' G' v es
def c8f (N:Nm) (P:Program) (cf:wm):Prop:=
 ∀ (k : Nat) (args : List PV) (r : PV) (h h' : List PObj), cf k args h = some (r, h') → N.yl k = none ∧ ∀ (w : World) (G : GS) (vals : Array Value), Between N w G h → vals.size = args.length →
   (∀(i:Nat) (v:Value) (p:PV),vals[i]? = some v→args[i]? = some p→VR N w G.fix G.heap v p) →
   Calls P (N.fn k) vals w λe w'=>∃v G',e = .returned v∧VR N w' G'.fix G'.heap v r∧Ext w G w' G'∧Between N w' G' h'
structure CallOK (N:Nm) (P:Program) (cf:wm):Prop where
 plain:c8f N P cf
 own:d5f N P cf
theorem Room.sub {w:World} {G G':GS} {key:Key} {v:Value} {es:List PV} (h:Room w G key v es) (hf:G'.fix=G.fix) (ho:∀b,G.ow b=some key→G'.ow b=some key):Room w G' key v es:=by
 unfold Room at *
 split at h
 ·rename_i a len cap
  rcases h with h|⟨h1,sz,cs,T,h2,h3,h4,h5,h6⟩
  ·exact .inl h
  ·exact .inr ⟨ho _ h1,sz,cs,T,h2,h3,h4,h5,by rw[hf]; exact h6⟩
 ·trivial
theorem HR.sub {N:Nm} {w:World} {G G':GS} {heap:List PObj} (h:HR N w G heap) (hf:G'.fix=G.fix) (hh:G'.heap=G.heap) (ho:∀b k,k.isH=true→G.ow b=some k→G'.ow b=some k):HR N w G' heap:=by
 refine⟨?_,by rw[hf]; exact h.2⟩
 intro n ob dB
 rcases h.1 n ob dB with rfl|⟨b,h1,h2,h3⟩
 ·exact .inl rfl
 refine .inr ⟨b,by rw[hh]; exact h1,ho _ _ rfl h2,?_⟩
 cases ob with
 | cells cs =>
   obtain⟨f,cv,T,a1,a2,a3⟩:=h3
   refine⟨by rw[hf]; exact f,cv,T,a1,a2,?_⟩
   intro k c x hc hx
   obtain⟨b1,b2,b3⟩:=a3 k c x hc hx
   refine⟨by rw[hf,hh]; exact b1,b2,?_⟩
   split at b3
   ·exact b3.sub hf (λb=>ho b _ rfl)
   ·trivial
 | map es =>
   obtain⟨mes,clock,a1,a2,a3,a4,a5⟩:=h3
   refine⟨mes,clock,a1,a2,a3,a4,?_⟩
   intro i e p hi hp
   obtain⟨b1,b2,b3⟩:=a5 i e p hi hp
   refine⟨by rw[hf,hh]; exact b1,by rw[hf,hh]; exact b2,?_⟩
   split at b3
   ·exact b3.sub hf (λb=>ho b _ rfl)
   ·trivial
 | bld bs =>
   obtain⟨f,p,v,a1,a2,a3⟩:=h3
   refine⟨by rw[hf]; exact f,p,v,a1,a2,?_⟩
   rcases a3 with a3|⟨g,cap,cur,b1,b2,b3,b4⟩
   ·exact .inl a3
   ·exact .inr ⟨g,cap,cur,b1,ho _ _ rfl b2,by rw[hf]; exact b3,b4⟩
 | siter s pos =>
   obtain⟨f,s',a1,a2⟩:=h3
   exact⟨by rw[hf]; exact f,s',a1,a2⟩
 | gone=>trivial
 | loop ready =>
   obtain⟨f,r,a1,a2⟩:=h3
   exact⟨by rw[hf]; exact f,r,a1,a2⟩
 | over id =>
   obtain⟨f,r,a1,a2⟩:=h3
   exact⟨by rw[hf]; exact f,r,a1,a2⟩
def zq (ow:Nat→Option Key) (b:Nat):Option Key:=
 match ow b with
 | some k=>if k.isH then some k else none
 | none=>none
theorem Et {ow:Nat→Option Key} {b:Nat} {k:Key} (h:zq ow b=some k):ow b=some k∧k.isH=true:=by
 unfold zq at h
 split at h
 ·split at h
  ·simp at h; subst h; exact⟨by assumption,by assumption⟩
  ·simp at h
 ·simp at h
theorem K3 {ow:Nat→Option Key} {b:Nat} {k:Key} (h:ow b=some k) (hk:k.isH=true):zq ow b=some k:=by
 simp[zq,h,hk]
def x7 (N:Nm) (P:Program) (L:Nat→Option PFunc):Prop:=
 ∀k f,L k=some f→∃fn,P.funcs[N.fn k]? = some fn∧fn.name ≠ "runtime.NumGoroutine" ∧ fn.body.isNone=false
section
variable {E:Env} {N:Nm} {w:World} {G:GS} {st:St} {a:Act} {vs:List Tmp} {ops:List Oper} {P:Program}
variable {o:Oper} {j:Nat} {next:Act→World→Prop} {Q:Exit→Act→World→Prop} {u:PV} {st1:St}
theorem A7 {L:Nat→Option PFunc} (hF:x7 N P L) {k:Nat} {f:PFunc} (hL:L k=some f) (args:Array Value) (w:World):(callFunc (N.fn k) args).run P w = .ok (.enter (N.fn k) args) w:=by
 obtain⟨fn,h1,h2,h3⟩:=hF k f hL
 have fl:(fn.name == "runtime.NumGoroutine")=false:=by simpa using h2
 simp only[callFunc,Sem.run_bind,run_program,Result.andThen_ok,h1,fl,h3,aH,if_false,Sem.run_pure]
mutual
theorem FA (h:List PObj):∀p:PV,wB p=true→frz h p=p
 | .list _ es,hp=>by simp only[frz]; rw[Ix h es (by simpa[wB] using hp)]
 | .agg cs,hp=>by simp only[frz]; rw[Ix h cs (by simpa[wB] using hp)]
 | .tuple vs,hp=>by simp only[frz]; rw[Ix h vs (by simpa[wB] using hp)]
 | .rowp _ _ _ _,hp=>by simp[wB] at hp
 | .bool _,_ | .int _ _,_ | .str _,_ | .nils,_ | .void,_ | .nilptr,_ | .cptr _,_ | .loc _ _,_ | .lptr _ _ _,_ | .ptr _ _,_ | .rows _ _ _ _ _,_ | .fresh _ _ _ _,_ | .map _,_ | .func _ _ _,_ | .nilfunc,_ | .iface _ _,_ | .nilIface,_ | .dead,_=>rfl
theorem Ix (h:List PObj):∀l:List PV,wz l=true→zJ h l=l
 | [],_=>rfl
 | x :: l, hp => by
   simp only[wz,ak] at hp
   simp only[zJ]
   rw[FA h x hp.1,Ix h l hp.2]
end
theorem LX (nm:Names vs (wh vs ops)) (ho:ops[j]? = some o) (hf:FI N w G st a vs (wh vs ops)) {cf:wm} (du:CallOK N P cf) {k:Nat} {args:List PV} {vals:Array Value} {r:PV} {h':List PObj}
  (cV:vals.size=args.length) (hv:∀(i:Nat) (v:Value) (p:PV),vals[i]? = some v→args[i]? = some p→VR N w G.fix G.heap v p) (dq:wz args=true) (hc:cf k args []=some (r,h')) (hr:wB (frz h' r)=true)
  (cQ:(execOp a.eval o).run P w = .ok (.enter (N.fn k) vals) w) (hk:wy N w G a st (dem (frz h' r)) vs ops j o next):o.wp P a w next Q:=by
 unfold Oper.wp
 rw[cQ]
 let Gc:GS:={ fix:=G.fix,heap:=λ_=>none,box:=λ_=>none,ow:=λ_=>none }
 have dU:Between N w Gc []:=⟨⟨by intro b k h; simp[Gc] at h,λ_=>rfl⟩,hf.fixlt,by intro b k h; simp[Gc] at h,⟨by intro n ob h; simp at h,hf.heap.2⟩,by intro n b h; simp[Gc] at h⟩
 refine((du.plain k args r [] h' hc).2 w Gc vals dU cV (λi v p h1 h2=>(hv i v p h1 h2).free (BM dq p (av h2)))).mono ?_
 rintro e w' ⟨v,G2,rfl,cW,he,dO⟩
 let G':GS:={ G with fix:=(G2.shut (AK r) h').fix }
 have kD:∀b,b<w.heap.size→w'.heap[b]? = w.heap[b]? := λb hb=>he.same b hb rfl
 have ej:∀n b cs,G2.heap n=some b→h'[n]? = some (.cells cs)→G2.ow b≠none:=by
  intro n b cs h1 h2
  rcases dO.heap.1 n _ h2 with h3|⟨b',k1,k2,_⟩
  ·simp at h3
  rw[h1] at k1; cases k1
  rw[k2]; simp
 have fp:∀b o,G'.fix b o→G.fix b o∨w.heap.size≤b:=by
  rintro b o (h|⟨n,_,cs,h1,h2,_⟩)
  ·rcases he.newfix b o h with h|h|h
   ·exact .inl h
   ·exact .inr h
   ·exact absurd rfl h
  ·exact .inr ((he.own b (ej n b cs h1 h2)).resolve_right (λh=>h rfl))
 have cS:∀b o,G'.fix b o→b<w'.heap.size:=by
  rintro b o (h|⟨n,_,cs,h1,h2,_⟩)
  ·exact dO.fixlt b o h
  ·cases hk:G2.ow b with
   | none=>exact absurd hk (ej n b cs h1 h2)
   | some key=>exact dO.owlt b key hk
 have cN:Ext w G w' G':=by
  refine⟨he.os,he.tape,he.output,he.size,λb cS _=>kD b cS,λb o h=>⟨.inl (he.fix b o h).1,(he.fix b o h).2⟩,?_,λ_ h => .inr h,λ_ _ h=>h,he.shape,rfl⟩
  intro b o h
  rcases fp b o h with h|h
  ·exact .inl h
  ·exact .inr (.inl h)
 have cR:xa (λ_=>False) w G w' G':=by
  refine⟨?_,λ_ _ h=>h⟩
  intro b key da _
  have fm:=hf.owlt _ _ da
  refine⟨da,kD b fm,?_⟩
  intro o h
  rcases fp b o h with h|h
  ·exact h
  ·omega
 have dj:=hf.ext (G':=G') cN cR hf.gen (λb key h=>aN (hf.owlt b key h) he.size) cS
 have fC:VR N w' G'.fix G'.heap v (dem (frz h' r)):=((LW dO.heap cW (ns:=AK r) (λn hn=>hn)).free hr).dem
 exact hk _ _ G' (dj.put nm (yY ho) (SR.of_pure fC ((LW dO.heap cW (ns:=AK r) (λn hn=>hn)).cp_dem))) cN (yZ _ _ _)
theorem Rk (nm:Names vs (wh vs ops)) (ho:ops[j]? = some o) (hf:FI N w G st a vs (wh vs ops)) {cf:wm} (du:CallOK N P cf) {k:Nat} {args:List PV} {vals:Array Value} {r:PV} {h':List PObj}
  (cV:vals.size=args.length) (hv:∀(i:Nat) (v:Value) (p:PV),vals[i]? = some v→args[i]? = some p→VR N w G.fix G.heap v p) (dq:wz args=true) (hc:cf k args []=some (r,h')) (hr:wB r=true)
  (cQ:(execOp a.eval o).run P w = .ok (.enter (N.fn k) vals) w) (hk:wy N w G a st (dem r) vs ops j o next):o.wp P a w next Q:=
 LX nm ho hf du cV hv dq hc (by rw[FA h' r hr]; exact hr) cQ (by rw[FA h' r hr]; exact hk)
theorem LY:∀{ps:List PV},EV ps=true→∀p∈ps,BO p=true
 | [],_,p,hp=>by simp at hp
 | x :: xs, h, p, hp => by
   simp only[EV,ak] at h
   rcases aC.1 hp with rfl|hp
   ·exact h.1
   ·exact LY h.2 p hp
theorem VR.plain {N:Nm} {w w':World} {fix fix':Nat→Nat→Prop} {hp eM:Nat→Option Nat} {v:Value} {p:PV} (h:VR N w fix hp v p) (hr:BO p=true):VR N w' fix' eM v p:=by
 induction h with
 | bool b=>exact .bool b
 | int k n=>exact .int k n
 | str s=>exact .str s
 | agg cs ps cO cU ej _ ih=>exact .agg cs ps cO cU ej (λi c p hc hp=>ih i c p hc hp (LY (by simpa[BO] using hr) p (av hp)))
 | tuple cs ps cO _ ih=>exact .tuple cs ps cO (λi c p hc hp=>ih i c p hc hp (LY (by simpa[BO] using hr) p (av hp)))
 | _=>simp[BO] at hr
theorem Rl {heap:List PObj}:∀{ps qs:List PV},Ch heap ps=some qs→qs.length=ps.length∧∀(i:Nat) (q:PV),qs[i]? = some q→∃p,ps[i]? = some p∧xF heap p=some q
 | [],qs,h=>by simp[Ch] at h; subst h; simp
 | p :: ps, qs, h => by
   simp only[Ch,ae,ab] at h
   obtain⟨q,h1,qs',h2,rfl⟩:=h
   obtain⟨k1,k2⟩:=Rl h2
   refine⟨by simp[k1],?_⟩
   intro i x hx
   cases i with
   | zero=>simp at hx; subst hx; exact⟨p,rfl,h1⟩
   | succ i=>exact k2 i x (by simpa using hx)
theorem b86 (nm:Names vs (wh vs ops)) (ho:ops[j]? = some o) (hf:FI N w G st a vs (wh vs ops)) {cf:wm} (du:CallOK N P cf) {k:Nat} {args args':List PV} {vals:Array Value} {r:PV} {h':List PObj}
  (cV:vals.size=args.length) (hv:∀(i:Nat) (v:Value) (p:PV),vals[i]? = some v→args[i]? = some p→VR N w G.fix G.heap v p) (hl:Ch st.heap args=some args') (dq:wz args'=true) (hc:cf k args' []=some (r,h')) (hr:BO r=true)
  (cQ:(execOp a.eval o).run P w = .ok (.enter (N.fn k) vals) w) (hk:wy N w G a st (dem r) vs ops j o next):o.wp P a w next Q:=by
 unfold Oper.wp
 rw[cQ]
 let ns:=args.flatMap λp=>Br p.cells
 let Gc:GS:={ fix:=(G.shut ns st.heap).fix,heap:=λ_=>none,box:=λ_=>none,ow:=λ_=>none }
 have cS:∀b o,(G.shut ns st.heap).fix b o→b<w.heap.size:=by
  rintro b o (h|⟨n,_,cs,h1,h2,_⟩)
  ·exact hf.fixlt b o h
  ·rcases hf.heap.1 n _ h2 with h3|⟨b',k1,k2,_⟩
   ·simp at h3
   rw[h1] at k1; cases k1
   exact hf.owlt _ _ k2
 have dU:Between N w Gc []:=⟨⟨by intro b k h; simp[Gc] at h,λ_=>rfl⟩,cS,by intro b k h; simp[Gc] at h,⟨by intro n ob h; simp at h,⟨λt ht=>⟨.inl (hf.heap.2.1 t ht).1,(hf.heap.2.1 t ht).2⟩,hf.heap.2.2⟩⟩,by intro n b h; simp[Gc] at h⟩
 obtain⟨l1,l2⟩:=Rl hl
 refine((du.plain k args' r [] h' hc).2 w Gc vals dU (by rw[l1]; exact cV) ?_).mono ?_
 ·intro i v q h1 h2
  obtain⟨p,hp,hq⟩:=l2 i q h2
  refine VR.free (PY hf.heap (ns:=ns) ?_ (hv i v p h1 hp) hq) (BM dq q (av h2))
  intro x hx m sz agg len e
  subst e
  exact bM.2 ⟨p,av hp,HT hx⟩
 rintro e w' ⟨v,G2,rfl,cW,he,dO⟩
 have cN:Ext w G w' G:=⟨he.os,he.tape,he.output,he.size,λb cS _=>he.same b cS rfl,λb o h=>⟨h,(he.fix b o (.inl h)).2⟩,λ_ _ h => .inl h,λ_ h => .inr h,λ_ _ h=>h,he.shape,rfl⟩
 have cR:xa (λ_=>False) w G w' G:=⟨λb key da _=>⟨da,he.same b (hf.owlt _ _ da) rfl,λ_ h=>h⟩,λ_ _ h=>h⟩
 have dj:=hf.ext (G':=G) cN cR hf.gen (λb key h=>aN (hf.owlt b key h) he.size) (λb o h=>aN (hf.fixlt b o h) he.size)
 have fC:VR N w' G.fix G.heap v (dem r):=(cW.plain hr).dem
 exact hk _ _ G (dj.put nm (yY ho) (SR.of_pure fC cW.cp_dem)) cN (yZ _ _ _)
theorem b7N (hf:FI N w G st a vs (wh vs ops)) {cf:wm} (du:CallOK N P cf) {k:Nat} {args:List PV} {vals:Array Value} {r:PV} {h':List PObj}
  (cV:vals.size=args.length) (hv:∀(i:Nat) (v:Value) (p:PV),vals[i]? = some v→args[i]? = some p→VR N w G.fix G.heap v p) (hc:cf k args st.heap=some (r,h'))
  (cQ:(execOp a.eval o).run P w = .ok (.enter (N.fn k) vals) w) (hk:∀(v:Value) (w':World) (G':GS),FI N w' G' { st with heap:=h' } a vs (wh vs ops)→VR N w' G'.fix G'.heap v r→Ext w G w' G'→next (a.put o.dst v) w'):o.wp P a w next Q:=by
 unfold Oper.wp
 rw[cQ]
 let Gc:GS:={ fix:=G.fix,heap:=G.heap,box:=λ_=>none,ow:=zq G.ow }
 have dU:Between N w Gc st.heap:=⟨⟨λb k h=>(Et h).2,λ_=>rfl⟩,hf.fixlt,λb k h=>hf.owlt b k (Et h).1,hf.heap.sub rfl rfl (λb k hk h=>K3 h hk),hf.hdom⟩
 refine((du.plain k args r st.heap h' hc).2 w Gc vals dU cV hv).mono ?_
 rintro e w' ⟨v,G2,rfl,cW,he,dO⟩
 let G':GS:={ fix:=G2.fix,heap:=G2.heap,box:=G.box,ow:=λb=>match G.ow b with | some k=>if k.isH then G2.ow b else some k | none=>G2.ow b,df:=G.df }
 have cN:Ext w G w' G':=by
  refine⟨he.os,he.tape,he.output,he.size,λb cS h=>he.same b cS (by simp[Gc,zq,h]),λb o h=>he.fix b o h,?_,?_,he.heap,he.shape,rfl⟩
  ·intro b o h
   rcases he.newfix b o h with h|h|h
   ·exact .inl h
   ·exact .inr (.inl h)
   ·refine .inr (.inr ?_)
    intro e
    apply h
    simp[Gc,zq,e]
  ·intro b h
   cases hb:G.ow b with
   | some k=>exact .inr (by simp)
   | none =>
     simp only[G',hb] at h
     rcases he.own b h with h|h
     ·exact .inl h
     ·exact absurd (by simp[Gc,zq,hb]) h
 have cR:xa (λk=>k.isH=true) w G w' G':=by
  refine⟨?_,λ_ _ h=>h⟩
  intro b key da hn
  have fm:=hf.owlt _ _ da
  have ek:Gc.ow b=none:=by simp[Gc,zq,da,hn]
  refine⟨by simp[G',da,hn],he.same b fm ek,?_⟩
  intro o h
  rcases he.newfix b o h with h|h|h
  ·exact h
  ·omega
  ·exact absurd ek h
 have d8:HR N w' G' h':=by
  refine dO.heap.sub rfl rfl ?_
  intro b k vS h
  cases hb:G.ow b with
  | none=>simp only[G',hb]; exact h
  | some k0 =>
    by_cases kJ:k0.isH=true
    ·simp only[G',hb,kJ,if_true]; exact h
    ·have ek:Gc.ow b=none:=by simp[Gc,zq,hb,kJ]
     have cS:=hf.owlt _ _ hb
     rcases he.own b (by rw[h]; simp) with h2|h2
     ·omega
     ·exact absurd ek h2
 have dj:FI N w' G' { st with heap:=h' } a vs (wh vs ops):=by
  refine⟨hf.len,λi t u h1 h2=>(hf.var i t u h1 h2).keep cN cR (by simp[Key.isH]) (by simp[Key.isH]),λj t u h1 h2=>(hf.loc j t u h1 h2).keep cN cR (by simp[Key.isH]) (by simp[Key.isH]),hf.tv,hf.tl,(hf.defers.trans cN.df.symm),hf.gen,?_,dO.fixlt,d8,dO.hdom⟩
  intro b k h
  cases hb:G.ow b with
  | some k0=>exact aN (hf.owlt _ _ hb) he.size
  | none =>
    simp only[G',hb] at h
    exact dO.owlt _ _ h
 exact hk v w' G' dj cW cN
theorem LZ (nm:Names vs (wh vs ops)) (ho:ops[j]? = some o) (hf:FI N w G st a vs (wh vs ops)) {cf:wm} (du:CallOK N P cf) {k:Nat} {args:List PV} {vals:Array Value} {r:PV} {h':List PObj}
  (cV:vals.size=args.length) (hv:∀(i:Nat) (v:Value) (p:PV),vals[i]? = some v→args[i]? = some p→VR N w G.fix G.heap v p) (hc:cf k args st.heap=some (r,h'))
  (cQ:(execOp a.eval o).run P w = .ok (.enter (N.fn k) vals) w) (hk:wy N w G a { st with heap:=h' } (dem r) vs ops j o next):o.wp P a w next Q:=
 b7N hf du cV hv hc cQ λv w' G' dj cW cN=>hk _ _ G' (dj.put nm (yY ho) (SR.of_pure cW.dem cW.cp_dem)) cN (yZ _ _ _)
theorem FI.freeze {lm:Nat→Option Tmp} (hf:FI N w G st a vs lm) (ns:List Nat):FI N w (G.shut ns st.heap) { st with heap:=Aa ns st.heap } a vs lm∧Ext w G w (G.shut ns st.heap):=by
 have own:∀n b cs,G.heap n=some b→st.heap[n]? = some (.cells cs)→G.ow b=some (.hobj n):=by
  intro n b cs h1 h2
  rcases hf.heap.1 n _ h2 with h3|⟨b',k1,k2,_⟩
  ·simp at h3
  rw[h1] at k1; cases k1; exact k2
 have cN:Ext w G w (G.shut ns st.heap):=by
  refine⟨rfl,rfl,rfl,ao _,λ_ _ _=>rfl,λ_ _ h=>⟨.inl h,rfl⟩,?_,λ_ h => .inr h,λ_ _ h=>h,ShapeLe.refl w,rfl⟩
  rintro b o (h|⟨n,_,cs,h1,h2,_⟩)
  ·exact .inl h
  ·exact .inr (.inr (by rw[own n b cs h1 h2]; simp))
 have cR:xa (λk=>k.isH=true) w G w (G.shut ns st.heap):=by
  refine⟨?_,λ_ _ h=>h⟩
  intro b key hb hn
  refine⟨hb,rfl,?_⟩
  rintro o (h|⟨n,_,cs,h1,h2,_⟩)
  ·exact h
  ·rw[own n b cs h1 h2] at hb
   cases hb
   exact absurd rfl hn
 refine⟨⟨hf.len,λi t u h1 h2=>(hf.var i t u h1 h2).keep cN cR (by simp[Key.isH]) (by simp[Key.isH]),λj t u h1 h2=>(hf.loc j t u h1 h2).keep cN cR (by simp[Key.isH]) (by simp[Key.isH]),hf.tv,hf.tl,hf.defers,hf.gen,hf.owlt,?_,hf.heap.shutG (KY ns st.heap),?_⟩,cN⟩
 ·rintro b o (h|⟨n,_,cs,h1,h2,_⟩)
  ·exact hf.fixlt b o h
  ·exact hf.owlt _ _ (own n b cs h1 h2)
 ·intro n b h
  have:=hf.hdom n b h
  simp only[KZ]; exact this
theorem Bo {xs:Array Operand} {us:List PV} (h1:xs.toList.length=us.length) (h2:∀(i:Nat) (x:Operand) (u:PV),xs.toList[i]? = some x→us[i]? = some u→VR N w G.fix G.heap (a.eval x) u∧cp u=some u):
  (xs.map a.eval).size=us.length∧∀(i:Nat) (v:Value) (p:PV),(xs.map a.eval)[i]? = some v→us[i]? = some p→VR N w G.fix G.heap v p:=by
 refine⟨by simpa using h1,?_⟩
 intro i v p hv hp
 simp only[bU,ab] at hv
 obtain⟨x,hx,rfl⟩:=hv
 exact(h2 i x p (by simpa using hx) hp).1
theorem b87 {L:Nat→Option PFunc} (hF:x7 N P L) (hE:EnvOk E N) (nm:Names vs (wh vs ops)) (ho:ops[j]? = some o) (hf:FI N w G st a vs (wh vs ops)) {cf:wm} (du:CallOK N P cf) (dZ:∀k args h r,cf k args h=some r→∃f,L k=some f)
  {f:FuncId} {k:Nat} {xs:Array Operand} {ts:Array TypeId} {pxs:List PX} (cP:o.op = .call { callee := .value (.func f),args:=xs,argTypes:=ts }) (dh:E.inv f=some k) (hx:cxs E vs ops xs.toList=some pxs)
  (hs:opv cf (.pcall k pxs) st=some (u,st1)) (hk:wy N w G a st1 u vs ops j o next):o.wp P a w next Q:=by
 simp only[opv] at hs
 split at hs
 ·rename_i us ev
  split at hs
  ·rename_i dq
   split at hs
   ·rename_i r h' hc
    split at hs
    ·rename_i hr
     simp only[aa,ac] at hs
     obtain⟨rfl,rfl⟩:=hs
     obtain⟨h1,h2⟩:=Ap hE hf hx ev
     obtain⟨g1,g2⟩:=Bo (w:=w) (G:=G) h1 h2
     obtain⟨pf,hL⟩:=dZ _ _ _ _ hc
     have d4:=hE.fn _ _ dh
     refine Rk nm ho hf du g1 g2 dq hc hr ?_ hk
     have:=A7 hF hL (xs.map a.eval) w
     rw[d4] at this
     rw[d4]
     simp[execOp,cP,resolve,Act.eval,Deferred.ofValue,invoke]
     exact this
    ·simp at hs
   ·simp at hs
  ·simp at hs
 ·simp at hs
theorem b7O {L:Nat→Option PFunc} (hF:x7 N P L) (hE:EnvOk E N) (nm:Names vs (wh vs ops)) (ho:ops[j]? = some o) (hf:FI N w G st a vs (wh vs ops)) {cf:wm} (du:CallOK N P cf) (dZ:∀k args h r,cf k args h=some r→∃f,L k=some f)
  {f:FuncId} {k:Nat} {xs:Array Operand} {ts:Array TypeId} {pxs:List PX} (cP:o.op = .call { callee := .value (.func f),args:=xs,argTypes:=ts }) (dh:E.inv f=some k) (hx:cxs E vs ops xs.toList=some pxs)
  (hs:opv cf (.pzcall k pxs) st=some (u,st1)) (hk:wy N w G a st1 u vs ops j o next):o.wp P a w next Q:=by
 simp only[opv] at hs
 split at hs
 ·rename_i us ev
  split at hs
  ·rename_i dq
   split at hs
   ·rename_i r h' hc
    split at hs
    ·rename_i hr
     simp only[aa,ac] at hs
     obtain⟨rfl,rfl⟩:=hs
     obtain⟨h1,h2⟩:=Ap hE hf hx ev
     obtain⟨g1,g2⟩:=Bo (w:=w) (G:=G) h1 h2
     obtain⟨pf,hL⟩:=dZ _ _ _ _ hc
     have d4:=hE.fn _ _ dh
     refine LX nm ho hf du g1 g2 dq hc hr ?_ hk
     have:=A7 hF hL (xs.map a.eval) w
     rw[d4] at this
     rw[d4]
     simp[execOp,cP,resolve,Act.eval,Deferred.ofValue,invoke]
     exact this
    ·simp at hs
   ·simp at hs
  ·simp at hs
 ·simp at hs
theorem VR.cp_or {N:Nm} {w:World} {fix:Nat→Nat→Prop} {hp:Nat→Option Nat} {v:Value} {p:PV} (h:VR N w fix hp v p):cp p=some p∨∃es,p = .list true es:=by
 cases h with
 | nils o=>cases o<;>simp[cp]
 | void o _ _=>cases o<;>simp[cp]
 | list o _ _ _ _ _ _ _ _ _ _ _ _ _=>cases o<;>simp[cp]
 | _=>exact .inl rfl
theorem Rm {E:Env} {vs:List Tmp} {ops:List Oper}:∀{xs:List Operand} {ps:List PX} {i:Nat} {p:PX},cxs E vs ops xs=some ps→ps[i]? = some p→∃x,xs[i]? = some x∧cx E vs ops x=some p
 | [],ps,i,p,h,hp=>by simp[cxs] at h; subst h; simp at hp
 | x :: xs, ps, i, p, h, hp => by
   simp only[cxs,ae,ab] at h
   obtain⟨q,h1,qs,h2,rfl⟩:=h
   cases i with
   | zero=>simp at hp; subst hp; exact⟨x,rfl,h1⟩
   | succ i =>
     have:=Rm (i:=i) h2 (by simpa using hp)
     simpa using this
def L1:Value→Option Nat
 | .slice (some a) _ _=>some a.block
 | _=>none
theorem Rn (nm:Names vs (wh vs ops)) (ho:ops[j]? = some o) (hd:wJ vs o.dst≠.n) {G0:GS} (qf:Ext w G0 w G) (hf:FI N w G st a vs (wh vs ops)) {cf:wm} (du:CallOK N P cf) {k:Nat} {own:Option Nat} {args:List PV} {vals:Array Value} {r:PV} {h':List PObj}
  (cV:vals.size=args.length) (hv:∀(i:Nat) (v:Value) (p:PV),vals[i]? = some v→args[i]? = some p→VR N w G.fix G.heap v p) (dq:wz args=true)
  (dA:∀(i:Nat) (v:Value) (es:List PV),own=some i→vals[i]? = some v→args[i]? = some (.list true es)→Room w G (xU (wJ vs o.dst) j) v es)
  (hc:cf k (Ah own args) []=some (r,h')) (hr:wB r=true)
  (cQ:(execOp a.eval o).run P w = .ok (.enter (N.fn k) vals) w) (hk:wy N w G0 a st r vs ops j o next):o.wp P a w next Q:=by
 classical
 unfold Oper.wp
 rw[cQ]
 let key:=xU (wJ vs o.dst) j
 let Gc:GS:={ fix:=G.fix,heap:=λ_=>none,box:=λ_=>none,ow:=λb=>own.bind λi=>if vals[i]?.bind L1=some b∧G.ow b=some key then some (.var i) else none }
 have qg:∀b k,Gc.ow b=some k→G.ow b=some key∧∃i,own=some i∧k = .var i:=by
  intro b k h
  simp only[Gc,ae] at h
  obtain⟨i,hi,h⟩:=h
  split at h
  ·rename_i hb
   simp only[aa] at h
   exact⟨hb.2,i,hi,h.symm⟩
  ·simp at h
 have dI:OwnIn N w Gc own args vals:=by
  refine⟨λb k h=>(qg b k h).2,λ_=>rfl,λ_=>rfl,hf.fixlt,λb k h=>hf.owlt _ _ (qg b k h).1,hf.heap.2,cV,λi v p h1 h2=>(hv i v p h1 h2).free (BM dq p (av h2)),?_⟩
  intro i v es hi qe fA
  have h:=dA i v es hi qe fA
  unfold Room at *
  split at h
  ·rename_i a' len cap
   rcases h with h|⟨h1,h2⟩
   ·exact .inl h
   ·refine .inr ⟨?_,h2⟩
    simp only[Gc,hi,qe,an,L1,true_and]
    rw[ah (show G.ow a'.block=some key from h1)]
  ·trivial
 refine((du.own k own args r h' hc).2 w Gc vals dI).mono ?_
 rintro e w' ⟨v,G2,rfl,cW,he,fG,gO⟩
 let G':GS:={ G with fix:=G2.fix,ow:=λb=>if (∃es,r = .list true es)∧L1 v=some b∧(w.heap.size≤b∨Gc.ow b≠none)∧b<w'.heap.size then some key else G.ow b }
 have ek:∀b k,G.ow b=some k→k≠key→Gc.ow b=none:=by
  intro b k h hn
  cases hx:Gc.ow b with
  | none=>rfl
  | some k' =>
    have:=(qg b k' hx).1
    rw[h] at this
    simp only[aa] at this
    exact absurd this hn
 have iY:∀b,G.ow b=none→Gc.ow b=none:=by
  intro b h
  cases hx:Gc.ow b with
  | none=>rfl
  | some k'=>have:=(qg b k' hx).1; rw[h] at this; simp at this
 have cN:Ext w G w' G':=by
  refine⟨he.os,he.tape,he.output,he.size,λb cS h=>he.same b cS (iY b h),λb o h=>he.fix b o h,?_,?_,λ_ _ h=>h,he.shape,rfl⟩
  ·intro b o h
   rcases he.newfix b o h with h|h|h
   ·exact .inl h
   ·exact .inr (.inl h)
   ·exact .inr (.inr λe=>h (iY b e))
  ·intro b h
   simp only[G'] at h
   split at h
   ·rename_i hb
    rcases hb.2.2.1 with h1|h1
    ·exact .inl h1
    ·exact .inr λe=>h1 (iY b e)
   ·exact .inr h
 have cR:xa (λk=>k=key) w G w' G':=by
  refine⟨?_,λ_ _ h=>h⟩
  intro b k da hn
  have fm:=hf.owlt _ _ da
  have h0:=ek b k da hn
  refine⟨?_,he.same b fm h0,?_⟩
  ·simp only[G']
   rw[af]
   ·exact da
   ·rintro⟨_,_,h1|h1,_⟩
    ·omega
    ·exact h1 h0
  ·intro o h
   rcases he.newfix b o h with h|h|h
   ·exact h
   ·omega
   ·exact absurd h0 h
 have how:∀b k,G'.ow b=some k→b<w'.heap.size:=by
  intro b k h
  simp only[G'] at h
  split at h
  ·rename_i hb; exact hb.2.2.2
  ·exact aN (hf.owlt _ _ h) he.size
 have fC:VR N w' G'.fix G'.heap v r:=cW.free hr
 have mY:SR N w' G' key v r:=by
  rcases fC.cp_or with h|⟨es,rfl⟩
  ·exact SR.of_pure fC h
  ·refine⟨fC,?_⟩
   have h:=gO es rfl
   unfold Room
   unfold DE at h
   split at h
   ·rename_i a' len cap
    rcases h with h|⟨h1,sz,cs,T,h2,h3,h4⟩
    ·exact .inl h
    ·refine .inr ⟨?_,sz,cs,T,h2,h3,h4⟩
     simp only[G']
     rw[ah]
     exact⟨⟨es,rfl⟩,rfl,h1,let ⟨fz,h5,_⟩:=h3; (aV.1 h5).1⟩
   ·rename_i hx
    split
    ·rename_i a' len cap; exact absurd rfl (hx _ _ _)
    ·trivial
 exact hk _ _ G' (hf.extDst nm (yY ho) hd cN cR (λg b h=>hf.gen g b h) how fG rfl mY) (qf.trans cN) (yZ _ _ _)
theorem b7P {L:Nat→Option PFunc} (hF:x7 N P L) (hE:EnvOk E N) (nm:Names vs (wh vs ops)) (ho:ops[j]? = some o) (hd:wJ vs o.dst≠.n) (hf:FI N w G st a vs (wh vs ops)) {cf:wm} (du:CallOK N P cf) (dZ:∀k args h r,cf k args h=some r→∃f,L k=some f)
  {f:FuncId} {k:Nat} {xs:Array Operand} {ts:Array TypeId} {pxs:List PX} {own:Option Nat} (cP:o.op = .call { callee := .value (.func f),args:=xs,argTypes:=ts }) (dh:E.inv f=some k) (hx:cxs E vs ops xs.toList=some pxs)
  (hs:opv cf (.pcallx k pxs own) st=some (u,st1)) (hk:wy N w G a st1 u vs ops j o next):o.wp P a w next Q:=by
 have cQ:∀{args:List PV} {h:List PObj} {r},cf k args h=some r→(execOp a.eval o).run P w = .ok (.enter (N.fn k) (xs.map a.eval)) w:=by
  intro args h r hc
  obtain⟨pf,hL⟩:=dZ _ _ _ _ hc
  have d4:=hE.fn _ _ dh
  have:=A7 hF hL (xs.map a.eval) w
  rw[d4] at this
  rw[d4]
  simp[execOp,cP,resolve,Act.eval,Deferred.ofValue,invoke]
  exact this
 simp only[opv] at hs
 split at hs
 ·split at hs
  ·rename_i us ev
   split at hs
   ·rename_i dq
    split at hs
    ·rename_i r h' hc
     split at hs
     ·rename_i hr
      simp only[aa,ac] at hs
      obtain⟨rfl,rfl⟩:=hs
      obtain⟨h1,h2⟩:=Ap hE hf hx ev
      obtain⟨g1,g2⟩:=Bo (w:=w) (G:=G) h1 h2
      exact Rn nm ho hd (Ext.refl _ _) hf du g1 g2 dq (by intro i v es h; simp at h) hc hr (cQ hc) hk
     ·simp at hs
    ·simp at hs
   ·simp at hs
  ·simp at hs
 ·rename_i i
  split at hs
  ·rename_i v0 st2 us ht ev
   split at hs
   ·rename_i dq
    split at hs
    ·rename_i r h' hc
     split at hs
     ·rename_i hr
      simp only[aa,ac] at hs
      obtain⟨rfl,rfl⟩:=hs
      simp only[ae] at ht
      obtain⟨px,fF,ht⟩:=ht
      obtain⟨h1,h2⟩:=Ap hE hf hx ev
      obtain⟨g1,g2⟩:=Bo (w:=w) (G:=G) h1 h2
      obtain⟨x,kI,gX⟩:=Rm hx fF
      obtain⟨G',k1,k2,k3,k4,k5,k6,k7,_⟩:=EJ hE gX hf ht (xU (wJ vs o.dst) j)
      refine Rn nm ho hd k2 k1 du (by rw[bp]; exact g1) ?_ dq.1 ?_ hc hr (cQ hc) hk
      ·intro i' v p hv hp
       rw[k4,k5]
       rw[aO] at hp
       split at hp
       ·rename_i he
        subst he
        split at hp
        ·simp only[aa] at hp
         subst hp
         simp only[bU,ab] at hv
         obtain⟨x',eB,rfl⟩:=hv
         have:x'=x:=by rw[← bI,kI] at eB; simpa using eB.symm
         subst this
         exact k6
        ·simp at hp
       ·exact g2 i' v p hv hp
      ·intro i' v es hi hv fA
       simp only[aa] at hi
       subst hi
       rw[aO] at fA
       simp only[if_true,dq.2,aa] at fA
       subst fA
       simp only[bU,ab] at hv
       obtain⟨x',eB,rfl⟩:=hv
       have:x'=x:=by rw[← bI,kI] at eB; simpa using eB.symm
       subst this
       exact k7
     ·simp at hs
    ·simp at hs
   ·simp at hs
  ·simp at hs
theorem b89 {L:Nat→Option PFunc} (hF:x7 N P L) (hE:EnvOk E N) (nm:Names vs (wh vs ops)) (ho:ops[j]? = some o) (hf:FI N w G st a vs (wh vs ops)) {cf:wm} (du:CallOK N P cf) (dZ:∀k args h r,cf k args h=some r→∃f,L k=some f)
  {t:Tmp} {px:PX} {xs:Array Operand} {ts:Array TypeId} {pxs:List PX} (cP:o.op = .call { callee := .value (.tmp t),args:=xs,argTypes:=ts }) (fF:cx E vs ops (.tmp t)=some px) (hx:cxs E vs ops xs.toList=some pxs)
  (hs:opv cf (.callv px pxs) st=some (u,st1)) (hk:wy N w G a st1 u vs ops j o next):o.wp P a w next Q:=by
 simp only[opv] at hs
 split at hs
 ·rename_i k first captured us lX ev
  split at hs
  ·rename_i dq
   split at hs
   ·rename_i r h' hc
    split at hs
    ·rename_i hr
     simp only[aa,ac] at hs
     obtain⟨rfl,rfl⟩:=hs
     obtain⟨h1,h2⟩:=Ap hE hf hx ev
     obtain⟨g1,g2⟩:=Bo (w:=w) (G:=G) h1 h2
     obtain⟨pf,hL⟩:=dZ _ _ _ _ hc
     have iA:=(wL hE fF hf lX).1
     generalize hv:a.eval (.tmp t)=v at iA
     cases iA with
     | yield _ _ _ _ _ _ hy=>rw[(du.plain _ _ _ _ _ hc).1] at hy; simp at hy
     | func _ fs cs _ _ _ e1 e2 ll dW =>
       refine Rk (vals:=fs++xs.map a.eval++cs) nm ho hf du (by simp[e1,e2]; simpa using h1) ?_ dq hc hr ?_ hk
       ·intro i v p dS hp
        by_cases hi:i<fs.size
        ·rw[ci,bm hi] at dS
         rw[aJ,am (by omega)] at hp
         exact ll i v p dS hp
        ·rw[ci,cj (by omega)] at dS
         rw[aJ,ar (by omega),← e1] at hp
         by_cases ed:i - fs.size<(xs.map a.eval).size
         ·rw[bm ed] at dS
          rw[am (by omega)] at hp
          exact g2 _ v p dS hp
         ·rw[cj (by omega)] at dS
          rw[ar (by omega),← g1] at hp
          exact dW _ v p dS hp
       ·have:=A7 hF hL (fs++xs.map a.eval++cs) w
        simp only[execOp,cP,resolve,Sem.run_bind,hv,Deferred.ofValue,Sem.run_pure,Result.andThen_ok,invoke]
        exact this
    ·simp at hs
   ·simp at hs
  ·simp at hs
 ·simp at hs
theorem Ro {L:Nat→Option PFunc} (hF:x7 N P L) (hE:EnvOk E N) (nm:Names vs (wh vs ops)) (ho:ops[j]? = some o) (hf:FI N w G st a vs (wh vs ops)) {cf:wm} (du:CallOK N P cf) (dZ:∀k args h r,cf k args h=some r→∃f,L k=some f)
  {f:FuncId} {k:Nat} {xs:Array Operand} {ts:Array TypeId} {pxs:List PX} (cP:o.op = .call { callee := .value (.func f),args:=xs,argTypes:=ts }) (dh:E.inv f=some k) (hx:cxs E vs ops xs.toList=some pxs)
  (hs:wi cf (.call k pxs) st=some (u,st1)) (hk:wy N w G a st1 u vs ops j o next):o.wp P a w next Q:=by
 simp only[wi,ae,ab,ac] at hs
 obtain⟨us,ev,⟨r,h'⟩,hc,rfl,rfl⟩:=hs
 obtain⟨h1,h2⟩:=Ap hE hf hx ev
 obtain⟨g1,g2⟩:=Bo (w:=w) (G:=G) h1 h2
 obtain⟨pf,hL⟩:=dZ _ _ _ _ hc
 have d4:=hE.fn _ _ dh
 refine LZ nm ho hf du g1 g2 hc ?_ hk
 have:=A7 hF hL (xs.map a.eval) w
 rw[d4] at this
 rw[d4]
 simp[execOp,cP,resolve,Act.eval,Deferred.ofValue,invoke]
 exact this
theorem b9a {L:Nat→Option PFunc} (hF:x7 N P L) (hE:EnvOk E N) (nm:Names vs (wh vs ops)) (ho:ops[j]? = some o) (hf:FI N w G st a vs (wh vs ops)) {cf:wm} (du:CallOK N P cf) (dZ:∀k args h r,cf k args h=some r→∃f,L k=some f)
  {f:FuncId} {k:Nat} {xs:Array Operand} {ts:Array TypeId} {pxs:List PX} (cP:o.op = .call { callee := .value (.func f),args:=xs,argTypes:=ts }) (dh:E.inv f=some k) (hx:cxs E vs ops xs.toList=some pxs)
  (hs:wi cf (.zcall k pxs) st=some (u,st1)) (hk:wy N w G a st1 u vs ops j o next):o.wp P a w next Q:=by
 simp only[wi,ae] at hs
 obtain⟨us,ev,hs⟩:=hs
 split at hs
 ·rename_i dq
  simp only[ae] at hs
  obtain⟨⟨r,h'⟩,hc,hs⟩:=hs
  split at hs
  ·rename_i hr
   simp only[aa,ac] at hs
   obtain⟨rfl,rfl⟩:=hs
   obtain⟨h1,h2⟩:=Ap hE hf hx ev
   obtain⟨g1,g2⟩:=Bo (w:=w) (G:=G) h1 h2
   obtain⟨pf,hL⟩:=dZ _ _ _ _ hc
   have d4:=hE.fn _ _ dh
   obtain⟨dj,kI⟩:=hf.freeze (BN us)
   rw[EM] at hc dq
   refine LX nm ho dj du (vals:=xs.map a.eval) (by rw[aA]; exact g1) ?_ dq hc hr ?_ λa' w' G2 k1 k2 k3=>hk a' w' G2 k1 (kI.trans k2) k3
   ·intro i v p hv hp
    rw[az,ab] at hp
    obtain⟨q,hq,rfl⟩:=hp
    refine LW hf.heap (g2 i v q hv hq) (λn hn =>?_)
    rw[EO]
    exact bM.2 ⟨q,av hq,hn⟩
   ·have:=A7 hF hL (xs.map a.eval) w
    rw[d4] at this
    rw[d4]
    simp[execOp,cP,resolve,Act.eval,Deferred.ofValue,invoke]
    exact this
  ·simp at hs
 ·simp at hs
theorem b9b {L:Nat→Option PFunc} (hF:x7 N P L) (hE:EnvOk E N) (nm:Names vs (wh vs ops)) (ho:ops[j]? = some o) (hf:FI N w G st a vs (wh vs ops)) {cf:wm} (du:CallOK N P cf) (dZ:∀k args h r,cf k args h=some r→∃f,L k=some f)
  {f:FuncId} {k:Nat} {xs:Array Operand} {ts:Array TypeId} {pxs:List PX} (cP:o.op = .call { callee := .value (.func f),args:=xs,argTypes:=ts }) (dh:E.inv f=some k) (hx:cxs E vs ops xs.toList=some pxs)
  (hs:wi cf (.lcall k pxs) st=some (u,st1)) (hk:wy N w G a st1 u vs ops j o next):o.wp P a w next Q:=by
 simp only[wi,CE,ae] at hs
 obtain⟨us,ev,ws,qD,hs⟩:=hs
 split at hs
 ·rename_i dq
  simp only[ae] at hs
  obtain⟨⟨r,h'⟩,hc,hs⟩:=hs
  split at hs
  ·rename_i hr
   simp only[aa,ac] at hs
   obtain⟨rfl,rfl⟩:=hs
   obtain⟨h1,h2⟩:=Ap hE hf hx ev
   obtain⟨g1,g2⟩:=Bo (w:=w) (G:=G) h1 h2
   obtain⟨pf,hL⟩:=dZ _ _ _ _ hc
   have d4:=hE.fn _ _ dh
   refine b86 nm ho hf du g1 g2 qD dq hc hr ?_ hk
   have:=A7 hF hL (xs.map a.eval) w
   rw[d4] at this
   rw[d4]
   simp[execOp,cP,resolve,Act.eval,Deferred.ofValue,invoke]
   exact this
  ·simp at hs
 ·simp at hs
theorem c8g (T:TypeId) (ad:Addr) (a b:String):Builtin.ssaWrapNilChk_ #[T] T #[.pointer (some ad),strVal a,strVal b]=pure (.pointer (some ad)):=rfl
theorem c1a {T e:TypeId} {m:Method} {i:TypeInfo} {f:FuncId} {pr:Bool} {v r:Value} {name:String} (hi:P.info? T=some i) (hm:i.methods.find? (·.name==name)=some m) (hp:m.path.isEmpty=true) (d4:m.func=some (f,pr))
  (hu:P.underlying T=some (.pointer e)) (hr:(pr=true∧r=v)∨(pr=false∧∃ad,v = .pointer (some ad)∧(loadVar e ad).run P w = .ok r w)) (n:Nat):(method (n+1) T v name).run P w = .ok (f,r) w:=by
 have eM:m.path.toList=[]:=by simpa using hp
 have kN:=run_typeInfo w hi
 have gy:=run_underlying hu w
 simp only[method,Sem.run_bind,kN,Result.andThen_ok,hm,eM,follow,Sem.run_pure,d4,hp,if_true]
 rcases hr with⟨rfl,rfl⟩|⟨rfl,ad,rfl,hl⟩
 ·simp only[receiverAt,Sem.run_bind,gy,Result.andThen_ok,Place.get,Sem.run_pure]
 ·simp only[receiverAt,Sem.run_bind,gy,Result.andThen_ok,Place.get,Sem.run_pure,c8g,asAddr,hl]
theorem L2 {E:Env} {name:String} {t:Nat} {r:Nat×Option (Nat×Bool)}:∀{Ts:List TypeId},EX t (DD E name Ts)=some r→∃T i,xB T E.pt 0=some i∧t=i+1∧mOf E name T=some r
 | [],h=>by simp[DD,EX] at h
 | T :: Ts, h => by
   unfold DD at h
   split at h
   ·rename_i i q hi hq
    unfold EX at h
    split at h
    ·rename_i e
     simp only[aa] at h; subst h
     exact⟨T,i,hi,e.symm,hq⟩
    ·exact L2 h
   ·exact L2 h
theorem b9c {L:Nat→Option PFunc} (hF:x7 N P L) (hE:EnvOk E N) (hP:E.P=P) (nm:Names vs (wh vs ops)) (ho:ops[j]? = some o) (hf:FI N w G st a vs (wh vs ops)) {cf:wm} (du:CallOK N P cf) (dZ:∀k args h r,cf k args h=some r→∃f,L k=some f)
  {name:String} {x:Operand} {px:PX} {xs:Array Operand} {ts:Array TypeId} {pxs:List PX} (cP:o.op = .call { callee := .invoke x name,args:=xs,argTypes:=ts }) (fF:cx E vs ops x=some px) (hx:cxs E vs ops xs.toList=some pxs)
  (hs:wi cf (.icall (DD E name E.pt) px pxs) st=some (u,st1)) (hk:wy N w G a st1 u vs ops j o next):o.wp P a w next Q:=by
 subst hP
 simp only[wi,ae,ab,ac] at hs
 obtain⟨⟨k,rv⟩,hm,us,ev,⟨r,h'⟩,hc,rfl,rfl⟩:=hs
 unfold CF at hm
 split at hm
 ·rename_i t v hp
  simp only[ae,ab,ac] at hm
  obtain⟨⟨k',d⟩,sF,rv',m2,rfl,rfl⟩:=hm
  obtain⟨T,i,hi,rfl,kE⟩:=L2 sF
  have ht:=hE.pt T i hi
  have hv:=(wL hE fF hf hp).1
  obtain⟨h1,h2⟩:=Ap hE hf hx ev
  obtain⟨g1,g2⟩:=Bo (w:=w) (G:=G) h1 h2
  obtain⟨pf,hL⟩:=dZ _ _ _ _ hc
  generalize eO:a.eval x=z at hv
  cases hv with
  | iface _ v0 _ hv =>
    obtain⟨f,pr,m,ti,e,m5,k1,k2,k3,k4,k5,rr,k6,k7⟩:∃(f:FuncId) (pr:Bool) (m:Method) (ti:TypeInfo) (e:TypeId),N.fn k'=f∧E.P.info? T=some ti∧ti.methods.find? (·.name==name)=some m∧m.path.isEmpty=true∧m.func=some (f,pr)∧E.P.underlying T=some (.pointer e) ∧
      ∃r:Value,((pr=true∧r=v0)∨(pr=false∧∃ad,v0 = .pointer (some ad)∧(loadVar e ad).run E.P w = .ok r w))∧VR N w G.fix G.heap r rv':=by
     unfold mOf at kE
     split at kE
     ·rename_i m pL
      simp only[ae] at pL
      obtain⟨ti,a1,a2⟩:=pL
      split at kE
      ·rename_i a3
       split at kE
       ·rename_i f e a4 a5
        simp only[ab,ac] at kE
        obtain⟨k0,a6,rfl,rfl⟩:=kE
        simp only[Gv,aa] at m2
        subst m2
        exact⟨f,true,m,ti,e,hE.fn _ _ a6,a1,a2,a3,a4,a5,v0,.inl ⟨rfl,rfl⟩,hv.dem⟩
       ·rename_i f e a4 a5
        simp only[ae,ab,ac] at kE
        obtain⟨k0,a6,n,a7,rfl,rfl⟩:=kE
        simp only[Gv] at m2
        split at m2
        ·rename_i mm off
         simp only[ae] at m2
         obtain⟨cs,hg,rV⟩:=m2
         cases hv with
         | ptr _ _ b hb =>
           have eI:n≠0:=by obtain⟨_,_,_,_,h,_⟩:=yD a7; exact h
           obtain⟨ep,gj,cv,TT,hh,hl,eL⟩:=DN hf hg hb
           obtain⟨hR,hcell⟩:=K1 hh hl eL
           obtain⟨q1,q2,q3⟩:=C6 hR rV eI (BE a7)
           have cQ:=Er (w:=w) a7 b off ((cv.toList.take cs.length).drop off) (by simp at q1 ⊢; omega) (λj v hv=>by
            rw[aX] at hv
            exact hcell _ _ hv)
           exact⟨f,false,m,ti,e,hE.fn _ _ a6,a1,a2,a3,a4,a5,_,.inr ⟨rfl,_,rfl,cQ⟩,q2⟩
        ·simp at m2
       ·simp at kE
      ·simp at kE
     ·simp at kE
    have cQ:=c1a (w:=w) k1 k2 k3 k4 k5 k6
    have de:=A7 hF hL (#[rr]++xs.map a.eval) w
    rw[m5] at de
    refine LZ (vals := #[rr]++xs.map a.eval) nm ho hf du (by simp[g1]; omega) ?_ hc ?_ hk
    ·intro i v p gB iF
     cases i with
     | zero =>
       rw[bm (by simp)] at gB
       simp at gB iF
       subst gB iF
       exact k7
     | succ i=>exact g2 i v p (by simpa[Array.getElem?_append] using gB) (by simpa using iF)
    ·have sG:∃n,E.P.types.size+Made.depth=n+1:=⟨E.P.types.size+Made.depth - 1,by simp[Made.depth]⟩
     obtain⟨fu,sG⟩:=sG
     have mC:(xs.map a.eval).extract 0 xs.size=xs.map a.eval:=by
      rw[← Array.size_map (f:=a.eval)]
      exact Array.extract_size
     have h0:(#[Value.iface T v0]++xs.map a.eval)[0]? = some (.iface T v0):=by
      rw[bm (by simp)]
      rfl
     rw[m5]
     simp only[execOp,cP,resolve,eO,ht,Sem.run_bind,Sem.run_pure,Result.andThen_ok,invoke,callMethod]
     simp[sG,run_program,h0,cQ,mC,de]
 ·simp at hm
theorem b7Q {L:Nat→Option PFunc} (hF:x7 N P L) (hE:EnvOk E N) (nm:Names vs (wh vs ops)) (ho:ops[j]? = some o) (hf:FI N w G st a vs (wh vs ops)) {cf:wm} (du:CallOK N P cf) (dZ:∀k args h r,cf k args h=some r→∃f,L k=some f)
  {t:Tmp} {px:PX} {xs:Array Operand} {ts:Array TypeId} {pxs:List PX} (cP:o.op = .call { callee := .value (.tmp t),args:=xs,argTypes:=ts }) (fF:cx E vs ops (.tmp t)=some px) (hx:cxs E vs ops xs.toList=some pxs)
  (hs:wi cf (.callv px pxs) st=some (u,st1)) (hk:wy N w G a st1 u vs ops j o next):o.wp P a w next Q:=by
 simp only[wi] at hs
 split at hs
 ·rename_i k first captured us lX ev
  simp only[ab,ac] at hs
  obtain⟨⟨r,h'⟩,hc,rfl,rfl⟩:=hs
  obtain⟨h1,h2⟩:=Ap hE hf hx ev
  obtain⟨g1,g2⟩:=Bo (w:=w) (G:=G) h1 h2
  obtain⟨pf,hL⟩:=dZ _ _ _ _ hc
  have iA:=(wL hE fF hf lX).1
  generalize hv:a.eval (.tmp t)=v at iA
  cases iA with
  | yield _ _ _ _ _ _ hy=>rw[(du.plain _ _ _ _ _ hc).1] at hy; simp at hy
  | func _ fs cs _ _ _ e1 e2 ll dW =>
    refine LZ (vals:=fs++xs.map a.eval++cs) nm ho hf du (by simp[e1,e2]; simpa using h1) ?_ hc ?_ hk
    ·intro i v p dS hp
     by_cases hi:i<fs.size
     ·rw[ci,bm hi] at dS
      rw[aJ,am (by omega)] at hp
      exact ll i v p dS hp
     ·rw[ci,cj (by omega)] at dS
      rw[aJ,ar (by omega),← e1] at hp
      by_cases ed:i - fs.size<(xs.map a.eval).size
      ·rw[bm ed] at dS
       rw[am (by omega)] at hp
       exact g2 _ v p dS hp
      ·rw[cj (by omega)] at dS
       rw[ar (by omega),← g1] at hp
       exact dW _ v p dS hp
    ·have:=A7 hF hL (fs++xs.map a.eval++cs) w
     simp only[execOp,cP,resolve,Sem.run_bind,hv,Deferred.ofValue,Sem.run_pure,Result.andThen_ok,invoke]
     exact this
 ·simp at hs
theorem c23 {L:Nat→Option PFunc} (hF:x7 N P L) (hE:EnvOk E N) (hP:E.P=P) (nm:Names vs (wh vs ops)) (ho:ops[j]? = some o) (hf:FI N w G st a vs (wh vs ops)) {cf:wm} (du:CallOK N P cf)
  (dZ:∀k args h r,cf k args h=some r→∃f,L k=some f) {po:HOp} (hc:KX E vs ops o=some po) (hs:wi cf po st=some (u,st1)) (hk:wy N w G a st1 u vs ops j o next):o.wp P a w next Q:=by
 subst hP
 unfold KX at hc
 split at hc
 ·rename_i t cP
  split at hc
  ·simp at hc
  ·split at hc
   ·rename_i hb
    simp only[aa] at hc
    subst hc
    exact b7Y hE rfl nm ho hf cP hb hs hk
   ·simp only[ab] at hc
    obtain⟨z,hz,rfl⟩:=hc
    exact b7R nm ho hf cP hz hs hk
 ·rename_i t x cP
  split at hc
  ·simp at hc
  ·simp only[ae,ab] at hc
   obtain⟨n,hn,p,hp,rfl⟩:=hc
   exact b7S hE nm ho hf cP hn hp hs hk
 ·rename_i t x cP
  split at hc
  ·simp only[ae,ab] at hc
   obtain⟨n,hn,p,hp,rfl⟩:=hc
   split at hs
   ·rename_i cT
    simp only[ak,bC] at cT
    exact b9j hE nm ho hf cP hn cT.2 hp hs hk
   ·exact Rp hE nm ho hf cP hn hp hs hk
  ·split at hc
   ·simp only[ae,ab] at hc
    obtain⟨n,hn,p,hp,rfl⟩:=hc
    exact b9g hE nm ho hf cP hn hp hs hk
   ·simp at hc
 ·rename_i t x y cP
  split at hc
  ·rename_i hd
   simp only[ae,ab] at hc
   obtain⟨n,hn,p,hp,q,hq,hc⟩:=hc
   split at hc
   ·subst hc
    exact b59 hE nm ho hf cP hd.1 hn hp hq hs hk
   ·subst hc
    exact Rq hE nm ho hf cP hd.1 hn hp hq hs hk
  ·simp at hc
 ·rename_i t x i cP
  split at hc
  ·rename_i len e hu
   split at hc
   ·simp only[ae,ab] at hc
    obtain⟨n,hn,p,hp,q,hq,rfl⟩:=hc
    exact b7T hE nm ho hf cP hu hn hp hq hs hk
   ·simp at hc
  ·simp at hc
 ·rename_i t len parts cP
  split at hc
  ·split at hc
   ·rename_i e hu
    split at hc
    ·rename_i size z hn hz
     split at hc
     ·rename_i cO
      simp only[ab] at hc
      obtain⟨ps,dT,rfl⟩:=hc
      exact b9k hE nm ho hf cP hu hn hz cO dT hs hk
     ·simp at hc
    ·simp at hc
   ·simp at hc
  ·simp at hc
 ·rename_i t cP
  split at hc
  ·simp at hc
  ·simp only[aa] at hc
   subst hc
   exact b9e nm ho hf cP hs hk
 ·rename_i t m k ok cP
  split at hc
  ·rename_i kt e hu
   simp only[ae,ab] at hc
   obtain⟨kk,eZ,z,hz,p,hp,q,hq,rfl⟩:=hc
   exact b7V hE nm ho hf cP hu eZ hz hp hq hs hk
  ·simp at hc
 ·rename_i t m k v cP
  split at hc
  ·rename_i kt e hu
   split at hc
   ·rename_i hd
    simp only[ae,ab] at hc
    obtain⟨kk,eZ,p,hp,q,hq,r,hr,rfl⟩:=hc
    exact Rr hE nm ho hf (.inl cP) hd hu eZ hp hq hr hs hk
   ·simp at hc
  ·simp at hc
 ·rename_i t m k v cP
  split at hc
  ·rename_i kt e hu
   split at hc
   ·rename_i hd
    simp only[ae,ab] at hc
    obtain⟨kk,eZ,p,hp,q,hq,r,hr,rfl⟩:=hc
    exact Rr hE nm ho hf (.inr cP) hd hu eZ hp hq hr hs hk
   ·simp at hc
  ·simp at hc
 ·rename_i op t x y t' cP
  split at hc
  ·rename_i cT
   simp only[ae,ab] at hc
   obtain⟨kd,vT,p,hp,rfl⟩:=hc
   exact b9f hE nm ho hf cP cT vT hp hs hk
  ·simp at hc
 ·rename_i x cP
  simp only[ab] at hc
  obtain⟨p,hp,rfl⟩:=hc
  exact b7X hE nm ho hf cP hp hs hk
 ·rename_i t l c' cP
  split at hc
  ·rename_i e hu
   split at hc
   ·rename_i size z hn hz
    split at hc
    ·simp at hc
    ·rename_i cT
     simp only[bH,not_or,Bool.not_eq_true,Bool.not_eq_false'] at cT
     simp only[ab] at hc
     obtain⟨p,hp,rfl⟩:=hc
     split at hs
     ·exact b6c hE nm ho hf cP hu hn hz cT.2 hp hs hk
     ·exact b9h hE nm ho hf cP hu hn hz cT.2 hp hs hk
   ·simp at hc
  ·simp at hc
 ·rename_i t x cP
  split at hc
  ·rename_i hu
   split at hc
   ·simp at hc
   ·simp only[ab] at hc
    obtain⟨p,hp,rfl⟩:=hc
    exact b9i hE nm ho hf cP hu hp hs hk
  ·simp at hc
 ·rename_i x cP
  split at hc
  ·simp at hc
  ·simp only[ab] at hc
   obtain⟨p,hp,rfl⟩:=hc
   exact c1k hE nm ho hf cP hp hs hk
 ·rename_i t parts cP
  split at hc
  ·rename_i n e hu
   split at hc
   ·rename_i size z hn hz
    simp only[ab] at hc
    obtain⟨ps,dT,rfl⟩:=hc
    exact c1h hE nm ho hf cP hu hn hz dT hs hk
   ·simp at hc
  ·rename_i fs hu
   simp only at hc
   split at hc
   ·simp at hc
   ·split at hc
    ·rename_i places z eA hz
     simp only[ab] at hc
     obtain⟨ps,dT,rfl⟩:=hc
     refine b7Z hE nm ho hf cP hu hz eA ?_ dT hs hk
     intro j' lU
     obtain⟨p,_,hp⟩:=List.mem_filterMap.1 lU
     obtain⟨t',_,h2⟩:=c2l hp
     exact d2k h2
    ·simp at hc
  ·simp at hc
 ·rename_i t x i cP
  split at hc
  ·rename_i len e hu
   simp only[ae,ab] at hc
   obtain⟨n,hn,p,hp,q,hq,rfl⟩:=hc
   exact c1j hE nm ho hf cP hu hn hp hq hs hk
  ·simp at hc
 ·rename_i fn xs ys cP
  split at hc
  ·simp at hc
  ·simp only[ae,ab] at hc
   obtain⟨f,d4,k,dh,ps,dT,qs,jJ,rfl⟩:=hc
   have:fn = .func f:=by
    unfold PP at d4
    split at d4
    ·simp at d4; subst d4; rfl
    ·simp at d4
   subst this
   exact b7W hE nm ho hf cP dh dT jJ hs hk
 ·rename_i args ts cP
  obtain⟨args⟩:=args
  obtain⟨ts⟩:=ts
  split at hc
  ·rename_i s x t1 t2 dQ eo
   simp only at dQ eo
   subst dQ eo
   split at hc
   ·split at hc
    ·rename_i e e' hu eR
     split at hc
     ·rename_i size z hn hz
      simp only[ae,ab] at hc
      obtain⟨p,hp,q,hq,rfl⟩:=hc
      exact c1l hE nm ho hf cP hu eR hn hz hp hq hs hk
     ·simp at hc
    ·rename_i e k0 hu eR
     split at hc
     ·rename_i size z hn hz
      simp only[ae,ab] at hc
      obtain⟨p,hp,q,hq,rfl⟩:=hc
      exact b9l hE nm ho hf cP hu eR hn hz hp hq hs hk
     ·simp at hc
    ·simp at hc
   ·simp at hc
  ·simp at hc
 ·rename_i args ts cP
  obtain⟨args⟩:=args
  obtain⟨ts⟩:=ts
  split at hc
  ·rename_i x t rest dQ eo
   simp only at dQ eo
   subst dQ eo
   split at hc
   ·rename_i e hu
    split at hc
    ·rename_i eI
     simp only[ae,ab] at hc
     obtain⟨size,hn,z,hz,p,hp,rfl⟩:=hc
     have ea:o.dst=none:=by
      unfold isN wJ at eI
      split at eI
      ·rename_i hd
       split at hd
       ·assumption
       ·split at hd<;>simp at hd
      ·simp at eI
     exact b9m hE nm ho hf ea cP hu hn hz hp hs hk
    ·simp at hc
   ·simp at hc
  ·simp at hc
 ·rename_i args ts cP
  obtain⟨args⟩:=args
  obtain⟨ts⟩:=ts
  split at hc
  ·rename_i x t rest dQ eo
   simp only at dQ eo
   subst dQ eo
   split at hc
   ·rename_i kt e hu
    split at hc
    ·simp at hc
    ·simp only[ab] at hc
     obtain⟨p,hp,rfl⟩:=hc
     exact c1f hE nm ho hf cP rfl hu hp hs hk
   ·simp at hc
  ·simp at hc
 ·rename_i f args ts cP
  split at hc
  ·simp only[ae,ab] at hc
   obtain⟨k,dh,ps,dT,rfl⟩:=hc
   split at hs
   ·refine Ro hF hE nm ho hf du dZ cP dh dT ?_ hk
    simp only[wi,ae,same] at hs ⊢
    obtain⟨us,h1,r,h2,h3⟩:=hs
    split at h3
    ·rename_i he
     simp only[aa,ac] at h3
     obtain⟨rfl,rfl⟩:=h3
     exact⟨us,h1,by rw[h2,aB,he]⟩
    ·simp at h3
   ·split at hs
    ·exact b9b hF hE nm ho hf du dZ cP dh dT hs hk
    ·split at hs
     ·exact b9a hF hE nm ho hf du dZ cP dh dT hs hk
     ·exact Ro hF hE nm ho hf du dZ cP dh dT hs hk
  ·simp at hc
 ·rename_i x name args ts cP
  simp only[ae,ab] at hc
  obtain⟨p,hp,ps,dT,rfl⟩:=hc
  exact b9c hF hE rfl nm ho hf du dZ cP hp dT hs hk
 ·rename_i t args ts cP
  split at hc
  ·simp only[ae,ab] at hc
   obtain⟨p,hp,ps,dT,rfl⟩:=hc
   exact b7Q hF hE nm ho hf du dZ cP hp dT hs hk
  ·simp at hc
 ·simp at hc
theorem c5c {L:Nat→Option PFunc} (hF:x7 N P L) (hE:EnvOk E N) (hP:E.P=P) (nm:Names vs (wh vs ops)) (ho:ops[j]? = some o) (hf:FI N w G st a vs (wh vs ops)) {cf:wm} (du:CallOK N P cf)
  (dZ:∀k args h r,cf k args h=some r→∃f,L k=some f) {po:POp} (hc:cOp E vs ops o=some po) (hs:opv cf po st=some (u,st1)) (hk:wy N w G a st1 u vs ops j o next):o.wp P a w next Q:=by
 unfold cOp at hc
 simp only at hc
 split at hc
 ·rename_i h rQ
  simp only[aa] at hc
  subst hc
  exact c23 hF hE hP nm ho hf du dZ rQ (by simpa[opv] using hs) hk
 rename_i ek
 subst hP
 split at hc
 ·
  rename_i x cP
  simp only[ab] at hc
  obtain⟨p,hp,rfl⟩:=hc
  split at hs
  ·exact Rb hE nm ho hf (by simp[execOp,cP]) hp (by simpa[opv] using hs) hk
  ·exact c2X hE nm ho hf (by simp[execOp,cP]) hp (by simpa[opv] using hs) hk
 ·rename_i x cP
  simp only[ab] at hc
  obtain⟨p,hp,rfl⟩:=hc
  exact Rb hE nm ho hf (by simp[execOp,cP]) hp (by simpa[opv] using hs) hk
 ·rename_i x y z cP
  simp only[ae,ab] at hc
  obtain⟨px,fF,pa,rL,pb,vU,rfl⟩:=hc
  exact c03 hE nm ho hf cP fF rL vU hs hk
 ·rename_i t cP
  split at hc
  ·rename_i hv
   simp only[ab] at hc
   obtain⟨z,hz,rfl⟩:=hc
   exact b7G nm ho hf cP hz hv hs hk
  ·simp at hc
 ·rename_i t x cP
  split at hc
  ·rename_i hv
   simp only[ae,ab] at hc
   obtain⟨n,hn,p,hp,rfl⟩:=hc
   exact b7H hE nm ho hf cP hn hp hv hs hk
  ·simp at hc
 ·rename_i t parts cP
  split at hc
  ·rename_i fs z hu hz
   split at hc
   ·rename_i places eA
    simp only[ab] at hc
    obtain⟨ps,dT,rfl⟩:=hc
    exact Ra hE nm ho hf cP hu hz eA dT hs hk
   ·simp at hc
  ·simp at hc
 ·rename_i t len parts cP
  split at hc
  ·rename_i e hu
   split at hc
   ·rename_i size z hn hz
    split at hc
    ·rename_i cO
     simp only[ab] at hc
     obtain⟨ps,dT,rfl⟩:=hc
     exact b51 hE nm ho hf cP hu hn hz cO dT hs hk
    ·simp at hc
   ·simp at hc
  ·simp at hc
 ·rename_i t x cP
  simp only[ae,ab] at hc
  obtain⟨n,hn,p,hp,rfl⟩:=hc
  split at hs
  ·refine Rg (tk:=false) (cf:=cf) hE nm ho hf cP hn hp ?_ hk
   simp only[opv] at hs ⊢
   split at hs
   ·rename_i s' g off dK
    split at hs
    ·rename_i g' cs hv
     split at hs
     ·rename_i hc
      obtain⟨rfl,rfl⟩:=hc
      simp only[dK,hv,if_true,bG]
      exact hs
     ·simp at hs
    ·simp at hs
   ·simp at hs
  ·exact Rg hE nm ho hf cP hn hp hs hk
 ·rename_i t x y cP
  split at hc
  ·rename_i hd
   simp only[ae,ab] at hc
   obtain⟨n,hn,p,hp,q,hq,rfl⟩:=hc
   exact b83 hE nm ho hf cP hd hn hp hq hs hk
  ·simp at hc
 ·rename_i s x f cP
  split at hc
  ·rename_i fs hu
   split at hc
   ·rename_i fd iO
    simp only[ae,ab] at hc
    obtain⟨n,hn,p,hp,rfl⟩:=hc
    exact b81 hE nm ho hf cP hu iO hn hp hs hk
   ·simp at hc
  ·simp at hc
 ·rename_i t x i cP
  split at hc
  ·rename_i e hu
   simp only[ae,ab] at hc
   obtain⟨n,hn,p,hp,q,hq,rfl⟩:=hc
   exact b7w hE nm ho hf cP hu hn hp hq hs hk
  ·rename_i len e hu
   simp only[ae,ab] at hc
   obtain⟨n,hn,p,hp,q,hq,rfl⟩:=hc
   exact b7x hE nm ho hf cP hu hn hp hq hs hk
  ·simp at hc
 ·rename_i t x f cP
  split at hc
  ·rename_i fs hu
   split at hc
   ·rename_i fd iO
    simp only[ae,ab] at hc
    obtain⟨n,hn,p,hp,rfl⟩:=hc
    exact b82 hE nm ho hf cP hu iO hn hp hs hk
   ·simp at hc
  ·simp at hc
 ·rename_i t x i cP
  split at hc
  ·rename_i hu
   simp only[ae,ab] at hc
   obtain⟨p,hp,q,hq,rfl⟩:=hc
   exact b4A hE nm ho hf cP hu hp hq hs hk
  ·simp at hc
 ·rename_i t x lo hi cP
  split at hc
  ·rename_i hu
   simp only[ae,ab] at hc
   obtain⟨p,hp,pl,hl,ph,hh,rfl⟩:=hc
   exact b7D hE nm ho hf cP hu hp hl hh hs hk
  ·rename_i e hu
   simp only[ae,ab] at hc
   obtain⟨n,hn,p,hp,pl,hl,ph,hh,rfl⟩:=hc
   exact b7E hE nm ho hf cP hu hn hp hl hh hs hk
  ·rename_i n e hu
   split at hc
   ·have hn:wI E.P e=some 1:=by assumption
    simp only[ab] at hc
    obtain⟨p,hp,rfl⟩:=hc
    exact b4B hE nm ho hf cP hu hn hp hs hk
   ·simp at hc
  ·simp at hc
 ·rename_i op t x y t' cP
  split at hc
  ·rename_i ge
   split at hc
   ·rename_i agg ks ht
    simp only[ae,ab] at hc
    obtain⟨p,hp,q,hq,rfl⟩:=hc
    exact c49 hE rfl nm ho hf cP ge ht hp hq hs hk
   ·simp only[ae,ab] at hc
    obtain⟨p,hp,q,hq,rfl⟩:=hc
    exact Q4 hE nm ho hf cP hp hq hs hk
   ·simp at hc
  ·simp only[ae,ab] at hc
   obtain⟨p,hp,q,hq,rfl⟩:=hc
   exact Q4 hE nm ho hf cP hp hq hs hk
 ·rename_i op t x cP
  simp only[ab] at hc
  obtain⟨p,hp,rfl⟩:=hc
  exact c5a hE nm ho hf cP hp hs hk
 ·rename_i s t x cP
  split at hc
  ·rename_i k' k hu eR
   simp only[ab] at hc
   obtain⟨p,hp,rfl⟩:=hc
   exact b5Y hE nm ho hf cP hu eR hp hs hk
  ·rename_i hu eR
   simp only[ab] at hc
   obtain⟨p,hp,rfl⟩:=hc
   exact c07 hE nm ho hf cP hu eR hp hs hk
  ·rename_i e hu eR
   split at hc
   ·rename_i he
    split at hc
    ·simp at hc
    ·rename_i dr
     have gF:wJ vs o.dst≠.n:=by intro e; rw[e] at dr; simp[isN] at dr
     simp only[ab] at hc
     obtain⟨p,hp,rfl⟩:=hc
     exact c28 hE nm ho hf cP gF hu eR he hp hs hk
   ·simp at hc
  ·rename_i e hu eR
   split at hc
   ·rename_i he
    simp only[ab] at hc
    obtain⟨p,hp,rfl⟩:=hc
    exact c21 hE nm ho hf cP hu he eR hp hs hk
   ·simp at hc
  ·simp at hc
 ·rename_i t x cP
  split at hc
  ·simp at hc
  ·rename_i d hd hu
   simp only[ae,ab] at hc
   obtain⟨i,hi,p,hp,rfl⟩:=hc
   exact c05 hE nm ho hf cP hu (λm e=>hd m e) hi hp hs hk
  ·simp at hc
 ·rename_i x t' t cP
  split at hc
  ·simp at hc
  ·rename_i d hd hu
   simp only[ae,ab] at hc
   obtain⟨i,hi,p,hp,rfl⟩:=hc
   exact c06 hE nm ho hf cP hu (λm e=>hd m e) hi hp hs hk
  ·simp at hc
 ·rename_i x i cP
  simp only[ab] at hc
  obtain⟨p,hp,rfl⟩:=hc
  exact b5Z hE nm ho hf cP hp hs hk
 ·rename_i b args ts cP
  split at hc
  ·simp at hc
  ·rename_i dr
   have gF:wJ vs o.dst≠.n:=by intro e; rw[e] at dr; simp[isN] at dr
   obtain⟨args⟩:=args
   obtain⟨ts⟩:=ts
   unfold PN at hc
   split at hc
   ·rename_i x t rest hb dQ eo
    simp only at dQ eo
    subst dQ eo
    split at hc
    ·rename_i hu
     simp only[ab] at hc
     obtain⟨p,hp,rfl⟩:=hc
     exact Q6 hE nm ho hf cP rfl (str:=true) (by simpa using hu) hp hs hk
    ·rename_i e hu
     simp only[ab] at hc
     obtain⟨p,hp,rfl⟩:=hc
     exact Q6 hE nm ho hf cP rfl (str:=false) (by simpa using⟨e,hu⟩) hp hs hk
    ·simp at hc
   ·simp only[ab] at hc
    obtain⟨p,hp,rfl⟩:=hc
    exact Q9 (mx:=false) hE nm ho hf cP hp hs hk
   ·simp only[ab] at hc
    obtain⟨p,hp,rfl⟩:=hc
    exact Q9 (mx:=true) hE nm ho hf cP hp hs hk
   ·rename_i x t rest hb dQ eo
    simp only at dQ eo
    subst dQ eo
    split at hc
    ·rename_i e hu
     simp only[ab] at hc
     obtain⟨p,hp,rfl⟩:=hc
     exact c2Y hE nm ho hf cP rfl hu hp hs hk
    ·simp at hc
   ·rename_i s x t1 t2 hb dQ eo
    simp only at dQ eo
    subst dQ eo
    split at hc
    ·rename_i e e' hu eR
     split at hc
     ·rename_i size z hn hz
      simp only[ae,ab] at hc
      obtain⟨p,hp,q,hq,rfl⟩:=hc
      exact b7J hE nm ho hf cP gF hu eR hn hz hp hq hs hk
     ·simp at hc
    ·rename_i e hu eR
     split at hc
     ·rename_i z he hn hz fe
      simp only[ae,ab] at hc
      obtain⟨p,hp,q,hq,rfl⟩:=hc
      exact b7L hE nm ho hf cP gF hu eR hn hz fe hp hq hs hk
     ·simp at hc
    ·simp at hc
   ·simp at hc
 ·rename_i f args ts cP
  simp only[ae,ab] at hc
  obtain⟨k,dh,ps,dT,rfl⟩:=hc
  split at hs
  ·split at hs
   ·simp[CA,opv,rd,raw,cp] at hs
   ·rename_i dr
    exact b7P hF hE nm ho (by intro e; rw[e] at dr; simp[isN] at dr) hf du dZ cP dh dT hs hk
  ·split at hs
   ·exact b7O hF hE nm ho hf du dZ cP dh dT hs hk
   ·exact b87 hF hE nm ho hf du dZ cP dh dT hs hk
 ·rename_i t args ts cP
  simp only[ae,ab] at hc
  obtain⟨p,hp,ps,dT,rfl⟩:=hc
  exact b89 hF hE nm ho hf du dZ cP hp dT hs hk
 ·simp at hc
end
section
variable {E:Env} {N:Nm} {w:World} {G:GS} {st:St} {a:Act} {vs:List Tmp} {P:Program} {ops:Array Oper}
variable {o:Oper} {j:Nat} {Q:Exit→Act→World→Prop} {st1:St}
abbrev Next1 (N:Nm) (w:World) (G:GS) (a:Act) (st1:St) (vs:List Tmp) (ops:List Oper) (K:Act→World→Prop):Prop:=
 ∀a' w' G',FI N w' G' st1 a' vs (wh vs ops)→Ext w G w' G'→a'.tmps.size=a.tmps.size→K a' w'
theorem HP {L:Nat→Option PFunc} (hF:x7 N P L) (hE:EnvOk E N) (hP:E.P=P) (nm:Names vs (wh vs ops.toList)) (ho:ops[j]? = some o) (hf:FI N w G st a vs (wh vs ops.toList)) {cf:wm} (du:CallOK N P cf)
  (dZ:∀k args h r,cf k args h=some r→∃f,L k=some f) {po:PO} (hc:DA E vs ops.toList o=some po) (hs:w9 cf j po st=some st1) {K:Act→World→Prop} (hk:Next1 N w G a st1 vs ops.toList K):wpOp P ops Q j K a w:=by
 have eN:ops.toList[j]? = some o:=by simpa using ho
 simp only[DA,ab] at hc
 obtain⟨g,hg,rfl⟩:=hc
 generalize nF:(cOp E vs ops.toList o).getD CA=p at hs
 unfold wpOp
 simp only[ho]
 have run:∀{st1},(opv cf p st).map (λr=>put r.2 j (wJ vs o.dst) r.1)=some st1→Next1 N w G a st1 vs ops.toList K→o.wp P a w K Q:=by
  intro st1 h hk
  simp only[ab] at h
  obtain⟨⟨u,st2⟩,h1,rfl⟩:=h
  cases fN:cOp E vs ops.toList o with
  | none =>
    rw[fN] at nF
    simp only[Option.getD_none] at nF
    subst nF
    simp[CA,opv,rd,raw,cp] at h1
  | some p' =>
    rw[fN] at nF
    simp only[bO] at nF
    subst nF
    exact c5c hF hE hP nm eN hf du dZ fN h1 hk
 unfold PQ at hg
 split at hg
 ·rename_i sf
  simp at hg; subst hg
  simp only[w9] at hs
  rw[ah (by simp[Region.wanted,sf])]
  exact .inl (run hs hk)
 ·rename_i jj want tR
  split at hg
  ·rename_i og tS
   split at hg
   ·rename_i t ht
    simp only[ab] at hg
    obtain⟨px,fF,rfl⟩:=hg
    simp only[w9] at hs
    split at hs
    ·rename_i b hb
     have eO:=(wL hE fF hf hb).1
     have ff:a.eval (.tmp t) = .bool b:=by generalize a.eval (.tmp t)=z at eO; cases eO; rfl
     have hy:yielded ops a.tmps jj=some b:=by
      have h1:ops[jj]? = some og:=by simpa using tS
      have h2:a.tmps[t]? = some (.bool b):=by
       simp only[Act.eval,aT] at ff
       cases h:a.tmps[t]? with
       | none=>rw[h] at ff; simp[undef] at ff
       | some z=>rw[h] at ff; simpa using ff
      simp[yielded,h1,ht,h2]
     have hw:Region.wanted o (yielded ops a.tmps)=(b==want):=by
      simp[Region.wanted,tR,hy]
     rw[hw]
     split at hs
     ·rename_i mQ
      rw[ah (by simpa using mQ)]
      exact .inl (run hs hk)
     ·rename_i mQ
      rw[af (by simpa using mQ)]
      simp at hs; subst hs
      exact hk _ _ G (hf.put nm (yY eN) (.tuple #[] [] rfl (by intro i c p h _; simp at h))) (Ext.refl _ _) (yZ _ _ _)
    ·rename_i hb
     have eO:=(wL hE fF hf hb).1
     have ff:a.eval (.tmp t) = .tuple #[]:=by
      generalize a.eval (.tmp t)=z at eO
      cases eO with
      | tuple cs _ cO _=>simp at cO; rw[cO]
     have hy:yielded ops a.tmps jj=none:=by
      have h1:ops[jj]? = some og:=by simpa using tS
      simp only[Act.eval,aT] at ff
      cases h:a.tmps[t]? with
      | none=>simp[yielded,h1,ht,h]
      | some z=>rw[h] at ff; simp at ff; subst ff; simp[yielded,h1,ht,h]
     have hw:Region.wanted o (yielded ops a.tmps)=false:=by
      simp[Region.wanted,tR,hy]
     rw[hw]
     simp at hs; subst hs
     exact hk _ _ G (hf.put nm (yY eN) (.tuple #[] [] rfl (by intro i c p h _; simp at h))) (Ext.refl _ _) (yZ _ _ _)
    ·simp at hs
   ·simp at hg
  ·simp at hg
theorem Next1.trans {w':World} {G':GS} {a':Act} {K:Act→World→Prop} {vs':List Tmp} {ops':List Oper} (h:Next1 N w G a st1 vs' ops' K) (e:Ext w G w' G') (hs:a'.tmps.size=a.tmps.size):Next1 N w' G' a' st1 vs' ops' K:=
 λa2 w2 G2 h1 h2 h3=>h a2 w2 G2 h1 (e.trans h2) (h3.trans hs)
theorem C2:∀{os:List Oper} {pos:List PO} {ops:List Oper},Cx E vs ops os=some pos→os.length=pos.length∧∀(i:Nat) (o:Oper),os[i]? = some o→∃p,pos[i]? = some p∧DA E vs ops o=some p
 | [],pos,ops,h=>by simp[Cx] at h; subst h; simp
 | o :: os, pos, ops, h => by
   simp only[Cx,ae,ab] at h
   obtain⟨p,hp,ps,dT,rfl⟩:=h
   obtain⟨h1,h2⟩:=C2 dT
   refine⟨by simp[h1],?_⟩
   intro i o' eN
   cases i with
   | zero=>simp at eN; subst eN; exact⟨p,rfl,hp⟩
   | succ i=>simpa using h2 i o' (by simpa using eN)
noncomputable def ym (cf:wm) (pos:List PO):List Nat→St→Option St
 | [],st=>some st
 | i :: l, st =>
   match pos[i]? with
   | some p=>(w9 cf i p st).bind (ym cf pos l)
   | none=>none
theorem HM {cf:wm} {all:List PO}:∀{pos:List PO} {j:Nat} {st:St},all.drop j=pos→yG cf j pos st=ym cf all (List.range' j pos.length) st
 | [],j,st,_=>by simp[yG,ym]
 | p :: pos, j, st, h => by
   have h1:all[j]? = some p:=by
    have:=aF List.head? h; simpa[List.head?_drop] using this
   have h2:all.drop (j+1)=pos:=by have:=aF List.tail h; simpa[List.tail_drop] using this
   simp only[yG,aI,List.range'_succ,ym,h1]
   congr 1
   funext st'
   exact HM h2
theorem KL {L:Nat→Option PFunc} (hF:x7 N P L) (hE:EnvOk E N) (hP:E.P=P) (nm:Names vs (wh vs ops.toList)) {cf:wm} (du:CallOK N P cf)
  (dZ:∀k args h r,cf k args h=some r→∃f,L k=some f) {pos:List PO} (hc:Cx E vs ops.toList ops.toList=some pos):
  ∀{l:List Nat} {st st':St} {w:World} {G:GS} {a:Act},ym cf pos l st=some st'→FI N w G st a vs (wh vs ops.toList)→Next1 N w G a st' vs ops.toList (Q .normal)→wpOps P ops Q l a w
 | [], st, st', w, G, a, h, hf, hk => by
   simp[ym] at h; subst h
   exact hk _ _ G hf (Ext.refl _ _) rfl
 | i :: l, st, st', w, G, a, h, hf, hk => by
   simp only[ym] at h
   split at h
   ·rename_i p hp
    simp only[ae] at h
    obtain⟨st1,h1,h2⟩:=h
    have cS:i<ops.toList.length:=by rw[(C2 hc).1]; exact(ai.1 hp).1
    obtain⟨p',eM,fN⟩:=(C2 hc).2 i ops.toList[i] (al cS)
    have:p'=p:=by rw[hp] at eM; simpa using eM.symm
    subst this
    rw[wpOps_cons]
    refine HP hF hE hP nm (o:=ops.toList[i]) (by simp) hf du dZ fN h1 ?_
    intro a' w' G' hZ he hs
    exact KL hF hE hP nm du dZ hc h2 hZ (hk.trans he hs)
   ·simp at h
end
theorem KN {t:Tmp} {vs:List Tmp} {i:Nat} (h:vs[i]? = some t):∀n,(xB t vs n).isSome=true:=by
 induction vs generalizing i with
 | nil=>simp at h
 | cons x xs ih =>
   intro n
   simp only[xB]
   split
   ·rfl
   ·rename_i cZ
    cases i with
    | zero=>simp at h; exact absurd h cZ
    | succ i=>exact ih (by simpa using h) (n+1)
theorem Q2 {vs:List Tmp}:∀{ops:List Oper},CZ vs ops=true→∀(j j':Nat) (o o':Oper) (t:Tmp),ops[j]? = some o→ops[j']? = some o'→o.dst=some t→o'.dst=some t→(xB t vs 0).isSome=false→j=j'
 | [],_,j,_,_,_,_,h,_,_,_,_=>by simp at h
 | x :: xs, h, j, j', o, o', t, h1, h2, h3, h4, h5 => by
   simp only[CZ,ak] at h
   obtain⟨ha,hb⟩:=h
   have key:∀(m:Nat) (p:Oper),xs[m]? = some p→x.dst=some t→p.dst≠some t:=by
    intro m p hm hx
    rw[hx] at ha
    simp only[h5,Bool.false_or,aK,bne_iff_ne,ne_eq] at ha
    exact ha p (av hm)
   cases j with
   | zero =>
     simp at h1; subst h1
     cases j' with
     | zero=>rfl
     | succ m=>exact absurd h4 (key m o' (by simpa using h2) h3)
   | succ m =>
     cases j' with
     | zero=>simp at h2; subst h2; exact absurd h3 (key m o (by simpa using h1) h4)
     | succ m'=>rw[Q2 hb m m' o o' t (by simpa using h1) (by simpa using h2) h3 h4 h5]
theorem HL {vs:List Tmp} {ops:List Oper} (hn:vs.Nodup) (ho:CZ vs ops=true):Names vs (wh vs ops):=by
 have sp:∀j t,wh vs ops j=some t→∃o,ops[j]? = some o∧o.dst=some t∧(xB t vs 0).isSome=false:=by
  intro j t h
  unfold wh at h
  split at h
  ·rename_i o ho
   split at h
   ·rename_i t' j4
    split at h
    ·simp at h
    ·rename_i hi
     simp at h; subst h
     exact⟨o,ho,j4,by simpa using hi⟩
   ·simp at h
  ·simp at h
 refine⟨?_,?_,?_⟩
 ·intro i i' t h1 h2
  obtain⟨hi,e1⟩:=ai.1 h1
  obtain⟨ii,e2⟩:=ai.1 h2
  exact(List.getElem_inj hn).1 (e1.trans e2.symm)
 ·intro j t i h1 h2
  obtain⟨o,_,_,h3⟩:=sp j t h1
  have:=KN h2 0
  rw[h3] at this; simp at this
 ·intro j j' t h1 h2
  obtain⟨o,a1,a2,a3⟩:=sp j t h1
  obtain⟨o',b1,b2,_⟩:=sp j' t h2
  exact Q2 ho j j' o o' t a1 b1 a2 b2 a3
abbrev Ib (p:PO) (st st':St):Prop:=Sim p.op (Ar p) st st'
theorem Ez (p:PO):∀x∈wN p.op,x∈Ar p:=λx hx=>by simp only[Ar,ay]; exact .inr hx
theorem Lp (o:POp):∀x∈yn o,x∈wN o:=by
 intro x hx
 cases o with
 | h o=>cases o<;>simp[yn,wN,xb] at hx ⊢; exact .inl hx
 | take y=>simpa[yn,wN] using hx
 | append a b c d=>simp[yn,wN] at hx ⊢; exact .inl hx
 | appstr a b=>simp[yn,wN] at hx ⊢; exact .inl hx
 | pcallx k xs own =>
   cases own with
   | none=>simp[yn] at hx
   | some i=>simp only[yn,Option.mem_toList] at hx; exact av hx
 | _=>simp[yn] at hx
theorem Qi {cf:wm} {j:Nat} {p:PO} {st st1:St} (hm:wU p.op≠2) (h:w9 cf j p st=some st1):
  ∃(d:Dm) (u:PV),st1=put (d.app st) j p.dst u∧z7 p.op d∧∀st',Ib p st st'→w9 cf j p st'=some (put (d.app st') j p.dst u):=by
 have run:(opv cf p.op st).map (λr=>put r.2 j p.dst r.1)=some st1→∃(d:Dm) (u:PV),st1=put (d.app st) j p.dst u∧z7 p.op d∧∀st',Ib p st st'→(opv cf p.op st').map (λr=>put r.2 j p.dst r.1)=some (put (d.app st') j p.dst u):=by
  intro h
  simp only[ab] at h
  obtain⟨⟨u,st2⟩,h1,rfl⟩:=h
  obtain⟨d,e,hf,hs⟩:=d08 (rs:=Ar p) hm (Ez p) h1
  exact ⟨d,u,by rw[e],hf,λst' dF=>by rw[hs st' dF]; rfl⟩
 unfold w9 at h
 split at h
 ·rename_i hg
  obtain⟨d,u,h1,h2,h3⟩:=run h
  exact ⟨d,u,h1,h2,λst' hs=>by simp only[w9,hg]; exact h3 st' hs⟩
 ·rename_i x want hg
  have hx:x∈Ar p:=by simp[Ar,hg]
  split at h
  ·rename_i b hb
   split at h
   ·rename_i mQ
    obtain⟨d,u,h1,h2,h3⟩:=run h
    refine⟨d,u,h1,h2,λst' hs =>?_⟩
    have da:rd st' x=some (.bool b):=by rw[← hs.rd hx]; exact hb
    simp only[w9,hg,da,ah mQ]
    exact h3 st' hs
   ·rename_i mQ
    simp only[aa] at h; subst h
    refine⟨.none,.tuple [],rfl,trivial,λst' hs =>?_⟩
    have da:rd st' x=some (.bool b):=by rw[← hs.rd hx]; exact hb
    simp only[w9,hg,da,af mQ]
    rfl
  ·rename_i hb
   simp only[aa] at h; subst h
   refine⟨.none,.tuple [],rfl,trivial,λst' hs =>?_⟩
   have da:rd st' x=some (.tuple []):=by rw[← hs.rd hx]; exact hb
   simp only[w9,hg,da]
   rfl
  ·simp at h
theorem Lq {st:St} {j:Nat} {d:PD} {u:PV} {x:PX} (h:isX d j x=false):raw (put st j d u) x=raw st x:=by
 cases d<;>cases x<;>simp[isX,yo] at h<;>simp only[put,raw]<;>first|rfl|(rw[aO]; simp[h])
theorem Qj (v:PV):vw (dem v)=vw v:=by cases v<;>rfl
theorem c0M (off:Nat) (v:PV):vw (Cc off v)=vw v:=by cases v<;>rfl
theorem c2v {y x:PX} (st:St) (h:yo y x=false):raw (yE y st) x=raw st x:=by
 cases y with
 | v i =>
   cases x with
   | v k=>simp[yo] at h; simp[yE,raw,bg,h]
   | _=>rfl
 | _=>cases x<;>rfl
theorem Lr:∀{xs:List PX} {x:PX} (st:St),(∀y∈xs,yo y x=false)→raw (x9 xs st) x=raw st x
 | [],_,_,_=>rfl
 | y :: xs, x, st, h => by
   simp only[x9]
   rw[Lr (xs:=xs) _ (λz hz=>h z (bx _ hz)),c2v st (h y (b8 ..))]
theorem Qk:∀(xs:List PX) (st:St),(x9 xs st).heap=st.heap
 | [],_=>rfl
 | x::xs,st=>by simp only[x9]; rw[Qk xs]; cases x<;>rfl
theorem Ls:∀(xs:List PX) (st:St) (h:List PObj),x9 xs { st with heap:=h }={ x9 xs st with heap:=h }
 | [],_,_=>rfl
 | x :: xs, st, h => by
   simp only[x9]
   rw[← Ls xs]
   cases x<;>rfl
theorem c0N (d:Dm) (st:St) (x:PX) (dY:∀xs,d = .shut xs→∀y∈xs,yo y x=false):(raw (d.app st) x).map vw=(raw st x).map vw:=by
 cases d with
 | none=>rfl
 | heap h=>cases x<;>rfl
 | shut xs=>simp only[Dm.app]; rw[Lr st (dY xs rfl)]
 | src y =>
   cases y with
   | c p=>rfl
   | v i =>
     cases x with
     | v k =>
       simp only[Dm.app,raw,bg]
       cases st.vars[k]?<;>simp
       split<;>simp[Qj]
     | _=>rfl
   | l i =>
     cases x with
     | l k =>
       simp only[Dm.app,raw,bg]
       cases st.locs[k]?<;>simp
       split<;>simp[Qj]
     | _=>rfl
 | cell s off =>
   cases x with
   | v k =>
     simp only[Dm.app,raw,bg]
     cases st.vars[k]?<;>simp
     split<;>simp[c0M]
   | _=>rfl
theorem b8R {o:POp} {d:Dm} (hd:z7 o d) (st:St) (x:PX) (hx:∀y∈yn o,yo y x=false) (dY:∀xs,d = .shut xs→∀y∈xs,yo y x=false) (es:List PV):raw (d.app st) x=some (.list true es)↔raw st x=some (.list true es):=by
 cases d with
 | none=>exact Iff.rfl
 | heap h=>cases x<;>exact Iff.rfl
 | shut xs=>simp only[Dm.app]; rw[Lr st (dY xs rfl)]
 | src y =>
   have hy:=hx y hd
   cases y with
   | c p=>exact Iff.rfl
   | v i =>
     cases x with
     | v k=>simp[yo] at hy; simp[Dm.app,raw,bg,hy]
     | _=>exact Iff.rfl
   | l i =>
     cases x with
     | l k=>simp[yo] at hy; simp[Dm.app,raw,bg,hy]
     | _=>exact Iff.rfl
 | cell s off =>
   cases x with
   | v k =>
     simp only[Dm.app,raw,bg]
     cases hv:st.vars[k]? with
     | none=>simp
     | some v =>
       simp only[aB,aa]
       split
       ·cases v<;>simp[Cc]
       ·simp
   | _=>exact Iff.rfl
theorem c7w (v:PV):dem (dem v)=dem v:=by cases v<;>rfl
theorem Lt (cs:List PV) (off:Nat):(cs.modify off dem).map dem=cs.map dem:=by
 apply bL
 intro k
 simp only[az,bg]
 cases cs[k]?<;>simp
 split<;>simp[c7w]
theorem Ql {o:POp} {d:Dm} (hd:z7 o d) (st:St) (exact:Bool) (he:exact=true→wU o≠3) (h4:wU o≠4):BG exact st (d.app st)∧BG exact (d.app st) st:=by
 have same:∀(st st':St),(∀s:Nat,∀g cs,st.vars[s]? = some (.loc g cs)→st'.vars[s]? = some (.loc g cs))→BG exact st st':=λst st' h s g cs hs=>⟨cs,h s g cs hs,rfl,λ_=>rfl⟩
 cases d with
 | none=>exact ⟨same _ _ (λ_ _ _ h=>h),same _ _ (λ_ _ _ h=>h)⟩
 | heap h=>exact ⟨same _ _ (λ_ _ _ h=>h),same _ _ (λ_ _ _ h=>h)⟩
 | shut xs=>exact absurd hd.1 h4
 | src y =>
   cases y with
   | c p=>exact ⟨same _ _ (λ_ _ _ h=>h),same _ _ (λ_ _ _ h=>h)⟩
   | l i=>exact ⟨same _ _ (λ_ _ _ h=>h),same _ _ (λ_ _ _ h=>h)⟩
   | v i =>
     refine⟨same _ _ ?_,same _ _ ?_⟩
     ·intro s g cs h
      simp only[Dm.app,bg,h,aB]
      split<;>rfl
     ·intro s g cs h
      simp only[Dm.app,bg] at h
      cases hv:st.vars[s]? with
      | none=>simp[hv] at h
      | some v =>
        rw[hv] at h
        simp only[cJ,aB,aa] at h
        split at h
        ·have:v = .loc g cs:=by cases v<;>simp_all [dem]
         rw[this]
        ·rw[h]
 | cell s off =>
   have h3:wU o=3:=hd
   have cZ:exact=false:=by
    cases exact with
    | false=>rfl
    | true=>exact absurd h3 (he rfl)
   subst cZ
   refine⟨?_,?_⟩
   ·intro k g cs h
    simp only[Dm.app,bg,h,aB]
    split
    ·exact ⟨cs.modify off dem,rfl,Lt cs off,by simp⟩
    ·exact ⟨cs,rfl,rfl,by simp⟩
   ·intro k g cs h
    simp only[Dm.app,bg] at h
    cases hv:st.vars[k]? with
    | none=>simp[hv] at h
    | some v =>
      rw[hv] at h
      simp only[cJ,aB,aa] at h
      split at h
      ·have:∃cs0,v = .loc g cs0∧cs0.modify off dem=cs:=by cases v<;>simp_all [Cc]
       obtain⟨cs0,rfl,rfl⟩:=this
       exact ⟨_,rfl,(Lt _ off).symm,by simp⟩
      ·exact ⟨cs,by rw[h],rfl,by simp⟩
structure Comm (jp:Nat) (p:PO) (jq:Nat) (q:PO):Prop where
 mp:wU p.op≠2
 mq:wU q.op≠2
 mm:¬(wU p.op=3∧wU q.op=3)
 pq:∀x∈Ar q,isX p.dst jp x=false
 pv:isV p.dst=true→wU q.op=0
 qp:∀x∈Ar p,isX q.dst jq x=false
 qv:isV q.dst=true→wU p.op=0
 dd:DG p.dst q.dst=false
 tt:∀x∈yn p.op,∀y∈yn q.op,yo x y=false
 m4:wU p.op=4→wU q.op=0
 n4:wU q.op=4→wU p.op=0
 h2:x8 p.op=2→x8 q.op=0
 k2:x8 q.op=2→x8 p.op=0
 sp:∀x∈C8 p.op,∀y∈Ar q,yo x y=false
 sq:∀x∈C8 q.op,∀y∈Ar p,yo x y=false
theorem c0O (x y:PX):yo x y=yo y x:=by cases x<;>cases y<;>simp[yo]<;>exact Bool.beq_comm
theorem Qm (x y:PD):DG x y=DG y x:=by cases x<;>cases y<;>simp[DG]<;>exact Bool.beq_comm
theorem c2x {jp jq:Nat} {p q:PO} (h:HY jp p jq q=true):Comm jp p jq q:=by
 simp only[HY,Ef,ak,bC,bne_iff_ne,ne_eq,aK,bH,br,Bool.and_eq_false_iff,beq_eq_false_iff_ne,bne_eq_false_iff_eq,List.any_eq_false] at h
 obtain⟨⟨⟨⟨⟨⟨⟨⟨⟨⟨⟨⟨h1,h2⟩,h3⟩,a1⟩,a2⟩,a3⟩,a4⟩,a5⟩,a6⟩,h4,h5⟩,h6,h7⟩,h8⟩,h9⟩:=h
 have neg:∀{a b:Nat} {c:Nat},(¬a=c∨b=0)→a=c→b=0:=by
  intro a b c h e
  rcases h with h|h
  ·exact absurd e h
  ·exact h
 refine⟨h1,h2,?_,h4,?_,h6,?_,h8,?_,neg a1,neg a2,neg a3,neg a4,?_,?_⟩
 ·rintro⟨a,b⟩; rcases h3 with h3|h3
  ·exact h3 a
  ·exact h3 b
 ·intro hv; rcases h5 with h5|h5
  ·rw[hv] at h5; simp at h5
  ·exact h5
 ·intro hv; rcases h7 with h7|h7
  ·rw[hv] at h7; simp at h7
  ·exact h7
 ·intro x hx y hy
  simpa using h9 x hx y hy
 ·intro x hx y hy
  simpa using a5 x hx y hy
 ·intro x hx y hy
  simpa using a6 x hx y hy
theorem Comm.symm {jp jq:Nat} {p q:PO} (h:Comm jp p jq q):Comm jq q jp p:=
 ⟨h.mq,h.mp,fun⟨a,b⟩=>h.mm ⟨b,a⟩,h.qp,h.qv,h.pq,h.pv,by rw[Qm]; exact h.dd,λx hx y hy=>by rw[c0O]; exact h.tt y hy x hx,h.n4,h.m4,h.k2,h.h2,h.sq,h.sp⟩
theorem Qn:∀(xs:List PX) (st:St) (s:Nat),(∀y∈xs,yo y (.v s)=false)→(x9 xs st).vars[s]? = st.vars[s]?
 | [],_,_,_=>rfl
 | x :: xs, st, s, h => by
   simp only[x9]
   rw[Qn xs _ s (λy hy=>h y (by simp[hy]))]
   have:=h x (by simp)
   cases x with
   | v i =>
     have cZ:¬i=s:=by simpa[yo] using this
     simp only[yE,bg,af cZ]
     cases st.vars[s]?<;>rfl
   | l i=>rfl
   | c p=>rfl
theorem c4u {o:POp} {d:Dm} (hd:z7 o d) (st:St) (s:Nat) (dY:∀xs,d = .shut xs→∀y∈xs,yo y (.v s)=false):C9 s st (d.app st)∧C9 s (d.app st) st:=by
 have by_loc:wU o≠4→C9 s st (d.app st)∧C9 s (d.app st) st:=by
  intro h4
  obtain⟨h1,h2⟩:=Ql hd st false (by simp) h4
  exact ⟨λg cs h=>let ⟨cs',a,b,_⟩:=h1 s g cs h; ⟨cs',a,b⟩,λg cs h=>let ⟨cs',a,b,_⟩:=h2 s g cs h; ⟨cs',a,b⟩⟩
 cases d with
 | none=>exact ⟨λg cs h=>⟨cs,h,rfl⟩,λg cs h=>⟨cs,h,rfl⟩⟩
 | heap h=>exact ⟨λg cs h=>⟨cs,h,rfl⟩,λg cs h=>⟨cs,h,rfl⟩⟩
 | shut xs =>
   have:=Qn xs st s (dY xs rfl)
   exact ⟨λg cs h=>⟨cs,by simp only[Dm.app]; rw[this]; exact h,rfl⟩,λg cs h=>⟨cs,by simp only[Dm.app] at h; rw[this] at h; exact h,rfl⟩⟩
 | src y =>
   refine by_loc ?_
   have hy:y∈yn o:=hd
   intro h4
   cases o<;>simp[yn] at hy<;>simp[wU] at h4
   case h o=>cases o<;>simp[yn] at hy<;>simp[wU] at h4
   all_goals (try (split at h4<;>simp at h4))
 | cell s' off =>
   refine by_loc ?_
   have h3:wU o=3:=hd
   omega
theorem Qo {jp jq:Nat} {p q:PO} (hc:Comm jp p jq q) {d:Dm} (hd:z7 p.op d) (st:St) (u:PV):Ib q st (put (d.app st) jp p.dst u)∧Ib q (put (d.app st) jp p.dst u) st:=by
 have dY:∀x∈Ar q,∀xs,d = .shut xs→∀y∈xs,yo y x=false:=by
  intro x hx xs e y hy
  subst e
  exact hc.sp y (hd.2▸hy) x hx
 have km:∀x∈Ar q,(raw st x).map vw=(raw (put (d.app st) jp p.dst u) x).map vw:=λx hx=>by
  rw[Lq (hc.pq x hx),c0N d st x (dY x hx)]
 have ko:∀x∈yn q.op,∀es,raw st x=some (.list true es)↔raw (put (d.app st) jp p.dst u) x=some (.list true es):=λx hx es=>by
  rw[Lq (hc.pq x (Ez q x (Lp _ x hx))),b8R hd st x (λy hy=>hc.tt y hy x hx) (dY x (Ez q x (Lp _ x hx)))]
 have eS:1≤wU q.op→BG (wU q.op==3) st (put (d.app st) jp p.dst u)∧BG (wU q.op==3) (put (d.app st) jp p.dst u) st:=λh1=>by
  have hv:(put (d.app st) jp p.dst u).vars=(d.app st).vars:=by
   cases hd:p.dst with
   | v i=>have:=hc.pv (by rw[hd]; rfl); omega
   | l=>rfl
   | n=>rfl
  have:=Ql hd st (wU q.op==3) (λhe h3=>hc.mm ⟨h3,by simpa using he⟩) (λh4=>by have:=hc.m4 h4; omega)
  unfold BG at this ⊢
  rw[hv]
  exact this
 have d8:1≤x8 q.op→(put (d.app st) jp p.dst u).heap=st.heap:=by
  intro h1
  have hp:(put (d.app st) jp p.dst u).heap=(d.app st).heap:=by cases p.dst<;>rfl
  rw[hp]
  cases d with
  | none=>rfl
  | src y=>cases y<;>rfl
  | cell s off=>rfl
  | heap h=>have:=hc.h2 hd; omega
  | shut xs=>exact Qk xs st
 have lT:∀s,Li q.op=some s→C9 s st (put (d.app st) jp p.dst u)∧C9 s (put (d.app st) jp p.dst u) st:=by
  intro s hs
  have hx:PX.v s∈Ar q:=by
   refine Ez q _ ?_
   cases hq:q.op<;>rw[hq] at hs<;>simp[Li] at hs
   subst hs
   simp[wN]
  have hp:(put (d.app st) jp p.dst u).vars[s]? = (d.app st).vars[s]? := by
   have h1:=hc.pq _ hx
   cases gm:p.dst with
   | v i =>
     rw[gm] at h1
     have cZ:¬i=s:=by simpa[isX,yo] using h1
     simp only[put,aO,af cZ]
   | l=>rfl
   | n=>rfl
  obtain⟨h1,h2⟩:=c4u hd st s (λxs e y hy=>dY _ hx xs e y hy)
  refine⟨λg cs h =>?_,λg cs h =>?_⟩
  ·obtain⟨cs',a,b⟩:=h1 g cs h
   exact ⟨cs',by rw[hp]; exact a,b⟩
  ·rw[hp] at h
   exact h2 g cs h
 exact ⟨⟨km,ko,λh=>(eS h).1,d8,lT⟩,⟨λx hx=>(km x hx).symm,λx hx es=>(ko x hx es).symm,λh=>(eS h).2,λh=>(d8 h).symm,λs hs=>(lT s hs).symm⟩⟩
theorem Gb (l:List PV) (i k:Nat) (f g:PV→PV) (h:i=k→∀v,f (g v)=g (f v)):(l.modify i f).modify k g=(l.modify k g).modify i f:=by
 apply bL
 intro m
 simp only[bg,cJ,aD]
 cases l[m]? with
 | none=>rfl
 | some v =>
   simp only[aB,Function.comp]
   by_cases h1:i=m<;>by_cases h2:k=m<;>simp[h1,h2]
   exact (h (by omega) v).symm
theorem Qp (off:Nat) (v:PV):dem (Cc off v)=Cc off (dem v):=by cases v<;>rfl
theorem c2y (v:PV):Cd (dem v)=dem (Cd v):=by cases v<;>rfl
theorem b5O (off:Nat) (v:PV):Cd (Cc off v)=Cc off (Cd v):=by
 cases v<;>simp[Cc,Cd,Lt]
theorem c2z (x y:PX) (st:St):yE x ((Dm.src y).app st)=(Dm.src y).app (yE x st):=by
 cases x<;>cases y<;>(try simp only[Dm.app,yE])<;>(try rfl)
 rw[Gb]; intro _ v; exact (c2y v).symm
theorem c0P (x:PX) (s off:Nat) (st:St):yE x ((Dm.cell s off).app st)=(Dm.cell s off).app (yE x st):=by
 cases x<;>(try simp only[Dm.app,yE])<;>(try rfl)
 rw[Gb]; intro _ v; exact (b5O off v).symm
theorem Lu:∀(xs:List PX) (y:PX) (st:St),x9 xs ((Dm.src y).app st)=(Dm.src y).app (x9 xs st)
 | [],_,_=>rfl
 | x::xs,y,st=>by simp only[x9]; rw[c2z,Lu xs]
theorem Lv:∀(xs:List PX) (s off:Nat) (st:St),x9 xs ((Dm.cell s off).app st)=(Dm.cell s off).app (x9 xs st)
 | [],_,_,_=>rfl
 | x::xs,s,off,st=>by simp only[x9]; rw[c0P,Lv xs]
theorem c7x {o o':POp} {d d':Dm} (hd:z7 o d) (gm:z7 o' d') (hm:¬(wU o=3∧wU o'=3)) (h4:wU o=4→wU o'=0) (h2:x8 o=2→x8 o'=0) (st:St):d.app (d'.app st)=d'.app (d.app st):=by
 cases d with
 | none=>rfl
 | heap h =>
   cases d' with
   | none=>rfl
   | src y=>cases y<;>rfl
   | cell s off=>rfl
   | heap h' =>
     have a:=h2 hd
     have b:x8 o'=2:=gm
     omega
   | shut xs=>exact (Ls xs st h).symm
 | shut xs =>
   cases d' with
   | none=>rfl
   | src y=>exact Lu xs y st
   | cell s off=>exact Lv xs s off st
   | heap h'=>exact Ls xs st h'
   | shut ys =>
     have a:=h4 hd.1
     have b:wU o'=4:=gm.1
     omega
 | src y =>
   cases d' with
   | heap h'=>cases y<;>rfl
   | shut xs=>exact (Lu xs y st).symm
   | none=>rfl
   | src y' =>
     cases y<;>cases y'<;>(try simp only[Dm.app])<;>(try rfl)<;>(rw[Gb]; intro _ v; rfl)
   | cell s off =>
     cases y<;>(try simp only[Dm.app])<;>(try rfl)
     rw[Gb]; intro _ v; exact (Qp off v).symm
 | cell s off =>
   cases d' with
   | heap h'=>rfl
   | shut xs=>exact (Lv xs s off st).symm
   | none=>rfl
   | src y' =>
     cases y'<;>(try simp only[Dm.app])<;>(try rfl)
     rw[Gb]; intro _ v; exact Qp off v
   | cell s' off'=>exact absurd ⟨hd,gm⟩ hm
theorem Lw (l:List PV) (i k:Nat) (f:PV→PV) (u:PV) (h:i≠k):(l.set i u).modify k f=(l.modify k f).set i u:=by
 apply bL
 intro m
 simp only[bg,aO,List.length_modify]
 by_cases h1:i=m
 ·subst h1
  have:¬k=i:=λe=>h e.symm
  simp[this]
 ·simp[h1]
theorem c2A {x:PX} {j:Nat} {d:PD} (st:St) (u:PV) (h:isX d j x=false):yE x (put st j d u)=put (yE x st) j d u:=by
 cases x with
 | v k =>
   cases d with
   | v i=>simp[isX,yo] at h; simp only[yE,put]; rw[Lw _ _ _ _ _ h]
   | _=>rfl
 | _=>cases d<;>rfl
theorem Qq:∀{xs:List PX} {j:Nat} {d:PD} (st:St) (u:PV),(∀x∈xs,isX d j x=false)→x9 xs (put st j d u)=put (x9 xs st) j d u
 | [],_,_,_,_,_=>rfl
 | x :: xs, j, d, st, u, h => by
   simp only[x9]
   rw[c2A st u (h x (b8 ..)),Qq _ _ (λy hy=>h y (bx _ hy))]
theorem c2B (o:POp):∀x∈C8 o,x∈wN o:=by
 intro x hx
 cases o with
 | h o=>cases o<;>simp[C8,wN,xb] at hx ⊢; exact hx
 | _=>simp[C8] at hx
theorem Qr {p:PO} {q:PO} {jp jq:Nat} (hc:Comm jp p jq q) {d:Dm} (hd:z7 p.op d) (st:St) (u:PV):d.app (put st jq q.dst u)=put (d.app st) jq q.dst u:=by
 cases d with
 | none=>rfl
 | heap h=>cases q.dst<;>rfl
 | shut xs=>exact Qq st u (λx hx=>hc.qp x (Ez p x (c2B _ x (hd.2▸hx))))
 | src y =>
   have hy:=hc.qp y (Ez p y (Lp _ y hd))
   cases hq:q.dst with
   | n=>rfl
   | v i =>
     rw[hq] at hy
     cases y with
     | c z=>rfl
     | l k=>rfl
     | v k=>simp[isX,yo] at hy; simp only[Dm.app,put]; rw[Lw _ _ _ _ _ hy]
   | l =>
     rw[hq] at hy
     cases y with
     | c z=>rfl
     | v k=>rfl
     | l k=>simp[isX,yo] at hy; simp only[Dm.app,put]; rw[Lw _ _ _ _ _ hy]
 | cell s off =>
   cases hq:q.dst with
   | n=>rfl
   | l=>rfl
   | v i =>
     have h0:=hc.qv (by rw[hq]; rfl)
     have h3:wU p.op=3:=hd
     omega
theorem c7y {jp jq:Nat} {d d':PD} (hj:jp≠jq) (h:DG d d'=false) (st:St) (u u':PV):put (put st jp d u) jq d' u'=put (put st jq d' u') jp d u:=by
 cases d<;>cases d'<;>simp[DG] at h<;>simp only[put]<;>(try rfl)
 ·rw[List.set_comm _ _ h]
 ·rw[List.set_comm _ _ hj]
theorem swap {cf:wm} {jp jq:Nat} {p q:PO} (hj:jp≠jq) (hc:Comm jp p jq q) {st st1 st2:St} (h1:w9 cf jp p st=some st1) (h2:w9 cf jq q st1=some st2):
  ∃st1',w9 cf jq q st=some st1'∧w9 cf jp p st1'=some st2:=by
 obtain⟨d,u,e1,f1,s1⟩:=Qi hc.mp h1
 obtain⟨d',u',e2,f2,s2⟩:=Qi hc.mq h2
 subst e1
 have hq:=s2 st (Qo hc f1 st u).2
 refine⟨_,hq,?_⟩
 have hp:=s1 _ (Qo hc.symm f2 st u').1
 rw[hp,e2]
 congr 1
 rw[Qr hc f1,Qr hc.symm f2,c7x f1 f2 hc.mm hc.m4 hc.h2]
 exact c7y (λe=>hj e.symm) (by rw[Qm]; exact hc.dd) _ _ _
def Ic (p:PO):Option (Nat×Bool×PX):=
 match p with
 | ⟨.l,.h (.load sz agg x false),none⟩=>some (sz,agg,x)
 | _=>none
def Id (p:PO):Option PX:=
 match p with
 | ⟨.l,.h (.loadn y),none⟩=>some y
 | _=>none
def HV (jp:Nat) (p:PO) (jq:Nat) (q:PO):Bool:=
 match Ic p,Id q with
 | some (_,_,x),some y => !isX .l jp y && !isX .l jq x
 | _, _ => match Id p, Ic q with
   | some y,some (_,_,x) => !isX .l jp x && !isX .l jq y
   | _,_=>false
def Ew (jp:Nat) (p:PO) (jq:Nat) (q:PO):Bool:=HY jp p jq q||HV jp p jq q
theorem HW {p:PO} {r} (h:Ic p=some r):p=⟨.l,.h (.load r.1 r.2.1 r.2.2 false),none⟩:=by
 unfold Ic at h
 split at h
 ·cases h; rfl
 ·cases h
theorem HX {p:PO} {y} (h:Id p=some y):p=⟨.l,.h (.loadn y),none⟩:=by
 unfold Id at h
 split at h
 ·cases h; rfl
 ·cases h
def ldv (sz:Nat) (agg:Bool) (st:St):Option PV→Option PV
 | some (.cptr cs)=>wq sz agg cs 0
 | some (.ptr n off)=>(wR st n).bind λcs=>wq sz agg cs off
 | _=>none
theorem Qs {cf:wm} (sz:Nat) (agg:Bool) (x:PX) (st:St):opv cf (.h (.load sz agg x false)) st=(ldv sz agg st (addr st x)).map (·,st):=by
 simp only[opv,wi,bG]
 cases addr st x with
 | none=>rfl
 | some v =>
   cases v<;>try rfl
   simp only[ldv]
   cases wR st _<;>rfl
def lnv (st:St):Option PV→Option (PV×List PObj)
 | some (.ptr n off) => (wR st n).bind fun cs => match cs[off]? with
   | some (.list true es)=>some (.list true es,st.heap.set n (.cells (cs.set off (.list false es))))
   | some .nils=>some (.list true [],st.heap)
   | _=>none
 | _=>none
theorem Qt {cf:wm} (y:PX) (st:St):opv cf (.h (.loadn y)) st=(lnv st (addr st y)).map λr=>(r.1,{ st with heap:=r.2 }):=by
 simp only[opv,wi]
 cases addr st y with
 | none=>rfl
 | some v =>
   cases v<;>try rfl
   rename_i n off
   simp only[lnv]
   cases wR st n with
   | none=>rfl
   | some cs =>
     simp only[an]
     cases cs[off]? with
     | none=>rfl
     | some z =>
       cases z<;>try rfl
       rename_i b es
       cases b<;>rfl
theorem Qu {sz:Nat} {agg:Bool} {st:St} {a b:Option PV} {r} (h:lnv st b=some r):ldv sz agg { st with heap:=r.2 } a=ldv sz agg st a:=by
 cases b with
 | none=>simp[lnv] at h
 | some v =>
   cases v<;>simp only[lnv] at h<;>try (cases h; done)
   rename_i n off
   cases hg:wR st n with
   | none=>rw[hg] at h; cases h
   | some cs =>
     rw[hg] at h
     simp only[an] at h
     split at h
     ·rename_i es fA
      cases h
      cases a with
      | none=>rfl
      | some v =>
        cases v<;>try rfl
        rename_i m off'
        simp only[ldv]
        have hcell:st.heap[n]? = some (.cells cs):=by
         unfold wR at hg
         split at hg
         ·cases hg; assumption
         ·cases hg
        have hn:n<st.heap.length:=(ai.1 hcell).1
        by_cases hm:n=m
        ·subst hm
         have e1:wR { st with heap:=st.heap.set n (.cells (cs.set off (.list false es))) } n=some (cs.set off (.list false es)):=by simp[wR,hn]
         rw[e1,hg]
         simp only[an]
         refine Lm ?_
         rw[List.map_set]
         symm
         have ho:off<cs.length:=(ai.1 fA).1
         have h2:cs[off] = .list true es:=(ai.1 fA).2
         apply bL
         intro i
         rw[aO]
         split
         ·rename_i e; subst e
          simp[ho,h2,dem]
         ·rfl
        ·have e1:wR { st with heap:=st.heap.set n (.cells (cs.set off (.list false es))) } m=wR st m:=by simp[wR,hm]
         rw[e1]
     ·cases h; rfl
     ·cases h
theorem Ie {st:St} {j:Nat} {v:PV} {x:PX} {h:List PObj} (hx:isX .l j x=false):addr { st with locs:=st.locs.set j v,heap:=h } x=addr st x:=by
 have:=Lq (st:=st) (j:=j) (d := .l) (u:=v) hx
 rw[H2,H2,← this]
 cases x<;>rfl
theorem d4C {cf:wm} {jp jq:Nat} {p q:PO} (hj:jp≠jq) (hc:HV jp p jq q=true) {st st1 st2:St} (h1:w9 cf jp p st=some st1) (h2:w9 cf jq q st1=some st2):
  ∃st1',w9 cf jq q st=some st1'∧w9 cf jp p st1'=some st2:=by
 unfold HV at hc
 split at hc
 ·rename_i sz agg x y hp hq
  simp only[ak,bC] at hc
  rw[HW hp] at h1 ⊢
  rw[HX hq] at h2 ⊢
  simp only[w9,Qs,Qt,aD,ab] at h1 h2 ⊢
  obtain⟨v,hv,rfl⟩:=h1
  obtain⟨r,hr,rfl⟩:=h2
  simp only[Function.comp,put] at hr ⊢
  rw[Ie (h:=st.heap) hc.1] at hr
  refine⟨_,⟨r,hr,rfl⟩,v,?_,?_⟩
  ·rw[Ie hc.2]
   exact (Qu hr).trans hv
  ·simp only[List.set_comm _ _ hj]
 ·split at hc
  ·rename_i y sz agg x hp hq
   simp only[ak,bC] at hc
   rw[HX hp] at h1 ⊢
   rw[HW hq] at h2 ⊢
   simp only[w9,Qs,Qt,aD,ab] at h1 h2 ⊢
   obtain⟨r,hr,rfl⟩:=h1
   obtain⟨v,hv,rfl⟩:=h2
   simp only[Function.comp,put] at hv ⊢
   rw[Ie hc.1] at hv
   refine⟨_,⟨v,(Qu hr).symm.trans hv,rfl⟩,r,?_,?_⟩
   ·rw[Ie (h:=st.heap) hc.2]
    exact hr
   ·simp only[List.set_comm _ _ hj]
  ·cases hc
theorem d4D {cf:wm} {jp jq:Nat} {p q:PO} (hj:jp≠jq) (hc:Ew jp p jq q=true) {st st1 st2:St} (h1:w9 cf jp p st=some st1) (h2:w9 cf jq q st1=some st2):
  ∃st1',w9 cf jq q st=some st1'∧w9 cf jp p st1'=some st2:=by
 rcases Bool.or_eq_true_iff.1 hc with h|h
 ·exact swap hj (c2x h) h1 h2
 ·exact d4C hj h h1 h2
theorem Lf {cf:wm} {pos:List PO} {i:Nat} {q:PO} (hi:pos[i]? = some q) {post:List Nat}:∀{pre:List Nat} {st st':St},(∀j∈pre,j≠i∧∀p,pos[j]? = some p→Ew j p i q=true) →
  ym cf pos (pre++i::post) st=some st'→ym cf pos (i::(pre++post)) st=some st'
 | [],st,st',_,h=>h
 | j :: pre, st, st', hc, h => by
   simp only[aL,ym] at h
   split at h
   ·rename_i p hp
    simp only[ae] at h
    obtain⟨st1,h1,h2⟩:=h
    have ih:=Lf hi (λj' lU=>hc j' (by simp[lU])) h2
    simp only[ym,hi,ae] at ih
    obtain⟨st2,h3,h4⟩:=ih
    obtain⟨hj,gg⟩:=hc j (by simp)
    obtain⟨st1',h5,h6⟩:=d4D hj (gg p hp) h1 h3
    simp only[aL,ym,hi,hp,h5,an,h6]
    exact h4
   ·simp at h
inductive Pre (ops:Array Oper):Nat→Nat→Prop where
 | edge {i:Nat} {o:Oper} {e:Edge} (ho:ops[i]? = some o) (he:e∈o.after) (hb:Region.binds .any e=true):Pre ops e.on i
 | far {i j:Nat} {o:Oper} {e:Edge} (ho:ops[i]? = some o) (he:e∈o.after) (hb:Region.binds .any e=true) (h:Pre ops j e.on):Pre ops j i
def If {α:Type} (m:Nat) (f:Nat→α):α:=
 match m with
 | 0=>f 0
 | n+1=>f (n+1)
theorem HZ {α:Type} (m:Nat) (f:Nat→α):If m f=f m:=by cases m<;>rfl
def wide:Nat:=1024
def Gd (M:Nat):List Edge→Nat→Nat
 | [],m=>m
 | e::es,m=>if Region.binds .any e then If (m ||| 1 <<< e.on ||| M >>> (e.on*1024) % 2 ^ wide) (Gd M es) else Gd M es m
def rows:List Oper→Nat→Nat→Nat
 | [],_,M=>M
 | o::os,i,M=>If (M ||| (Gd M o.after.toList 0 % 2 ^ wide) <<< (i*1024)) (rows os (i+1))
def F9 (ops:Array Oper) (M:Nat):Prop:=∀i j,j<1024→M.testBit (i*1024+j)=true→Pre ops j i
theorem Lx {ops:Array Oper} {M:Nat} (hM:F9 ops M) {i:Nat} {o:Oper} (ho:ops[i]? = some o):∀(es:List Edge) (m:Nat),(∀e∈es,e∈o.after)→(∀j,j<1024→m.testBit j=true→Pre ops j i)→∀j,j<1024→(Gd M es m).testBit j=true→Pre ops j i
 | [],m,_,hm=>hm
 | e :: es, m, fA, hm => by
   intro j hj h
   simp only[Gd] at h
   split at h
   ·rename_i hb
    rw[HZ] at h
    refine Lx hM ho es _ (λx hx=>fA x (by simp[hx])) ?_ j hj h
    intro k hk ey
    simp only[Nat.testBit_or,bH] at ey
    rcases ey with(ey|ey)|ey
    ·exact hm k hk ey
    ·rw[Nat.one_shiftLeft,Nat.testBit_two_pow] at ey
     have:e.on=k:=by simpa using ey
     exact this▸Pre.edge ho (fA e (by simp)) hb
    ·rw[Nat.testBit_mod_two_pow,Nat.testBit_shiftRight] at ey
     simp only[ak] at ey
     exact Pre.far ho (fA e (by simp)) hb (hM e.on k hk ey.2)
   ·exact Lx hM ho es m (λx hx=>fA x (by simp[hx])) hm j hj h
theorem Lg {ops:Array Oper}:∀(os:List Oper) (i M:Nat),(∀k,os[k]? = ops[i+k]?)→F9 ops M→F9 ops (rows os i M)
 | [],_,_,_,hM=>hM
 | o :: os, i, M, hs, hM => by
   simp only[rows,HZ]
   have ho:ops[i]? = some o:=by simpa using(hs 0).symm
   refine Lg os (i+1) _ (λk=>by have:=hs (k+1); simp only[bY] at this; rw[this]; congr 1; omega) ?_
   intro a j hj h
   simp only[Nat.testBit_or,bH] at h
   rcases h with h|h
   ·exact hM a j hj h
   ·rw[Nat.testBit_shiftLeft,Nat.testBit_mod_two_pow] at h
    simp only[ak,aw] at h
    obtain⟨h1,h2,h3⟩:=h
    have hw:wide=1024:=rfl
    have ha:a=i:=by omega
    subst ha
    rw[Nat.add_sub_cancel_left] at h3
    exact Lx hM ho o.after.toList 0 (by simp) (by simp) j hj h3
def Ga (M:Nat) (pos:List PO) (i j:Nat):Bool:=
 (match pos[j]?,pos[i]? with
 | some p,some q=>Ew j p i q
 | _,_=>false)||(decide (j<1024)&&M.testBit (i*1024+j))
def Lh (ops:Array Oper) (pos:List PO) (M:Nat):Bool:=
 (List.range ops.size).all λi=>(match ops[i]? with | some o=>o.after.all (λe => !Region.binds .any e||decide (e.on<i)) | none=>true)&&(List.range i).all (Ga M pos i)
def C0 (ops:Array Oper) (pos:List PO):Bool:=If (rows ops.toList 0 0) (Lh ops pos)
def HK (ops:Array Oper) (listed:Array Bool):Prop:=
 ∀(k:Nat) (o:Oper),ops[k]? = some o→listed.getD k false=true→∀e∈o.after,Region.binds .any e=true→listed.getD e.on false=true
theorem Qg {ops:Array Oper} {listed:Array Bool} (dt:HK ops listed) {j i:Nat} (h:Pre ops j i):∀{o:Oper},ops[i]? = some o→(∀e∈o.after,Region.binds .any e=true→listed.getD e.on false=true)→listed.getD j false=true:=by
 induction h with
 | edge ho he hb=>intro o eN hl; rw[ho] at eN; cases eN; exact hl _ he hb
 | @far i j o1 e ho he hb hp ih =>
   intro o eN hl; rw[ho] at eN; cases eN
   have mw:=hl _ he hb
   cases h':ops[e.on]? with
   | none => exfalso; cases hp with
     | edge h1=>rw[h'] at h1; cases h1
     | far h1=>rw[h'] at h1; cases h1
   | some o'=>exact ih h' (dt e.on o' h' mw)
def xC (n:Nat) (listed:Array Bool):List Nat:=(List.range n).filter λi => !listed.getD i false
theorem Qf {l:List Nat} {f:Nat→Bool} {i:Nat} (hs:l.Pairwise (·<·)) (hi:i∈l) (hf:f i=true):
  ∃pre post,l.filter f=pre++i::post∧(∀j∈pre,j<i∧j∈l∧f j=true)∧l.filter (λk=>f k&&k != i)=pre++post:=by
 induction l with
 | nil=>simp at hi
 | cons x xs ih =>
   rw[cn] at hs
   rcases aC.1 hi with rfl|hi
   ·refine⟨[],xs.filter f,by simp[hf],by simp,?_⟩
    simp only[List.filter_cons,hf,bne_self_eq_false,Bool.and_false,aH,if_false,aY]
    apply List.filter_congr
    intro k hk
    have:k≠i:=λe=>by have:=hs.1 k hk; omega
    simp[this]
   ·obtain⟨pre,post,h1,h2,h3⟩:=ih hs.2 hi
    have cS:=hs.1 i hi
    have cZ:(x != i)=true:=by simp; omega
    by_cases hx:f x=true
    ·refine⟨x::pre,post,by simp[hx,h1],?_,by simp[List.filter_cons,hx,cZ,h3]⟩
     intro j hj
     rcases aC.1 hj with rfl|hj
     ·exact ⟨cS,by simp,hx⟩
     ·obtain⟨a,b,c⟩:=h2 j hj
      exact ⟨a,by simp[b],c⟩
    ·refine⟨pre,post,by simp[hx,h1],?_,by simp[List.filter_cons,hx,h3]⟩
     intro j hj
     obtain⟨a,b,c⟩:=h2 j hj
     exact ⟨a,by simp[b],c⟩
section
variable {E:Env} {N:Nm} {vs:List Tmp} {P:Program} {ops:Array Oper} {Q:Exit→Act→World→Prop}
theorem c2G {L:Nat→Option PFunc} (hF:x7 N P L) (hE:EnvOk E N) (hP:E.P=P) (nm:Names vs (wh vs ops.toList)) {cf:wm} (du:CallOK N P cf)
  (dZ:∀k args h r,cf k args h=some r→∃f,L k=some f) {pos:List PO} (hc:Cx E vs ops.toList ops.toList=some pos) (fq:C0 ops pos=true):
  ∀ (fuel : Nat) {listed : Array Bool} {st st' : St} {w : World} {G : GS} {a : Act}, listed.size = ops.size → (xC ops.size listed).length ≤ fuel → HK ops listed → ym cf pos (xC ops.size listed) st = some st' →
    FI N w G st a vs (wh vs ops.toList)→Next1 N w G a st' vs ops.toList (Q .normal)→wpAny P .any ops Q fuel listed a w:=by
 have cO:ops.size=pos.length:=by have:=(C2 hc).1; simpa using this
 have rT:F9 ops (rows ops.toList 0 0):=Lg _ _ _ (by simp) (λi j _ h=>by simp at h)
 have fq:Lh ops pos (rows ops.toList 0 0)=true:=by rw[C0,HZ] at fq; exact fq
 have ki:∀i o,ops[i]? = some o→∀e∈o.after,Region.binds .any e=true→e.on<i:=by
  intro i o ho e he hb
  have hi:i<ops.size:=(aV.1 ho).1
  have:=aK.1 fq i (by simpa using hi)
  simp only[ho,ak,Array.all_eq_true_iff_forall_mem] at this
  have:=this.1 e he
  simpa[hb] using this
 have kj:∀i j,i<ops.size→j<i→Ga (rows ops.toList 0 0) pos i j=true:=by
  intro i j hi hj
  have:=aK.1 fq i (by simpa using hi)
  simp only[ak] at this
  exact aK.1 this.2 j (by simpa using hj)
 have iT:∀{listed:Array Bool},listed.size=ops.size→Region.ready .any ops listed=[]→xC ops.size listed=[]:=by
  intro listed cV hr
  rcases List.eq_nil_or_concat (xC ops.size listed) with h|⟨_,_,h⟩
  ·exact h
  ·exfalso
   cases eP:xC ops.size listed with
   | nil=>rw[eP] at h; simp at h
   | cons m rest =>
     have hm:m∈xC ops.size listed:=by rw[eP]; simp
     simp only[xC,List.mem_filter,List.mem_range,bC] at hm
     have iu:(xC ops.size listed).Pairwise (·<·):=List.Pairwise.filter _ List.pairwise_lt_range
     rw[eP,cn] at iu
     have lz:m∈Region.ready .any ops listed:=by
      rw[mem_ready]
      refine⟨?_,ops[m],by simp[hm.1],?_⟩
      ·have:=hm.2
       simp only[aT] at this ⊢
       have cS:m<listed.size:=by omega
       simpa[cS] using this
      ·intro e he hb
       have cS:=ki m ops[m] (by simp[hm.1]) e he hb
       cases hl:listed.getD e.on false with
       | true=>rfl
       | false =>
         have dI:e.on∈xC ops.size listed:=by
          simp only[xC,List.mem_filter,List.mem_range,hl,Bool.not_false,and_true]
          omega
         rw[eP] at dI
         rcases aC.1 dI with h|h
         ·omega
         ·have:=iu.1 _ h; omega
     rw[hr] at lz
     simp at lz
 intro fuel
 induction fuel with
 | zero =>
   intro listed st st' w G a cV hl dt hx hf hk
   have h0:xC ops.size listed=[]:=bu.1 (by omega)
   rw[h0] at hx
   simp[ym] at hx; subst hx
   refine⟨?_,hk _ _ G hf (Ext.refl _ _) rfl⟩
   refine List.eq_nil_iff_forall_not_mem.2 λi hi =>?_
   rw[mem_ready] at hi
   obtain⟨fY,o,ho,_⟩:=hi
   have cS:i<ops.size:=(aV.1 ho).1
   have:i∈xC ops.size listed:=by
    simp only[xC,List.mem_filter,List.mem_range,cS,true_and]
    have lA:i<listed.size:=by omega
    simp only[aT] at fY ⊢
    simpa[lA] using fY
   rw[h0] at this
   simp at this
 | succ fuel ih =>
   intro listed st st' w G a cV hl dt hx hf hk
   refine⟨?_,?_⟩
   ·intro hr
    rw[iT cV hr] at hx
    simp[ym] at hx; subst hx
    exact hk _ _ G hf (Ext.refl _ _) rfl
   ·intro i hi
    rw[mem_ready] at hi
    obtain⟨fY,o,ho,fP⟩:=hi
    have cS:i<ops.size:=(aV.1 ho).1
    have gy:listed.getD i false=false:=by
     have lA:i<listed.size:=by omega
     simp only[aT] at fY ⊢
     simpa[lA] using fY
    obtain⟨q,hq,vC⟩:=(C2 hc).2 i o (by simpa using ho)
    obtain⟨pre,post,e1,e2,e3⟩:=Qf (f:=λk => !listed.getD k false) (List.pairwise_lt_range (n:=ops.size)) (by simpa using cS) (by simp only[gy]; rfl)
    have eB:ym cf pos (i::(pre++post)) st=some st':=by
     refine Lf hq ?_ (by rw[← e1]; exact hx)
     intro j hj
     obtain⟨a1,a2,a3⟩:=e2 j hj
     refine⟨by omega,λp hp =>?_⟩
     have lS:=kj i j cS a1
     simp only[Ga,hp,hq,bH] at lS
     rcases lS with h|h
     ·exact h
     ·simp only[ak,aw] at h
      have:=Qg dt (rT i j h.1 h.2) ho fP
      simp only[this] at a3
      simp at a3
    simp only[ym,hq,ae] at eB
    obtain⟨st1,ei,jS⟩:=eB
    refine HP hF hE hP nm ho hf du dZ vC ei ?_
    intro a' w' G' hZ he el
    have eP:xC ops.size (listed.setIfInBounds i true)=pre++post:=by
     rw[← e3]
     unfold xC
     apply List.filter_congr
     intro k dh
     by_cases iw:k=i
     ·subst iw
      have lA:k<listed.size:=by omega
      simp[aT,be,lA]
     ·rw[getD_set_ne _ (Ne.symm iw)]
      simp[iw]
    refine ih (by simp[cV]) ?_ ?_ (by rw[eP]; exact jS) hZ (hk.trans he el)
    ·rw[eP]
     have:(xC ops.size listed).length=(pre++i::post).length:=by unfold xC; rw[e1]
     simp at this ⊢
     omega
    ·intro k o' eN fX e dx hb
     by_cases iw:k=i
     ·subst iw
      have:o'=o:=by rw[ho] at eN; simpa using eN.symm
      subst this
      exact getD_set_true (fP e dx hb)
     ·rw[getD_set_ne _ (Ne.symm iw)] at fX
      exact getD_set_true (dt k o' eN fX e dx hb)
end
end PI
