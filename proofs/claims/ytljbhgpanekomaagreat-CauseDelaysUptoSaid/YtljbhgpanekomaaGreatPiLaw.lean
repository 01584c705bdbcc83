import Derived.Test.YtljbhgpanekomaaGreatPiFunc
import Derived.ProofKit
import Derived.Deep.Slices
import Derived.SizedLaws
set_option linter.unusedSimpArgs false
set_option linter.unusedVariables false
set_option linter.unusedSectionVars false
namespace PI
open Go Go.RowKit
inductive TyD where
 | bool | int (k:IntKind) | str | slice (e b:Nat) | struct (fs:List Nat)
 deriving DecidableEq,Inhabited
inductive Sh (D:Nat→TyD):Nat→PV→Prop where
 | bool (i:Nat) (b:Bool) (h:D i = .bool):Sh D i (.bool b)
 | int (i:Nat) (k:IntKind) (n:Int) (h:D i = .int k) (h1:k.min≤n) (h2:n≤k.max):Sh D i (.int k n)
 | str (i:Nat) (s:List UInt8) (h:D i = .str) (hl:s.length≤9223372036854775807):Sh D i (.str s)
 | slice (i e b:Nat) (es:List PV) (h:D i = .slice e b) (hl:es.length≤9223372036854775807) (hb:es.length*b≤140737488351232) (hs:∀x∈es,Sh D e x):Sh D i (.list false es)
 | struct (i:Nat) (fs:List Nat) (ps:List PV) (h:D i = .struct fs) (hl:ps.length=fs.length) (hs:∀(j f:Nat) (p:PV),fs[j]? = some f→ps[j]? = some p→Sh D f p):Sh D i (.agg (ps.flatMap PV.cells))
def Cb (P:Program) (tm:Nat→TypeId) (n:Nat):List Nat→List Field→Nat→Bool
 | [],[],_=>true
 | f::fs,g::gs,off=>decide (f<n)&&(g.type==tm f)&&(g.offset==off)&&Cb P tm n fs gs (off+P.cellsOf g.type)
 | _,_,_=>false
def F8 (P:Program):List Field→Nat
 | []=>0
 | g::gs=>P.cellsOf g.type+F8 P gs
def CJ (P:Program) (D:Nat→TyD) (tm:Nat→TypeId) (n i:Nat):Bool:=
 match D i,P.underlying (tm i) with
 | .bool,some .bool=>P.cellsOf (tm i)==1
 | .int k,some (.int k')=>k==k'&&P.cellsOf (tm i)==1
 | .str,some .string=>P.cellsOf (tm i)==1
 | .slice e b,some (.slice t)=>decide (e<n)&&t==tm e&&P.cellsOf (tm i)==1&&P.cellsOf (tm e) != 0&&P.bytesOf (tm e)==b
 | .struct fs,some (.struct gs)=>Cb P tm n fs gs.toList 0&&P.cellsOf (tm i)==F8 P gs.toList
 | _,_=>false
mutual
def wt:PV→Nat
 | .str s=>s.length+1
 | .list _ es=>wts es+1
 | .agg cs=>wts cs+1
 | _=>1
def wts:List PV→Nat
 | []=>0
 | v::vs=>wt v+wts vs
end
mutual
def yz {H:Type}:DataW H→Nat
 | .lit (.string bytes)=>bytes.length+1
 | .lit _=>1
 | .nil=>1
 | .ptr d=>yz d+1
 | .slice elems spare=>Bh elems+Bh spare+1
 | .agg parts=>Bh parts+1
 | .iface _ d=>yz d+1
 | .map entries=>GH entries+1
 | .held _=>1
def Bh {H:Type}:List (DataW H)→Nat
 | []=>0
 | d::r=>yz d+Bh r
def GH {H:Type}:List (Lit×DataW H)→Nat
 | []=>0
 | x::r=>I2 x+GH r
def I2 {H:Type}:Lit×DataW H→Nat
 | (.string bytes,d)=>bytes.length+yz d+1
 | (_,d)=>yz d+1
end
theorem P6:∀(a b:List PV),wts (a++b)=wts a+wts b
 | [],b=>by simp[wts]
 | x::a,b=>by simp only[aL,wts,P6 a b]; omega
theorem c2o (p:PV):wts p.cells≤wt p:=by
 cases p<;>simp[PV.cells,wts,wt]
theorem P7:∀ps:List PV,wts (ps.flatMap PV.cells)≤wts ps
 | []=>by simp[wts]
 | p :: ps => by
   have:=c2o p
   have:=P7 ps
   simp only[aG,P6,wts]
   omega
theorem Lc {H:Type}:∀(es:List PV) (ds:List (DataW H)),es.length=ds.length→(∀(k:Nat) (e:PV) (d:DataW H),es[k]? = some e→ds[k]? = some d→wt e≤yz d)→wts es≤Bh ds
 | [],[],_,_=>by simp[wts]
 | e :: es, d :: ds, hl, h => by
   have h1:=h 0 e d rfl rfl
   have h2:=Lc es ds (by simpa using hl) (λk e' d' he hd=>h (k+1) e' d' (by simpa using he) (by simpa using hd))
   simp only[wts,Bh]
   omega
section
variable {H:Type} {enc:TypeId×Value→H} {P:Program} {w:World} {base:Nat} {spare:Nat→Bool} {held:Bool} {N:Nm} {D:Nat→TyD} {tm:Nat→TypeId}
def AU (w:World):Nat→Nat→Prop:=λb o=>(w.cell? ⟨b,o,none⟩).isSome=true
theorem P8 {a:Addr} {n:Nat} {cs:List Value} (h:w.cells? base a n=some cs):cs.length=n∧∀(j:Nat) (v:Value),cs[j]? = some v→w.cell? (a.add j)=some v:=by
 obtain⟨h1,h2,h3⟩:=World.cells?_some h
 refine⟨h2,?_⟩
 intro j v hv
 have hj:j<n:=by have:=(ai.1 hv).1; omega
 rw[h3 j hj]; exact hv
theorem P9 (P:Program):∀{fs:List Nat} {gs:List Field} {n off:Nat},Cb P tm n fs gs off=true→fs.length=gs.length
 | [],[],_,_,_=>rfl
 | f :: fs, g :: gs, n, off, h => by
   simp only[Cb,ak] at h
   simp[P9 P h.2]
 | [],_::_,_,_,h=>by simp[Cb] at h
 | _::_,[],_,_,h=>by simp[Cb] at h
theorem Qa {fix:Nat→Nat→Prop} {hp:Nat→Option Nat} {cs:List Value} {n:Nat}:∀{Q:Nat→PV→Prop} {fs:List Nat} {gs:List Field} {off:Nat},Cb P tm n fs gs off=true→cs.length=off+F8 P gs →
  (∀(j:Nat) (f:Nat) (g:Field),fs[j]? = some f→gs[j]? = some g→f<n→g.type=tm f→∃p,(Sh D f p∧Q j p)∧CellsR N w fix hp ((cs.drop g.offset).take (P.cellsOf g.type)) p.cells∧((cs.drop g.offset).take (P.cellsOf g.type)).length=P.cellsOf g.type) →
  ∃ps:List PV,ps.length=fs.length∧(∀(j f:Nat) (p:PV),fs[j]? = some f→ps[j]? = some p→Sh D f p∧Q j p)∧CellsR N w fix hp (cs.drop off) (ps.flatMap PV.cells)
 | Q, [], [], off, _, hl, _ => ⟨[], rfl, by simp, by
   have:cs.drop off=[]:=bj (by simp[F8] at hl; omega)
   rw[this]; exact⟨rfl,by simp,by simp⟩⟩
 | Q, f :: fs, g :: gs, off, h, hl, hx => by
   simp only[Cb,ak,aw,br] at h
   obtain⟨⟨⟨h1,h2⟩,h3⟩,h4⟩:=h
   simp only[F8] at hl
   obtain⟨ps,p1,p2,p3⟩:=Qa (Q:=λj=>Q (j+1)) h4 (by omega) (λj f' g' hf hg=>hx (j+1) f' g' (by simpa using hf) (by simpa using hg))
   obtain⟨p,q1,q2,q3⟩:=hx 0 f g rfl rfl h1 h2
   refine⟨p::ps,by simp[p1],?_,?_⟩
   ·intro j f' p' hf eM
    cases j with
    | zero=>simp at hf eM; subst hf eM; exact q1
    | succ j=>exact p2 j f' p' (by simpa using hf) (by simpa using eM)
   ·simp only[aG]
    rw[h3] at q2
    have mK:cs.drop off=(cs.drop off).take (P.cellsOf g.type)++cs.drop (off+P.cellsOf g.type):=by
     rw[← List.drop_drop,bX]
    rw[mK]
    exact q2.append p3
 | _,[],_::_,_,h,_,_=>by simp[Cb] at h
 | _,_::_,[],_,h,_,_=>by simp[Cb] at h
theorem Ev {v:Value} {p:PV} {hp:Nat→Option Nat} {fix:Nat→Nat→Prop} (h:VR N w fix hp v p) (hf:p.flat=true) (hc:p.cells=[p]):CellsR N w fix hp [v] p.cells:=by
 rw[hc]
 refine⟨rfl,by simpa using hf,?_⟩
 intro i c x h1 h2
 cases i with
 | zero=>simp at h1 h2; subst h1 h2; exact h
 | succ i=>simp at h1
theorem Qb {e:TypeId}:∀{ds:List (DataW H)} {k:Nat} {d:DataW H},ds[k]? = some d→(DataW.weightsAll P e ds).all (·≤reachBytes)=true→(d.weights P e).all (·≤reachBytes)=true
 | d0 :: ds, 0, d, hd, h => by
   simp only[bZ,aa] at hd; subst hd
   simp only[DataW.weightsAll,ct,ak] at h
   exact h.1
 | d0 :: ds, k + 1, d, hd, h => by
   simp only[bY] at hd
   simp only[DataW.weightsAll,ct,ak] at h
   exact Qb hd h.2
 | [],_,_,hd,_=>by simp at hd
theorem b69 {ts:List TypeId} {ds:List (DataW H)} {j:Nat} {t:TypeId} {d:DataW H} (ht:ts[j]? = some t) (hd:ds[j]? = some d) (h:(DataW.weightsEach P ts ds).all (·≤reachBytes)=true):(d.weights P t).all (·≤reachBytes)=true:=by
 rw[aK] at h ⊢
 exact λn hn=>h n (DataW.weights_mem_each ht hd n hn)
theorem c7t {n:Nat} {hp:Nat→Option Nat} (hM:∀i,i<n→CJ P D tm n i=true):∀(fuel i:Nat) (cs:List Value) (x:DataW H×List MemPlace),i<n→DataW.trod enc P w base spare held fuel (tm i) cs=some x→(x.1.weights P (tm i)).all (·≤reachBytes)=true →
  ∃p,(Sh D i p∧wt p≤yz x.1)∧cs.length=P.cellsOf (tm i)∧CellsR N w (AU w) hp cs p.cells:=by
 intro fuel
 induction fuel with
 | zero=>intro i cs x _ h; simp[DataW.trod] at h
 | succ fuel ih =>
   intro i cs x hi h iH
   have hm:=hM i hi
   unfold CJ at hm
   split at hm
   ·rename_i hd hu
    obtain⟨b,rfl,rfl⟩:=DataW.trod_bool hu h
    simp only[br] at hm
    exact⟨.bool b,⟨.bool i b hd,by simp[wt,yz]⟩,by simp[hm],Ev (.bool b) rfl rfl⟩
   ·rename_i k k' hd hu
    obtain⟨m,rfl,rfl,hw⟩:=DataW.trod_int hu h
    simp only[ak,br] at hm
    obtain⟨rfl,hm⟩:=hm
    simp only[Lit.wf,ak,aw] at hw
    exact⟨.int k m,⟨.int i k m hd hw.1 hw.2,by simp[wt,yz]⟩,by simp[hm],Ev (.int k m) rfl rfl⟩
   ·rename_i hd hu
    obtain⟨s,rfl,rfl,hs⟩:=DataW.trod_string hu h
    simp only[br] at hm
    have hl:s.data.toList.length=s.size:=bb
    exact⟨.str s.data.toList,⟨.str i _ hd (by rw[hl]; simpa[maxLen] using hs),by simp[wt,yz]⟩,by simp[hm],Ev (.str s) rfl rfl⟩
   ·rename_i e bts t hd hu
    simp only[ak,aw,br,bne_iff_ne,ne_eq] at hm
    obtain⟨⟨⟨⟨he,rfl⟩,hm⟩,ga⟩,rO⟩:=hm
    rcases DataW.trod_slice hu h with⟨rfl,rfl⟩|⟨a,len,cap,elems,rest,m,vt,rfl,rfl,hb,hl,vu,cO,np,_⟩
    ·exact⟨.list false [],⟨.slice i e bts [] hd (by simp) (by simp) (by simp),by simp[wt,wts,yz]⟩,by simp[hm],Ev (.nils false) rfl rfl⟩
    ·have mL:m=fuel:=by omega
     subst mL
     by_cases h0:len=0
     ·subst h0
      exact⟨.list false [],⟨.slice i e bts [] hd (by simp) (by simp) (by simp),by simp[wt,wts,yz]⟩,by simp[hm],Ev (.void false a cap) rfl rfl⟩
     ·simp only[DataW.weights,hu,List.all_cons,ct,ak,aw] at iH
      obtain⟨vv,rP,_⟩:=iH
      have wR:∀k,k<len→∃p cs',(Sh D e p∧∀d,elems[k]? = some d→wt p≤yz d.1)∧cs'.length=P.cellsOf (tm e)∧CellsR N w (AU w) hp cs' p.cells∧w.cells? base (a.add (k*P.cellsOf (tm e))) (P.cellsOf (tm e))=some cs':=by
       intro k hk
       have:=np k hk
       rw[al (by omega)] at this
       simp only[ae] at this
       obtain⟨cs',hc,ht⟩:=this
       obtain⟨p,h1,h2,h3⟩:=ih e cs' _ he ht (Qb (k:=k) (by rw[az,al (by omega)]; rfl) rP)
       refine⟨p,cs',⟨h1.1,?_⟩,h2,h3,hc⟩
       intro d gm
       rw[al (by omega)] at gm
       cases gm
       exact h1.2
      have rQ:∃F:Nat→PV,∀k,k<len→∃cs',(Sh D e (F k)∧∀d,elems[k]? = some d→wt (F k)≤yz d.1)∧cs'.length=P.cellsOf (tm e)∧CellsR N w (AU w) hp cs' (F k).cells∧w.cells? base (a.add (k*P.cellsOf (tm e))) (P.cellsOf (tm e))=some cs':=by
       refine⟨λk=>if hk:k<len then(wR k hk).choose else .dead,λk hk =>?_⟩
       simp only[dif_pos hk]
       exact(wR k hk).choose_spec
      obtain⟨F,hF⟩:=rQ
      let sz:=P.cellsOf (tm e)
      let es:List PV:=(List.range len).map F
      have fA:∀(k:Nat) (y:PV),es[k]? = some y→k<len∧y=F k:=by
       intro k y hy
       simp only[es,az,ab] at hy
       obtain⟨m',jL,rfl⟩:=hy
       obtain⟨h1,h2⟩:=ai.1 jL
       simp at h1 h2
       exact⟨h1,by rw[h2]⟩
      have eS:∀y∈es,∃k,k<len∧y=F k:=by
       intro y hy
       obtain⟨k,hk⟩:=bi.1 hy
       exact⟨k,fA k y hk⟩
      have dY:Sh D i (.list false es):=by
       refine .slice i e bts es hd (by simp[es]; simp[maxLen] at vu; omega) ?_ ?_
       ·rw[← rO,show es.length=len by simp[es]]
        have h1:len*P.bytesOf (tm e)≤((elems.map (·.1)).length+(rest.map (·.1)).length)*P.bytesOf (tm e):=bo _ (by simp; omega)
        have h2:reachBytes=140737488351232:=rfl
        omega
       intro y hy
       obtain⟨k,hk,rfl⟩:=eS y hy
       obtain⟨_,h1,_⟩:=hF k hk
       exact h1.1
      have rR:wt (.list false es)≤yz (DataW.slice (elems.map (·.1)) (rest.map (·.1))):=by
       have:=Lc es (elems.map (·.1)) (by simp[es,cO]) (by
        intro k e' d' dx gm
        obtain⟨hk,rfl⟩:=fA k e' dx
        obtain⟨_,h1,_⟩:=hF k hk
        simp only[az,ab] at gm
        obtain⟨dd,h2,rfl⟩:=gm
        exact h1.2 dd h2)
       simp only[wt,yz]
       omega
      refine⟨.list false es,⟨dY,rR⟩,by simp[hm],Ev ?_ rfl rfl⟩
      have hz:sz≠0:=ga
      have lR:a.spot=none:=by
       obtain⟨cs',_,h2,_,h4⟩:=hF 0 (by omega)
       obtain⟨_,h5⟩:=P8 h4
       have cS:0<cs'.length:=by rw[h2]; show 0<sz; omega
       have:=h5 0 cs'[0] (al cS)
       have:=World.cell?_spot this
       simpa[Addr.add] using this
      obtain⟨b,off,spot⟩:=a
      simp only at lR
      subst lR
      have hcell:∀k j,k<len→j<sz→∃v,w.cell? ⟨b,off+(k*sz+j),none⟩=some v∧∀y,(F k).cells[j]? = some y→VR N w (AU w) hp v y:=by
       intro k j hk hj
       obtain⟨cs',_,h2,h3,h4⟩:=hF k hk
       obtain⟨_,h5⟩:=P8 h4
       have cS:j<cs'.length:=by rw[h2]; exact hj
       have:=h5 j cs'[j] (al cS)
       rw[zO,zO] at this
       refine⟨cs'[j],by rw[← cm]; exact this,λy hy=>h3.2.2 j cs'[j] y (al cS) hy⟩
      let cv:Nat→Value:=λk=>(w.cell? ⟨b,off+k,none⟩).getD undef
      have mM:es.length=len:=by simp[es]
      refine .list false b off len cap sz es cv mM hl ?_ ?_ ?_ ?_
      ·intro y hy
       obtain⟨k,hk,rfl⟩:=eS y hy
       obtain⟨cs',_,h2,h3,_⟩:=hF k hk
       have:=h3.1; omega
      ·intro y hy
       obtain⟨k,hk,rfl⟩:=eS y hy
       obtain⟨cs',_,h2,h3,_⟩:=hF k hk
       exact h3.2.1
      ·intro k hk
       have jA:k / sz<len:=by rw[Nat.div_lt_iff_lt_mul (by omega)]; exact hk
       have gV:k % sz<sz:=bJ _ (by omega)
       obtain⟨v,hv,_⟩:=hcell (k / sz) (k % sz) jA gV
       have dx:k / sz*sz+k % sz=k:=by rw[cw]; exact Nat.div_add_mod k sz
       rw[dx] at hv
       exact⟨by simp[cv,hv],by simp[AU,hv]⟩
      ·intro k y hy j z ir
       obtain⟨hk,rfl⟩:=fA k y hy
       have hj:j<sz:=by
        obtain⟨cs',_,h2,h3,_⟩:=hF k hk
        have h6:=(ai.1 ir).1
        have:=h3.1
        show j<P.cellsOf (tm e)
        omega
       obtain⟨v,hv,cW⟩:=hcell k j hk hj
       have:cv (k*sz+j)=v:=by simp[cv,hv]
       rw[this]
       exact cW z ir
   ·rename_i fs gs hd hu
    simp only[ak,br] at hm
    obtain⟨xs,m,vt,rfl,dt,tN,jx⟩:=DataW.trod_struct hu h
    have mL:m=fuel:=by omega
    subst mL
    simp only[DataW.weights,hu] at iH
    obtain⟨ps,p1,p2,p3⟩:=Qa (N:=N) (w:=w) (fix:=AU w) (hp:=hp) (D:=D) (cs:=cs) (Q:=λj p=>∀d,xs[j]? = some d→wt p≤yz d.1) hm.1 (by rw[dt,hm.2]; simp) (by
     intro j f g hf hg d4 rS
     have re:j<gs.size:=by have:=(ai.1 hg).1; simpa using this
     have:=jx j g (by simpa using hg)
     rw[al (by omega),rS] at this
     obtain⟨p,h1,h2,h3⟩:=ih f _ _ d4 this (b69 (j:=j) (by rw[az,hg]; simp[rS]) (by rw[az,al (by omega)]; rfl) iH)
     rw[rS]
     refine⟨p,⟨h1.1,?_⟩,h3,h2⟩
     intro d gm
     rw[al (by omega)] at gm
     cases gm
     exact h1.2)
    have fS:=P9 P hm.1
    have rR:wt (.agg (ps.flatMap PV.cells))≤yz (DataW.agg (xs.map (·.1))):=by
     have h1:=P7 ps
     have h2:=Lc ps (xs.map (·.1)) (by rw[p1,aA,tN,fS]; simp) (by
      intro k e' d' dx gm
      simp only[az,ab] at gm
      obtain⟨dd,h2,rfl⟩:=gm
      have hk:k<fs.length:=by have:=(ai.1 dx).1; omega
      exact(p2 k fs[k] e' (al hk) dx).2 dd h2)
     simp only[wt,yz]
     omega
    refine⟨.agg (ps.flatMap PV.cells),⟨.struct i fs ps hd p1 (λj f p hf hp=>(p2 j f p hf hp).1),rR⟩,dt,?_⟩
    show CellsR N w (AU w) hp cs (ps.flatMap PV.cells)
    simpa using p3
   ·simp at hm
end
end PI
