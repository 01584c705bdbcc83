import Derived.Test.YtljbhgpanekomaaGreatPiFunc
import Derived.ProofKit
import Derived.Deep.Slices
import Derived.SizedLaws
import Derived.Test.YtljbhgpanekomaaGreatPiBase
import Derived.Lib.Join
import Derived.Lib.ItoaNum
import Derived.Lib.AtoiAll
import Derived.Lib.Bytealg
import Derived.Test.YtljbhgpanekomaaGreatPiSoundN
import Derived.RecoverIn
set_option linter.unusedSimpArgs false
set_option linter.unusedVariables false
set_option linter.unusedSectionVars false
namespace PI
open Go Go.RowKit
inductive TyD where
 | bool | int (k:IntKind) | str | slice (e b:Nat) | struct (fs:List Nat)
 deriving DecidableEq,Inhabited
inductive Sh (D:Nat→TyD):Nat→PV→Prop where
 | bool (i:Nat) (b:Bool) (h:D i = .bool):Sh D i (.bool b)
 | int (i:Nat) (k:IntKind) (n:Int) (h:D i = .int k) (h1:k.min≤n) (h2:n≤k.max):Sh D i (.int k n)
 | str (i:Nat) (s:List UInt8) (h:D i = .str) (hl:s.length≤9223372036854775807):Sh D i (.str s)
 | slice (i e b:Nat) (es:List PV) (h:D i = .slice e b) (hl:es.length≤9223372036854775807) (hb:es.length*b≤140737488351232) (hs:∀x∈es,Sh D e x):Sh D i (.list false es)
 | struct (i:Nat) (fs:List Nat) (ps:List PV) (h:D i = .struct fs) (hl:ps.length=fs.length) (hs:∀(j f:Nat) (p:PV),fs[j]? = some f→ps[j]? = some p→Sh D f p):Sh D i (.agg (ps.flatMap PV.cells))
def DX (P:Program) (tm:Nat→TypeId) (n:Nat):List Nat→List Field→Nat→Bool
 | [],[],_=>true
 | f::fs,g::gs,off=>decide (f<n)&&(g.type==tm f)&&(g.offset==off)&&DX P tm n fs gs (off+P.cellsOf g.type)
 | _,_,_=>false
def It (P:Program):List Field→Nat
 | []=>0
 | g::gs=>P.cellsOf g.type+It P gs
def EE (P:Program) (D:Nat→TyD) (tm:Nat→TypeId) (n i:Nat):Bool:=
 match D i,P.underlying (tm i) with
 | .bool,some .bool=>P.cellsOf (tm i)==1
 | .int k,some (.int k')=>k==k'&&P.cellsOf (tm i)==1
 | .str,some .string=>P.cellsOf (tm i)==1
 | .slice e b,some (.slice t)=>decide (e<n)&&t==tm e&&P.cellsOf (tm i)==1&&P.cellsOf (tm e) != 0&&P.bytesOf (tm e)==b
 | .struct fs,some (.struct gs)=>DX P tm n fs gs.toList 0&&P.cellsOf (tm i)==It P gs.toList
 | _,_=>false
mutual
def wt:PV→Nat
 | .str s=>s.length+1
 | .list _ es=>wts es+1
 | .agg cs=>wts cs+1
 | _=>1
def wts:List PV→Nat
 | []=>0
 | v::vs=>wt v+wts vs
end
mutual
def Au {H:Type}:DataW H→Nat
 | .lit (.string bytes)=>bytes.length+1
 | .lit _=>1
 | .nil=>1
 | .ptr d=>Au d+1
 | .slice elems spare=>CY elems+CY spare+1
 | .agg parts=>CY parts+1
 | .iface _ d=>Au d+1
 | .map entries=>IZ entries+1
 | .held _=>1
def CY {H:Type}:List (DataW H)→Nat
 | []=>0
 | d::r=>Au d+CY r
def IZ {H:Type}:List (Lit×DataW H)→Nat
 | []=>0
 | x::r=>Lg x+IZ r
def Lg {H:Type}:Lit×DataW H→Nat
 | (.string bytes,d)=>bytes.length+Au d+1
 | (_,d)=>Au d+1
end
theorem Tm:∀(a b:List PV),wts (a++b)=wts a+wts b
 | [],b=>by simp[wts]
 | x::a,b=>by simp only[aK,wts,Tm a b]; omega
theorem c3t (p:PV):wts p.cells≤wt p:=by
 cases p<;>simp[PV.cells,wts,wt]
theorem Tn:∀ps:List PV,wts (ps.flatMap PV.cells)≤wts ps
 | []=>by simp[wts]
 | p :: ps => by
   have:=c3t p
   have:=Tn ps
   simp only[aM,Tm,wts]
   omega
theorem NY {H:Type}:∀(es:List PV) (ds:List (DataW H)),es.length=ds.length→(∀(k:Nat) (e:PV) (d:DataW H),es[k]? = some e→ds[k]? = some d→wt e≤Au d)→wts es≤CY ds
 | [],[],_,_=>by simp[wts]
 | e :: es, d :: ds, hl, h => by
   have h1:=h 0 e d rfl rfl
   have h2:=NY es ds (by simpa using hl) (λk e' d' he hd=>h (k+1) e' d' (by simpa using he) (by simpa using hd))
   simp only[wts,CY]
   omega
section
variable {H:Type} {enc:TypeId×Value→H} {P:Program} {w:World} {base:Nat} {spare:Nat→Bool} {held:Bool} {N:Nm} {D:Nat→TyD} {tm:Nat→TypeId}
def CG (w:World):Nat→Nat→Prop:=λb o=>(w.cell? ⟨b,o,none⟩).isSome=true
theorem To {a:Addr} {n:Nat} {cs:List Value} (h:w.cells? base a n=some cs):cs.length=n∧∀(j:Nat) (v:Value),cs[j]? = some v→w.cell? (a.add j)=some v:=by
 obtain⟨h1,h2,h3⟩:=World.cells?_some h
 refine⟨h2,?_⟩
 intro j v hv
 have hj:j<n:=by have:=(ah.1 hv).1; omega
 rw[h3 j hj]; exact hv
theorem Tp (P:Program):∀{fs:List Nat} {gs:List Field} {n off:Nat},DX P tm n fs gs off=true→fs.length=gs.length
 | [],[],_,_,_=>rfl
 | f :: fs, g :: gs, n, off, h => by
   simp only[DX,ao] at h
   simp[Tp P h.2]
 | [],_::_,_,_,h=>by simp[DX] at h
 | _::_,[],_,_,h=>by simp[DX] at h
theorem Tq {fix:Nat→Nat→Prop} {hp:Nat→Option Nat} {cs:List Value} {n:Nat}:∀{Q:Nat→PV→Prop} {fs:List Nat} {gs:List Field} {off:Nat},DX P tm n fs gs off=true→cs.length=off+It P gs →
  (∀(j:Nat) (f:Nat) (g:Field),fs[j]? = some f→gs[j]? = some g→f<n→g.type=tm f→∃p,(Sh D f p∧Q j p)∧CellsR N w fix hp ((cs.drop g.offset).take (P.cellsOf g.type)) p.cells∧((cs.drop g.offset).take (P.cellsOf g.type)).length=P.cellsOf g.type) →
  ∃ps:List PV,ps.length=fs.length∧(∀(j f:Nat) (p:PV),fs[j]? = some f→ps[j]? = some p→Sh D f p∧Q j p)∧CellsR N w fix hp (cs.drop off) (ps.flatMap PV.cells)
 | Q, [], [], off, _, hl, _ => ⟨[], rfl, by simp, by
   have:cs.drop off=[]:=bk (by simp[It] at hl; omega)
   rw[this]; exact⟨rfl,by simp,by simp⟩⟩
 | Q, f :: fs, g :: gs, off, h, hl, hx => by
   simp only[DX,ao,av,br] at h
   obtain⟨⟨⟨h1,h2⟩,h3⟩,h4⟩:=h
   simp only[It] at hl
   obtain⟨ps,p1,p2,p3⟩:=Tq (Q:=λj=>Q (j+1)) h4 (by omega) (λj f' g' hf hg=>hx (j+1) f' g' (by simpa using hf) (by simpa using hg))
   obtain⟨p,q1,q2,q3⟩:=hx 0 f g rfl rfl h1 h2
   refine⟨p::ps,by simp[p1],?_,?_⟩
   ·intro j f' p' hf fk
    cases j with
    | zero=>simp at hf fk; subst hf fk; exact q1
    | succ j=>exact p2 j f' p' (by simpa using hf) (by simpa using fk)
   ·simp only[aM]
    rw[h3] at q2
    have ol:cs.drop off=(cs.drop off).take (P.cellsOf g.type)++cs.drop (off+P.cellsOf g.type):=by
     rw[← List.drop_drop,bR]
    rw[ol]
    exact q2.append p3
 | _,[],_::_,_,h,_,_=>by simp[DX] at h
 | _,_::_,[],_,h,_,_=>by simp[DX] at h
theorem Gu {v:Value} {p:PV} {hp:Nat→Option Nat} {fix:Nat→Nat→Prop} (h:VR N w fix hp v p) (hf:p.flat=true) (hc:p.cells=[p]):CellsR N w fix hp [v] p.cells:=by
 rw[hc]
 refine⟨rfl,by simpa using hf,?_⟩
 intro i c x h1 h2
 cases i with
 | zero=>simp at h1 h2; subst h1 h2; exact h
 | succ i=>simp at h1
theorem Tr {e:TypeId}:∀{ds:List (DataW H)} {k:Nat} {d:DataW H},ds[k]? = some d→(DataW.weightsAll P e ds).all (·≤reachBytes)=true→(d.weights P e).all (·≤reachBytes)=true
 | d0 :: ds, 0, d, hd, h => by
   simp only[List.getElem?_cons_zero,aa] at hd; subst hd
   simp only[DataW.weightsAll,cr,ao] at h
   exact h.1
 | d0 :: ds, k + 1, d, hd, h => by
   simp only[cz] at hd
   simp only[DataW.weightsAll,cr,ao] at h
   exact Tr hd h.2
 | [],_,_,hd,_=>by simp at hd
theorem b7P {ts:List TypeId} {ds:List (DataW H)} {j:Nat} {t:TypeId} {d:DataW H} (ht:ts[j]? = some t) (hd:ds[j]? = some d) (h:(DataW.weightsEach P ts ds).all (·≤reachBytes)=true):(d.weights P t).all (·≤reachBytes)=true:=by
 rw[aJ] at h ⊢
 exact λn hn=>h n (DataW.weights_mem_each ht hd n hn)
theorem c8y {n:Nat} {hp:Nat→Option Nat} (hM:∀i,i<n→EE P D tm n i=true):∀(fuel i:Nat) (cs:List Value) (x:DataW H×List MemPlace),i<n→DataW.trod enc P w base spare held fuel (tm i) cs=some x→(x.1.weights P (tm i)).all (·≤reachBytes)=true →
  ∃p,(Sh D i p∧wt p≤Au x.1)∧cs.length=P.cellsOf (tm i)∧CellsR N w (CG w) hp cs p.cells:=by
 intro fuel
 induction fuel with
 | zero=>intro i cs x _ h; simp[DataW.trod] at h
 | succ fuel ih =>
   intro i cs x hi h jb
   have hm:=hM i hi
   unfold EE at hm
   split at hm
   ·rename_i hd hu
    obtain⟨b,rfl,rfl⟩:=DataW.trod_bool hu h
    simp only[br] at hm
    exact⟨.bool b,⟨.bool i b hd,by simp[wt,Au]⟩,by simp[hm],Gu (.bool b) rfl rfl⟩
   ·rename_i k k' hd hu
    obtain⟨m,rfl,rfl,hw⟩:=DataW.trod_int hu h
    simp only[ao,br] at hm
    obtain⟨rfl,hm⟩:=hm
    simp only[Lit.wf,ao,av] at hw
    exact⟨.int k m,⟨.int i k m hd hw.1 hw.2,by simp[wt,Au]⟩,by simp[hm],Gu (.int k m) rfl rfl⟩
   ·rename_i hd hu
    obtain⟨s,rfl,rfl,hs⟩:=DataW.trod_string hu h
    simp only[br] at hm
    have hl:s.data.toList.length=s.size:=bp
    exact⟨.str s.data.toList,⟨.str i _ hd (by rw[hl]; simpa[maxLen] using hs),by simp[wt,Au]⟩,by simp[hm],Gu (.str s) rfl rfl⟩
   ·rename_i e bts t hd hu
    simp only[ao,av,br,bne_iff_ne,ne_eq] at hm
    obtain⟨⟨⟨⟨he,rfl⟩,hm⟩,gD⟩,tL⟩:=hm
    rcases DataW.trod_slice hu h with⟨rfl,rfl⟩|⟨a,len,cap,elems,rest,m,xq,rfl,rfl,hb,hl,xr,cS,vn,_⟩
    ·exact⟨.list false [],⟨.slice i e bts [] hd (by simp) (by simp) (by simp),by simp[wt,wts,Au]⟩,by simp[hm],Gu (.nils false) rfl rfl⟩
    ·have om:m=fuel:=by omega
     subst om
     by_cases h0:len=0
     ·subst h0
      exact⟨.list false [],⟨.slice i e bts [] hd (by simp) (by simp) (by simp),by simp[wt,wts,Au]⟩,by simp[hm],Gu (.void false a cap) rfl rfl⟩
     ·simp only[DataW.weights,hu,List.all_cons,cr,ao,av] at jb
      obtain⟨xt,tM,_⟩:=jb
      have yC:∀k,k<len→∃p cs',(Sh D e p∧∀d,elems[k]? = some d→wt p≤Au d.1)∧cs'.length=P.cellsOf (tm e)∧CellsR N w (CG w) hp cs' p.cells∧w.cells? base (a.add (k*P.cellsOf (tm e))) (P.cellsOf (tm e))=some cs':=by
       intro k hk
       have:=vn k hk
       rw[am (by omega)] at this
       simp only[aj] at this
       obtain⟨cs',hc,ht⟩:=this
       obtain⟨p,h1,h2,h3⟩:=ih e cs' _ he ht (Tr (k:=k) (by rw[aF,am (by omega)]; rfl) tM)
       refine⟨p,cs',⟨h1.1,?_⟩,h2,h3,hc⟩
       intro d gm
       rw[am (by omega)] at gm
       cases gm
       exact h1.2
      have tN:∃F:Nat→PV,∀k,k<len→∃cs',(Sh D e (F k)∧∀d,elems[k]? = some d→wt (F k)≤Au d.1)∧cs'.length=P.cellsOf (tm e)∧CellsR N w (CG w) hp cs' (F k).cells∧w.cells? base (a.add (k*P.cellsOf (tm e))) (P.cellsOf (tm e))=some cs':=by
       refine⟨λk=>if hk:k<len then(yC k hk).choose else .dead,λk hk =>?_⟩
       simp only[dif_pos hk]
       exact(yC k hk).choose_spec
      obtain⟨F,hF⟩:=tN
      let sz:=P.cellsOf (tm e)
      let es:List PV:=(List.range len).map F
      have ga:∀(k:Nat) (y:PV),es[k]? = some y→k<len∧y=F k:=by
       intro k y hy
       simp only[es,aF,ab] at hy
       obtain⟨m',kC,rfl⟩:=hy
       obtain⟨h1,h2⟩:=ah.1 kC
       simp at h1 h2
       exact⟨h1,by rw[h2]⟩
      have dT:∀y∈es,∃k,k<len∧y=F k:=by
       intro y hy
       obtain⟨k,hk⟩:=bj.1 hy
       exact⟨k,ga k y hk⟩
      have ec:Sh D i (.list false es):=by
       refine .slice i e bts es hd (by simp[es]; simp[maxLen] at xr; omega) ?_ ?_
       ·rw[← tL,show es.length=len by simp[es]]
        have h1:len*P.bytesOf (tm e)≤((elems.map (·.1)).length+(rest.map (·.1)).length)*P.bytesOf (tm e):=bq _ (by simp; omega)
        have h2:reachBytes=140737488351232:=rfl
        omega
       intro y hy
       obtain⟨k,hk,rfl⟩:=dT y hy
       obtain⟨_,h1,_⟩:=hF k hk
       exact h1.1
      have tO:wt (.list false es)≤Au (DataW.slice (elems.map (·.1)) (rest.map (·.1))):=by
       have:=NY es (elems.map (·.1)) (by simp[es,cS]) (by
        intro k e' d' fL gm
        obtain⟨hk,rfl⟩:=ga k e' fL
        obtain⟨_,h1,_⟩:=hF k hk
        simp only[aF,ab] at gm
        obtain⟨dd,h2,rfl⟩:=gm
        exact h1.2 dd h2)
       simp only[wt,Au]
       omega
      refine⟨.list false es,⟨ec,tO⟩,by simp[hm],Gu ?_ rfl rfl⟩
      have hz:sz≠0:=gD
      have mV:a.spot=none:=by
       obtain⟨cs',_,h2,_,h4⟩:=hF 0 (by omega)
       obtain⟨_,h5⟩:=To h4
       have cV:0<cs'.length:=by rw[h2]; show 0<sz; omega
       have:=h5 0 cs'[0] (am cV)
       have:=World.cell?_spot this
       simpa[Addr.add] using this
      obtain⟨b,off,spot⟩:=a
      simp only at mV
      subst mV
      have hcell:∀k j,k<len→j<sz→∃v,w.cell? ⟨b,off+(k*sz+j),none⟩=some v∧∀y,(F k).cells[j]? = some y→VR N w (CG w) hp v y:=by
       intro k j hk hj
       obtain⟨cs',_,h2,h3,h4⟩:=hF k hk
       obtain⟨_,h5⟩:=To h4
       have cV:j<cs'.length:=by rw[h2]; exact hj
       have:=h5 j cs'[j] (am cV)
       rw[B5,B5] at this
       refine⟨cs'[j],by rw[← cB]; exact this,λy hy=>h3.2.2 j cs'[j] y (am cV) hy⟩
      let cv:Nat→Value:=λk=>(w.cell? ⟨b,off+k,none⟩).getD undef
      have oo:es.length=len:=by simp[es]
      refine .list false b off len cap sz es cv oo hl ?_ ?_ ?_ ?_
      ·intro y hy
       obtain⟨k,hk,rfl⟩:=dT y hy
       obtain⟨cs',_,h2,h3,_⟩:=hF k hk
       have:=h3.1; omega
      ·intro y hy
       obtain⟨k,hk,rfl⟩:=dT y hy
       obtain⟨cs',_,h2,h3,_⟩:=hF k hk
       exact h3.2.1
      ·intro k hk
       have mr:k / sz<len:=by rw[Nat.div_lt_iff_lt_mul (by omega)]; exact hk
       have iR:k % sz<sz:=bP _ (by omega)
       obtain⟨v,hv,_⟩:=hcell (k / sz) (k % sz) mr iR
       have fL:k / sz*sz+k % sz=k:=by rw[cC]; exact Nat.div_add_mod k sz
       rw[fL] at hv
       exact⟨by simp[cv,hv],by simp[CG,hv]⟩
      ·intro k y hy j z iH
       obtain⟨hk,rfl⟩:=ga k y hy
       have hj:j<sz:=by
        obtain⟨cs',_,h2,h3,_⟩:=hF k hk
        have h6:=(ah.1 iH).1
        have:=h3.1
        show j<P.cellsOf (tm e)
        omega
       obtain⟨v,hv,cZ⟩:=hcell k j hk hj
       have:cv (k*sz+j)=v:=by simp[cv,hv]
       rw[this]
       exact cZ z iH
   ·rename_i fs gs hd hu
    simp only[ao,br] at hm
    obtain⟨xs,m,xq,rfl,dA,vu,jZ⟩:=DataW.trod_struct hu h
    have om:m=fuel:=by omega
    subst om
    simp only[DataW.weights,hu] at jb
    obtain⟨ps,p1,p2,p3⟩:=Tq (N:=N) (w:=w) (fix:=CG w) (hp:=hp) (D:=D) (cs:=cs) (Q:=λj p=>∀d,xs[j]? = some d→wt p≤Au d.1) hm.1 (by rw[dA,hm.2]; simp) (by
     intro j f g hf hg fK tP
     have s8:j<gs.size:=by have:=(ah.1 hg).1; simpa using this
     have:=jZ j g (by simpa using hg)
     rw[am (by omega),tP] at this
     obtain⟨p,h1,h2,h3⟩:=ih f _ _ fK this (b7P (j:=j) (by rw[aF,hg]; simp[tP]) (by rw[aF,am (by omega)]; rfl) jb)
     rw[tP]
     refine⟨p,⟨h1.1,?_⟩,h3,h2⟩
     intro d gm
     rw[am (by omega)] at gm
     cases gm
     exact h1.2)
    have fG:=Tp P hm.1
    have tO:wt (.agg (ps.flatMap PV.cells))≤Au (DataW.agg (xs.map (·.1))):=by
     have h1:=Tn ps
     have h2:=NY ps (xs.map (·.1)) (by rw[p1,aG,vu,fG]; simp) (by
      intro k e' d' fL gm
      simp only[aF,ab] at gm
      obtain⟨dd,h2,rfl⟩:=gm
      have hk:k<fs.length:=by have:=(ah.1 fL).1; omega
      exact(p2 k fs[k] e' (am hk) fL).2 dd h2)
     simp only[wt,Au]
     omega
    refine⟨.agg (ps.flatMap PV.cells),⟨.struct i fs ps hd p1 (λj f p hf hp=>(p2 j f p hf hp).1),tO⟩,dA,?_⟩
    show CellsR N w (CG w) hp cs (ps.flatMap PV.cells)
    simpa using p3
   ·simp at hm
end
end PI
set_option linter.unusedSimpArgs false
set_option linter.unusedVariables false
namespace PI
open Go Go.RowKit Go.WideShapes Go.ChangeShapes
section
variable {H:Type} {enc:TypeId×Value→H} {E:Env} {P:Program} {W:World} {base base':Nat} {spare:Nat→Bool} {held:Bool} {N:Nm} {D:Nat→TyD} {tm:Nat→TypeId}
theorem Sh.noOwn {i:Nat} {p:PV} (h:Sh D i p):∀q∈p.cells,∀es,q≠.list true es:=by
 induction h with
 | bool i b h=>intro q hq es; simp[PV.cells] at hq; subst hq; simp
 | int i k n h h1 h2=>intro q hq es; simp[PV.cells] at hq; subst hq; simp
 | str i s h hl=>intro q hq es; simp[PV.cells] at hq; subst hq; simp
 | slice i e b es h hl hb hs ih=>intro q hq es; simp[PV.cells] at hq; subst hq; simp
 | struct i fs ps h hl hs ih =>
   intro q hq es
   simp only[PV.cells,bV] at hq
   obtain⟨p,hp,hq⟩:=hq
   obtain⟨j,hj,rfl⟩:=bH.1 hp
   exact ih j (fs[j]'(hl▸hj)) ps[j] (am _) (am _) q hq es
theorem Sh.ownNil {i:Nat} {p:PV} (h:Sh D i p) (cs:List Value):OwnNil cs p.cells:=by
 intro j c es _ hx
 exact absurd rfl (h.noOwn _ (ax hx) es)
theorem d2d {n i:Nat} {r:Reach} {v:Value} {d:DataW H} {p:List MemPlace} (hM:∀i,i<n→EE P D tm n i=true) (hi:i<n) (ey:Value.okWide P W r base' (tm i) v) (h:DataW.Trod enc P W base spare held (tm i) v d p) (jb:(d.weights P (tm i)).all (·≤reachBytes)=true):
  ∃pv,(Sh D i pv∧wt pv≤Au d)∧VR N W (CG W) (λ_=>none) v pv:=by
 obtain⟨fuel,hf⟩:=h
 obtain⟨pv,h1,h2,h3⟩:=c8y (N:=N) (hp:=λ_=>none) hM fuel i _ _ hi hf jb
 refine⟨pv,h1,?_⟩
 have qI:=h1.1
 replace h1:=h1.1
 have one:∀c:Value,v.cells = #[c]→v=c→pv.cells=[pv]→VR N W (CG W) (λ_=>none) v pv:=by
  intro c hc hv hp
  rw[hc,hp] at h3
  have:=h3.2.2 0 c pv rfl rfl
  rw[hv]; exact this
 have hm:=hM i hi
 unfold EE at hm
 cases h1 with
 | bool b hd =>
   split at hm<;>simp_all
   obtain⟨b',rfl⟩:=okWide_bool (by assumption) ey
   exact one _ rfl rfl rfl
 | int k m hd _ _ =>
   split at hm<;>simp_all
   obtain⟨b',rfl⟩:=okWide_int (by assumption) ey
   exact one _ rfl rfl rfl
 | str s hd _ =>
   split at hm<;>simp_all
   obtain⟨b',rfl⟩:=okWide_string (by assumption) ey
   exact one _ rfl rfl rfl
 | slice e b es hd _ _ _ =>
   split at hm<;>simp_all
   obtain⟨_,_,_,rfl⟩:=okWide_slice (by assumption) ey
   exact one _ rfl rfl rfl
 | struct fs ps hd _ _ =>
   split at hm<;>simp_all
   obtain⟨cs,rfl,_⟩:=okWide_struct (by assumption) ey
   have h4:VR N W (CG W) (λ_=>none) (.agg cs.toList.toArray) _:=CellsR.agg (cs:=cs.toList) h3 (qI.ownNil _)
   rw[Array.toArray_toList] at h4
   exact h4
theorem c5C {L:Nat→Option PFunc} (hE:EnvOk E N) (hP:E.P=P) (dL:P.follows .mixedOrders=true) (hL:∀k pf,L k=some pf→FnS E N k pf) (hT:∀t∈N.tabs,W.cell? ⟨t.1,t.2.1,none⟩=some t.2.2) (o6:∀r∈N.rows,W.shape? r.1=some r.2) {m k:Nat} {args:List PV} {h':List PObj} {vals:Array Value}
  (rF:call L m k args []=some (.bool true,h')) (dc:vals.size=args.length) (cZ:∀(i:Nat) (v:Value) (p:PV),vals[i]? = some v→args[i]? = some p→VR N W (CG W) (λ_=>none) v p):
  Calls P (N.fn k) vals W λe W'=>e = .returned (.bool true)∧Below W.heap.size W W':=by
 refine(((c1E hE hP dL hL m).plain k args _ [] h' rF).2 W { fix:=CG W,heap:=λ_=>none,box:=λ_=>none,ow:=λ_=>none } vals ?_ dc cZ).mono ?_
 ·refine⟨⟨by intro b k h; simp at h,λ_=>rfl⟩,?_,by intro b k h; simp at h,⟨by intro n ob h; simp at h,⟨λt ht=>⟨by show (W.cell? _).isSome=true; rw[hT t ht]; rfl,hT t ht⟩,o6⟩⟩,by intro n b h; simp at h⟩
  intro b o h
  unfold CG at h
  obtain⟨v,hv⟩:=Option.isSome_iff_exists.1 h
  exact World.block_lt_of_cell? W ⟨b,o,none⟩ hv
 ·rintro e w' ⟨v,G',rfl,hv,he,_⟩
  cases hv
  exact⟨rfl,⟨he.os,he.tape,he.output,he.size,λb hb=>he.same b hb rfl⟩⟩
end
end PI
set_option linter.unusedSimpArgs false
set_option linter.unusedVariables false
namespace PI
open Go Go.RowKit
def KM (fn:Func) (pf:PFunc) (vs:List Tmp):Bool:=
 decide (pf.params<1000)&&decide vs.Nodup&&vs.all (λt=>decide (t<fn.ntmps))&&vs.length==pf.nv&&decide (pf.params≤pf.nv)&&vs.take pf.params==List.range pf.params
def yOf (fn:Func) (fid:FuncId) (j:Nat) (vars:List Tmp):Option YL:=(fn.body.bind λc=>(zR c)[j]?).map λx=>⟨fid,x.1,x.2.1,x.2.2,vars,fn.ntmps⟩
def LpsOK (N:Nm) (fn:Func) (fid:FuncId) (pss:List (Array Tmp)):List (Array Tmp×Nat×List Tmp)→Prop
 | []=>True
 | x::xs=>(∃j,N.yl x.2.1=yOf fn fid j x.2.2∧pss[j]? = some x.1)∧LpsOK N fn fid pss xs
theorem LpsOK.mem {N:Nm} {fn:Func} {fid:FuncId} {pss:List (Array Tmp)}:∀{l:List (Array Tmp×Nat×List Tmp)},LpsOK N fn fid pss l→∀x∈l,∃j,N.yl x.2.1=yOf fn fid j x.2.2∧pss[j]? = some x.1
 | [],_,x,hx=>by simp at hx
 | y :: l, h, x, hx => by
   rcases aA.1 hx with rfl|hx
   ·exact h.1
   ·exact LpsOK.mem h.2 x hx
section
variable {E:Env} {N:Nm} {k:Nat} {pf:PFunc} {fn:Func} {fid:FuncId}
theorem Ic (vs:List Tmp) (o:Opts) (pss:List (Array Tmp)) (hf:E.P.funcs[fid]? = some fn) (h:(fn.body.map (λc=>Af (E.opt o) fn.ntmps vs c),C5 E.P o.kp vs fn.results.toList,KM fn pf vs,fn.body.map λc=>(zR c).map (·.1))=(some pf.code,some pf.results,true,some pss))
  (hn:fn.name ≠ "runtime.NumGoroutine") (dl:pss.Nodup) (hl:LpsOK N fn fid pss o.lps)
  (fS:N.fn k=fid:=by rfl) (hy:N.yl k=none:=by rfl) (hr:pf.code.isRound=false:=by rfl) (hp:pf.prim=none:=by rfl) (hd:pf.defer=none:=by rfl):FnS E N k pf:=by
 simp only[ac] at h
 obtain⟨h1,h2,h3,h4⟩:=h
 simp only[KM,ao,av,br,aJ] at h3
 obtain⟨⟨⟨⟨⟨a0,a1⟩,a2⟩,a3⟩,a4⟩,a5⟩:=h3
 refine .inl ⟨hy,hr,a0,.inl ⟨hp,hd,fn,vs,by rw[fS]; exact hf,hn,a1,a2,a3,a4,?_,o,h1,.inr ?_,h2⟩⟩
 ·intro i hi
  have:(vs.take pf.params)[i]? = some i:=by rw[a5]; simp[hi]
  rwa [aW,ai hi] at this
 ·intro c hc ps kb vars hm z hz vJ
  obtain⟨j,j1,j2⟩:=hl.mem _ hm
  rw[hc] at h4
  simp only[aH,aa] at h4
  subst h4
  obtain⟨i,hi⟩:=bj.1 hz
  have mJ:i=j:=by
   have iU:((zR c).map (·.1))[i]? = some ps:=by simp[hi,vJ]
   obtain⟨b1,b2⟩:=ah.1 iU
   obtain⟨b3,b4⟩:=ah.1 j2
   refine co λda =>?_
   rcases Nat.lt_or_gt_of_ne da with cV|cV
   ·exact List.pairwise_iff_getElem.1 dl i j b1 b3 cV (b2.trans b4.symm)
   ·exact List.pairwise_iff_getElem.1 dl j i b3 b1 cV (b4.trans b2.symm)
  subst mJ
  rw[fS]
  simp only at j1
  rw[j1]
  simp[yOf,hc,hi,vJ]
theorem fnS (vs:List Tmp) (o:Opts) (hf:E.P.funcs[fid]? = some fn) (h:(fn.body.map (λc=>Af (E.opt o) fn.ntmps vs c),C5 E.P o.kp vs fn.results.toList,KM fn pf vs)=(some pf.code,some pf.results,true))
  (hn:fn.name ≠ "runtime.NumGoroutine") (hl:o.lps=[]:=by rfl)
  (fS:N.fn k=fid:=by rfl) (hy:N.yl k=none:=by rfl) (hr:pf.code.isRound=false:=by rfl) (hp:pf.prim=none:=by rfl) (hd:pf.defer=none:=by rfl):FnS E N k pf:=by
 simp only[ac] at h
 obtain⟨h1,h2,h3⟩:=h
 simp only[KM,ao,av,br,aJ] at h3
 obtain⟨⟨⟨⟨⟨a0,a1⟩,a2⟩,a3⟩,a4⟩,a5⟩:=h3
 refine .inl ⟨hy,hr,a0,.inl ⟨hp,hd,fn,vs,by rw[fS]; exact hf,hn,a1,a2,a3,a4,?_,o,h1,.inl hl,h2⟩⟩
 intro i hi
 have:(vs.take pf.params)[i]? = some i:=by rw[a5]; simp[hi]
 rwa [aW,ai hi] at this
def UY (nt:Nat) (pf:PFunc) (vars:List Tmp) (ps:Array Tmp) (vs:List Tmp) (a b:PC):Bool:=
 a.RO&&b.RO&&decide vs.Nodup&&vs.all (λt=>decide (t<nt))&&vs.length==pf.nv&&pf.params==1+(vars.length+ps.size)&&vs.take (vars.length+ps.size)==vars++ps.toList
theorem rdS (vars vs:List Tmp) (o:Opts) (j:Nat) (ps:Array Tmp) {a b:PC} (lu:pf.code = .round a b) (hf:E.P.funcs[fid]? = some fn)
  (h:((fn.body.bind λc=>(zR c)[j]?).map λz=>(z.1,Af (E.opt o) fn.ntmps vs z.2.1,Af (E.opt o) fn.ntmps vs z.2.2))=some (ps,a,b)) (rj:UY fn.ntmps pf vars ps vs a b=true)
  (hn:fn.name ≠ "runtime.NumGoroutine") (hy:N.yl k=yOf fn fid j vars:=by rfl) (fS:N.fn k=fid:=by rfl) (hl:o.lps=[]:=by rfl) (hp:pf.prim=none:=by rfl) (hd:pf.defer=none:=by rfl):FnS E N k pf:=by
 simp only[ab,aj,ac] at h
 obtain⟨z,⟨c,hc,hz⟩,rfl,h2,h3⟩:=h
 simp only[UY,ao,av,br,aJ] at rj
 obtain⟨⟨⟨⟨⟨⟨a0,a1⟩,a2⟩,a3⟩,a4⟩,a5⟩,a6⟩:=rj
 refine .inr ⟨⟨fid,z.1,z.2.1,z.2.2,vars,fn.ntmps⟩,fn,vs,o,a,b,⟨by rw[hy]; simp[yOf,hc,hz],lu,a0,a1,hp,hd,hf,fS,hn,by simp[hc],a2,a3,a4,a5,a6,hl,h2,h3⟩⟩
def AllFn (E:Env) (N:Nm):Nat→List (Option PFunc)→Prop
 | _,[]=>True
 | n,none::fs=>AllFn E N (n+1) fs
 | n,some f::fs=>FnS E N n f∧AllFn E N (n+1) fs
theorem AllFn.get:∀{fs:List (Option PFunc)} {n:Nat},AllFn E N n fs→∀{k:Nat} {f:PFunc},fs[k]?.join=some f→FnS E N (n+k) f
 | [],n,_,k,f,hk=>by simp at hk
 | o :: fs, n, h, 0, f, hk => by
   simp at hk; subst hk
   exact h.1
 | o :: fs, n, h, k + 1, f, hk => by
   have h':AllFn E N (n+1) fs:=by cases o with
    | none=>exact h
    | some g=>exact h.2
   have:=AllFn.get h' (k:=k) (f:=f) (by simpa using hk)
   rwa [show n+1+k=n+(k+1) by omega] at this
end
end PI
namespace PI
open Go (IntKind BinOp UnOp)
def TO:List PV→Option (List (List UInt8))
 | []=>some []
 | .str s::r=>(TO r).map (s::·)
 | _=>none
def d8h (args:List PV) (h:List PObj):Option (PV×List PObj):=
 match args with
 | [.list _ es,.str sep]=>(TO es).bind λxs=>if xs.length≤140737488355328∧(Go.Lib.join xs sep).length≤140737488355328 then some (.str (Go.Lib.join xs sep),h) else none
 | _=>none
def Jm (args:List PV) (h:List PObj):Option (PV×List PObj):=
 match args with
 | [.str s,.int .u8 c]=>some (.int .i64 (Go.Lib.indexByte s c.toNat.toUInt8),h)
 | _=>none
def d8i (args:List PV) (h:List PObj):Option (PV×List PObj):=
 match args with
 | [.int .i64 n]=>if -9223372036854775808≤n∧n≤9223372036854775807 then some (.str (Go.Lib.itoa n),h) else none
 | _=>none
def Fs:List PV→Option (List Int)
 | []=>some []
 | .int .i64 n::r=>(Fs r).map (n::·)
 | _=>none
def ins {α:Type} (le:α→α→Bool) (x:α):List α→List α
 | []=>[x]
 | y::ys=>if le x y then x::y::ys else y::ins le x ys
def Bg {α:Type} (le:α→α→Bool):List α→List α
 | []=>[]
 | x::xs=>ins le x (Bg le xs)
theorem Om {α:Type} (le:α→α→Bool) (x:α):∀l,(ins le x l).Perm (x::l)
 | [] => .refl _
 | y :: ys => by
   unfold ins
   split
   ·exact .refl _
   ·exact((Om le x ys).cons y).trans (.swap x y ys)
theorem EO {α:Type} (le:α→α→Bool):∀l,(Bg le l).Perm l
 | [] => .refl _
 | x::xs=>(Om le x _).trans ((EO le xs).cons x)
theorem TP {α:Type} {le:α→α→Bool} (ht:∀a b c,le a b=true→le b c=true→le a c=true) (hn:∀a b,(le a b||le b a)=true) (x:α):∀l,l.Pairwise (λa b=>le a b=true)→(ins le x l).Pairwise (λa b=>le a b=true)
 | [],_=>by simp[ins]
 | y :: ys, h => by
   unfold ins
   split
   ·rename_i kB
    refine bO.2 ⟨λz hz =>?_,h⟩
    rcases aA.1 hz with rfl|hz
    ·exact kB
    ·exact ht _ _ _ kB ((bO.1 h).1 z hz)
   ·rename_i kB
    have xy:le y x=true:=by have:=hn x y; simp only[kB,Bool.false_or] at this; exact this
    refine bO.2 ⟨λz hz =>?_,TP ht hn x ys (bO.1 h).2⟩
    rcases aA.1 ((Om le x ys).mem_iff.1 hz) with rfl|hz
    ·exact xy
    ·exact(bO.1 h).1 z hz
theorem TQ {α:Type} {le:α→α→Bool} (ht:∀a b c,le a b=true→le b c=true→le a c=true) (hn:∀a b,(le a b||le b a)=true):∀l,(Bg le l).Pairwise (λa b=>le a b=true)
 | [] => .nil
 | x::xs=>TP ht hn x _ (TQ ht hn xs)
theorem TR {α:Type} {le:α→α→Bool} (ht:∀a b c,le a b=true→le b c=true→le a c=true) (hn:∀a b,(le a b||le b a)=true) (ha:∀a b,le a b=true→le b a=true→a=b) (l:List α):Bg le l=l.mergeSort le:=
 List.Perm.eq_of_pairwise (λa b _ _=>ha a b) (TQ ht hn l) (List.pairwise_mergeSort ht hn l) ((EO le l).trans (List.mergeSort_perm l le).symm)
def Ft (x y:Int):Bool:=decide (x≤y)
theorem c3M (l:List Int):Bg Ft l=l.mergeSort λx y=>decide (x≤y):=
 TR (le:=Ft) (λa b c h1 h2=>by simp[Ft] at *; omega) (λa b=>by simp[Ft]; omega) (λa b h1 h2=>by simp[Ft] at *; omega) l
def Fj (args:List PV) (h:List PObj):Option (PV×List PObj):=
 match args with
 | [.rowp n 1 false len] =>
   match h[n]? with
   | some (.cells cs)=>if len≤cs.length∧len<4611686018427387904 then(Fs (cs.take len)).map λzs=>(.tuple [],h.set n (.cells ((Bg Ft zs).map (.int .i64 ·)++cs.drop len))) else none
   | _=>none
 | [.list _ []]=>some (.tuple [],h)
 | _=>none
def EM:List PV→Option (List (Int×Int))
 | []=>some []
 | .int .i64 a :: .int .i64 b::r=>(EM r).map ((a,b)::·)
 | _=>none
def yW (x:Int×Int):List PV:=[.int .i64 x.1,.int .i64 x.2]
def Av (x y:Int×Int):Bool:=decide (x.1<y.1∨x.1=y.1∧x.2≤y.2)
theorem c1O (l:List (Int×Int)):Bg Av l=l.mergeSort Av:=
 TR (λa b c h1 h2=>by simp[Av] at *; omega) (λa b=>by simp[Av]; omega) (λa b h1 h2=>by simp[Av] at *; exact Prod.ext (by omega) (by omega)) l
def EI (kc:Nat) (args:List PV) (h:List PObj):Option (PV×List PObj):=
 match args with
 | [.rowp n 2 true len, .func k [] []] =>
   match h[n]? with
   | some (.cells cs)=>if k=kc∧len*2≤cs.length∧len<4611686018427387904 then(EM (cs.take (len*2))).map λzs=>(.tuple [],h.set n (.cells ((Bg Av zs).flatMap yW++cs.drop (len*2)))) else none
   | _=>none
 | [.list _ [],_]=>some (.tuple [],h)
 | _=>none
section
variable {cf:yg} {V l:List PV} {g:Nat} {h:List PObj} {L:Nat→Option PFunc}
@[simp] theorem d8j (i:Nat):raw ⟨V,l,g,h⟩ (.v i)=V[i]? := rfl
@[simp] theorem d8k (i:Nat):raw ⟨V,l,g,h⟩ (.l i)=l[i]? := rfl
@[simp] theorem d8l (p:PV):raw ⟨V,l,g,h⟩ (.c p)=some p:=rfl
@[simp] theorem d8m (x:PX):rd ⟨V,l,g,h⟩ x=match raw ⟨V,l,g,h⟩ x with | some v=>cp v | none=>none:=by
 simp only[rd]; cases raw ⟨V,l,g,h⟩ x<;>rfl
@[simp] theorem d5G (b:Bool):cp (.bool b)=some (.bool b):=rfl
@[simp] theorem d35 (b:Bool):dem (.bool b) = .bool b:=rfl
@[simp] theorem d6r (k:IntKind) (n:Int):cp (.int k n)=some (.int k n):=rfl
@[simp] theorem d5H (k:IntKind) (n:Int):dem (.int k n) = .int k n:=rfl
@[simp] theorem d6s (s:List UInt8):cp (.str s)=some (.str s):=rfl
@[simp] theorem d5I (s:List UInt8):dem (.str s) = .str s:=rfl
@[simp] theorem d6t (cs:List PV):cp (.agg cs)=some (.agg cs):=rfl
@[simp] theorem d5J (cs:List PV):dem (.agg cs) = .agg cs:=rfl
@[simp] theorem d36 (vs:List PV):cp (.tuple vs)=some (.tuple vs):=rfl
@[simp] theorem d2i (vs:List PV):dem (.tuple vs) = .tuple vs:=rfl
@[simp] theorem d2j:cp (.nilptr)=some (.nilptr):=rfl
@[simp] theorem d0b:dem (.nilptr) = .nilptr:=rfl
@[simp] theorem d5K (cs:List PV):cp (.cptr cs)=some (.cptr cs):=rfl
@[simp] theorem d37 (cs:List PV):dem (.cptr cs) = .cptr cs:=rfl
@[simp] theorem d6u (n o:Nat):cp (.ptr n o)=some (.ptr n o):=rfl
@[simp] theorem d5L (n o:Nat):dem (.ptr n o) = .ptr n o:=rfl
@[simp] theorem d6v (n:Option Nat):cp (.map n)=some (.map n):=rfl
@[simp] theorem d5M (n:Option Nat):dem (.map n) = .map n:=rfl
@[simp] theorem d5N (k:Nat) (a b:List PV):cp (.func k a b)=some (.func k a b):=rfl
@[simp] theorem d38 (k:Nat) (a b:List PV):dem (.func k a b) = .func k a b:=rfl
@[simp] theorem d0c:cp (.nilfunc)=some (.nilfunc):=rfl
@[simp] theorem c8O:dem (.nilfunc) = .nilfunc:=rfl
@[simp] theorem d39 (t:Nat) (v:PV):cp (.iface t v)=some (.iface t v):=rfl
@[simp] theorem d2k (t:Nat) (v:PV):dem (.iface t v) = .iface t v:=rfl
@[simp] theorem c8P:cp (.nilIface)=some (.nilIface):=rfl
@[simp] theorem c6Z:dem (.nilIface) = .nilIface:=rfl
@[simp] theorem d5O:cp (.nils)=some (.nils):=rfl
@[simp] theorem d4a:dem (.nils) = .nils:=rfl
@[simp] theorem d5P:cp (.void)=some (.void):=rfl
@[simp] theorem d4b:dem (.void) = .void:=rfl
@[simp] theorem d5Q (o:Bool) (es:List PV):cp (.list o es)=some (.list false es):=rfl
@[simp] theorem d4c (o:Bool) (es:List PV):dem (.list o es) = .list false es:=rfl
@[simp] theorem d6w (n:Nat) (cs:List PV):cp (.loc n cs)=none:=rfl
@[simp] theorem d5R (s n o:Nat):cp (.lptr s n o)=none:=rfl
@[simp] theorem d5S:cp .dead=none:=rfl
@[simp] theorem d5T (n sz:Nat) (a:Bool) (k:Nat):cp (.rowp n sz a k)=some (.rowp n sz a k):=rfl
@[simp] theorem d4d (n sz:Nat) (a:Bool) (k:Nat):dem (.rowp n sz a k) = .rowp n sz a k:=rfl
@[simp] theorem Uc (n sz:Nat) (a:Bool) (k:Nat):zp (.rowp n sz a k)=some n:=rfl
@[simp] theorem d2l (b:Bool):zp (.bool b)=none:=rfl
@[simp] theorem d4e (k:IntKind) (n:Int):zp (.int k n)=none:=rfl
@[simp] theorem d4f (s:List UInt8):zp (.str s)=none:=rfl
@[simp] theorem d4g (cs:List PV):zp (.agg cs)=none:=rfl
@[simp] theorem d0d (vs:List PV):zp (.tuple vs)=none:=rfl
@[simp] theorem c8Q:zp (.nilptr)=none:=rfl
@[simp] theorem d2m (cs:List PV):zp (.cptr cs)=none:=rfl
@[simp] theorem d4h (n o:Nat):zp (.ptr n o)=none:=rfl
@[simp] theorem d4i (n:Option Nat):zp (.map n)=none:=rfl
@[simp] theorem d2n (k:Nat) (a b:List PV):zp (.func k a b)=none:=rfl
@[simp] theorem c60:zp (.nilfunc)=none:=rfl
@[simp] theorem d0e (t:Nat) (v:PV):zp (.iface t v)=none:=rfl
@[simp] theorem c5N:zp (.nilIface)=none:=rfl
@[simp] theorem d2o:zp (.nils)=none:=rfl
@[simp] theorem d2p:zp (.void)=none:=rfl
@[simp] theorem d2q (o:Bool) (es:List PV):zp (.list o es)=none:=rfl
@[simp] theorem d4j (n:Nat) (cs:List PV):zp (.loc n cs)=none:=rfl
@[simp] theorem d2r (s n o:Nat):zp (.lptr s n o)=none:=rfl
@[simp] theorem d2s:zp (.dead)=none:=rfl
@[simp] theorem d5U (n:Nat) (cs:List PV):dem (.loc n cs) = .loc n cs:=rfl
@[simp] theorem d4k:dem .dead = .dead:=rfl
@[simp] theorem d2t (b:Bool):yt (.bool b)=true:=rfl
@[simp] theorem d4l (k:IntKind) (n:Int):yt (.int k n)=true:=rfl
@[simp] theorem d4m (s:List UInt8):yt (.str s)=true:=rfl
@[simp] theorem d4n (cs:List PV):yt (.agg cs)=yq cs:=rfl
@[simp] theorem d0f (vs:List PV):yt (.tuple vs)=yq vs:=rfl
@[simp] theorem c8R:yt (.nilptr)=true:=rfl
@[simp] theorem d2u (cs:List PV):yt (.cptr cs)=yq cs:=rfl
@[simp] theorem d4o (n o:Nat):yt (.ptr n o)=false:=rfl
@[simp] theorem d4p (n:Option Nat):yt (.map n)=n.isNone:=rfl
@[simp] theorem d2v (k:Nat) (a b:List PV):yt (.func k a b)=(yq a&&yq b):=rfl
@[simp] theorem c61:yt (.nilfunc)=true:=rfl
@[simp] theorem d0g (t:Nat) (v:PV):yt (.iface t v)=yt v:=rfl
@[simp] theorem c5O:yt (.nilIface)=true:=rfl
@[simp] theorem d2w:yt (.nils)=true:=rfl
@[simp] theorem d2x:yt (.void)=true:=rfl
@[simp] theorem d2y (o:Bool) (es:List PV):yt (.list o es)=yq es:=rfl
@[simp] theorem d2z:yt (.dead)=false:=rfl
@[simp] theorem d2A (n sz:Nat) (a:Bool) (k:Nat):yt (.rowp n sz a k)=false:=rfl
@[simp] theorem d5V (k:EK) (x y:PV):peq false [k] x y=Bm k x y:=rfl
@[simp] theorem d5W (ks:List EK) (xs ys:List PV):peq true ks (.agg xs) (.agg ys)=A5 ks xs ys:=rfl
def tkv:PV→Option (PV×Bool)
 | .list true es=>some (.list true es,true)
 | v => match cp v with
   | some u=>some (u,false)
   | none=>none
@[simp] theorem d4q (b:Bool):tkv (.bool b)=some (.bool b,false):=rfl
@[simp] theorem d5X (k:IntKind) (n:Int):tkv (.int k n)=some (.int k n,false):=rfl
@[simp] theorem d5Y (s:List UInt8):tkv (.str s)=some (.str s,false):=rfl
@[simp] theorem d5Z (cs:List PV):tkv (.agg cs)=some (.agg cs,false):=rfl
@[simp] theorem d2B (vs:List PV):tkv (.tuple vs)=some (.tuple vs,false):=rfl
@[simp] theorem d0h:tkv (.nilptr)=some (.nilptr,false):=rfl
@[simp] theorem d4r (cs:List PV):tkv (.cptr cs)=some (.cptr cs,false):=rfl
@[simp] theorem d50 (n o:Nat):tkv (.ptr n o)=some (.ptr n o,false):=rfl
@[simp] theorem d51 (n:Option Nat):tkv (.map n)=some (.map n,false):=rfl
@[simp] theorem d4s (k:Nat) (a b:List PV):tkv (.func k a b)=some (.func k a b,false):=rfl
@[simp] theorem c8S:tkv (.nilfunc)=some (.nilfunc,false):=rfl
@[simp] theorem d2C (t:Nat) (v:PV):tkv (.iface t v)=some (.iface t v,false):=rfl
@[simp] theorem c62:tkv (.nilIface)=some (.nilIface,false):=rfl
@[simp] theorem d4t:tkv (.nils)=some (.nils,false):=rfl
@[simp] theorem d4u:tkv (.void)=some (.void,false):=rfl
@[simp] theorem d52 (es:List PV):tkv (.list true es)=some (.list true es,true):=rfl
@[simp] theorem d4v (es:List PV):tkv (.list false es)=some (.list false es,false):=rfl
@[simp] theorem d53 (n:Nat) (cs:List PV):tkv (.loc n cs)=none:=rfl
@[simp] theorem d4w (s n o:Nat):tkv (.lptr s n o)=none:=rfl
@[simp] theorem d4x:tkv .dead=none:=rfl
@[simp] theorem d4y (n sz:Nat) (a:Bool) (k:Nat):tkv (.rowp n sz a k)=some (.rowp n sz a k,false):=rfl
@[simp] theorem d54 (x:PX):tk ⟨V,l,g,h⟩ x=match raw ⟨V,l,g,h⟩ x with
  | some v => (match tkv v with
    | some (u,true)=>some (u,D8 ⟨V,l,g,h⟩ x (dem v))
    | some (u,false)=>some (u,⟨V,l,g,h⟩)
    | none=>none)
  | none=>none:=by
 unfold tk
 cases raw ⟨V,l,g,h⟩ x with
 | none=>rfl
 | some v => cases v with
   | list ow es=>cases ow<;>rfl
   | _=>rfl
def CM:PV→Option (List PV)
 | .agg cs=>some cs
 | _=>none
@[simp] theorem c63 (cs:List PV):CM (.agg cs)=some cs:=rfl
@[simp] theorem d4z (cs:List PV):AK (.agg cs) = .agg (cs.map dem):=rfl
@[simp] theorem d2D (b:Bool):AK (.bool b) = .bool b:=rfl
@[simp] theorem d4A (k:IntKind) (n:Int):AK (.int k n) = .int k n:=rfl
@[simp] theorem d4B (s:List UInt8):AK (.str s) = .str s:=rfl
@[simp] theorem d2E (o:Bool) (es:List PV):AK (.list o es) = .list false es:=rfl
@[simp] theorem c5P (n:Nat) (cs:List PV) (off:Nat) (v:PV):yB n true cs off v=match CM v with
  | some vs=>if vs.length=n∧off+n≤cs.length then some (cs.take off++(vs++cs.drop (off+n))) else none
  | none=>none:=by
 cases v<;>rfl
@[simp] theorem c5Q (n:Nat) (cs:List PV) (off:Nat) (v:PV):yB n false cs off v=if off<cs.length∧v.flat=true then some (cs.set off v) else none:=rfl
def Oy (h:List PObj):PV→Option PV
 | .rowp n sz agg len=>if agg=true∨sz=1 then(match h[n]? with | some (.cells cs)=>(match Aj sz agg cs len 0 with | some es=>some (.list false es) | none=>none) | _=>none) else none
 | _=>none
@[simp] theorem Ud (h:List PObj) (n sz len:Nat) (agg:Bool):Oy h (.rowp n sz agg len)=if agg=true∨sz=1 then(match h[n]? with | some (.cells cs)=>(match Aj sz agg cs len 0 with | some es=>some (.list false es) | none=>none) | _=>none) else none:=rfl
def BG:PV→PV
 | .nils => .list false []
 | v=>v
@[simp] theorem d2F:BG .nils = .list false []:=rfl
@[simp] theorem d2G (b:Bool):BG (.bool b) = .bool b:=rfl
@[simp] theorem d4C (k:IntKind) (n:Int):BG (.int k n) = .int k n:=rfl
@[simp] theorem d4D (s:List UInt8):BG (.str s) = .str s:=rfl
@[simp] theorem d4E (cs:List PV):BG (.agg cs) = .agg cs:=rfl
@[simp] theorem d0i (cs:List PV):BG (.tuple cs) = .tuple cs:=rfl
@[simp] theorem c8T  : BG (.nilptr) = .nilptr:=rfl
@[simp] theorem d2H (cs:List PV):BG (.cptr cs) = .cptr cs:=rfl
@[simp] theorem d4F (n o:Nat):BG (.ptr n o) = .ptr n o:=rfl
@[simp] theorem d4G (n:Option Nat):BG (.map n) = .map n:=rfl
@[simp] theorem d2I (k:Nat) (a b:List PV):BG (.func k a b) = .func k a b:=rfl
@[simp] theorem c64  : BG (.nilfunc) = .nilfunc:=rfl
@[simp] theorem d0j (t:Nat) (v:PV):BG (.iface t v) = .iface t v:=rfl
@[simp] theorem c5R  : BG (.nilIface) = .nilIface:=rfl
@[simp] theorem d2J  : BG (.void) = .void:=rfl
@[simp] theorem d2K (o:Bool) (es:List PV):BG (.list o es) = .list o es:=rfl
@[simp] theorem d2L  : BG (.dead) = .dead:=rfl
@[simp] theorem d4H (n:Nat) (cs:List PV):BG (.loc n cs) = .loc n cs:=rfl
@[simp] theorem c5S (i:Nat):BY ⟨V,l,g,h⟩ (.keep i)=match V[i]? with | some v=>cp v | none=>none:=by
 simp only[BY]; cases V[i]?<;>rfl
@[simp] theorem c65 (V:List PV) (i:Nat) (rs:List PRes) (h:List PObj):yV V (.keep i::rs) h=yV V rs h:=rfl
@[simp] theorem c66 (i:Nat):BY ⟨V,l,g,h⟩ (.var i)=match V[i]? with
  | some v=>(match zp v with | some _=>Oy h v | none=>(match tkv v with | some (u,_)=>some (BG u) | none=>none))
  | none=>none:=by
 simp only[BY]
 cases V[i]? with
 | none=>rfl
 | some v => cases v with
   | list ow es=>cases ow<;>rfl
   | rowp n sz agg len =>
     grind [Uc,Ud,yC,Aj]
   | _=>rfl
@[simp] theorem d0k:Dx []=[]:=rfl
@[simp] theorem c8U (p:PV) (ps:List PV):Dx (p::ps)=match zp p with | some n=>n::Dx ps | none=>Dx ps:=by
 cases p<;>rfl
@[simp] theorem d2M (h:List PObj):BT [] h=h:=rfl
@[simp] theorem d0l (n:Nat) (ns:List Nat) (h:List PObj):BT (n::ns) h=BT ns (h.set n .gone):=rfl
@[simp] theorem c8V (V:List PV) (h:List PObj):yV V [] h=h:=rfl
@[simp] theorem c68 (V:List PV) (i n:Nat) (agg:Bool) (rs:List PRes) (h:List PObj):yV V (.cell i n agg::rs) h=match V[i]? with
  | some (.loc _ cs)=>yV V rs (BT (Dx cs) h)
  | _=>yV V rs h:=by
 simp only[yV,C9]
 cases V[i]? with
 | none=>rfl
 | some v=>cases v<;>rfl
@[simp] theorem c8W (V:List PV) (i:Nat) (rs:List PRes) (h:List PObj):yV V (.var i::rs) h=match V[i]? with
  | some v=>(match zp v with | some n=>yV V rs (h.set n .gone) | none=>yV V rs h)
  | none=>yV V rs h:=by
 simp only[yV,C9,KR]
 cases V[i]? with
 | none=>rfl
 | some v=>cases v<;>rfl
@[simp] theorem d2N (h:List PObj):Cp h []=some []:=rfl
@[simp] theorem d0m (h:List PObj) (p:PV) (ps:List PV):Cp h (p::ps)=match zp p with
  | some _=>(match Oy h p with | some q=>(match Cp h ps with | some qs=>some (q::qs) | none=>none) | none=>none)
  | none=>(match Cp h ps with | some qs=>some (p::qs) | none=>none):=by
 simp only[Cp]
 cases p with
 | rowp n sz agg len =>
   grind [Uc,Ud,Co,Aj,Cp]
 | _=>cases Cp h ps<;>rfl
@[simp] theorem d4I (h:List PObj) (ps:List PV):zN h (.agg ps)=match Cp h ps with | some qs=>some (.agg qs) | none=>none:=by
 simp only[zN]; cases Cp h ps<;>rfl
@[simp] theorem d2O (h:List PObj) (b:Bool):zN h (.bool b)=some (.bool b):=rfl
@[simp] theorem d4J (h:List PObj) (k:IntKind) (n:Int):zN h (.int k n)=some (.int k n):=rfl
@[simp] theorem d4K (h:List PObj) (s:List UInt8):zN h (.str s)=some (.str s):=rfl
@[simp] theorem d2P (h:List PObj) (o:Bool) (es:List PV):zN h (.list o es)=some (.list o es):=rfl
@[simp] theorem c8X (h:List PObj)  : zN h (.nilptr)=some (.nilptr):=rfl
@[simp] theorem d2Q (h:List PObj) (cs:List PV):zN h (.cptr cs)=some (.cptr cs):=rfl
@[simp] theorem d4L (h:List PObj) (n o:Nat):zN h (.ptr n o)=some (.ptr n o):=rfl
@[simp] theorem d2R (h:List PObj) (n sz:Nat) (a:Bool) (k:Nat):zN h (.rowp n sz a k)=some (.rowp n sz a k):=rfl
@[simp] theorem d4M (h:List PObj) (n:Option Nat):zN h (.map n)=some (.map n):=rfl
@[simp] theorem d2S (h:List PObj) (k:Nat) (a b:List PV):zN h (.func k a b)=some (.func k a b):=rfl
@[simp] theorem c69 (h:List PObj)  : zN h (.nilfunc)=some (.nilfunc):=rfl
@[simp] theorem d0n (h:List PObj) (t:Nat) (v:PV):zN h (.iface t v)=some (.iface t v):=rfl
@[simp] theorem c5T (h:List PObj)  : zN h (.nilIface)=some (.nilIface):=rfl
@[simp] theorem c5U (i n:Nat) (agg:Bool):BY ⟨V,l,g,h⟩ (.cell i n agg)=match V[i]? with
  | some (.loc _ cs)=>(match yh n agg cs 0 with | some v=>zN h v | none=>none)
  | some (.ptr m 0)=>(match yC ⟨V,l,g,h⟩ m with | some cs=>yh n agg cs 0 | none=>none)
  | _=>none:=by
 simp only[BY]
 cases V[i]? with
 | none=>rfl
 | some v =>
   cases v with
   | loc g cs=>simp only; cases yh n agg cs 0<;>rfl
   | ptr m off =>
     cases off with
     | zero=>simp only; cases yC ⟨V,l,g,h⟩ m<;>rfl
     | succ off=>rfl
   | _=>rfl
attribute [simp] addr rdInt D8 yq GM GN unv bound Bm Ez
@[simp] theorem d2T (st:St):rdAll st []=some []:=rfl
@[simp] theorem d0o (x:PX) (xs:List PX):rdAll ⟨V,l,g,h⟩ (x::xs)=match rd ⟨V,l,g,h⟩ x with | some v=>(match rdAll ⟨V,l,g,h⟩ xs with | some vs=>some (v::vs) | none=>none) | none=>none:=by
 simp only[rdAll]; cases rd ⟨V,l,g,h⟩ x<;>simp; cases rdAll ⟨V,l,g,h⟩ xs<;>rfl
@[simp] theorem c8Y (st:St):rdElems st []=some []:=rfl
@[simp] theorem c7a (i:Nat) (x:PX) (xs:List (Nat×PX)):rdElems ⟨V,l,g,h⟩ ((i,x)::xs)=match rd ⟨V,l,g,h⟩ x with | some v=>(match rdElems ⟨V,l,g,h⟩ xs with | some vs=>some ((i,v)::vs) | none=>none) | none=>none:=by
 simp only[rdElems]; cases rd ⟨V,l,g,h⟩ x<;>simp; cases rdElems ⟨V,l,g,h⟩ xs<;>rfl
@[simp] theorem c8Z (st:St):rdParts st []=some []:=rfl
@[simp] theorem c7b (i s:Nat) (x:PX) (xs:List (Nat×Nat×PX)):rdParts ⟨V,l,g,h⟩ ((i,s,x)::xs)=match rd ⟨V,l,g,h⟩ x with | some v=>(match rdParts ⟨V,l,g,h⟩ xs with | some vs=>some ((i,s,v)::vs) | none=>none) | none=>none:=by
 simp only[rdParts]; cases rd ⟨V,l,g,h⟩ x<;>simp; cases rdParts ⟨V,l,g,h⟩ xs<;>rfl
@[simp] theorem d8n (i j:Nat) (v:PV):put ⟨V,l,g,h⟩ j (.v i) v=⟨V.set i v,l,g,h⟩:=rfl
@[simp] theorem d8o (j:Nat) (v:PV):put ⟨V,l,g,h⟩ j .l v=⟨V,l.set j v,g,h⟩:=rfl
@[simp] theorem d8p (j:Nat) (v:PV):put ⟨V,l,g,h⟩ j .n v=⟨V,l,g,h⟩:=rfl
@[simp] theorem d0p (ops:List PO):Az cf ops ⟨V,l,g,h⟩=AL cf 0 ops ⟨V,List.replicate ops.length .dead,g,h⟩:=rfl
@[simp] theorem c7c (j:Nat) (st:St):AL cf j [] st=some st:=rfl
@[simp] theorem c5V (j:Nat) (d:PD) (o:POp) (os:List PO):AL cf j (⟨d,o,none⟩::os) ⟨V,l,g,h⟩ =
  match opv cf o ⟨V,l,g,h⟩ with | some (v,st)=>AL cf (j+1) os (put st j d v) | none=>none:=by
 simp only[AL,zf]; cases opv cf o ⟨V,l,g,h⟩<;>rfl
@[simp] theorem c4q (j:Nat) (d:PD) (o:POp) (x:PX) (want:Bool) (os:List PO):AL cf j (⟨d,o,some (x,want)⟩::os) ⟨V,l,g,h⟩ =
  match rd ⟨V,l,g,h⟩ x with
  | some (.bool b)=>if b=want then(match opv cf o ⟨V,l,g,h⟩ with | some (v,st)=>AL cf (j+1) os (put st j d v) | none=>none) else AL cf (j+1) os (put ⟨V,l,g,h⟩ j d (.tuple []))
  | some (.tuple [])=>AL cf (j+1) os (put ⟨V,l,g,h⟩ j d (.tuple []))
  | _=>none:=by
 simp only[AL,zf]
 cases rd ⟨V,l,g,h⟩ x with
 | none=>rfl
 | some v =>
   cases v<;>try rfl
   ·rename_i b
    by_cases hb:b=want
    ·simp only[ai hb]; cases opv cf o ⟨V,l,g,h⟩<;>rfl
    ·simp only[ae hb]; rfl
   ·rename_i vs
    cases vs<;>rfl
def sv (r:Option PV) (st:St):Option (PV×St):=match r with | some v=>some (v,st) | none=>none
@[simp] theorem d56 (v:PV) (st:St):sv (some v) st=some (v,st):=rfl
@[simp] theorem d57 (st:St):sv none st=none:=rfl
theorem Du (r:Option PV) (st:St):r.map (·,st)=sv r st:=by cases r<;>rfl
@[simp] theorem d58 (x:PX):opv cf (.mov x) ⟨V,l,g,h⟩=sv (rd ⟨V,l,g,h⟩ x) ⟨V,l,g,h⟩:=Du _ _
@[simp] theorem d4N (x:PX):opv cf (.take x) ⟨V,l,g,h⟩=match raw ⟨V,l,g,h⟩ x with
  | some v => (match tkv v with
    | some (u,true)=>some (u,D8 ⟨V,l,g,h⟩ x (dem v))
    | some (u,false)=>some (u,⟨V,l,g,h⟩)
    | none=>none)
  | none=>none:=by
 simp only[opv,d54]
@[simp] theorem d4O (c a b:PX):opv cf (.pick c a b) ⟨V,l,g,h⟩=match rd ⟨V,l,g,h⟩ c with
  | some (.bool t)=>sv (rd ⟨V,l,g,h⟩ (if t then a else b)) ⟨V,l,g,h⟩
  | _=>none:=by
 simp only[opv,Du]; rfl
@[simp] theorem d0q (z:List PV):opv cf (.newloc z) ⟨V,l,g,h⟩=some (.loc g z,⟨V,l,g+1,h⟩):=rfl
@[simp] theorem d0r (s:Nat) (x:PX):opv cf (.boxloc s x) ⟨V,l,g,h⟩=match rd ⟨V,l,g,h⟩ x with
  | some v=>if v.cells.length=s then some (.loc g (v.cells.map dem),⟨V,l,g+1,h⟩) else none
  | none=>none:=rfl
@[simp] theorem c80 (s:Nat) (z:PV) (n:Nat) (ps:List (Nat×PX)):opv cf (.mkslice s z n ps) ⟨V,l,g,h⟩=match rdElems ⟨V,l,g,h⟩ ps with
  | some es=>(match B8 s (List.replicate n z) es with | some es=>some (.list true es,⟨V,l,g,h⟩) | none=>none)
  | none=>none:=by
 simp only[opv]; cases rdElems ⟨V,l,g,h⟩ ps<;>simp; rename_i es; cases B8 s (List.replicate n z) es<;>rfl
@[simp] theorem d2U (z:List PV) (ps:List (Nat×Nat×PX)):opv cf (.build z ps) ⟨V,l,g,h⟩=match rdParts ⟨V,l,g,h⟩ ps with
  | some es=>(match B7 z es with | some cs=>some (.agg cs,⟨V,l,g,h⟩) | none=>none)
  | none=>none:=by
 simp only[opv]; cases rdParts ⟨V,l,g,h⟩ ps<;>simp; rename_i es; cases B7 z es<;>rfl
@[simp] theorem d4P (s:Nat) (agg:Bool) (a:PX) (t:Bool):opv cf (.load s agg a t) ⟨V,l,g,h⟩=match addr ⟨V,l,g,h⟩ a with
  | some (.cptr cs)=>sv (yh s agg cs 0) ⟨V,l,g,h⟩
  | some (.lptr s' g0 off) =>
    match V[s']? with
    | some (.loc g' cs) =>
      if g0=g' then
       match t && !agg,cs[off]? with
       | true,some (.list true es)=>some (.list true es,⟨V.set s' (.loc g0 (cs.set off (.list false es))),l,g,h⟩)
       | _,_=>sv (yh s agg cs off) ⟨V,l,g,h⟩
      else none
    | _=>none
  | _=>none:=by simp only[opv,Du]; rfl
@[simp] theorem d2V (s:Nat) (agg:Bool) (a x:PX):opv cf (.store s agg a x) ⟨V,l,g,h⟩=match addr ⟨V,l,g,h⟩ a,tk ⟨V,l,g,h⟩ x with
  | some (.lptr s' g0 off), some (v, ⟨V, l, g, h⟩) =>
    match V[s']? with
    | some (.loc g' cs)=>if g0=g' then(match yB s agg cs off v with | some cs=>some (.dead,⟨V.set s' (.loc g0 cs),l,g,h⟩) | none=>none) else none
    | _=>none
  | _,_=>none:=by
 simp only[opv]
 cases addr ⟨V,l,g,h⟩ a with
 | none=>rfl
 | some p => cases p <;> try rfl
             cases tk ⟨V,l,g,h⟩ x with
             | none=>rfl
             | some r=>grind
@[simp] theorem d2W (off:Nat) (x:PX):opv cf (.faddr off x) ⟨V,l,g,h⟩=match addr ⟨V,l,g,h⟩ x with
  | some (.cptr cs)=>some (.cptr (cs.drop off),⟨V,l,g,h⟩)
  | some (.lptr s g0 o)=>some (.lptr s g0 (o+off),⟨V,l,g,h⟩)
  | some (.ptr n o)=>some (.ptr n (o+off),⟨V,l,g,h⟩)
  | _=>none:=rfl
@[simp] theorem d0s (s:Nat) (x i:PX):opv cf (.iaddrS s x i) ⟨V,l,g,h⟩=match rd ⟨V,l,g,h⟩ x,rdInt ⟨V,l,g,h⟩ i with
  | some (.list _ es), some n =>
    if 0≤n then
     match es[n.toNat]? with
     | some e=>if e.cells.length=s then some (.cptr e.cells,⟨V,l,g,h⟩) else none
     | none=>none
    else none
  | some (.rowp m sz _ len),some n=>if sz=s∧0≤n∧n<len then some (.ptr m (n.toNat*s),⟨V,l,g,h⟩) else none
  | some (.rows m sz _ off len),some n=>if sz=s∧0≤n∧n<len then some (.ptr m ((off+n.toNat)*s),⟨V,l,g,h⟩) else none
  | _,_=>none:=rfl
@[simp] theorem c7d (x i:PX):opv cf (.indexStr x i) ⟨V,l,g,h⟩=match rd ⟨V,l,g,h⟩ x,rdInt ⟨V,l,g,h⟩ i with
  | some (.str s), some n =>
    if 0≤n then
     match s[n.toNat]? with
     | some b=>some (.int .u8 b.toNat,⟨V,l,g,h⟩)
     | none=>none
    else none
  | _,_=>none:=rfl
@[simp] theorem d59 (op:BinOp) (x y:PX):opv cf (.bin op x y) ⟨V,l,g,h⟩=match rd ⟨V,l,g,h⟩ x,rd ⟨V,l,g,h⟩ y with
  | some a,some b=>sv (C8 op a b) ⟨V,l,g,h⟩
  | _,_=>none:=by simp only[opv,Du]; rfl
@[simp] theorem d6x (neg agg:Bool) (ks:List EK) (x y:PX):opv cf (.eq neg agg ks x y) ⟨V,l,g,h⟩=match rd ⟨V,l,g,h⟩ x,rd ⟨V,l,g,h⟩ y with
  | some a,some b=>(match peq agg ks a b with | some t=>some (.bool (if neg then !t else t),⟨V,l,g,h⟩) | none=>none)
  | _,_=>none:=by
 simp only[opv]
 cases rd ⟨V,l,g,h⟩ x with
 | none=>rfl
 | some a => cases rd ⟨V, l, g, h⟩ y with
   | none=>rfl
   | some b=>simp only; cases peq agg ks a b<;>rfl
@[simp] theorem d6y (op:UnOp) (x:PX):opv cf (.un op x) ⟨V,l,g,h⟩=match rd ⟨V,l,g,h⟩ x with
  | some a=>sv (unv op a) ⟨V,l,g,h⟩
  | none=>none:=by simp only[opv,Du]; rfl
@[simp] theorem d4Q (t:Nat) (x:PX):opv cf (.ifc true t x) ⟨V,l,g,h⟩=match rd ⟨V,l,g,h⟩ x with
  | some v=>some (.iface t v,⟨V,l,g,h⟩)
  | none=>none:=by
 simp only[opv]
 cases rd ⟨V,l,g,h⟩ x<;>rfl
@[simp] theorem d4R (t:Nat) (x:PX):opv cf (.ifc false t x) ⟨V,l,g,h⟩=match rd ⟨V,l,g,h⟩ x with
  | some (.iface t' v)=>if t'=t then some (dem v,⟨V,l,g,h⟩) else none
  | _=>none:=by
 simp only[opv]
 cases rd ⟨V,l,g,h⟩ x with
 | none=>rfl
 | some v=>cases v<;>rfl
@[simp] theorem c81 (k:IntKind) (x:PX):opv cf (.convInt k x) ⟨V,l,g,h⟩=match rdInt ⟨V,l,g,h⟩ x with
  | some n=>some (.int k (k.wrap n),⟨V,l,g,h⟩)
  | none=>none:=by simp only[opv]; cases rdInt ⟨V,l,g,h⟩ x<;>rfl
@[simp] theorem c82 (i:Nat) (x:PX):opv cf (.extract i x) ⟨V,l,g,h⟩=match rd ⟨V,l,g,h⟩ x with
  | some (.tuple vs)=>(match vs[i]? with | some v=>sv (cp v) ⟨V,l,g,h⟩ | none=>none)
  | _=>none:=by
 simp only[opv]
 cases rd ⟨V,l,g,h⟩ x with
 | none=>rfl
 | some a => cases a <;> try rfl
             rename_i vs; simp only; cases vs[i]?<;>simp[Du]
@[simp] theorem d6a (str:Bool) (x:PX):opv cf (.len str x) ⟨V,l,g,h⟩=match str,rd ⟨V,l,g,h⟩ x with
  | true,some (.str s)=>some (.int .i64 s.length,⟨V,l,g,h⟩)
  | false,some (.list _ es)=>some (.int .i64 es.length,⟨V,l,g,h⟩)
  | false,some (.rowp _ _ _ n)=>some (.int .i64 n,⟨V,l,g,h⟩)
  | false,some (.rows _ _ _ _ n)=>some (.int .i64 n,⟨V,l,g,h⟩)
  | false,some .nils=>some (.int .i64 0,⟨V,l,g,h⟩)
  | false,some .void=>some (.int .i64 0,⟨V,l,g,h⟩)
  | _,_=>none:=rfl
@[simp] theorem d6b (x:PX):opv cf (.cap x) ⟨V,l,g,h⟩=match rd ⟨V,l,g,h⟩ x with
  | some .nils=>some (.int .i64 0,⟨V,l,g,h⟩)
  | _=>none:=rfl
@[simp] theorem d0t (mx:Bool) (xs:List PX):opv cf (.minmax mx xs) ⟨V,l,g,h⟩=match rdAll ⟨V,l,g,h⟩ xs with
  | some (v::vs)=>sv (Ez mx v vs) ⟨V,l,g,h⟩
  | _=>none:=by simp only[opv,Du]; rfl
@[simp] theorem d0u (s b:Nat) (y x:PX):opv cf (.append s b y x) ⟨V,l,g,h⟩=match rd ⟨V,l,g,h⟩ x,tk ⟨V,l,g,h⟩ y with
  | some (.list _ xs), some (.list true es, st) =>
    if yU s es∧yU s xs∧((es.length+xs.length≤2147483648∧b≤16384)∨(es.length+xs.length≤9223372036854775807∧(es.length+xs.length)*b≤140737488355328)) then some (.list true (es++xs),st) else none
  | some .nils,some (.list true es,st)=>if yU s es∧((es.length≤2147483648∧b≤16384)∨(es.length≤9223372036854775807∧es.length*b≤140737488355328)) then some (.list true es,st) else none
  | some .void,some (.list true es,st)=>if yU s es∧((es.length≤2147483648∧b≤16384)∨(es.length≤9223372036854775807∧es.length*b≤140737488355328)) then some (.list true es,st) else none
  | _,_=>none:=by
 simp only[opv]
 generalize tk ⟨V,l,g,h⟩ y=q
 rcases q with _|⟨v,st⟩
 ·simp
 ·cases rd ⟨V,l,g,h⟩ x with
  | none=>rfl
  | some p =>
    cases v with
    | list ow es =>
      cases ow with
      | false=>simp
      | true=>cases p<;>first | rfl | grind [Dv,yU,List.length_nil]
    | _=>cases p<;>rfl
@[simp] theorem d2X (k:Nat) (args:List PX):opv cf (.pcall k args) ⟨V,l,g,h⟩=match rdAll ⟨V,l,g,h⟩ args with
  | some vs=>if yq vs then(match cf k vs [] with | some (r,_)=>if yt r then some (dem r,⟨V,l,g,h⟩) else none | none=>none) else none
  | none=>none:=rfl
@[simp] theorem d0v (k:Nat) (args:List PX):opv cf (.pzcall k args) ⟨V,l,g,h⟩=match rdAll ⟨V,l,g,h⟩ args with
  | some vs=>if yq vs then(match cf k vs [] with | some (r,h')=>(if yt (frz h' r) then some (dem (frz h' r),⟨V,l,g,h⟩) else none) | none=>none) else none
  | none=>none:=rfl
@[simp] theorem d0w (k:Nat) (args:List PX):opv cf (.pcallx k args none) ⟨V,l,g,h⟩=match rdAll ⟨V,l,g,h⟩ args with
  | some vs=>if yq vs then(match cf k (BX none vs) [] with | some (r,_)=>if yt r then some (r,⟨V,l,g,h⟩) else none | none=>none) else none
  | none=>none:=rfl
@[simp] theorem c83 (k:Nat) (args:List PX) (i:Nat):opv cf (.pcallx k args (some i)) ⟨V,l,g,h⟩=match (match args[i]? with | some x=>tk ⟨V,l,g,h⟩ x | none=>none),rdAll ⟨V,l,g,h⟩ args with
  | some (v,st1),some vs=>if yq (vs.set i v)∧i<vs.length then(match cf k (BX (some i) (vs.set i v)) [] with | some (r,_)=>if yt r then some (r,st1) else none | none=>none) else none
  | _,_=>none:=by
 simp only[opv]; cases args[i]?<;>rfl
@[simp] theorem d0x (l:List PV):CW none l=l.map dem:=rfl
@[simp] theorem d0y (i:Nat) (l:List PV):CW (some i) l=(l.map dem).set i (l.getD i .dead):=rfl
@[simp] theorem d2Y:zq ⟨V,l,g,h⟩=⟨V,[],g,h⟩:=rfl
@[simp] theorem b6n (ops:List PO):evL L (.region ops) ⟨V,l,g,h⟩=match Az (x8 L) ops ⟨V,l,g,h⟩ with | some st=>some (.normal,zq st) | none=>none:=by
 rw[c1U]; cases Az (x8 L) ops ⟨V,l,g,h⟩<;>rfl
@[simp] theorem b6o (ops:List PO) (x:PX) (a b:PC):evL L (.branch ops x a b) ⟨V,l,g,h⟩=match Az (x8 L) ops ⟨V,l,g,h⟩ with
  | some st=>(match rd st x with | some (.bool t)=>if t then evL L a (zq st) else evL L b (zq st) | _=>none)
  | none=>none:=by
 rw[c1V]
 cases Az (x8 L) ops ⟨V,l,g,h⟩ with
 | none=>rfl
 | some st =>
   simp only[aw]
   cases rd st x with
   | none=>rfl
   | some v => cases v <;> try rfl
               rename_i t; cases t<;>rfl
@[simp] theorem d4S (ob:zT) (j:Nat) (st:St):zL cf ob j [] st=some (none,st):=rfl
noncomputable def GC (cf:yg) (ob:zT) (j:Nat) (os:List PO):Option (Option PV×St)→Option (Option PV×St)
 | some (none,st)=>zL cf ob j os st
 | r=>r
@[simp] theorem d2Z (ob:zT) (j:Nat) (os:List PO) (st:St):GC cf ob j os (some (none,st))=zL cf ob j os st:=rfl
@[simp] theorem d0z (ob:zT) (j:Nat) (os:List PO) (v:PV) (st:St):GC cf ob j os (some (some v,st))=some (some v,st):=rfl
@[simp] theorem d0A (ob:zT) (j:Nat) (os:List PO):GC cf ob j os none=none:=rfl
theorem Kw (ob:zT) (j:Nat) (o:PO) (os:List PO) (st:St):zL cf ob j (o::os) st=GC cf ob (j+1) os (AA cf ob j o st):=by
 rfl
def FO (j:Nat) (d:PD):Option (Out×List PObj)→St→Option (Option PV×St)
 | some (.val r,h'),st=>some (none,put { st with heap:=h' } j d (dem r))
 | some (.boom v,h'),st=>some (some v,{ st with heap:=h' })
 | none,_=>none
@[simp] theorem d4T (j:Nat) (d:PD) (r:PV) (h':List PObj):FO j d (some (.val r,h')) ⟨V,l,g,h⟩=some (none,put ⟨V,l,g,h'⟩ j d (dem r)):=rfl
@[simp] theorem d20 (j:Nat) (d:PD) (v:PV) (h':List PObj):FO j d (some (.boom v,h')) ⟨V,l,g,h⟩=some (some v,⟨V,l,g,h'⟩):=rfl
@[simp] theorem d21 (j:Nat) (d:PD) (st:St):FO j d none st=none:=rfl
theorem b9G (ob:zT) (j k:Nat) (d:PD) (args:List PX):AA cf ob j ⟨d,.h (.bcall k args),none⟩ ⟨V,l,g,h⟩=match rdAll ⟨V,l,g,h⟩ args with
  | some vs=>FO j d (ob k vs h) ⟨V,l,g,h⟩
  | none=>none:=by
 simp only[AA]
 cases rdAll ⟨V,l,g,h⟩ args with
 | none=>rfl
 | some vs=>simp only; rcases ob k vs h with _ | ⟨_ | v,h'⟩<;>rfl
theorem b75 (ob:zT) (j:Nat) (x:PX) (d:PD) (args:List PX):AA cf ob j ⟨d,.h (.bcallv x args),none⟩ ⟨V,l,g,h⟩=match rd ⟨V,l,g,h⟩ x,rdAll ⟨V,l,g,h⟩ args with
  | some (.func k first captured),some vs=>FO j d (ob k (first++vs++captured) h) ⟨V,l,g,h⟩
  | _,_=>none:=by
 simp only[AA]
 cases rd ⟨V,l,g,h⟩ x with
 | none=>rfl
 | some f => cases rdAll ⟨V, l, g, h⟩ args with
   | none=>simp
   | some vs => cases f <;> try rfl
                rename_i k first captured
                simp only; rcases ob k (first++vs++captured) h with _|⟨_|v,h'⟩<;>rfl
def Oz:Option St→Option (Option PV×St)
 | some st=>some (none,st)
 | none=>none
@[simp] theorem d0B (st:St):Oz (some st)=some (none,st):=rfl
@[simp] theorem d0C:Oz none=none:=rfl
def yO:POp→Bool
 | .h (.bcall ..) | .h (.bcallv ..)=>true
 | _=>false
theorem Ue (ob:zT) (j:Nat) (d:PD) (op:POp) (gd:Option (PX×Bool)) (st:St) (hb:yO op=false):AA cf ob j ⟨d,op,gd⟩ st=Oz (zf cf j ⟨d,op,gd⟩ st):=by
 have key:AA cf ob j ⟨d,op,gd⟩ st=(zf cf j ⟨d,op,gd⟩ st).map λst=>(none,st):=by
  cases op with
  | h o=>cases o<;>first | rfl | simp[yO] at hb
  | _=>rfl
 rw[key]
 cases zf cf j ⟨d,op,gd⟩ st<;>rfl
@[simp] theorem d22 (x:PX):yO (.mov x)=false:=id rfl
@[simp] theorem d0D (x:PX):yO (.take x)=false:=id rfl
@[simp] theorem d0E (c a b:PX):yO (.pick c a b)=false:=id rfl
@[simp] theorem c7e (zero:List PV):yO (.newloc zero)=false:=id rfl
@[simp] theorem c7f (size:Nat) (x:PX):yO (.boxloc size x)=false:=id rfl
@[simp] theorem c86 (zero:List PV) (parts:List (Nat×Nat×PX)):yO (.build zero parts)=false:=id rfl
@[simp] theorem c5W (size:Nat) (zero:PV) (len:Nat) (parts:List (Nat×PX)):yO (.mkslice size zero len parts)=false:=id rfl
@[simp] theorem d0F (size:Nat) (agg:Bool) (a:PX) (take:Bool):yO (.load size agg a take)=false:=id rfl
@[simp] theorem c87 (size:Nat) (agg:Bool) (a x:PX):yO (.store size agg a x)=false:=id rfl
@[simp] theorem c88 (off:Nat) (x:PX):yO (.faddr off x)=false:=id rfl
@[simp] theorem c7g (size:Nat) (x i:PX):yO (.iaddrS size x i)=false:=id rfl
@[simp] theorem c4r (x i:PX):yO (.indexStr x i)=false:=id rfl
@[simp] theorem c89 (str:Bool) (size:Nat) (x:PX) (lo hi:Option PX):yO (.slice str size x lo hi)=false:=id rfl
@[simp] theorem d23 (op:BinOp) (x y:PX):yO (.bin op x y)=false:=id rfl
@[simp] theorem d4U (neg agg:Bool) (ks:List EK) (x y:PX):yO (.eq neg agg ks x y)=false:=id rfl
@[simp] theorem d4V (op:UnOp) (x:PX):yO (.un op x)=false:=id rfl
@[simp] theorem d24 (b:Bool) (t:Nat) (x:PX):yO (.ifc b t x)=false:=id rfl
@[simp] theorem c5X (t:List (Nat×Nat×Option (Nat×Bool))) (x:PX) (args:List PX):yO (.h (.icall t x args))=false:=id rfl
@[simp] theorem c5Y (k:IntKind) (x:PX):yO (.convInt k x)=false:=id rfl
@[simp] theorem c5Z (i:Nat) (x:PX):yO (.extract i x)=false:=id rfl
@[simp] theorem d25 (str:Bool) (x:PX):yO (.len str x)=false:=id rfl
@[simp] theorem c7h (max:Bool) (xs:List PX):yO (.minmax max xs)=false:=id rfl
@[simp] theorem c7i (size bytes:Nat) (s x:PX):yO (.append size bytes s x)=false:=id rfl
@[simp] theorem c7j (k:Nat) (args:List PX) (o:Option Nat):yO (.pcallx k args o)=false:=id rfl
@[simp] theorem c9a (k:Nat) (args:List PX):yO (.pcall k args)=false:=id rfl
@[simp] theorem c9b (x:PX) (args:List PX):yO (.callv x args)=false:=id rfl
@[simp] theorem c4s (zero:List PV):yO (.h (.newobj zero))=false:=id rfl
@[simp] theorem c4t (size:Nat) (x:PX):yO (.h (.boxobj size x))=false:=id rfl
@[simp] theorem c7k (size:Nat) (agg:Bool) (a:PX) (take:Bool):yO (.h (.load size agg a take))=false:=id rfl
@[simp] theorem c4u (size:Nat) (agg:Bool) (a x:PX):yO (.h (.storer size agg a x))=false:=id rfl
@[simp] theorem c50 (size:Nat) (agg:Bool) (a x:PX):yO (.h (.store size agg a x))=false:=id rfl
@[simp] theorem c51  : yO (.h (.mkmap ))=false:=id rfl
@[simp] theorem c4v (ok take kagg:Bool) (ks:List EK) (zero:PV) (m x:PX):yO (.h (.lookup ok take kagg ks zero m x))=false:=id rfl
@[simp] theorem c7l (kagg:Bool) (ks:List EK) (m k v:PX):yO (.h (.mset kagg ks m k v))=false:=id rfl
@[simp] theorem c4w (k:Nat) (first captured:List PX):yO (.h (.mkfunc k first captured))=false:=id rfl
@[simp] theorem c52 (kind:Nat) (neg:Bool) (x:PX):yO (.h (.isnil kind neg x))=false:=id rfl
@[simp] theorem c4x (x:PX):yO (.h (.nilchk x))=false:=id rfl
@[simp] theorem c53 (size:Nat) (agg:Bool) (a:PX):yO (.h (.loadc size agg a))=false:=id rfl
@[simp] theorem c54 (k:Nat) (args:List PX):yO (.h (.rcall k args))=false:=id rfl
@[simp] theorem c55 (k:Nat) (args:List PX):yO (.h (.zcall k args))=false:=id rfl
@[simp] theorem c7m (k:Nat) (args:List PX):yO (.h (.call k args))=false:=id rfl
@[simp] theorem c56 (x:PX) (args:List PX):yO (.h (.callv x args))=false:=id rfl
@[simp] theorem c7n (size:Nat) (agg:Bool) (bytes:Nat) (s x:PX):yO (.h (.happ size agg bytes s x))=false:=id rfl
@[simp] theorem c3Y (size:Nat) (agg:Bool) (b:Nat) (z:List PV) (x:PX):yO (.h (.mkfresh size agg b z x))=false:=id rfl
@[simp] theorem c4y (js:List Nat) (z:List PV) (ps:List (Nat×Nat×PX)):yO (.h (.buildA js z ps))=false:=id rfl
@[simp] theorem c57 (a:PX):yO (.h (.loadn a))=false:=id rfl
@[simp] theorem c7o (k:Nat) (args:List PX):yO (.pzcall k args)=false:=id rfl
@[simp] theorem c58 (size:Nat) (agg:Bool) (z:PV) (len:Nat) (ps:List (Nat×PX)):yO (.h (.mkrow size agg z len ps))=false:=id rfl
@[simp] theorem c59 (size:Nat) (agg:Bool) (bytes:Nat) (zero:List PV) (x:PX):yO (.h (.mkarr size agg bytes zero x))=false:=id rfl
@[simp] theorem d6c (ob:zT) (j:Nat) (d:PD) (op:POp) (os:List PO) (hb:yO op=false):zL cf ob j (⟨d,op,none⟩::os) ⟨V,l,g,h⟩=match opv cf op ⟨V,l,g,h⟩ with
  | some (v,st)=>zL cf ob (j+1) os (put st j d v)
  | none=>none:=by
 rw[Kw,Ue ob j d op none _ hb]
 simp only[zf]
 cases opv cf op ⟨V,l,g,h⟩<;>rfl
@[simp] theorem d4W (ob:zT) (j:Nat) (d:PD) (op:POp) (x:PX) (want:Bool) (os:List PO) (hb:yO op=false):zL cf ob j (⟨d,op,some (x,want)⟩::os) ⟨V,l,g,h⟩=match rd ⟨V,l,g,h⟩ x with
  | some (.bool b)=>if b=want then(match opv cf op ⟨V,l,g,h⟩ with | some (v,st)=>zL cf ob (j+1) os (put st j d v) | none=>none) else zL cf ob (j+1) os (put ⟨V,l,g,h⟩ j d (.tuple []))
  | some (.tuple [])=>zL cf ob (j+1) os (put ⟨V,l,g,h⟩ j d (.tuple []))
  | _=>none:=by
 rw[Kw,Ue ob j d op _ _ hb]
 simp only[zf]
 cases rd ⟨V,l,g,h⟩ x with
 | none=>rfl
 | some v =>
   cases v with
   | bool b =>
     by_cases hw:b=want
     ·simp only[hw]; cases opv cf op ⟨V,l,g,h⟩<;>rfl
     ·simp only[hw]; rfl
   | tuple vs=>cases vs<;>rfl
   | _=>rfl
@[simp] theorem d0G (ob:zT) (j k:Nat) (d:PD) (args:List PX) (os:List PO):zL cf ob j (⟨d,.h (.bcall k args),none⟩::os) ⟨V,l,g,h⟩=match rdAll ⟨V,l,g,h⟩ args with
  | some vs=>GC cf ob (j+1) os (FO j d (ob k vs h) ⟨V,l,g,h⟩)
  | none=>none:=by
 rw[Kw,b9G]
 cases rdAll ⟨V,l,g,h⟩ args<;>rfl
@[simp] theorem c9c (ob:zT) (j:Nat) (x:PX) (d:PD) (args:List PX) (os:List PO):zL cf ob j (⟨d,.h (.bcallv x args),none⟩::os) ⟨V,l,g,h⟩=match rd ⟨V,l,g,h⟩ x,rdAll ⟨V,l,g,h⟩ args with
  | some (.func k first captured),some vs=>GC cf ob (j+1) os (FO j d (ob k (first++vs++captured) h) ⟨V,l,g,h⟩)
  | _,_=>none:=by
 rw[Kw,b75]
 cases rd ⟨V,l,g,h⟩ x with
 | none=>rfl
 | some f => cases rdAll ⟨V, l, g, h⟩ args with
   | none=>cases f<;>rfl
   | some vs=>cases f<;>rfl
@[simp] theorem b4M (ops:List PO):evL L (.bregion ops) ⟨V,l,g,h⟩=match zL (x8 L) (yy L) 0 ops ⟨V,List.replicate ops.length .dead,g,h⟩ with
  | some (none,st)=>some (.normal,zq st)
  | some (some v,st)=>some (.boom v,zq st)
  | none=>none:=by rw[b9C]; rfl
@[simp] theorem b4N (ops:List PO) (x:PX) (a b:PC):evL L (.bbranch ops x a b) ⟨V,l,g,h⟩=match zL (x8 L) (yy L) 0 ops ⟨V,List.replicate ops.length .dead,g,h⟩ with
  | some (none,st)=>(match rd st x with | some (.bool t)=>evL L (if t then a else b) (zq st) | _=>none)
  | some (some v,st)=>some (.boom v,zq st)
  | none=>none:=by rw[b9D]; rfl
@[simp] theorem c6a (st:St):B9 st []=some []:=rfl
@[simp] theorem c4z (r:PRes) (rs:List PRes):B9 ⟨V,l,g,h⟩ (r::rs)=match BY ⟨V,l,g,h⟩ r with
  | some v=>(match B9 ⟨V,l,g,h⟩ rs with | some vs=>some (v::vs) | none=>none)
  | none=>none:=by
 simp only[B9]; cases BY ⟨V,l,g,h⟩ r<;>simp; cases B9 ⟨V,l,g,h⟩ rs<;>rfl
def Ib:List PV→PV
 | [v]=>v
 | vs => .tuple (vs.map dem)
@[simp] theorem d4X (v:PV):Ib [v]=v:=rfl
@[simp] theorem d4Y (v u:PV) (r:List PV):Ib (v::u::r) = .tuple ((v::u::r).map dem):=rfl
@[simp] theorem d4Z:Ib [] = .tuple []:=rfl
@[simp] theorem d0H (rs:List PRes):zS ⟨V,l,g,h⟩ rs=match B9 ⟨V,l,g,h⟩ rs with | some vs=>some (Ib vs) | none=>none:=by
 simp only[zS]; cases B9 ⟨V,l,g,h⟩ rs<;>rfl
def D2 (rs:List PRes):Option (PExit×St)→Option (PV×List PObj)
 | some (.normal,st)=>(match zS st rs with | some v=>some (v,yV st.vars rs st.heap) | none=>none)
 | some (.ret,st)=>(match zS st rs with | some v=>some (v,yV st.vars rs st.heap) | none=>none)
 | _=>none
attribute [simp] D2
theorem b6p {f:PFunc} {args:List PV} {hp:List PObj} {r:PV×List PObj} (hr:f.code.isRound=false) (he:D2 f.results (evL L f.code ⟨args.map dem++List.replicate (f.nv - f.params) .dead,[],0,hp⟩)=some r):Bn (evL L) (Ar L) f args hp=some (.val r.1,r.2):=by
 unfold Bn
 grind [PC.isRound,evL,dem,List.replicate,D2]
theorem Uf {f:PFunc} {args:List PV} {hp:List PObj} {r:PV×List PObj} (hr:f.code.isRound=false) (he:D2 f.results (evL L f.code ⟨args.map dem++List.replicate (f.nv - f.params) .dead,[],0,hp⟩)=some r):BM (evL L) (Ar L) f args hp=some r:=by
 simp_all [BM,IC,b6p]
theorem Ug {k:Nat} {f:PFunc} {args:List PV} {hp:List PObj} {r} (hf:L k=some f) (hl:args.length=f.params) (he:D2 f.results (evL L f.code ⟨args.map dem++List.replicate (f.nv - f.params) .dead,[],0,hp⟩)=some r) (hs:f.split=false:=by rfl) (gn:f.prim=none:=by rfl) (hr:f.code.isRound=false:=by rfl):
  x8 L k args hp=some r:=by
 simp_all [IH,zI,Uf]
theorem Hz {k:Nat} {f:PFunc} {p:List PV→List PObj→Option (PV×List PObj)} {args:List PV} {hp:List PObj} (hf:L k=some f) (hl:args.length=f.params) (gn:f.prim=some p):x8 L k args hp=match p (args.map dem) hp with | some r=>some (dem r.1,r.2) | none=>none:=by
 grind [IH,zI,dem]
theorem b9H {k:Nat} {f:PFunc} {args:List PV} {hp:List PObj} {r} (hf:L k=some f) (hl:args.length=f.params) (hs:f.split=true) (h0:vague (args.headD .dead)=false→D2 f.results (evL L f.code ⟨args.map dem++List.replicate (f.nv - f.params) .dead,[],0,hp⟩)=some r)
  (h1:vague (args.headD .dead)=true→D2 f.results (evL L f.code ⟨(.nils::args.tail).map dem++List.replicate (f.nv - f.params) .dead,[],0,hp⟩)=some r∧D2 f.results (evL L f.code ⟨(.void::args.tail).map dem++List.replicate (f.nv - f.params) .dead,[],0,hp⟩)=some r) (gn:f.prim=none:=by rfl) (hr:f.code.isRound=false:=by rfl):
  x8 L k args hp=some r:=by
 grind [IH,zI,vague,Bool.false_eq_true,Uf,Bool.and_self,Dq]
end
section
variable {cf:yg} {V l:List PV} {g:Nat} {h:List PObj} {L:Nat→Option PFunc}
@[simp] theorem Uh (n:Nat):yC ⟨V,l,g,h⟩ n=match h[n]? with | some (.cells cs)=>some cs | _=>none:=rfl
@[simp] theorem d27:zi ⟨V,l,g,h⟩ none=some []:=rfl
@[simp] theorem c30 (n:Nat):zi ⟨V,l,g,h⟩ (some n)=match h[n]? with | some (.map es)=>some es | _=>none:=rfl
@[simp] theorem d6d (n:Nat) (o:PObj):yw ⟨V,l,g,h⟩ n o=⟨V,l,g,h.set n o⟩:=rfl
@[simp] theorem d6z (i:Nat):By ⟨V,l,g,h⟩ (.v i)=match V[i]? with
  | some (.loc _ cs)=>some (.cptr (cs.map dem),⟨V.set i (.cptr (cs.map dem)),l,g,h⟩)
  | some v=>sv (cp v) ⟨V,l,g,h⟩
  | none=>none:=by
 simp only[By,raw,rd]
 cases V[i]? with
 | none=>rfl
 | some v=>cases v<;>rfl
@[simp] theorem d6A (p:PV):By ⟨V,l,g,h⟩ (.c p)=sv (cp p) ⟨V,l,g,h⟩:=by simp only[By,rd,raw,aw,Du]
@[simp] theorem d6B (i:Nat):By ⟨V,l,g,h⟩ (.l i)=sv (rd ⟨V,l,g,h⟩ (.l i)) ⟨V,l,g,h⟩:=by simp only[By,Du]
@[simp] theorem d28 (st:St):zW st []=some ([],st):=rfl
@[simp] theorem d0I (x:PX) (xs:List PX):zW ⟨V,l,g,h⟩ (x::xs)=match By ⟨V,l,g,h⟩ x with
  | some (v,st)=>(match zW st xs with | some (vs,st)=>some (v::vs,st) | none=>none)
  | none=>none:=by
 simp only[zW]
 cases By ⟨V,l,g,h⟩ x with
 | none=>rfl
 | some r=>simp only[aw]; cases zW r.2 xs<;>rfl
@[simp] theorem d0J (z:List PV):opv cf (.h (.newobj z)) ⟨V,l,g,h⟩=some (.ptr h.length 0,⟨V,l,g,h++[.cells z]⟩):=rfl
@[simp] theorem d0K (s:Nat) (x:PX):opv cf (.h (.boxobj s x)) ⟨V,l,g,h⟩=match rd ⟨V,l,g,h⟩ x with
  | some v=>if v.cells.length=s then some (.ptr h.length 0,⟨V,l,g,h++[.cells v.cells]⟩) else none
  | none=>none:=rfl
def FP (h:List PObj):PV→Option (List PV)
 | .rowp n sz agg len=>if agg=true∨sz=1 then(match h[n]? with | some (.cells cs)=>Aj sz agg cs len 0 | _=>none) else none
 | p=>Dv p
@[simp] theorem d0L (o:Bool) (es:List PV):FP h (.list o es)=some es:=rfl
@[simp] theorem d0M:FP h .nils=some []:=rfl
@[simp] theorem d0N:FP h .void=some []:=rfl
theorem c6b (x:PX):b2U ⟨V,l,g,h⟩ x=match rd ⟨V,l,g,h⟩ x with | some v=>FP h v | none=>none:=by
 unfold b2U
 cases rd ⟨V,l,g,h⟩ x with
 | none=>rfl
 | some v => cases v <;> try rfl
             rename_i n sz agg len
             simp only[FP]
             split
             ·simp only[yC]
              cases h[n]? with
              | none=>rfl
              | some o=>cases o<;>rfl
             ·rfl
def AD (h:List PObj) (size:Nat) (agg:Bool) (bytes:Nat) (xs:List PV) (v:PV) (st:St):Option (PV×St):=
 match v with
 | .rowp n sz ag len =>
   match h[n]? with
   | some (.cells cs) =>
     if sz=size∧ag=agg∧len*size≤cs.length∧yU size xs∧len+xs.length≤2147483648∧bytes≤16384 then
      some (.rowp h.length size agg (len+xs.length),{ st with heap:=h.set n .gone++[.cells (cs.take (len*size)++(xs.flatMap PV.cells).map dem)] })
     else none
   | _=>none
 | .list true [] =>
   if xs=[] then some (.list true [],st)
   else if yU size xs∧xs.length≤2147483648∧bytes≤16384 then
    some (.rowp h.length size agg xs.length,{ st with heap:=h++[.cells ((xs.flatMap PV.cells).map dem)] })
   else none
 | .nils =>
   if xs=[] then some (.nils,st)
   else if yU size xs∧xs.length≤2147483648∧bytes≤16384 then
    some (.rowp h.length size agg xs.length,{ st with heap:=h++[.cells ((xs.flatMap PV.cells).map dem)] })
   else none
 | _=>none
@[simp] theorem d0O (v:PV):(some v).bind Dv=Dv v:=rfl
@[simp] theorem d0P (o:Bool) (es:List PV):Dv (.list o es)=some es:=rfl
@[simp] theorem d40 (s:Nat) (agg:Bool) (b:Nat) (a x:PX):opv cf (.h (.happ s agg b a x)) ⟨V,l,g,h⟩=match (match rd ⟨V,l,g,h⟩ x with | some v=>FP h v | none=>none),raw ⟨V,l,g,h⟩ a with
  | some xs,some v=>AD h s agg b xs v ⟨V,l,g,h⟩
  | _,_=>none:=by
 simp only[opv,x9,c6b]
 cases (match rd ⟨V,l,g,h⟩ x with | some v=>FP h v | none=>none) with
 | none=>rfl
 | some xs => cases raw ⟨V, l, g, h⟩ a with
   | none=>rfl
   | some v => cases v <;> try rfl
               rename_i o es
               cases o<;>try rfl
               cases es<;>rfl
@[simp] theorem d29 (s:Nat) (agg:Bool) (b:Nat) (z:List PV) (a x:PX):opv cf (.h (.happz s agg b z a x)) ⟨V,l,g,h⟩=match rdInt ⟨V,l,g,h⟩ x,rd ⟨V,l,g,h⟩ a with
  | some n,some .nils=>if 0<n∧n≤2147483648∧b≤16384 then some (.rowp h.length s agg n.toNat,⟨V,l,g,h++[.cells (List.replicate n.toNat (z.map dem)).flatten]⟩) else none
  | _,_=>none:=rfl
@[simp] theorem c9d (n sz:Nat) (a:Bool) (off len:Nat):GQ (.rows n sz a off len)=some (n,sz,off):=rfl
@[simp] theorem c9e (n sz:Nat) (a:Bool) (len:Nat):GQ (.rowp n sz a len)=some (n,sz,0):=rfl
@[simp] theorem d3a (s:Nat) (x:PX):opv cf (.h (.clear s x)) ⟨V,l,g,h⟩=match (match rd ⟨V,l,g,h⟩ x with | some v=>GQ v | none=>none) with
  | some (n, sz, off) =>
    match h[n]? with
    | some (.cells cs)=>if sz=s∧off*s≤cs.length then some (.dead,⟨V,l,g,h.set n (.cells (cs.take (off*s)))⟩) else none
    | _=>none
  | _=>none:=by
 simp only[opv,x9]
 cases rd ⟨V,l,g,h⟩ x with
 | none=>rfl
 | some v=>rfl
@[simp] theorem c9f (s:Nat) (agg:Bool) (b:Nat) (z:List PV) (x:PX):opv cf (.h (.mkfresh s agg b z x)) ⟨V,l,g,h⟩=match rdInt ⟨V,l,g,h⟩ x with
  | some n=>if 0≤n∧b*n≤281474976710656∧n≤9223372036854775807 then some (.fresh s agg n.toNat (List.replicate n.toNat (z.map dem)).flatten,⟨V,l,g,h⟩) else none
  | none=>none:=rfl
@[simp] theorem d0Q (js:List Nat) (z:List PV) (ps:List (Nat×Nat×PX)):opv cf (.h (.buildA js z ps)) ⟨V,l,g,h⟩=(adoptAll js ⟨V,l,g,h⟩).bind λst=>((rdParts st ps).bind (B7 z)).map λcs=>(.agg cs,st):=rfl
@[simp] theorem d3b (a:PX):opv cf (.h (.loadn a)) ⟨V,l,g,h⟩=match addr ⟨V,l,g,h⟩ a with
  | some (.ptr n off) => (yC ⟨V, l, g, h⟩ n).bind fun cs => match cs[off]? with
    | some (.list true es)=>some (.list true es,yw ⟨V,l,g,h⟩ n (.cells (cs.set off (.list false es))))
    | some .nils=>some (.list true [],⟨V,l,g,h⟩)
    | _=>none
  | _=>none:=rfl
@[simp] theorem d3c (s:Nat) (agg:Bool) (z:PV) (len:Nat) (ps:List (Nat×PX)):opv cf (.h (.mkrow s agg z len ps)) ⟨V,l,g,h⟩=((rdElems ⟨V,l,g,h⟩ ps).bind (B8 s (List.replicate len z))).map λes=>(.rowp h.length s agg es.length,⟨V,l,g,h++[.cells ((es.flatMap PV.cells).map dem)]⟩):=rfl
@[simp] theorem d3d (s:Nat) (agg:Bool) (b:Nat) (z:List PV) (x:PX):opv cf (.h (.mkarr s agg b z x)) ⟨V,l,g,h⟩=match rdInt ⟨V,l,g,h⟩ x with
  | some n=>if 0≤n∧b*n≤281474976710656∧n≤9223372036854775807 then some (.rowp h.length s agg n.toNat,⟨V,l,g,h++[.cells (List.replicate n.toNat z).flatten]⟩) else none
  | none=>none:=rfl
@[simp] theorem d3e:opv cf (.h .mkmap) ⟨V,l,g,h⟩=some (.map (some h.length),⟨V,l,g,h++[.map []]⟩):=rfl
@[simp] theorem d3f (s:Nat) (agg:Bool) (a:PX) (t:Bool):opv cf (.h (.load s agg a t)) ⟨V,l,g,h⟩=match addr ⟨V,l,g,h⟩ a with
  | some (.cptr cs)=>sv (yh s agg cs 0) ⟨V,l,g,h⟩
  | some (.ptr n off) =>
    match h[n]? with
    | some (.cells cs) =>
      match t && !agg,cs[off]? with
      | true,some (.list true es)=>some (.list true es,⟨V,l,g,h.set n (.cells (cs.set off (.list false es)))⟩)
      | _,_=>sv (yh s agg cs off) ⟨V,l,g,h⟩
    | _=>none
  | _=>none:=by
 simp only[opv,x9,Du]
 cases addr ⟨V,l,g,h⟩ a with
 | none=>rfl
 | some p =>
   cases p<;>try rfl
   simp only[Uh]
   rename_i n off
   cases h[n]? with
   | none=>rfl
   | some o=>cases o<;>rfl
@[simp] theorem c9g (s:Nat) (agg:Bool) (a x:PX):opv cf (.h (.storer s agg a x)) ⟨V,l,g,h⟩=match addr ⟨V,l,g,h⟩ a,rd ⟨V,l,g,h⟩ x with
  | some (.ptr n off), some v => if Ay v then none else (match h[n]? with
    | some (.cells cs)=>(match yB s agg cs off v with | some cs=>some (.dead,⟨V,l,g,h.set n (.cells cs)⟩) | none=>none)
    | _=>none)
  | _,_=>none:=by
 simp only[opv,x9]
 cases addr ⟨V,l,g,h⟩ a with
 | none=>rfl
 | some p =>
   cases p<;>try rfl
   rename_i n off
   cases rd ⟨V,l,g,h⟩ x with
   | none=>rfl
   | some v =>
     simp only
     split
     ·rfl
     ·simp only[yC]
      cases h[n]? with
      | none=>rfl
      | some ob =>
        cases ob<;>try rfl
        rename_i cs
        simp only[aw]
        cases yB s agg cs off v<;>rfl
@[simp] theorem d0R (s:Nat) (agg:Bool) (a x:PX):opv cf (.h (.store s agg a x)) ⟨V,l,g,h⟩=match addr ⟨V,l,g,h⟩ a,tk ⟨V,l,g,h⟩ x with
  | some (.ptr n off), some (v, ⟨V, l, g, h⟩) =>
    match h[n]? with
    | some (.cells cs)=>(match yB s agg cs off v with | some cs=>some (.dead,⟨V,l,g,h.set n (.cells cs)⟩) | none=>none)
    | _=>none
  | _,_=>none:=by
 simp only[opv,x9]
 cases addr ⟨V,l,g,h⟩ a with
 | none=>rfl
 | some p =>
   cases p<;>try rfl
   cases tk ⟨V,l,g,h⟩ x with
   | none=>rfl
   | some r =>
     obtain⟨v,⟨V2,l2,g2,h2⟩⟩:=r
     simp only[Uh]
     rename_i n off
     cases h2[n]? with
     | none=>rfl
     | some o =>
       cases o<;>try rfl
       rename_i cs
       simp only[aw]
       cases yB s agg cs off v<;>rfl
def EZ (ok take:Bool) (zero:PV) (n:Option Nat) (es:List (PV×PV)) (st:St):Option (Nat×PV)→Option (PV×St)
 | some (i, v) =>
   if take && !ok&&IM v then some (v,yw st (n.getD 0) (.map (es.modify i λe=>(e.1,dem e.2))))
   else some (if ok then .tuple [dem v,.bool true] else dem v,st)
 | none=>some (if ok then .tuple [zero,.bool false] else zero,st)
@[simp] theorem c9h (ok take:Bool) (zero:PV) (n:Option Nat) (es:List (PV×PV)) (st:St):EZ ok take zero n es st none=some (if ok then .tuple [zero,.bool false] else zero,st):=rfl
@[simp] theorem c9i (ok:Bool) (zero:PV) (n:Option Nat) (es:List (PV×PV)) (st:St) (i:Nat) (v:PV):EZ ok false zero n es st (some (i,v))=some (if ok then .tuple [dem v,.bool true] else dem v,st):=by
 simp[EZ]
@[simp] theorem c9j (zero:PV) (n:Nat) (es:List (PV×PV)) (i:Nat) (v:PV):EZ false true zero (some n) es ⟨V,l,g,h⟩ (some (i,v))=if IM v then some (v,⟨V,l,g,h.set n (.map (es.modify i λe=>(e.1,dem e.2)))⟩) else some (dem v,⟨V,l,g,h⟩):=by
 simp[EZ]
@[simp] theorem d0S (ok take kagg:Bool) (ks:List EK) (zero:PV) (m x:PX):opv cf (.h (.lookup ok take kagg ks zero m x)) ⟨V,l,g,h⟩=match rd ⟨V,l,g,h⟩ m,rd ⟨V,l,g,h⟩ x with
  | some (.map n), some k =>
    match zi ⟨V,l,g,h⟩ n with
    | some es=>(match zu kagg ks k es 0 with | some r=>EZ ok take zero n es ⟨V,l,g,h⟩ r | none=>none)
    | none=>none
  | _,_=>none:=by
 simp only[opv,x9]
 cases rd ⟨V,l,g,h⟩ m with
 | none=>rfl
 | some p =>
   cases p<;>try rfl
   rename_i n
   cases rd ⟨V,l,g,h⟩ x with
   | none=>rfl
   | some k =>
     simp only
     cases zi ⟨V,l,g,h⟩ n with
     | none=>rfl
     | some es =>
       simp only[aw]
       cases zu kagg ks k es 0 with
       | none=>rfl
       | some r=>cases r<;>rfl
def Ej (es:List (PV×PV)) (k v:PV):Option (Nat×PV)→List (PV×PV)
 | some (i,_)=>es.set i (k,v)
 | none=>es++[(k,v)]
@[simp] theorem c7p (es:List (PV×PV)) (k v:PV):Ej es k v none=es++[(k,v)]:=rfl
@[simp] theorem b77 (es:List (PV×PV)) (k v:PV) (i:Nat) (u:PV):Ej es k v (some (i,u))=es.set i (k,v):=rfl
@[simp] theorem d41 (kagg:Bool) (ks:List EK) (m k v:PX):opv cf (.h (.mset kagg ks m k v)) ⟨V,l,g,h⟩=match rd ⟨V,l,g,h⟩ m,rd ⟨V,l,g,h⟩ k,tk ⟨V,l,g,h⟩ v with
  | some (.map (some n)), some k, some (v, ⟨V, l, g, h⟩) =>
    match h[n]? with
    | some (.map es)=>(match zu kagg ks k es 0 with | some r=>some (.dead,⟨V,l,g,h.set n (.map (Ej es k v r))⟩) | none=>none)
    | _=>none
  | _,_,_=>none:=by
 simp only[opv,x9]
 cases rd ⟨V,l,g,h⟩ m with
 | none=>rfl
 | some p =>
   cases p<;>try rfl
   rename_i n
   cases n with
   | none=>rfl
   | some n=>
   cases rd ⟨V,l,g,h⟩ k with
   | none=>rfl
   | some k =>
     cases tk ⟨V,l,g,h⟩ v with
     | none=>rfl
     | some r =>
       obtain⟨v,⟨V2,l2,g2,h2⟩⟩:=r
       simp only[c30]
       cases h2[n]? with
       | none=>rfl
       | some o =>
         cases o<;>try rfl
         rename_i es
         simp only[aw]
         cases zu kagg ks k es 0 with
         | none=>rfl
         | some r=>cases r<;>rfl
@[simp] theorem d0T (k:Nat) (a b:List PX):opv cf (.h (.mkfunc k a b)) ⟨V,l,g,h⟩=match zW ⟨V,l,g,h⟩ a with
  | some (f,st)=>(match zW st b with | some (c,st)=>some (.func k f c,st) | none=>none)
  | none=>none:=by
 simp only[opv,x9]
 cases zW ⟨V,l,g,h⟩ a with
 | none=>rfl
 | some r=>simp only[aw]; cases zW r.2 b<;>rfl
@[simp] theorem d3g (kd:Nat) (neg:Bool) (x:PX):opv cf (.h (.isnil kd neg x)) ⟨V,l,g,h⟩=match rd ⟨V,l,g,h⟩ x with
  | some p=>(match EA kd p with | some b=>some (.bool (if neg then !b else b),⟨V,l,g,h⟩) | none=>none)
  | none=>none:=by
 simp only[opv,x9]
 cases rd ⟨V,l,g,h⟩ x with
 | none=>rfl
 | some p=>simp only[aw]; cases EA kd p<;>rfl
@[simp] theorem d0U (x:PX):opv cf (.h (.nilchk x)) ⟨V,l,g,h⟩=match addr ⟨V,l,g,h⟩ x with
  | some (.ptr n o)=>some (.ptr n o,⟨V,l,g,h⟩)
  | some (.cptr cs)=>some (.cptr cs,⟨V,l,g,h⟩)
  | some (.lptr s g0 o)=>some (.lptr s g0 o,⟨V,l,g,h⟩)
  | _=>none:=rfl
@[simp] theorem d3h (s:Nat) (agg:Bool) (a:PX):opv cf (.h (.loadc s agg a)) ⟨V,l,g,h⟩=match rd ⟨V,l,g,h⟩ a with
  | some (.cptr cs)=>sv (yh s agg cs 0) ⟨V,l,g,h⟩
  | _=>none:=by
 simp only[opv,x9,Du]; rfl
@[simp] theorem d3i (k:Nat) (args:List PX):opv cf (.h (.call k args)) ⟨V,l,g,h⟩=match rdAll ⟨V,l,g,h⟩ args with
  | some vs=>(match cf k vs h with | some (r,h)=>some (dem r,⟨V,l,g,h⟩) | none=>none)
  | none=>none:=by
 simp only[opv,x9]
 cases rdAll ⟨V,l,g,h⟩ args with
 | none=>rfl
 | some vs=>simp only[aw]; cases cf k vs h<;>rfl
@[simp] theorem d0V (tab:List (Nat×Nat×Option (Nat×Bool))) (x:PX) (args:List PX):opv cf (.h (.icall tab x args)) ⟨V,l,g,h⟩=match BU ⟨V,l,g,h⟩ tab (rd ⟨V,l,g,h⟩ x) with
  | some m => match rdAll ⟨V, l, g, h⟩ args with
    | some vs => match cf m.1 (m.2 :: vs) h with
      | some (r,h)=>some (dem r,⟨V,l,g,h⟩)
      | none=>none
    | none=>none
  | none=>none:=by
 simp only[opv,x9]
 cases BU ⟨V,l,g,h⟩ tab (rd ⟨V,l,g,h⟩ x) with
 | none=>rfl
 | some m =>
   simp only[aw]
   cases rdAll ⟨V,l,g,h⟩ args with
   | none=>rfl
   | some vs =>
     simp only[aw]
     cases cf m.1 (m.2::vs) h<;>rfl
@[simp] theorem d0W (k:Nat) (args:List PX):opv cf (.h (.zcall k args)) ⟨V,l,g,h⟩=match rdAll ⟨V,l,g,h⟩ args with
  | some vs => if yq (BL h vs) then (match cf k (BL h vs) [] with
    | some (r,h')=>if yt (frz h' r) then some (dem (frz h' r),⟨V,l,g,BT (Dw vs) h⟩) else none
    | none=>none) else none
  | none=>none:=by
 simp only[opv,x9]
 cases rdAll ⟨V,l,g,h⟩ args with
 | none=>rfl
 | some vs =>
   simp only[aw]
   cases cf k (BL h vs) []<;>rfl
@[simp] theorem d0X (k:Nat) (args:List PX):opv cf (.h (.rcall k args)) ⟨V,l,g,h⟩=match rdAll ⟨V,l,g,h⟩ args with
  | some vs=>(match cf k vs h with | some (r,h')=>same ⟨V,l,g,h⟩ (r,h') | none=>none)
  | none=>none:=by
 simp only[opv,x9]
 cases rdAll ⟨V,l,g,h⟩ args with
 | none=>rfl
 | some vs=>simp only[aw]; cases cf k vs h<;>rfl
@[simp] theorem d6e (r:PV):same ⟨V,l,g,h⟩ (r,h)=some (dem r,⟨V,l,g,h⟩):=by simp[same]
@[simp] theorem d0Y (x:PX) (args:List PX):opv cf (.h (.callv x args)) ⟨V,l,g,h⟩=match rd ⟨V,l,g,h⟩ x,rdAll ⟨V,l,g,h⟩ args with
  | some (.func k f c),some vs=>(match cf k (f++vs++c) h with | some (r,h)=>some (dem r,⟨V,l,g,h⟩) | none=>none)
  | _,_=>none:=by
 simp only[opv,x9]
 cases rd ⟨V,l,g,h⟩ x with
 | none=>rfl
 | some p =>
   cases p<;>try rfl
   rename_i k f c
   cases rdAll ⟨V,l,g,h⟩ args with
   | none=>rfl
   | some vs=>simp only; cases cf k (f++vs++c) h<;>rfl
@[simp] theorem d3j (x:PX) (args:List PX):opv cf (.callv x args) ⟨V,l,g,h⟩=match rd ⟨V,l,g,h⟩ x,rdAll ⟨V,l,g,h⟩ args with
  | some (.func k f c),some vs=>if yq (f++vs++c) then(match cf k (f++vs++c) [] with | some (r,_)=>if yt r then some (dem r,⟨V,l,g,h⟩) else none | none=>none) else none
  | _,_=>none:=by
 simp only[opv]
 cases rd ⟨V,l,g,h⟩ x with
 | none=>rfl
 | some p =>
   cases p<;>try rfl
attribute [simp] EA vague
@[simp] theorem d3k (str:Bool) (s:Nat) (x:PX) (lo hi:Option PX):opv cf (.slice str s x lo hi) ⟨V,l,g,h⟩=match str,rd ⟨V,l,g,h⟩ x with
  | true,some (.str t)=>(match bound ⟨V,l,g,h⟩ hi t.length t.length with | some b=>(match bound ⟨V,l,g,h⟩ lo 0 b with | some a=>some (.str ((t.take b).drop a),⟨V,l,g,h⟩) | none=>none) | none=>none)
  | false,some (.list _ es)=>if yU s es then(match bound ⟨V,l,g,h⟩ hi es.length es.length with | some b=>(match bound ⟨V,l,g,h⟩ lo 0 b with | some a=>some (.list false ((es.take b).drop a),⟨V,l,g,h⟩) | none=>none) | none=>none) else none
  | false,some .nils=>(match bound ⟨V,l,g,h⟩ hi 0 0 with | some b=>(match bound ⟨V,l,g,h⟩ lo 0 b with | some a=>some (.nils,⟨V,l,g,h⟩) | none=>none) | none=>none)
  | false,some (.rowp n sz agg len)=>if sz=s then(match bound ⟨V,l,g,h⟩ hi len len with | some b=>(match bound ⟨V,l,g,h⟩ lo 0 b with | some a=>some (if a=0 then .rowp n sz agg b else .rows n sz agg a (b - a),⟨V,l,g,h⟩) | none=>none) | none=>none) else none
  | _,_=>none:=by
 simp only[opv]
 cases str
 ·cases rd ⟨V,l,g,h⟩ x with
  | none=>rfl
  | some p =>
    cases p<;>try rfl
    all_goals simp only
    all_goals first
     | (split
        ·cases bound ⟨V,l,g,h⟩ hi _ _ with
         | none=>rfl
         | some b=>simp only[aw]; cases bound ⟨V,l,g,h⟩ lo 0 b<;>rfl
        ·rfl)
     | (cases bound ⟨V, l, g, h⟩ hi _ _ with
        | none=>rfl
        | some b=>simp only[aw]; cases bound ⟨V,l,g,h⟩ lo 0 b<;>rfl)
 ·cases rd ⟨V,l,g,h⟩ x with
  | none=>rfl
  | some p =>
    cases p<;>try rfl
    simp only
    cases bound ⟨V,l,g,h⟩ hi _ _ with
    | none=>rfl
    | some b=>simp only[aw]; cases bound ⟨V,l,g,h⟩ lo 0 b<;>rfl
end
end PI
namespace PI
open Go (IntKind BinOp UnOp)
def wpL (L:Nat→Option PFunc) (c:PC) (st:St) (Q:PExit→St→Prop):Prop:=
 match evL L c st with
 | some (e,st')=>Q e st'
 | none=>False
section
variable {L:Nat→Option PFunc} {V l:List PV} {g:Nat} {h:List PObj} {Q:PExit→St→Prop}
theorem DU {c:PC} {st:St}:wpL L c st Q↔∃e st',evL L c st=some (e,st')∧Q e st':=by
 unfold wpL
 cases evL L c st with
 | none=>simp
 | some r =>
   obtain⟨e,st'⟩:=r
   constructor
   ·intro h; exact⟨e,st',rfl,h⟩
   ·rintro⟨e',st2,h1,h2⟩; cases h1; exact h2
@[simp] theorem d42:wpL L .skip ⟨V,l,g,h⟩ Q=Q .normal ⟨V,l,g,h⟩:=by simp only[wpL,c5J]
@[simp] theorem d43 (id:Nat):wpL L (.exit id) ⟨V,l,g,h⟩ Q=Q (.exit id) ⟨V,l,g,h⟩:=by simp only[wpL,c5K]
@[simp] theorem d6g:wpL L .ret ⟨V,l,g,h⟩ Q=Q .ret ⟨V,l,g,h⟩:=by simp only[wpL,c8L]
def O0 (r:Option St) (K:St→Prop):Prop:=
 match r with
 | some st=>K (zq st)
 | none=>False
@[simp] theorem d0Z (V l:List PV) (g:Nat) (h:List PObj) (K:St→Prop):O0 (some ⟨V,l,g,h⟩) K=K ⟨V,[],g,h⟩:=rfl
@[simp] theorem d00 (K:St→Prop):O0 none K=False:=rfl
@[simp] theorem d01 (ops:List PO):wpL L (.region ops) ⟨V,l,g,h⟩ Q=O0 (Az (x8 L) ops ⟨V,l,g,h⟩) (Q .normal):=by
 simp only[wpL,b6n]
 cases Az (x8 L) ops ⟨V,l,g,h⟩<;>rfl
def KN (L:Nat→Option PFunc) (r:Option St) (x:PX) (a b:PC) (Q:PExit→St→Prop):Prop:=
 match r with
 | some st => (match rd st x with
   | some (.bool t)=>if t=true then wpL L a (zq st) Q else wpL L b (zq st) Q
   | _=>False)
 | none=>False
@[simp] theorem d02 (x:PX) (a b:PC):KN L (some ⟨V,l,g,h⟩) x a b Q=match rd ⟨V,l,g,h⟩ x with
  | some (.bool t)=>if t=true then wpL L a ⟨V,[],g,h⟩ Q else wpL L b ⟨V,[],g,h⟩ Q
  | _=>False:=rfl
@[simp] theorem d03 (x:PX) (a b:PC):KN L none x a b Q=False:=rfl
@[simp] theorem d04 (ops:List PO) (x:PX) (a b:PC):wpL L (.branch ops x a b) ⟨V,l,g,h⟩ Q=KN L (Az (x8 L) ops ⟨V,l,g,h⟩) x a b Q:=by
 simp only[wpL,b6o,KN]
 cases Az (x8 L) ops ⟨V,l,g,h⟩ with
 | none=>rfl
 | some st =>
   simp only
   cases rd st x with
   | none=>rfl
   | some v =>
     cases v<;>try rfl
     rename_i t; cases t<;>rfl
def El (L:Nat→Option PFunc) (b:PC) (Q:PExit→St→Prop):PExit→St→Prop
 | .normal,st=>wpL L b st Q
 | .after _ _ _,_=>False
 | e,st=>Q e st
@[simp] theorem c9r (b:PC) (st:St):El L b Q .normal st=wpL L b st Q:=rfl
@[simp] theorem d3o (b:PC) (i:Nat) (st:St):El L b Q (.exit i) st=Q (.exit i) st:=rfl
@[simp] theorem d44 (b:PC) (st:St):El L b Q .ret st=Q .ret st:=rfl
@[simp] theorem d3p (b:PC) (v:PV) (st:St):El L b Q (.boom v) st=Q (.boom v) st:=rfl
@[simp] theorem d6h (a b:PC):wpL L (.seq a b) ⟨V,l,g,h⟩ Q=wpL L a ⟨V,l,g,h⟩ (El L b Q):=by
 simp only[wpL,c8M]
 rcases evL L a ⟨V,l,g,h⟩ with _|⟨e,st⟩
 ·rfl
 ·cases e<;>rfl
def Dz (id:Nat) (Q:PExit→St→Prop):PExit→St→Prop
 | .exit i,st=>if i=id then Q .normal st else Q (.exit i) st
 | .after _ _ _,_=>False
 | e,st=>Q e st
@[simp] theorem c9s (id:Nat) (v:PV) (st:St):Dz id Q (.boom v) st=Q (.boom v) st:=rfl
@[simp] theorem c6k (id:Nat) (st:St):Dz id Q .normal st=Q .normal st:=rfl
@[simp] theorem d05 (id:Nat) (st:St):Dz id Q .ret st=Q .ret st:=rfl
@[simp] theorem c9t (id i:Nat) (st:St):Dz id Q (.exit i) st=if i=id then Q .normal st else Q (.exit i) st:=rfl
@[simp] theorem d3q (id:Nat) (c:PC):wpL L (.block id c) ⟨V,l,g,h⟩ Q=wpL L c ⟨V,l,g,h⟩ (Dz id Q):=by
 simp only[wpL,c3U]
 rcases evL L c ⟨V,l,g,h⟩ with _|⟨e,st⟩
 ·rfl
 ·cases e<;>try rfl
  rename_i i
  simp only[Dz]
  by_cases hi:i=id<;>simp[hi]
def zP (L:Nat→Option PFunc) (c:PC) (Q:PExit→St→Prop):PExit→St→Prop:=El L (.loop c) Q
@[simp] theorem c7q (c:PC) (st:St):zP L c Q .normal st=wpL L (.loop c) st Q:=rfl
@[simp] theorem d06 (c:PC) (i:Nat) (st:St):zP L c Q (.exit i) st=Q (.exit i) st:=rfl
@[simp] theorem d3r (c:PC) (st:St):zP L c Q .ret st=Q .ret st:=rfl
@[simp] theorem d07 (c:PC) (v:PV) (st:St):zP L c Q (.boom v) st=Q (.boom v) st:=rfl
theorem Ct (c:PC) (st:St):wpL L (.loop c) st Q=wpL L c st (zP L c Q):=by
 unfold wpL
 rw[c5L]
 rcases evL L c st with _|⟨e,st'⟩
 ·rfl
 ·cases e<;>rfl
def KO (r:Option (Option PV×St)) (Q:PExit→St→Prop):Prop:=
 match r with
 | some (none,st)=>Q .normal (zq st)
 | some (some v,st)=>Q (.boom v) (zq st)
 | none=>False
@[simp] theorem d3s:KO (some (none,⟨V,l,g,h⟩)) Q=Q .normal ⟨V,[],g,h⟩:=rfl
@[simp] theorem d08 (v:PV):KO (some (some v,⟨V,l,g,h⟩)) Q=Q (.boom v) ⟨V,[],g,h⟩:=rfl
@[simp] theorem d09:KO none Q=False:=rfl
@[simp] theorem c9u (ops:List PO):wpL L (.bregion ops) ⟨V,l,g,h⟩ Q=KO (zL (x8 L) (yy L) 0 ops ⟨V,List.replicate ops.length .dead,g,h⟩) Q:=by
 simp only[wpL,b4M]
 rcases zL (x8 L) (yy L) 0 ops ⟨V,List.replicate ops.length .dead,g,h⟩ with _|⟨_|v,st⟩<;>rfl
def IK (L:Nat→Option PFunc) (r:Option (Option PV×St)) (x:PX) (a b:PC) (Q:PExit→St→Prop):Prop:=
 match r with
 | some (none, st) => (match rd st x with
   | some (.bool t)=>if t=true then wpL L a (zq st) Q else wpL L b (zq st) Q
   | _=>False)
 | some (some v,st)=>Q (.boom v) (zq st)
 | none=>False
@[simp] theorem d1a (x:PX) (a b:PC):IK L (some (none,⟨V,l,g,h⟩)) x a b Q=match rd ⟨V,l,g,h⟩ x with
  | some (.bool t)=>if t=true then wpL L a ⟨V,[],g,h⟩ Q else wpL L b ⟨V,[],g,h⟩ Q
  | _=>False:=rfl
@[simp] theorem c9v (v:PV) (x:PX) (a b:PC):IK L (some (some v,⟨V,l,g,h⟩)) x a b Q=Q (.boom v) ⟨V,[],g,h⟩:=rfl
@[simp] theorem c9w (x:PX) (a b:PC):IK L none x a b Q=False:=rfl
@[simp] theorem c9x (ops:List PO) (x:PX) (a b:PC):wpL L (.bbranch ops x a b) ⟨V,l,g,h⟩ Q=IK L (zL (x8 L) (yy L) 0 ops ⟨V,List.replicate ops.length .dead,g,h⟩) x a b Q:=by
 simp only[wpL,b4N,IK]
 rcases zL (x8 L) (yy L) 0 ops ⟨V,List.replicate ops.length .dead,g,h⟩ with _|⟨_|v,st⟩
 ·rfl
 ·simp only
  cases rd st x with
  | none=>rfl
  | some v =>
    cases v<;>try rfl
    rename_i t; cases t<;>rfl
 ·rfl
def KP (r:Option St) (t:Nat) (x:PX) (Q:PExit→St→Prop):Prop:=
 match r with
 | some st => (match rd st x with
   | some p=>Q (.boom (.iface t p)) (zq st)
   | none=>False)
 | none=>False
@[simp] theorem c9y (t:Nat) (x:PX):KP (some ⟨V,l,g,h⟩) t x Q=match rd ⟨V,l,g,h⟩ x with
  | some p=>Q (.boom (.iface t p)) ⟨V,[],g,h⟩
  | none=>False:=rfl
@[simp] theorem c9z (t:Nat) (x:PX):KP none t x Q=False:=rfl
@[simp] theorem d3t (ops:List PO) (t:Nat) (x:PX):wpL L (.raise ops t x) ⟨V,l,g,h⟩ Q=KP (Az (x8 L) ops ⟨V,l,g,h⟩) t x Q:=by
 simp only[wpL,c3V,KP]
 cases Az (x8 L) ops ⟨V,l,g,h⟩ with
 | none=>rfl
 | some st=>simp only; cases rd st x<;>rfl
def IL (kd:Nat) (cs:List PV) (Q:PExit→St→Prop):PExit→St→Prop
 | .normal,st=>Q (.after kd cs none) st
 | .ret,st=>Q (.after kd cs none) st
 | .boom v,st=>Q (.after kd cs (some v)) st
 | _,_=>False
@[simp] theorem c6m (kd:Nat) (cs:List PV) (st:St):IL kd cs Q .normal st=Q (.after kd cs none) st:=rfl
@[simp] theorem d1b (kd:Nat) (cs:List PV) (st:St):IL kd cs Q .ret st=Q (.after kd cs none) st:=rfl
@[simp] theorem c9A (kd:Nat) (cs:List PV) (v:PV) (st:St):IL kd cs Q (.boom v) st=Q (.after kd cs (some v)) st:=rfl
@[simp] theorem c9B (kd:Nat) (cs:List PV) (i:Nat) (st:St):IL kd cs Q (.exit i) st=False:=rfl
theorem Pg (kd:Nat) (caps:List PX) (c:PC) {cs:List PV} (hn:c.NR=true) (hr:rdAll ⟨V,l,g,h⟩ caps=some cs):wpL L (.guarded kd caps c) ⟨V,l,g,h⟩ Q=wpL L c ⟨V,l,g,h⟩ (IL kd cs Q):=by
 simp only[wpL,b9E hn,hr]
 rcases evL L c ⟨V,l,g,h⟩ with _|⟨e,st⟩
 ·rfl
 ·cases e<;>rfl
def Dn (L:Nat→Option PFunc) (f:PFunc) (r:Out×List PObj):PExit→St→Prop
 | .normal,st=>∃v,zS st f.results=some v∧r=(.val v,yV st.vars f.results st.heap)
 | .ret,st=>∃v,zS st f.results=some v∧r=(.val v,yV st.vars f.results st.heap)
 | .boom v,st=>r=(.boom v,st.heap)
 | .after kd cs v,st=>f.code.NR=true∧∃h1 x,Ar L kd (v.getD .nilIface::cs) st.heap=some h1∧zS { st with heap:=h1 } f.results=some x∧r=(.val x,yV st.vars f.results h1)
 | .exit _,_=>False
@[simp] theorem RF (f:PFunc) (r:Out×List PObj):Dn L f r .normal ⟨V,l,g,h⟩=∃v,zS ⟨V,l,g,h⟩ f.results=some v∧r=(.val v,yV V f.results h):=rfl
@[simp] theorem d45 (f:PFunc) (r:Out×List PObj):Dn L f r .ret ⟨V,l,g,h⟩=∃v,zS ⟨V,l,g,h⟩ f.results=some v∧r=(.val v,yV V f.results h):=rfl
@[simp] theorem c4d (f:PFunc) (r:Out×List PObj) (v:PV):Dn L f r (.boom v) ⟨V,l,g,h⟩=(r=(.boom v,h)):=rfl
@[simp] theorem c2f (f:PFunc) (r:Out×List PObj) (kd:Nat) (cs:List PV) (v:Option PV):Dn L f r (.after kd cs v) ⟨V,l,g,h⟩=(f.code.NR=true∧∃h1 x,Ar L kd (v.getD .nilIface::cs) h=some h1∧zS ⟨V,l,g,h1⟩ f.results=some x∧r=(.val x,yV V f.results h1)):=rfl
theorem UZ {f:PFunc} {args:List PV} {hp:List PObj} {r:Out×List PObj} (hr:f.code.isRound=false)
  (hw:wpL L f.code ⟨args.map dem++List.replicate (f.nv - f.params) .dead,[],0,hp⟩ (Dn L f r)):Bn (evL L) (Ar L) f args hp=some r:=by
 rw[DU] at hw
 obtain⟨e,st,h1,h2⟩:=hw
 unfold Bn
 split
 ·rename_i h3; rw[h3] at hr; simp[PC.isRound] at hr
 ·rw[h1]
  cases e with
  | normal=>obtain⟨v,h3,rfl⟩:=h2; simp only[h3]; rfl
  | ret=>obtain⟨v,h3,rfl⟩:=h2; simp only[h3]; rfl
  | exit i=>exact h2.elim
  | boom v=>simp only[Dn] at h2; subst h2; rfl
  | after kd cs v =>
    obtain⟨h3,h4,x,h5,h6,rfl⟩:=h2
    simp only[h3,Bool.true_eq_false,if_false,h5,aw,h6,aH]
theorem Bh {k:Nat} {f:PFunc} {args:List PV} {hp:List PObj} {r:Out×List PObj} (hf:L k=some f) (hl:args.length=f.params)
  (hw:wpL L f.code ⟨args.map dem++List.replicate (f.nv - f.params) .dead,[],0,hp⟩ (Dn L f r)) (hs:f.split=false:=by rfl) (gn:f.prim=none:=by rfl) (hr:f.code.isRound=false:=by rfl):yy L k args hp=some r:=
 TN hf hl (UZ hr hw) hs gn
theorem c4e {k:Nat} {f:PFunc} {args:List PV} {hp:List PObj} {r:PV×List PObj} (hf:L k=some f) (hl:args.length=f.params)
  (hw:wpL L f.code ⟨args.map dem++List.replicate (f.nv - f.params) .dead,[],0,hp⟩ (Dn L f (.val r.1,r.2))) (hs:f.split=false:=by rfl) (gn:f.prim=none:=by rfl) (hr:f.code.isRound=false:=by rfl):x8 L k args hp=some r:=
 c5M hf hl (UZ hr hw) hs gn hr
def Ek (rs:List PRes) (r:PV×List PObj) (e:PExit) (st:St):Prop:=(e = .normal∨e = .ret)∧zS st rs=some r.1∧yV st.vars rs st.heap=r.2
@[simp] theorem c9C (rs:List PRes) (r:PV×List PObj):Ek rs r .normal ⟨V,l,g,h⟩=(zS ⟨V,l,g,h⟩ rs=some r.1∧yV V rs h=r.2):=by simp[Ek]
@[simp] theorem d46 (rs:List PRes) (r:PV×List PObj):Ek rs r .ret ⟨V,l,g,h⟩=(zS ⟨V,l,g,h⟩ rs=some r.1∧yV V rs h=r.2):=by simp[Ek]
theorem yp {k:Nat} {f:PFunc} {args:List PV} {hp:List PObj} {r:PV×List PObj} (hf:L k=some f) (hl:args.length=f.params)
  (hw:wpL L f.code ⟨args.map dem++List.replicate (f.nv - f.params) .dead,[],0,hp⟩ (Ek f.results r)) (hs:f.split=false:=by rfl) (gn:f.prim=none:=by rfl) (hr:f.code.isRound=false:=by rfl):x8 L k args hp=some r:=by
 refine Ug hf hl ?_ hs gn hr
 rw[DU] at hw
 obtain⟨e,st,h1,h2,h3,h4⟩:=hw
 rw[h1]
 rcases h2 with rfl|rfl<;>simp only[D2,h3,h4]
theorem c4f {k:Nat} {f:PFunc} {own:Option Nat} {args:List PV} {hp:List PObj} {r:PV×List PObj} (hf:L k=some f) (hl:args.length=f.params)
  (hw:wpL L f.code ⟨CW own args++List.replicate (f.nv - f.params) .dead,[],0,hp⟩ (Ek f.results r)) (hs:f.split=false:=by rfl) (gn:f.prim=none:=by rfl) (hr:f.code.isRound=false:=by rfl) (iE:f.params<1000:=by decide):x8 L k (BX own args) hp=some r:=by
 refine c3X hf hl ?_ hs gn iE
 rw[DU] at hw
 obtain⟨e,st,h1,h2,h3,h4⟩:=hw
 unfold Bo
 rw[ae (by rw[hr]; simp),h1]
 rcases h2 with rfl|rfl<;>simp only[h3,h4,aH]
def yA (rs:List PRes) (P:PV×List PObj→Prop) (e:PExit) (st:St):Prop:=(e = .normal∨e = .ret)∧∃v,zS st rs=some v∧P (v,yV st.vars rs st.heap)
theorem AW {k:Nat} {f:PFunc} {args:List PV} {hp:List PObj} {P:PV×List PObj→Prop} (hf:L k=some f) (hl:args.length=f.params)
  (hw:wpL L f.code ⟨args.map dem++List.replicate (f.nv - f.params) .dead,[],0,hp⟩ (yA f.results P)) (hs:f.split=false:=by rfl) (gn:f.prim=none:=by rfl) (hr:f.code.isRound=false:=by rfl):∃r,x8 L k args hp=some r∧P r:=by
 rw[DU] at hw
 obtain⟨e,st,h1,h2,v,h3,h4⟩:=hw
 refine⟨(v,yV st.vars f.results st.heap),Ug hf hl ?_ hs gn hr,h4⟩
 rw[h1]
 rcases h2 with rfl|rfl<;>simp only[D2,h3]
end
end PI
namespace PI
section
variable {L:Nat→Option PFunc} {Q:PExit→St→Prop}
def upd (V:List PV):List (Nat×PV)→List PV
 | []=>V
 | (k,v)::r=>upd (V.set k v) r
@[simp] theorem d6i (V:List PV):upd V []=V:=rfl
@[simp] theorem d47 (V:List PV) (k:Nat) (v:PV) (r:List (Nat×PV)):upd V ((k,v)::r)=upd (V.set k v) r:=rfl
theorem U0 {γ:Type} {c:PC} (n:Nat) (ok:Nat→Bool) (S:Nat→γ→St)
  (step:∀i,i<n→ok i=true→∀x,(∀y,wpL L (.loop c) (S (i+1) y) Q)→wpL L c (S i x) (zP L c Q))
  (fail:∀i,i<n→ok i=false→(∀k,k<i→ok k=true)→∀x,wpL L c (S i x) (zP L c Q))
  (last:(∀k,k<n→ok k=true)→∀x,wpL L c (S n x) (zP L c Q)) (x:γ):wpL L (.loop c) (S 0 x) Q:=by
 have key:∀(d i:Nat),i+d=n→(∀k,k<i→ok k=true)→∀x,wpL L (.loop c) (S i x) Q:=by
  intro d
  induction d with
  | zero =>
    intro i hi hk x
    rw[Ct]
    have:i=n:=by omega
    subst this
    exact last hk x
  | succ d ih =>
    intro i hi hk x
    rw[Ct]
    cases ho:ok i with
    | true =>
      refine step i (by omega) ho x (ih (i+1) (by omega) ?_)
      intro k dq
      by_cases e:k=i
      ·rw[e]; exact ho
      ·exact hk k (by omega)
    | false=>exact fail i (by omega) ho hk x
 exact key n 0 (by omega) (λk h=>absurd h (Nat.not_lt_zero k)) x
theorem c6o {γ:Type} {c:PC} {V:List PV} {g:Nat} {h:List PObj} (n:Nat) (ok:Nat→Bool) (M:Nat→γ→List (Nat×PV)) (H:Nat→γ→List PObj) (x0:γ)
  (step:∀i,i<n→ok i=true→∀x,(∀y,wpL L (.loop c) ⟨upd V (M (i+1) y),[],g,H (i+1) y⟩ Q)→wpL L c ⟨upd V (M i x),[],g,H i x⟩ (zP L c Q))
  (fail:∀i,i<n→ok i=false→(∀k,k<i→ok k=true)→∀x,wpL L c ⟨upd V (M i x),[],g,H i x⟩ (zP L c Q))
  (last:(∀k,k<n→ok k=true)→∀x,wpL L c ⟨upd V (M n x),[],g,H n x⟩ (zP L c Q)) (hV:upd V (M 0 x0)=V) (hH:H 0 x0=h):wpL L (.loop c) ⟨V,[],g,h⟩ Q:=by
 have:=U0 n ok (λi x=>⟨upd V (M i x),[],g,H i x⟩) step fail last x0
 rw[hV,hH] at this
 exact this
theorem Nc {γ:Type} {c:PC} {V:List PV} {g:Nat} {h:List PObj} (n:Nat) (ok:Nat→Bool) (M:Nat→γ→List (Nat×PV)) (G:Nat→γ→Nat) (H:Nat→γ→List PObj) (x0:γ)
  (step:∀i,i<n→ok i=true→∀x,(∀y,wpL L (.loop c) ⟨upd V (M (i+1) y),[],G (i+1) y,H (i+1) y⟩ Q)→wpL L c ⟨upd V (M i x),[],G i x,H i x⟩ (zP L c Q))
  (fail:∀i,i<n→ok i=false→(∀k,k<i→ok k=true)→∀x,wpL L c ⟨upd V (M i x),[],G i x,H i x⟩ (zP L c Q))
  (last:(∀k,k<n→ok k=true)→∀x,wpL L c ⟨upd V (M n x),[],G n x,H n x⟩ (zP L c Q)) (hV:upd V (M 0 x0)=V) (hG:G 0 x0=g) (hH:H 0 x0=h):wpL L (.loop c) ⟨V,[],g,h⟩ Q:=by
 have:=U0 n ok (λi x=>⟨upd V (M i x),[],G i x,H i x⟩) step fail last x0
 rw[hV,hG,hH] at this
 exact this
end
end PI
set_option linter.unusedSimpArgs false
set_option linter.unusedVariables false
namespace PI
open Go Go.RowKit
def CL (t:Nat) (args:List PV) (h:List PObj):Option (List PObj):=
 match args with
 | [.nilIface,.ptr _ 0,.ptr _ 0]=>some h
 | [.iface t' (.agg [.int k1 a, .int k2 b, .int k3 c]), .ptr n 0, .ptr m 0] =>
   if t'=t∧n≠m then
    match h[n]?,h[m]? with
    | some (.cells [_,_]),some (.cells [_])=>some ((h.set n (.cells [.int k1 a,.int k2 b])).set m (.cells [.int k3 c]))
    | _,_=>none
   else none
 | _=>none
def IA (o:Oper):Bool:=
 match o.op with
 | .move _ | .assign _ | .extract _ _ | .alloc _ | .store _ _ _ | .load _ _ | .fieldAddr _ _ _=>true
 | _=>false
section
variable {P:Program} {w:World}
theorem c3P {o:Oper} (h:IA o=true) {ρ:Operand→Value}:(∀r w',(execOp ρ o).run P w = .ok r w'→(∃v,r = .value v)∨r = .skip)∧True:=by
 refine⟨?_,trivial⟩
 intro r w' hr
 have val:∀(s:Sem Value),(do pure (.value (← s)):Sem Next).run P w = .ok r w'→∃v,r = .value v:=by
  intro s hs
  rw[Sem.run_bind] at hs
  cases hx:s.run P w with
  | ok v w1=>rw[hx] at hs; simp only[Result.andThen_ok,Sem.run_pure,Result.ok.injEq] at hs; exact⟨v,hs.1.symm⟩
  | halt x w1=>rw[hx] at hs; simp[Result.andThen] at hs
 have unit:∀(s:Sem Unit),(do s; pure .skip:Sem Next).run P w = .ok r w'→r = .skip:=by
  intro s hs
  rw[Sem.run_bind] at hs
  cases hx:s.run P w with
  | ok v w1=>rw[hx] at hs; simp only[Result.andThen_ok,Sem.run_pure,Result.ok.injEq] at hs; exact hs.1.symm
  | halt x w1=>rw[hx] at hs; simp[Result.andThen] at hs
 unfold IA at h
 unfold execOp at hr
 cases cW:o.op<;>rw[cW] at h hr<;>simp only[reduceCtorEq,aL] at h
 all_goals first
  | exact .inl (val _ hr)
  | exact .inr (unit _ hr)
  | (simp only[Sem.run_pure,Result.ok.injEq] at hr; exact .inl ⟨_,hr.1.symm⟩)
theorem IB {ops:Array Oper} {Q:Exit→Act→List Frame→World→Prop} {cs:List Frame}:∀{l:List Nat} {a:Act} {w:World},(∀i∈l,∀o,ops[i]? = some o→IA o=true)→¬LetsOut (λe a w=>Q e a cs w) →
  wpOps P ops (λe a w=>Q e a cs w) l a w→wpOpsSIn (W none) 0 P ops Q l a cs w
 | [],a,w,_,_,h=>h
 | i :: l, a, w, hp, hQ, h => by
   simp only[wpOps] at h
   simp only[wpOpsSIn]
   cases ho:ops[i]? with
   | none=>simp only[ho] at h ⊢; exact IB (λj hj=>hp j (by simp[hj])) hQ h
   | some o =>
     simp only[ho] at h ⊢
     refine⟨λ_ _=>Cj _,?_⟩
     split at h
     ·rename_i hw
      rw[ai hw]
      rcases h with h|⟨_,h⟩
      ·unfold Oper.wp at h
       have fH:=(c3P (P:=P) (w:=w) (hp i (by simp) o ho) (ρ:=a.eval)).1
       generalize (execOp a.eval o).run P w=res at h fH
       cases res with
       | ok r w' =>
         rcases fH r w' rfl with⟨v,rfl⟩|rfl
         ·exact IB (λj hj=>hp j (by simp[hj])) hQ h
         ·exact IB (λj hj=>hp j (by simp[hj])) hQ h
       | halt x w'=>cases x<;>simp only[Oper.upon] at h ⊢<;>first | exact h | exact h.elim
      ·exact absurd h hQ
     ·rename_i hw
      rw[ae hw]
      exact IB (λj hj=>hp j (by simp[hj])) hQ h
theorem b7W {c:Code} {Q:Exit→Act→List Frame→World→Prop} {a:Act} {cs:List Frame} (h:∀fid,wpN none fid P c (λe a w=>Q e a cs w) a w):c.wpSIn (W none) 0 P Q a cs w:=by
 intro b k _ hr _ _
 obtain⟨e,a',w',q,r⟩:=h b.fn b k cs hr rfl
 exact⟨e,a',cs,w',rfl,q,r⟩
end
section
variable {E:Env} {N:Nm} {P:Program}
def L0:Nat→Option PFunc:=λ_=>none
theorem T1 (n:Nat):Runs N P L0 n:=by
 refine⟨⟨?_,?_⟩,?_,?_,?_⟩
 ·intro k args r h h' hc; simp[zI,L0] at hc
 ·intro k own args r h' hc; simp[zI,L0] at hc
 ·intro k args o h h' hc; simp[z6,L0] at hc
 ·intro k y n l tmps caps args o h h' _ hc; simp[z6,L0] at hc
 ·intro k hk; simp[EB,L0] at hk
theorem T2:Ag N P L0:=by intro k f h; simp[L0] at h
theorem c3Q (hE:EnvOk E N) (hP:E.P=P) (dL:P.follows .mixedOrders=true) (oz:E.lps=[]) {k:Nat} {fn:Func} {id0:Nat} {ops0:Array Oper} {c2:Code} {vs:List Tmp} {pos0:List PO} {d5 d6:Tmp} {tA T t:Nat} {z:PV} {nv q:Nat} {o0 o1:Oper} {g:List PV→List PObj→Option (List PObj)}
  (hf:P.funcs[N.fn k]? = some fn) (hb:fn.body=some (.seq (.region id0 ops0 false) c2)) (dQ:fn.results = #[])
  (h0:ops0[0]? = some o0) (qM:∃ts,o0.op = .call { callee := .builtin .recover,args := #[],argTypes:=ts }) (tS:o0.dst=some d5) (tT:o0.guard=none)
  (h1:ops0[1]? = some o1) (tU:o1.op = .typeAssert (.tmp d5) tA T true) (tV:o1.dst=some d6) (tW:o1.guard=none) (hT:N.ty t=T) (oA:∃fs,P.underlying T=some (.struct fs)) (hz:Gm P T=some z)
  (jB:∀i,2≤i→∀o,ops0[i]? = some o→IA o=true) (xA:d5<fn.ntmps) (qN:(zG d5 vs 0).isNone=true) (rU:vs[q]? = some d6)
  (dl:vs.Nodup) (cV:∀t∈vs,t<fn.ntmps) (lX:vs.length=nv) (hq:2≤q) (jK:vs[0]? = some 0) (jo:vs[1]? = some 1)
  (jV:Do E fn.ntmps vs ops0 false=some pos0) (kA:(Af E fn.ntmps vs c2).NR=true)
  (cT:∀p caps h h',g (p::caps) h=some h'→caps.length=2∧∃tup:PV,(p = .nilIface∧tup = .tuple [z,.bool false]∨∃v,p = .iface t v∧tup = .tuple [v,.bool true]) ∧
   ∃n st1 x st2,Ah (zI (yf L0 0) L0) pos0 (List.range' 2 (ops0.size - 2)) { vars:=(caps.map dem++List.replicate (nv - 2) PV.dead).set q tup,locs:=List.replicate pos0.length .dead,gen:=0,heap:=h }=some st1∧yf L0 n (Af E fn.ntmps vs c2) (zq st1)=some (x,st2)∧(x = .normal∨x = .ret)∧st2.heap=h'):
  EF N P k g:=by
 intro p caps h h' hg w G vals dW dc cZ u hu
 obtain⟨dA,tup,qO,n,st1,x,st2,tX,tY,hx,d7⟩:=cT p caps h h' hg
 refine callsDIn_of_wpSIn (F:=W none) hf hb (Cj _) ?_
 intro c₀ cs lw
 refine wpSIn_seq (wpSIn_region ?_)
 have eG:2≤ops0.size:=by have:=(aZ.1 h1).1; omega
 have ju:List.range ops0.size=0::1::List.range' 2 (ops0.size - 2):=by
  obtain⟨m,hm⟩:∃m,ops0.size=m+2:=⟨ops0.size - 2,by omega⟩
  rw[hm,cK,List.range'_succ,List.range'_succ]
  rfl
 rw[ju]
 obtain⟨rv,u',cs',eo,yw,iL,qP⟩:∃rv u',∃cs':List Frame,(match recoverD (c₀::cs) with | some (v,cs')=>(v,cs') | none=>(.nilIface,c₀::cs))=(rv,cs')∧settle u' = .returning∧cs'={ c₀ with mode:=u' }::cs∧VR N w G.fix G.heap rv p:=by
  rcases hu with⟨rfl,rfl⟩|⟨v,rfl,hv⟩
  ·refine⟨.nilIface,.returning,c₀::cs,?_,rfl,by rw[← lw],.nilIface⟩
   simp[recoverD,lw]
  ·refine⟨v,.panicking [{ v,recovered:=true }],_,?_,rfl,rfl,hv⟩
   simp[recoverD,lw]
 let a0:Act:={ tmps:=vals++Array.replicate (fn.ntmps - vals.size) undef,defers:=[] }
 have step0:∀{Q:Exit→Act→List Frame→World→Prop} {rest:List Nat},wpOpsSIn (W none) 0 P ops0 Q rest (a0.put (some d5) rv) cs' w→wpOpsSIn (W none) 0 P ops0 Q (0::rest) a0 (c₀::cs) w:=by
  intro Q rest hw
  obtain⟨ts,qM⟩:=qM
  simp only[wpOpsSIn,h0]
  refine⟨λ_ _=>Cj _,?_⟩
  have qQ:(execOp a0.eval o0).run P w = .ok .recover w:=by
   simp[execOp,qM,resolve,invoke,builtin]
  simp only[Region.wanted,tT,if_true,qQ,tS]
  cases hr:recoverD (c₀::cs) with
  | none=>rw[hr] at eo; simp only[ac] at eo; obtain⟨rfl,rfl⟩:=eo; exact hw
  | some y=>obtain⟨v,cs2⟩:=y; rw[hr] at eo; simp only[ac] at eo; obtain⟨rfl,rfl⟩:=eo; exact hw
 refine step0 ?_
 have gD:a0.tmps.size≥fn.ntmps:=by
  simp only[a0,cM,Array.size_replicate]; omega
 have tZ:(a0.put (some d5) rv).eval (.tmp d5)=rv:=by
  have:d5<a0.tmps.size:=aT xA gD
  simp[Act.eval,Act.put,aV,bx,this]
 obtain⟨tv,xB,ua⟩:∃tv,(Instr.typeAssert rv tA T true).run P w = .ok tv w∧VR N w G.fix G.heap tv tup:=by
  obtain⟨fs,oA⟩:=oA
  rcases qO with⟨rfl,rfl⟩|⟨v,rfl,rfl⟩
  ·cases qP
   obtain⟨zv,z1,z2,_⟩:=T3 (P:=P) (N:=N) (w:=w) (fix:=G.fix) (hp:=G.heap) hz
   refine⟨.tuple #[zv,.bool false],by simp[Instr.typeAssert,Sem.run_bind,run_underlying oA,Result.andThen_ok,z1],.tuple _ _ rfl ?_⟩
   intro i c p hc hp
   match i,hc,hp with
   | 0,hc,hp=>simp at hc hp; subst hc hp; exact z2
   | 1,hc,hp=>simp at hc hp; subst hc hp; exact .bool _
  ·cases qP with
   | iface _ v' _ hv =>
     refine⟨.tuple #[v',.bool true],by simp[Instr.typeAssert,Sem.run_bind,run_underlying oA,Result.andThen_ok,hT],.tuple _ _ rfl ?_⟩
     intro i c p hc hp
     match i,hc,hp with
     | 0,hc,hp=>simp at hc hp; subst hc hp; exact hv
     | 1,hc,hp=>simp at hc hp; subst hc hp; exact .bool _
 let a2:Act:=(a0.put (some d5) rv).put (some d6) tv
 have zf:∀{Q:Exit→Act→List Frame→World→Prop} {rest:List Nat},wpOpsSIn (W none) 0 P ops0 Q rest a2 cs' w→wpOpsSIn (W none) 0 P ops0 Q (1::rest) (a0.put (some d5) rv) cs' w:=by
  intro Q rest hw
  simp only[wpOpsSIn,h1]
  refine⟨λ_ _=>Cj _,?_⟩
  have kZ:(execOp (a0.put (some d5) rv).eval o1).run P w = .ok (.value tv) w:=by
   simp only[execOp,tU,tZ,Sem.run_bind,xB,Result.andThen_ok,Sem.run_pure]
  simp only[Region.wanted,tW,if_true,kZ,tV]
  exact hw
 refine zf ?_
 have cX:E2 vs ops0.toList=true∧If fn.ntmps ops0.toList=true∧Er E vs ops0.toList ops0.toList=some pos0:=by
  unfold Do at jV
  split at jV
  ·rename_i hc
   simp only[ao] at hc
   simp only[aj] at jV
   obtain⟨pos',h1,h2⟩:=jV
   simp only[cd,aL,if_false,aa] at h2
   subst h2
   exact⟨hc.1.1,hc.1.2,h1⟩
  ·simp at jV
 obtain⟨qR,eI,qS⟩:=cX
 have nm:=J8 dl qR
 let G0:GS:={ G with df:=[] }
 have ge:FI N w G0 { vars:=(caps.map dem++List.replicate (nv - 2) PV.dead).set q tup,locs:=List.replicate pos0.length .dead,gen:=0,heap:=h } a2 vs (x7 vs ops0.toList):=by
  have j8:a2.tmps.size=a0.tmps.size:=by simp[a2,Act.put]
  refine⟨?_,?_,?_,?_,?_,rfl,(by intro g b h; have h:G.box g=some b:=h; rw[dW.only.box] at h; simp at h),dW.owlt,dW.fixlt,dW.heap,dW.hdom⟩
  ·have:2<vs.length:=Nat.lt_of_le_of_lt hq (ah.1 rU).1
   simp[dA]; omega
  ·intro i t' u1 gu eH
   rw[aU] at eH
   have ub:t'≠d5:=by
    rintro rfl
    have:=NC gu 0
    simp at qN
    rw[qN] at this
    simp at this
   by_cases uc:q=i
   ·subst uc
    rw[rU] at gu
    simp only[aa] at gu
    subst gu
    rw[ai rfl] at eH
    split at eH
    ·simp only[aa] at eH
     subst eH
     have fB:a2.eval (.tmp d6)=tv:=by
      have:d6<a0.tmps.size:=aT (cV _ (ax rU)) gD
      simp[a2,Act.eval,Act.put,aV,bx,this]
     rw[fB]
     refine SR.of_pure ua ?_
     rcases qO with⟨_,rfl⟩|⟨_,_,rfl⟩<;>rfl
    ·simp at eH
   ·rw[ae uc] at eH
    have ue:t'≠d6:=by
     rintro rfl
     have xC:=(ah.1 rU)
     have iU:=(ah.1 gu)
     obtain⟨p1,p2⟩:=xC
     obtain⟨p3,p4⟩:=iU
     exact uc ((List.getElem_inj dl).1 (p2.trans p4.symm))
    have fB:a2.eval (.tmp t')=a0.eval (.tmp t'):=by
     simp only[a2,Act.eval,Act.put,aV,bx]
     rw[ae (Ne.symm ue),ae (Ne.symm ub)]
    rw[fB]
    by_cases hi:i<2
    ·have mO:t'=i:=by
      match i,hi with
      | 0,_=>rw[jK] at gu; simpa using gu.symm
      | 1,_=>rw[jo] at gu; simpa using gu.symm
     subst mO
     have kD:t'<caps.length:=by rw[dA]; exact hi
     rw[al (by simpa using kD)] at eH
     simp only[aF,am kD,aH,aa] at eH
     subst eH
     have oc:t'<vals.size:=by rw[dc]; exact kD
     have fB:a0.eval (.tmp t')=vals[t']:=by
      simp only[a0,Act.eval,aV]
      rw[bY oc]
      simp[oc]
     rw[fB]
     have hv:=cZ t' vals[t'] caps[t'] (by simp[oc]) (am kD)
     exact SR.of_pure hv.dem hv.cp_dem
    ·rw[aq (by rw[aG,dA]; omega)] at eH
     rw[cu] at eH
     split at eH
     ·simp at eH; subst eH; trivial
     ·simp at eH
  ·intro j t' u1 _ oe
   simp only[cu] at oe
   split at oe
   ·simp at oe; subst oe; trivial
   ·simp at oe
  ·intro i t' hi
   rw[j8]
   exact aT (cV _ (ax hi)) gD
  ·intro j t' hj
   rw[j8]
   exact aT (J5 eI j t' hj) gD
 refine IB ?_ ?_ ?_
 ·intro i hi o ho
  refine jB i ?_ o ho
  rw[List.mem_range'_1] at hi
  exact hi.1
 ·rintro⟨a,w,h⟩
  simp only[Exit.thenS,bodyPostS] at h
  obtain⟨u2,⟨v,hv⟩,_⟩:=h
  cases hv
 ·refine NA (L:=L0) T2 hE hP nm (T1 0).call (by intro k args h r hc; simp[zI,L0] at hc) qS tX ge ?_
  intro a' w' G' iy he hs
  simp only[Exit.thenS]
  refine b7W λfid =>?_
  have j8:a2.tmps.size=a0.tmps.size:=by simp[a2,Act.put]
  have di:=FI.finish (nt:=fn.ntmps) iy (by rw[hs,j8]; exact gD)
  refine Es (L:=L0) (rd':=none) T2 hE hP dL dl n (λm _=>T1 m) Ii tY di ?_ (.inl rfl) ?_ ?_
  ·intro ps kb vars hl
   rw[oz] at hl
   simp at hl
  ·rintro⟨a,w,h⟩
   simp only[bodyPostS] at h
   obtain⟨u2,⟨v,hv⟩,_⟩:=h
   cases hv
  ·intro a3 w3 G3 e vB jJ lc uf
   have dJ:ExtD w G w3 G3:=ExtD.trans (ExtD.of he:ExtD w G0 w' G') lc
   have gT:G'.df=[]:=he.df
   have fj:G3.df=[]:=by
    have key:(∃ms,G3.df=ms++G'.df∧Marks w' w3 G3 ms∧((Af E fn.ntmps vs c2).NR=true→ms=[]))→G3.df=[]:=by
     rintro⟨ms,q1,_,q3⟩
     rw[q1,q3 kA,gT]; rfl
    rcases hx with rfl|rfl<;>exact key uf
   have eM:bodyPostS P fn c₀ cs (λe u' w'=>(∃v,e = .returned v)∧settle u' = .returning∧∃G',Ext w G w' G'∧Between N w' G' h') .normal a3 cs' w3:=by
    refine⟨by rw[jJ.fi.defers,fj],u',iL,.tuple #[],?_,⟨_,rfl⟩,yw,?_⟩
    ·unfold results
     rw[dQ]
     simp
    ·obtain⟨l1,l2⟩:=Gr dJ jJ (DefW.refl _) (λ_ _=>rfl) st2.vars []
     rw[← d7]
     exact⟨_,l1,l2⟩
   rcases hx with rfl|rfl<;>(simp only[Bw] at vB; subst vB; exact eM)
def D1:List PO:=[⟨.l,Eu,none⟩,⟨.v 4,Eu,none⟩,⟨.l,.mov (.v 4),none⟩,⟨.l,.extract 0 (.l 2),none⟩,⟨.l,.extract 1 (.l 2),none⟩,⟨.v 2,.newloc [.int .i64 0,.int .i64 0,.int .i64 0],none⟩,⟨.n,.store 3 true (.v 2) (.l 3),none⟩,⟨.v 3,.take (.l 4),none⟩]
def Gy:PC := .branch [⟨.l,.mov (.v 3),none⟩] (.l 0) (.region [⟨.l,.faddr 0 (.v 2),none⟩,⟨.l,.load 2 true (.l 0) false,none⟩,⟨.l,.faddr 2 (.v 2),none⟩,⟨.l,.load 1 false (.l 2) false,none⟩,⟨.n,.h (.storer 2 true (.v 0) (.l 1)),none⟩,⟨.n,.h (.storer 1 false (.v 1) (.l 3)),none⟩]) .skip
def Fc:PV := .agg [.int .i64 0,.int .i64 0,.int .i64 0]
theorem c8K {t:Nat} {p:PV} {caps:List PV} {h h':List PObj} (hg:CL t (p::caps) h=some h'):caps.length=2∧∃tup:PV,(p = .nilIface∧tup = .tuple [Fc,.bool false]∨∃v,p = .iface t v∧tup = .tuple [v,.bool true]) ∧
   ∃n st1 x st2,Ah (zI (yf L0 0) L0) D1 (List.range' 2 (8 - 2)) { vars:=(caps.map dem++List.replicate (5 - 2) PV.dead).set 4 tup,locs:=List.replicate D1.length .dead,gen:=0,heap:=h }=some st1∧yf L0 n Gy (zq st1)=some (x,st2)∧(x = .normal∨x = .ret)∧st2.heap=h':=by
 have fin:∀{tup:PV} {st1:St} {x:PExit} {st2:St},AL (zI (yf L0 0) L0) 2 (D1.drop 2) { vars:=(caps.map dem++List.replicate (5 - 2) PV.dead).set 4 tup,locs:=List.replicate D1.length .dead,gen:=0,heap:=h }=some st1→evL L0 Gy (zq st1)=some (x,st2)→(x = .normal∨x = .ret)→st2.heap=h' →
   ∃n st1 x st2,Ah (zI (yf L0 0) L0) D1 (List.range' 2 (8 - 2)) { vars:=(caps.map dem++List.replicate (5 - 2) PV.dead).set 4 tup,locs:=List.replicate D1.length .dead,gen:=0,heap:=h }=some st1∧yf L0 n Gy (zq st1)=some (x,st2)∧(x = .normal∨x = .ret)∧st2.heap=h':=by
  intro tup st1 x st2 h1 h2 h3 h4
  obtain⟨n,hn⟩:=zm.1 h2
  rw[J9 (all:=D1) rfl] at h1
  exact⟨n,st1,x,st2,h1,hn,h3,h4⟩
 unfold CL at hg
 split at hg
 ·rename_i n m heq
  simp only[bJ] at heq
  obtain⟨rfl,rfl⟩:=heq
  simp only[aa] at hg
  subst hg
  refine⟨rfl,_,.inl ⟨rfl,rfl⟩,fin (st1:=⟨[.ptr n 0,.ptr m 0,.loc 0 [.int .i64 0,.int .i64 0,.int .i64 0],.bool false,.tuple [Fc,.bool false]],[.dead,.dead,.tuple [Fc,.bool false],Fc,.bool false,.dead,.dead,.dead],1,h⟩) (st2:=⟨[.ptr n 0,.ptr m 0,.loc 0 [.int .i64 0,.int .i64 0,.int .i64 0],.bool false,.tuple [Fc,.bool false]],[],1,h⟩) ?_ ?_ (.inl rfl) rfl⟩
  ·simp[D1,Fc,Eu,yB]
  ·simp[Gy]
 ·rename_i t' k1 a k2 b k3 c n m heq
  simp only[bJ] at heq
  obtain⟨rfl,rfl⟩:=heq
  split at hg
  ·rename_i hc
   obtain⟨rfl,jl⟩:=hc
   split at hg
   ·rename_i x1 x2 x3 hn hm
    simp only[aa] at hg
    subst hg
    refine⟨rfl,_,.inr ⟨_,rfl,rfl⟩,fin (st1:=⟨[.ptr n 0,.ptr m 0,.loc 0 [.int k1 a,.int k2 b,.int k3 c],.bool true,.tuple [.agg [.int k1 a,.int k2 b,.int k3 c],.bool true]],[.dead,.dead,.tuple [.agg [.int k1 a,.int k2 b,.int k3 c],.bool true],.agg [.int k1 a,.int k2 b,.int k3 c],.bool true,.dead,.dead,.dead],1,h⟩) (st2:=⟨[.ptr n 0,.ptr m 0,.loc 0 [.int k1 a,.int k2 b,.int k3 c],.bool true,.tuple [.agg [.int k1 a,.int k2 b,.int k3 c],.bool true]],[],1,(h.set n (.cells [.int k1 a,.int k2 b])).set m (.cells [.int k3 c])⟩) ?_ ?_ (.inl rfl) rfl⟩
    ·simp[D1,Fc,Eu,yB]
    ·have kC:(h.set n (.cells [.int k1 a,.int k2 b]))[m]? = some (.cells [x3]):=by rw[af jl]; exact hm
     simp[Gy,yB,yh,hn,kC,PV.flat,Ay]
   ·simp at hg
  ·simp at hg
 ·simp at hg
theorem Pn (hE:EnvOk E N) (hP:E.P=P) (dL:P.follows .mixedOrders=true) (oz:E.lps=[]) {k:Nat} {fn:Func} {id0:Nat} {ops0:Array Oper} {c2:Code} {tA T t:Nat} {o0 o1:Oper} (hf:P.funcs[N.fn k]? = some fn) (hb:fn.body=some (.seq (.region id0 ops0 false) c2)) (dQ:fn.results = #[])
  (h0:ops0[0]? = some o0) (qM:∃ts,o0.op = .call { callee := .builtin .recover,args := #[],argTypes:=ts }) (tS:o0.dst=some 5) (tT:o0.guard=none)
  (h1:ops0[1]? = some o1) (tU:o1.op = .typeAssert (.tmp 5) tA T true) (tV:o1.dst=some 6) (tW:o1.guard=none) (hT:N.ty t=T) (oA:(match P.underlying T with | some (.struct _)=>true | _=>false)=true) (hz:Gm P T=some Fc)
  (dc:ops0.size=8) (jB:(ops0.toList.drop 2).all IA=true) (qT:fn.ntmps=14) (jV:Do E 14 [0,1,2,3,6] ops0 false=some D1) (pd:Af E 14 [0,1,2,3,6] c2=Gy):EF N P k (CL t):=by
 refine c3Q hE hP dL oz (vs:=[0,1,2,3,6]) (d5:=5) (d6:=6) (q:=4) (nv:=5) hf hb dQ h0 qM tS tT h1 tU tV tW hT (by split at oA<;>first|exact⟨_,by assumption⟩|simp at oA) hz ?_ (by rw[qT]; decide) rfl rfl (by decide) (by rw[qT]; decide) rfl (by omega) rfl rfl (by rw[qT]; exact jV) (by rw[qT,pd]; rfl) ?_
 ·intro i hi o ho
  have:=aJ.1 jB o
  refine this (ax (i:=i - 2) ?_)
  rw[bi,show 2+(i - 2)=i by omega]
  simpa using ho
 ·intro p caps h h' hg
  have:=c8K hg
  rw[dc,qT,pd]
  exact this
end
end PI
namespace PI.Short
open Go (IntKind BinOp UnOp)
abbrev v0:PX := .v 0
abbrev v1:PX := .v 1
abbrev v2:PX := .v 2
abbrev v3:PX := .v 3
abbrev v4:PX := .v 4
abbrev v5:PX := .v 5
abbrev v6:PX := .v 6
abbrev v7:PX := .v 7
abbrev v8:PX := .v 8
abbrev v9:PX := .v 9
abbrev zr:PX := .v 10
abbrev ze:PX := .v 11
abbrev zO:PX := .v 12
abbrev BC:PX := .v 13
abbrev Al:PX := .v 14
abbrev BO:PX := .v 15
abbrev B1:PX := .v 16
abbrev Ca:PX := .v 17
abbrev Cc:PX := .v 18
abbrev Cb:PX := .v 19
abbrev Dc:PX := .v 20
abbrev Ee:PX := .v 21
abbrev FZ:PX := .v 22
abbrev Hn:PX := .v 23
abbrev Hm:PX := .v 24
abbrev L8:PX := .v 25
abbrev Jt:PX := .v 26
abbrev Js:PX := .v 27
abbrev PQ:PX := .v 28
abbrev v29:PX := .v 29
abbrev L2:PX := .v 30
abbrev PS:PX := .v 31
abbrev v32:PX := .v 32
abbrev L6:PX := .v 33
abbrev PR:PX := .v 34
abbrev v35:PX := .v 35
abbrev L4:PX := .v 36
abbrev v39:PX := .v 39
abbrev v45:PX := .v 45
abbrev v46:PX := .v 46
abbrev v50:PX := .v 50
abbrev v51:PX := .v 51
abbrev v53:PX := .v 53
abbrev v55:PX := .v 55
abbrev v66:PX := .v 66
abbrev v70:PX := .v 70
abbrev v76:PX := .v 76
abbrev v77:PX := .v 77
abbrev l0:PX := .l 0
abbrev l1:PX := .l 1
abbrev l2:PX := .l 2
abbrev l3:PX := .l 3
abbrev l4:PX := .l 4
abbrev l5:PX := .l 5
abbrev l6:PX := .l 6
abbrev l7:PX := .l 7
abbrev l8:PX := .l 8
abbrev l9:PX := .l 9
abbrev yE:PX := .l 10
abbrev yL:PX := .l 11
abbrev zx:PX := .l 12
abbrev zD:PX := .l 13
abbrev zY:PX := .l 14
abbrev A1:PX := .l 15
abbrev BP:PX := .l 16
abbrev A2:PX := .l 17
abbrev Ed:PX := .l 18
abbrev Cv:PX := .l 19
abbrev EJ:PX := .l 20
abbrev DH:PX := .l 21
abbrev GZ:PX := .l 22
abbrev DI:PX := .l 23
abbrev G5:PX := .l 24
abbrev G6:PX := .l 25
abbrev G7:PX := .l 26
abbrev Cw:PX := .l 27
abbrev Ll:PX := .l 28
abbrev Lm:PX := .l 29
abbrev Pt:PX := .l 30
abbrev Pq:PX := .l 31
abbrev l32:PX := .l 32
abbrev l33:PX := .l 33
abbrev l34:PX := .l 34
abbrev l35:PX := .l 35
abbrev l36:PX := .l 36
abbrev l37:PX := .l 37
abbrev l38:PX := .l 38
abbrev l39:PX := .l 39
abbrev l40:PX := .l 40
abbrev l41:PX := .l 41
abbrev l42:PX := .l 42
abbrev l43:PX := .l 43
abbrev l44:PX := .l 44
abbrev l45:PX := .l 45
abbrev l46:PX := .l 46
abbrev l47:PX := .l 47
abbrev l48:PX := .l 48
abbrev l49:PX := .l 49
abbrev l50:PX := .l 50
abbrev l51:PX := .l 51
abbrev l52:PX := .l 52
abbrev T:PX := .c (.bool true)
abbrev F:PX := .c (.bool false)
abbrev k (n:Int):PX := .c (.int .i64 n)
abbrev p (o:POp):PO:=⟨.l,o,none⟩
abbrev q (i:Nat) (o:POp):PO:=⟨.v i,o,none⟩
abbrev r (o:POp):PO:=⟨.n,o,none⟩
abbrev t (i:Nat) (x:PX):PO:=⟨.v i,.take x,none⟩
abbrev g1 (o:POp) (x:PX):PO:=⟨.l,o,some (x,true)⟩
abbrev g0 (o:POp) (x:PX):PO:=⟨.l,o,some (x,false)⟩
abbrev G1 (i:Nat) (o:POp) (x:PX):PO:=⟨.v i,o,some (x,true)⟩
abbrev G0 (i:Nat) (o:POp) (x:PX):PO:=⟨.v i,o,some (x,false)⟩
abbrev m (x:PX):PO:=⟨.l,.mov x,none⟩
abbrev a (o:Nat) (x:PX):PO:=⟨.l,.faddr o x,none⟩
abbrev d (x:PX):PO:=⟨.l,.load 1 false x false,none⟩
abbrev D (n:Nat) (x:PX):PO:=⟨.l,.load n true x false,none⟩
abbrev e (x:PX):PO:=⟨.l,.h (.load 1 false x false),none⟩
abbrev e2 (n:Nat) (x:PX):PO:=⟨.l,.h (.load n true x false),none⟩
abbrev c (x:PX):PO:=⟨.l,.h (.loadc 1 false x),none⟩
abbrev C (n:Nat) (x:PX):PO:=⟨.l,.h (.loadc n true x),none⟩
abbrev n (x:PX):PO:=⟨.l,.len false x,none⟩
abbrev b (o:BinOp) (x y:PX):PO:=⟨.l,.bin o x y,none⟩
abbrev i (s:Nat) (x y:PX):PO:=⟨.l,.iaddrS s x y,none⟩
abbrev f (j:Nat) (xs:List PX):PO:=⟨.l,.pcall j xs,none⟩
abbrev fb (j:Nat) (xs:List PX):PO:=⟨.l,.h (.bcall j xs),none⟩
abbrev fh (j:Nat) (xs:List PX):PO:=⟨.l,.h (.call j xs),none⟩
abbrev R:=PC.region
abbrev B:=PC.branch
abbrev E:=PC.bregion
abbrev H:=PC.bbranch
abbrev S:=PC.seq
abbrev K:=PC.block
abbrev X:=PC.exit
abbrev Z:=PC.skip
abbrev Y:=PC.ret
end PI.Short
