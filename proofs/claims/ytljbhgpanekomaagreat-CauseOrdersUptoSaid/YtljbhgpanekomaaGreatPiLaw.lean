import Derived.Test.YtljbhgpanekomaaGreatPiFunc
import Derived.ProofKit
import Derived.Deep.Slices
import Derived.SizedLaws
import Derived.Test.YtljbhgpanekomaaGreatPiBase
import Derived.Lib.Join
import Derived.Lib.ItoaNum
import Derived.Lib.AtoiAll
import Derived.Lib.Bytealg
import Derived.Test.YtljbhgpanekomaaGreatPiSoundN
import Derived.RecoverIn
set_option linter.unusedSimpArgs false
set_option linter.unusedVariables false
set_option linter.unusedSectionVars false
namespace PI
open Go Go.RowKit
inductive TyD where
 | bool | int (k:IntKind) | str | slice (e b:Nat) | struct (fs:List Nat)
 deriving DecidableEq,Inhabited
inductive Sh (D:Nat→TyD):Nat→PV→Prop where
 | bool (i:Nat) (b:Bool) (h:D i = .bool):Sh D i (.bool b)
 | int (i:Nat) (k:IntKind) (n:Int) (h:D i = .int k) (h1:k.min≤n) (h2:n≤k.max):Sh D i (.int k n)
 | str (i:Nat) (s:List UInt8) (h:D i = .str) (hl:s.length≤9223372036854775807):Sh D i (.str s)
 | slice (i e b:Nat) (es:List PV) (h:D i = .slice e b) (hl:es.length≤9223372036854775807) (hb:es.length*b≤140737488351232) (hs:∀x∈es,Sh D e x):Sh D i (.list false es)
 | struct (i:Nat) (fs:List Nat) (ps:List PV) (h:D i = .struct fs) (hl:ps.length=fs.length) (hs:∀(j f:Nat) (p:PV),fs[j]? = some f→ps[j]? = some p→Sh D f p):Sh D i (.agg (ps.flatMap PV.cells))
def D7 (P:Program) (tm:Nat→TypeId) (n:Nat):List Nat→List Field→Nat→Bool
 | [],[],_=>true
 | f::fs,g::gs,off=>decide (f<n)&&(g.type==tm f)&&(g.offset==off)&&D7 P tm n fs gs (off+P.cellsOf g.type)
 | _,_,_=>false
def Iy (P:Program):List Field→Nat
 | []=>0
 | g::gs=>P.cellsOf g.type+Iy P gs
def EO (P:Program) (D:Nat→TyD) (tm:Nat→TypeId) (n i:Nat):Bool:=
 match D i,P.underlying (tm i) with
 | .bool,some .bool=>P.cellsOf (tm i)==1
 | .int k,some (.int k')=>k==k'&&P.cellsOf (tm i)==1
 | .str,some .string=>P.cellsOf (tm i)==1
 | .slice e b,some (.slice t)=>decide (e<n)&&t==tm e&&P.cellsOf (tm i)==1&&P.cellsOf (tm e) != 0&&P.bytesOf (tm e)==b
 | .struct fs,some (.struct gs)=>D7 P tm n fs gs.toList 0&&P.cellsOf (tm i)==Iy P gs.toList
 | _,_=>false
mutual
def wt:PV→Nat
 | .str s=>s.length+1
 | .list _ es=>wts es+1
 | .agg cs=>wts cs+1
 | _=>1
def wts:List PV→Nat
 | []=>0
 | v::vs=>wt v+wts vs
end
mutual
def AD {H:Type}:DataW H→Nat
 | .lit (.string bytes)=>bytes.length+1
 | .lit _=>1
 | .nil=>1
 | .ptr d=>AD d+1
 | .slice elems spare=>C7 elems+C7 spare+1
 | .agg parts=>C7 parts+1
 | .iface _ d=>AD d+1
 | .map entries=>I4 entries+1
 | .held _=>1
def C7 {H:Type}:List (DataW H)→Nat
 | []=>0
 | d::r=>AD d+C7 r
def I4 {H:Type}:List (Lit×DataW H)→Nat
 | []=>0
 | x::r=>Lh x+I4 r
def Lh {H:Type}:Lit×DataW H→Nat
 | (.string bytes,d)=>bytes.length+AD d+1
 | (_,d)=>AD d+1
end
theorem S1:∀(a b:List PV),wts (a++b)=wts a+wts b
 | [],b=>by simp[wts]
 | x::a,b=>by simp only[aK,wts,S1 a b]; omega
theorem c2D (p:PV):wts p.cells≤wt p:=by
 cases p<;>simp[PV.cells,wts,wt]
theorem S2:∀ps:List PV,wts (ps.flatMap PV.cells)≤wts ps
 | []=>by simp[wts]
 | p :: ps => by
   have:=c2D p
   have:=S2 ps
   simp only[aM,S1,wts]
   omega
theorem N5 {H:Type}:∀(es:List PV) (ds:List (DataW H)),es.length=ds.length→(∀(k:Nat) (e:PV) (d:DataW H),es[k]? = some e→ds[k]? = some d→wt e≤AD d)→wts es≤C7 ds
 | [],[],_,_=>by simp[wts]
 | e :: es, d :: ds, hl, h => by
   have h1:=h 0 e d rfl rfl
   have h2:=N5 es ds (by simpa using hl) (λk e' d' he hd=>h (k+1) e' d' (by simpa using he) (by simpa using hd))
   simp only[wts,C7]
   omega
section
variable {H:Type} {enc:TypeId×Value→H} {P:Program} {w:World} {base:Nat} {spare:Nat→Bool} {held:Bool} {N:Nm} {D:Nat→TyD} {tm:Nat→TypeId}
def CI (w:World):Nat→Nat→Prop:=λb o=>(w.cell? ⟨b,o,none⟩).isSome=true
theorem S3 {a:Addr} {n:Nat} {cs:List Value} (h:w.cells? base a n=some cs):cs.length=n∧∀(j:Nat) (v:Value),cs[j]? = some v→w.cell? (a.add j)=some v:=by
 obtain⟨h1,h2,h3⟩:=World.cells?_some h
 refine⟨h2,?_⟩
 intro j v hv
 have hj:j<n:=by have:=(ah.1 hv).1; omega
 rw[h3 j hj]; exact hv
theorem S4 (P:Program):∀{fs:List Nat} {gs:List Field} {n off:Nat},D7 P tm n fs gs off=true→fs.length=gs.length
 | [],[],_,_,_=>rfl
 | f :: fs, g :: gs, n, off, h => by
   simp only[D7,ap] at h
   simp[S4 P h.2]
 | [],_::_,_,_,h=>by simp[D7] at h
 | _::_,[],_,_,h=>by simp[D7] at h
theorem S5 {fix:Nat→Nat→Prop} {hp:Nat→Option Nat} {cs:List Value} {n:Nat}:∀{Q:Nat→PV→Prop} {fs:List Nat} {gs:List Field} {off:Nat},D7 P tm n fs gs off=true→cs.length=off+Iy P gs →
  (∀(j:Nat) (f:Nat) (g:Field),fs[j]? = some f→gs[j]? = some g→f<n→g.type=tm f→∃p,(Sh D f p∧Q j p)∧CellsR N w fix hp ((cs.drop g.offset).take (P.cellsOf g.type)) p.cells∧((cs.drop g.offset).take (P.cellsOf g.type)).length=P.cellsOf g.type) →
  ∃ps:List PV,ps.length=fs.length∧(∀(j f:Nat) (p:PV),fs[j]? = some f→ps[j]? = some p→Sh D f p∧Q j p)∧CellsR N w fix hp (cs.drop off) (ps.flatMap PV.cells)
 | Q, [], [], off, _, hl, _ => ⟨[], rfl, by simp, by
   have:cs.drop off=[]:=bl (by simp[Iy] at hl; omega)
   rw[this]; exact⟨rfl,by simp,by simp⟩⟩
 | Q, f :: fs, g :: gs, off, h, hl, hx => by
   simp only[D7,ap,ay,br] at h
   obtain⟨⟨⟨h1,h2⟩,h3⟩,h4⟩:=h
   simp only[Iy] at hl
   obtain⟨ps,p1,p2,p3⟩:=S5 (Q:=λj=>Q (j+1)) h4 (by omega) (λj f' g' hf hg=>hx (j+1) f' g' (by simpa using hf) (by simpa using hg))
   obtain⟨p,q1,q2,q3⟩:=hx 0 f g rfl rfl h1 h2
   refine⟨p::ps,by simp[p1],?_,?_⟩
   ·intro j f' p' hf fB
    cases j with
    | zero=>simp at hf fB; subst hf fB; exact q1
    | succ j=>exact p2 j f' p' (by simpa using hf) (by simpa using fB)
   ·simp only[aM]
    rw[h3] at q2
    have oH:cs.drop off=(cs.drop off).take (P.cellsOf g.type)++cs.drop (off+P.cellsOf g.type):=by
     rw[← List.drop_drop,bY]
    rw[oH]
    exact q2.append p3
 | _,[],_::_,_,h,_,_=>by simp[D7] at h
 | _,_::_,[],_,h,_,_=>by simp[D7] at h
theorem GD {v:Value} {p:PV} {hp:Nat→Option Nat} {fix:Nat→Nat→Prop} (h:VR N w fix hp v p) (hf:p.flat=true) (hc:p.cells=[p]):CellsR N w fix hp [v] p.cells:=by
 rw[hc]
 refine⟨rfl,by simpa using hf,?_⟩
 intro i c x h1 h2
 cases i with
 | zero=>simp at h1 h2; subst h1 h2; exact h
 | succ i=>simp at h1
theorem S6 {e:TypeId}:∀{ds:List (DataW H)} {k:Nat} {d:DataW H},ds[k]? = some d→(DataW.weightsAll P e ds).all (·≤reachBytes)=true→(d.weights P e).all (·≤reachBytes)=true
 | d0 :: ds, 0, d, hd, h => by
   simp only[List.getElem?_cons_zero,aa] at hd; subst hd
   simp only[DataW.weightsAll,cz,ap] at h
   exact h.1
 | d0 :: ds, k + 1, d, hd, h => by
   simp only[cE] at hd
   simp only[DataW.weightsAll,cz,ap] at h
   exact S6 hd h.2
 | [],_,_,hd,_=>by simp at hd
theorem b7k {ts:List TypeId} {ds:List (DataW H)} {j:Nat} {t:TypeId} {d:DataW H} (ht:ts[j]? = some t) (hd:ds[j]? = some d) (h:(DataW.weightsEach P ts ds).all (·≤reachBytes)=true):(d.weights P t).all (·≤reachBytes)=true:=by
 rw[aN] at h ⊢
 exact λn hn=>h n (DataW.weights_mem_each ht hd n hn)
theorem c7w {n:Nat} {hp:Nat→Option Nat} (hM:∀i,i<n→EO P D tm n i=true):∀(fuel i:Nat) (cs:List Value) (x:DataW H×List MemPlace),i<n→DataW.trod enc P w base spare held fuel (tm i) cs=some x→(x.1.weights P (tm i)).all (·≤reachBytes)=true →
  ∃p,(Sh D i p∧wt p≤AD x.1)∧cs.length=P.cellsOf (tm i)∧CellsR N w (CI w) hp cs p.cells:=by
 intro fuel
 induction fuel with
 | zero=>intro i cs x _ h; simp[DataW.trod] at h
 | succ fuel ih =>
   intro i cs x hi h jv
   have hm:=hM i hi
   unfold EO at hm
   split at hm
   ·rename_i hd hu
    obtain⟨b,rfl,rfl⟩:=DataW.trod_bool hu h
    simp only[br] at hm
    exact⟨.bool b,⟨.bool i b hd,by simp[wt,AD]⟩,by simp[hm],GD (.bool b) rfl rfl⟩
   ·rename_i k k' hd hu
    obtain⟨m,rfl,rfl,hw⟩:=DataW.trod_int hu h
    simp only[ap,br] at hm
    obtain⟨rfl,hm⟩:=hm
    simp only[Lit.wf,ap,ay] at hw
    exact⟨.int k m,⟨.int i k m hd hw.1 hw.2,by simp[wt,AD]⟩,by simp[hm],GD (.int k m) rfl rfl⟩
   ·rename_i hd hu
    obtain⟨s,rfl,rfl,hs⟩:=DataW.trod_string hu h
    simp only[br] at hm
    have hl:s.data.toList.length=s.size:=bu
    exact⟨.str s.data.toList,⟨.str i _ hd (by rw[hl]; simpa[maxLen] using hs),by simp[wt,AD]⟩,by simp[hm],GD (.str s) rfl rfl⟩
   ·rename_i e bts t hd hu
    simp only[ap,ay,br,bne_iff_ne,ne_eq] at hm
    obtain⟨⟨⟨⟨he,rfl⟩,hm⟩,gK⟩,ua⟩:=hm
    rcases DataW.trod_slice hu h with⟨rfl,rfl⟩|⟨a,len,cap,elems,rest,m,xA,rfl,rfl,hb,hl,xB,cY,qQ,_⟩
    ·exact⟨.list false [],⟨.slice i e bts [] hd (by simp) (by simp) (by simp),by simp[wt,wts,AD]⟩,by simp[hm],GD (.nils false) rfl rfl⟩
    ·have oI:m=fuel:=by omega
     subst oI
     by_cases h0:len=0
     ·subst h0
      exact⟨.list false [],⟨.slice i e bts [] hd (by simp) (by simp) (by simp),by simp[wt,wts,AD]⟩,by simp[hm],GD (.void false a cap) rfl rfl⟩
     ·simp only[DataW.weights,hu,List.all_cons,cz,ap,ay] at jv
      obtain⟨xC,ub,_⟩:=jv
      have yN:∀k,k<len→∃p cs',(Sh D e p∧∀d,elems[k]? = some d→wt p≤AD d.1)∧cs'.length=P.cellsOf (tm e)∧CellsR N w (CI w) hp cs' p.cells∧w.cells? base (a.add (k*P.cellsOf (tm e))) (P.cellsOf (tm e))=some cs':=by
       intro k hk
       have:=qQ k hk
       rw[an (by omega)] at this
       simp only[aj] at this
       obtain⟨cs',hc,ht⟩:=this
       obtain⟨p,h1,h2,h3⟩:=ih e cs' _ he ht (S6 (k:=k) (by rw[aF,an (by omega)]; rfl) ub)
       refine⟨p,cs',⟨h1.1,?_⟩,h2,h3,hc⟩
       intro d gH
       rw[an (by omega)] at gH
       cases gH
       exact h1.2
      have uc:∃F:Nat→PV,∀k,k<len→∃cs',(Sh D e (F k)∧∀d,elems[k]? = some d→wt (F k)≤AD d.1)∧cs'.length=P.cellsOf (tm e)∧CellsR N w (CI w) hp cs' (F k).cells∧w.cells? base (a.add (k*P.cellsOf (tm e))) (P.cellsOf (tm e))=some cs':=by
       refine⟨λk=>if hk:k<len then(yN k hk).choose else .dead,λk hk =>?_⟩
       simp only[dif_pos hk]
       exact(yN k hk).choose_spec
      obtain⟨F,hF⟩:=uc
      let sz:=P.cellsOf (tm e)
      let es:List PV:=(List.range len).map F
      have gf:∀(k:Nat) (y:PV),es[k]? = some y→k<len∧y=F k:=by
       intro k y hy
       simp only[es,aF,ab] at hy
       obtain⟨m',kT,rfl⟩:=hy
       obtain⟨h1,h2⟩:=ah.1 kT
       simp at h1 h2
       exact⟨h1,by rw[h2]⟩
      have dX:∀y∈es,∃k,k<len∧y=F k:=by
       intro y hy
       obtain⟨k,hk⟩:=bj.1 hy
       exact⟨k,gf k y hk⟩
      have ep:Sh D i (.list false es):=by
       refine .slice i e bts es hd (by simp[es]; simp[maxLen] at xB; omega) ?_ ?_
       ·rw[← ua,show es.length=len by simp[es]]
        have h1:len*P.bytesOf (tm e)≤((elems.map (·.1)).length+(rest.map (·.1)).length)*P.bytesOf (tm e):=bw _ (by simp; omega)
        have h2:reachBytes=140737488351232:=rfl
        omega
       intro y hy
       obtain⟨k,hk,rfl⟩:=dX y hy
       obtain⟨_,h1,_⟩:=hF k hk
       exact h1.1
      have ue:wt (.list false es)≤AD (DataW.slice (elems.map (·.1)) (rest.map (·.1))):=by
       have:=N5 es (elems.map (·.1)) (by simp[es,cY]) (by
        intro k e' d' dN gH
        obtain⟨hk,rfl⟩:=gf k e' dN
        obtain⟨_,h1,_⟩:=hF k hk
        simp only[aF,ab] at gH
        obtain⟨dd,h2,rfl⟩:=gH
        exact h1.2 dd h2)
       simp only[wt,AD]
       omega
      refine⟨.list false es,⟨ep,ue⟩,by simp[hm],GD ?_ rfl rfl⟩
      have hz:sz≠0:=gK
      have nn:a.spot=none:=by
       obtain⟨cs',_,h2,_,h4⟩:=hF 0 (by omega)
       obtain⟨_,h5⟩:=S3 h4
       have dc:0<cs'.length:=by rw[h2]; show 0<sz; omega
       have:=h5 0 cs'[0] (an dc)
       have:=World.cell?_spot this
       simpa[Addr.add] using this
      obtain⟨b,off,spot⟩:=a
      simp only at nn
      subst nn
      have hcell:∀k j,k<len→j<sz→∃v,w.cell? ⟨b,off+(k*sz+j),none⟩=some v∧∀y,(F k).cells[j]? = some y→VR N w (CI w) hp v y:=by
       intro k j hk hj
       obtain⟨cs',_,h2,h3,h4⟩:=hF k hk
       obtain⟨_,h5⟩:=S3 h4
       have dc:j<cs'.length:=by rw[h2]; exact hj
       have:=h5 j cs'[j] (an dc)
       rw[B9,B9] at this
       refine⟨cs'[j],by rw[← cF]; exact this,λy hy=>h3.2.2 j cs'[j] y (an dc) hy⟩
      let cv:Nat→Value:=λk=>(w.cell? ⟨b,off+k,none⟩).getD undef
      have oJ:es.length=len:=by simp[es]
      refine .list false b off len cap sz es cv oJ hl ?_ ?_ ?_ ?_
      ·intro y hy
       obtain⟨k,hk,rfl⟩:=dX y hy
       obtain⟨cs',_,h2,h3,_⟩:=hF k hk
       have:=h3.1; omega
      ·intro y hy
       obtain⟨k,hk,rfl⟩:=dX y hy
       obtain⟨cs',_,h2,h3,_⟩:=hF k hk
       exact h3.2.1
      ·intro k hk
       have kU:k / sz<len:=by rw[Nat.div_lt_iff_lt_mul (by omega)]; exact hk
       have iS:k % sz<sz:=bV _ (by omega)
       obtain⟨v,hv,_⟩:=hcell (k / sz) (k % sz) kU iS
       have dN:k / sz*sz+k % sz=k:=by rw[cG]; exact Nat.div_add_mod k sz
       rw[dN] at hv
       exact⟨by simp[cv,hv],by simp[CI,hv]⟩
      ·intro k y hy j z i8
       obtain⟨hk,rfl⟩:=gf k y hy
       have hj:j<sz:=by
        obtain⟨cs',_,h2,h3,_⟩:=hF k hk
        have h6:=(ah.1 i8).1
        have:=h3.1
        show j<P.cellsOf (tm e)
        omega
       obtain⟨v,hv,di⟩:=hcell k j hk hj
       have:cv (k*sz+j)=v:=by simp[cv,hv]
       rw[this]
       exact di z i8
   ·rename_i fs gs hd hu
    simp only[ap,br] at hm
    obtain⟨xs,m,xA,rfl,dH,vJ,kq⟩:=DataW.trod_struct hu h
    have oI:m=fuel:=by omega
    subst oI
    simp only[DataW.weights,hu] at jv
    obtain⟨ps,p1,p2,p3⟩:=S5 (N:=N) (w:=w) (fix:=CI w) (hp:=hp) (D:=D) (cs:=cs) (Q:=λj p=>∀d,xs[j]? = some d→wt p≤AD d.1) hm.1 (by rw[dH,hm.2]; simp) (by
     intro j f g hf hg eH uf
     have tr:j<gs.size:=by have:=(ah.1 hg).1; simpa using this
     have:=kq j g (by simpa using hg)
     rw[an (by omega),uf] at this
     obtain⟨p,h1,h2,h3⟩:=ih f _ _ eH this (b7k (j:=j) (by rw[aF,hg]; simp[uf]) (by rw[aF,an (by omega)]; rfl) jv)
     rw[uf]
     refine⟨p,⟨h1.1,?_⟩,h3,h2⟩
     intro d gH
     rw[an (by omega)] at gH
     cases gH
     exact h1.2)
    have fQ:=S4 P hm.1
    have ue:wt (.agg (ps.flatMap PV.cells))≤AD (DataW.agg (xs.map (·.1))):=by
     have h1:=S2 ps
     have h2:=N5 ps (xs.map (·.1)) (by rw[p1,aG,vJ,fQ]; simp) (by
      intro k e' d' dN gH
      simp only[aF,ab] at gH
      obtain⟨dd,h2,rfl⟩:=gH
      have hk:k<fs.length:=by have:=(ah.1 dN).1; omega
      exact(p2 k fs[k] e' (an hk) dN).2 dd h2)
     simp only[wt,AD]
     omega
    refine⟨.agg (ps.flatMap PV.cells),⟨.struct i fs ps hd p1 (λj f p hf hp=>(p2 j f p hf hp).1),ue⟩,dH,?_⟩
    show CellsR N w (CI w) hp cs (ps.flatMap PV.cells)
    simpa using p3
   ·simp at hm
end
end PI
set_option linter.unusedSimpArgs false
set_option linter.unusedVariables false
namespace PI
open Go Go.RowKit Go.WideShapes Go.ChangeShapes
section
variable {H:Type} {enc:TypeId×Value→H} {E:Env} {P:Program} {W:World} {base base':Nat} {spare:Nat→Bool} {held:Bool} {N:Nm} {D:Nat→TyD} {tm:Nat→TypeId}
theorem Sh.noOwn {i:Nat} {p:PV} (h:Sh D i p):∀q∈p.cells,∀es,q≠.list true es:=by
 induction h with
 | bool i b h=>intro q hq es; simp[PV.cells] at hq; subst hq; simp
 | int i k n h h1 h2=>intro q hq es; simp[PV.cells] at hq; subst hq; simp
 | str i s h hl=>intro q hq es; simp[PV.cells] at hq; subst hq; simp
 | slice i e b es h hl hb hs ih=>intro q hq es; simp[PV.cells] at hq; subst hq; simp
 | struct i fs ps h hl hs ih =>
   intro q hq es
   simp only[PV.cells,bN] at hq
   obtain⟨p,hp,hq⟩:=hq
   obtain⟨j,hj,rfl⟩:=bC.1 hp
   exact ih j (fs[j]'(hl▸hj)) ps[j] (an _) (an _) q hq es
theorem Sh.ownNil {i:Nat} {p:PV} (h:Sh D i p) (cs:List Value):OwnNil cs p.cells:=by
 intro j c es _ hx
 exact absurd rfl (h.noOwn _ (ax hx) es)
theorem d07 {n i:Nat} {r:Reach} {v:Value} {d:DataW H} {p:List MemPlace} (hM:∀i,i<n→EO P D tm n i=true) (hi:i<n) (eI:Value.okWide P W r base' (tm i) v) (h:DataW.Trod enc P W base spare held (tm i) v d p) (jv:(d.weights P (tm i)).all (·≤reachBytes)=true):
  ∃pv,(Sh D i pv∧wt pv≤AD d)∧VR N W (CI W) (λ_=>none) v pv:=by
 obtain⟨fuel,hf⟩:=h
 obtain⟨pv,h1,h2,h3⟩:=c7w (N:=N) (hp:=λ_=>none) hM fuel i _ _ hi hf jv
 refine⟨pv,h1,?_⟩
 have qS:=h1.1
 replace h1:=h1.1
 have one:∀c:Value,v.cells = #[c]→v=c→pv.cells=[pv]→VR N W (CI W) (λ_=>none) v pv:=by
  intro c hc hv hp
  rw[hc,hp] at h3
  have:=h3.2.2 0 c pv rfl rfl
  rw[hv]; exact this
 have hm:=hM i hi
 unfold EO at hm
 cases h1 with
 | bool b hd =>
   split at hm<;>simp_all
   obtain⟨b',rfl⟩:=okWide_bool (by assumption) eI
   exact one _ rfl rfl rfl
 | int k m hd _ _ =>
   split at hm<;>simp_all
   obtain⟨b',rfl⟩:=okWide_int (by assumption) eI
   exact one _ rfl rfl rfl
 | str s hd _ =>
   split at hm<;>simp_all
   obtain⟨b',rfl⟩:=okWide_string (by assumption) eI
   exact one _ rfl rfl rfl
 | slice e b es hd _ _ _ =>
   split at hm<;>simp_all
   obtain⟨_,_,_,rfl⟩:=okWide_slice (by assumption) eI
   exact one _ rfl rfl rfl
 | struct fs ps hd _ _ =>
   split at hm<;>simp_all
   obtain⟨cs,rfl,_⟩:=okWide_struct (by assumption) eI
   have h4:VR N W (CI W) (λ_=>none) (.agg cs.toList.toArray) _:=CellsR.agg (cs:=cs.toList) h3 (qS.ownNil _)
   rw[Array.toArray_toList] at h4
   exact h4
theorem c4D {L:Nat→Option PFunc} (hE:EnvOk E N) (hP:E.P=P) (dR:P.follows .mixedOrders=true) (hL:∀k pf,L k=some pf→FnS E N k pf) (hT:∀t∈N.tabs,W.cell? ⟨t.1,t.2.1,none⟩=some t.2.2) (pH:∀r∈N.rows,W.shape? r.1=some r.2) {m k:Nat} {args:List PV} {h':List PObj} {vals:Array Value}
  (rS:call L m k args []=some (.bool true,h')) (dj:vals.size=args.length) (di:∀(i:Nat) (v:Value) (p:PV),vals[i]? = some v→args[i]? = some p→VR N W (CI W) (λ_=>none) v p):
  Calls P (N.fn k) vals W λe W'=>e = .returned (.bool true)∧Below W.heap.size W W':=by
 refine(((c0W hE hP dR hL m).plain k args _ [] h' rS).2 W { fix:=CI W,heap:=λ_=>none,box:=λ_=>none,ow:=λ_=>none } vals ?_ dj di).mono ?_
 ·refine⟨⟨by intro b k h; simp at h,λ_=>rfl⟩,?_,by intro b k h; simp at h,⟨by intro n ob h; simp at h,⟨λt ht=>⟨by show (W.cell? _).isSome=true; rw[hT t ht]; rfl,hT t ht⟩,pH⟩⟩,by intro n b h; simp at h⟩
  intro b o h
  unfold CI at h
  obtain⟨v,hv⟩:=Option.isSome_iff_exists.1 h
  exact World.block_lt_of_cell? W ⟨b,o,none⟩ hv
 ·rintro e w' ⟨v,G',rfl,hv,he,_⟩
  cases hv
  exact⟨rfl,⟨he.os,he.tape,he.output,he.size,λb hb=>he.same b hb rfl⟩⟩
end
end PI
set_option linter.unusedSimpArgs false
set_option linter.unusedVariables false
namespace PI
open Go Go.RowKit
def KN (fn:Func) (pf:PFunc) (vs:List Tmp):Bool:=
 decide (pf.params<1000)&&decide vs.Nodup&&vs.all (λt=>decide (t<fn.ntmps))&&vs.length==pf.nv&&decide (pf.params≤pf.nv)&&vs.take pf.params==List.range pf.params
def yOf (fn:Func) (fid:FuncId) (j:Nat) (vars:List Tmp):Option YL:=(fn.body.bind λc=>(z7 c)[j]?).map λx=>⟨fid,x.1,x.2.1,x.2.2,vars,fn.ntmps⟩
def LpsOK (N:Nm) (fn:Func) (fid:FuncId) (pss:List (Array Tmp)):List (Array Tmp×Nat×List Tmp)→Prop
 | []=>True
 | x::xs=>(∃j,N.yl x.2.1=yOf fn fid j x.2.2∧pss[j]? = some x.1)∧LpsOK N fn fid pss xs
theorem LpsOK.mem {N:Nm} {fn:Func} {fid:FuncId} {pss:List (Array Tmp)}:∀{l:List (Array Tmp×Nat×List Tmp)},LpsOK N fn fid pss l→∀x∈l,∃j,N.yl x.2.1=yOf fn fid j x.2.2∧pss[j]? = some x.1
 | [],_,x,hx=>by simp at hx
 | y :: l, h, x, hx => by
   rcases az.1 hx with rfl|hx
   ·exact h.1
   ·exact LpsOK.mem h.2 x hx
section
variable {E:Env} {N:Nm} {k:Nat} {pf:PFunc} {fn:Func} {fid:FuncId}
theorem Ih (vs:List Tmp) (o:Opts) (pss:List (Array Tmp)) (hf:E.P.funcs[fid]? = some fn) (h:(fn.body.map (λc=>Ak (E.opt o) fn.ntmps vs c),Dh E.P o.kp vs fn.results.toList,KN fn pf vs,fn.body.map λc=>(z7 c).map (·.1))=(some pf.code,some pf.results,true,some pss))
  (hn:fn.name ≠ "runtime.NumGoroutine") (dx:pss.Nodup) (hl:LpsOK N fn fid pss o.lps)
  (fY:N.fn k=fid:=by rfl) (hy:N.yl k=none:=by rfl) (hr:pf.code.isRound=false:=by rfl) (hp:pf.prim=none:=by rfl) (hd:pf.defer=none:=by rfl):FnS E N k pf:=by
 simp only[ac] at h
 obtain⟨h1,h2,h3,h4⟩:=h
 simp only[KN,ap,ay,br,aN] at h3
 obtain⟨⟨⟨⟨⟨a0,a1⟩,a2⟩,a3⟩,a4⟩,a5⟩:=h3
 refine .inl ⟨hy,hr,a0,.inl ⟨hp,hd,fn,vs,by rw[fY]; exact hf,hn,a1,a2,a3,a4,?_,o,h1,.inr ?_,h2⟩⟩
 ·intro i hi
  have:(vs.take pf.params)[i]? = some i:=by rw[a5]; simp[hi]
  rwa [aY,af hi] at this
 ·intro c hc ps kb vars hm z hz vU
  obtain⟨j,j1,j2⟩:=hl.mem _ hm
  rw[hc] at h4
  simp only[aC,aa] at h4
  subst h4
  obtain⟨i,hi⟩:=bj.1 hz
  have m8:i=j:=by
   have jz:((z7 c).map (·.1))[i]? = some ps:=by simp[hi,vU]
   obtain⟨b1,b2⟩:=ah.1 jz
   obtain⟨b3,b4⟩:=ah.1 j2
   refine cw λdh =>?_
   rcases Nat.lt_or_gt_of_ne dh with dc|dc
   ·exact List.pairwise_iff_getElem.1 dx i j b1 b3 dc (b2.trans b4.symm)
   ·exact List.pairwise_iff_getElem.1 dx j i b3 b1 dc (b4.trans b2.symm)
  subst m8
  rw[fY]
  simp only at j1
  rw[j1]
  simp[yOf,hc,hi,vU]
theorem fnS (vs:List Tmp) (o:Opts) (hf:E.P.funcs[fid]? = some fn) (h:(fn.body.map (λc=>Ak (E.opt o) fn.ntmps vs c),Dh E.P o.kp vs fn.results.toList,KN fn pf vs)=(some pf.code,some pf.results,true))
  (hn:fn.name ≠ "runtime.NumGoroutine") (hl:o.lps=[]:=by rfl)
  (fY:N.fn k=fid:=by rfl) (hy:N.yl k=none:=by rfl) (hr:pf.code.isRound=false:=by rfl) (hp:pf.prim=none:=by rfl) (hd:pf.defer=none:=by rfl):FnS E N k pf:=by
 simp only[ac] at h
 obtain⟨h1,h2,h3⟩:=h
 simp only[KN,ap,ay,br,aN] at h3
 obtain⟨⟨⟨⟨⟨a0,a1⟩,a2⟩,a3⟩,a4⟩,a5⟩:=h3
 refine .inl ⟨hy,hr,a0,.inl ⟨hp,hd,fn,vs,by rw[fY]; exact hf,hn,a1,a2,a3,a4,?_,o,h1,.inl hl,h2⟩⟩
 intro i hi
 have:(vs.take pf.params)[i]? = some i:=by rw[a5]; simp[hi]
 rwa [aY,af hi] at this
def UC (nt:Nat) (pf:PFunc) (vars:List Tmp) (ps:Array Tmp) (vs:List Tmp) (a b:PC):Bool:=
 a.RO&&b.RO&&decide vs.Nodup&&vs.all (λt=>decide (t<nt))&&vs.length==pf.nv&&pf.params==1+(vars.length+ps.size)&&vs.take (vars.length+ps.size)==vars++ps.toList
theorem rdS (vars vs:List Tmp) (o:Opts) (j:Nat) (ps:Array Tmp) {a b:PC} (lP:pf.code = .round a b) (hf:E.P.funcs[fid]? = some fn)
  (h:((fn.body.bind λc=>(z7 c)[j]?).map λz=>(z.1,Ak (E.opt o) fn.ntmps vs z.2.1,Ak (E.opt o) fn.ntmps vs z.2.2))=some (ps,a,b)) (rB:UC fn.ntmps pf vars ps vs a b=true)
  (hn:fn.name ≠ "runtime.NumGoroutine") (hy:N.yl k=yOf fn fid j vars:=by rfl) (fY:N.fn k=fid:=by rfl) (hl:o.lps=[]:=by rfl) (hp:pf.prim=none:=by rfl) (hd:pf.defer=none:=by rfl):FnS E N k pf:=by
 simp only[ab,aj,ac] at h
 obtain⟨z,⟨c,hc,hz⟩,rfl,h2,h3⟩:=h
 simp only[UC,ap,ay,br,aN] at rB
 obtain⟨⟨⟨⟨⟨⟨a0,a1⟩,a2⟩,a3⟩,a4⟩,a5⟩,a6⟩:=rB
 refine .inr ⟨⟨fid,z.1,z.2.1,z.2.2,vars,fn.ntmps⟩,fn,vs,o,a,b,⟨by rw[hy]; simp[yOf,hc,hz],lP,a0,a1,hp,hd,hf,fY,hn,by simp[hc],a2,a3,a4,a5,a6,hl,h2,h3⟩⟩
def AllFn (E:Env) (N:Nm):Nat→List (Option PFunc)→Prop
 | _,[]=>True
 | n,none::fs=>AllFn E N (n+1) fs
 | n,some f::fs=>FnS E N n f∧AllFn E N (n+1) fs
theorem AllFn.get:∀{fs:List (Option PFunc)} {n:Nat},AllFn E N n fs→∀{k:Nat} {f:PFunc},fs[k]?.join=some f→FnS E N (n+k) f
 | [],n,_,k,f,hk=>by simp at hk
 | o :: fs, n, h, 0, f, hk => by
   simp at hk; subst hk
   exact h.1
 | o :: fs, n, h, k + 1, f, hk => by
   have h':AllFn E N (n+1) fs:=by cases o with
    | none=>exact h
    | some g=>exact h.2
   have:=AllFn.get h' (k:=k) (f:=f) (by simpa using hk)
   rwa [show n+1+k=n+(k+1) by omega] at this
end
end PI
namespace PI
open Go (IntKind BinOp UnOp)
def Tr:List PV→Option (List (List UInt8))
 | []=>some []
 | .str s::r=>(Tr r).map (s::·)
 | _=>none
def d7c (args:List PV) (h:List PObj):Option (PV×List PObj):=
 match args with
 | [.list _ es,.str sep]=>(Tr es).bind λxs=>if xs.length≤140737488355328∧(Go.Lib.join xs sep).length≤140737488355328 then some (.str (Go.Lib.join xs sep),h) else none
 | _=>none
def Jt (args:List PV) (h:List PObj):Option (PV×List PObj):=
 match args with
 | [.str s,.int .u8 c]=>some (.int .i64 (Go.Lib.indexByte s c.toNat.toUInt8),h)
 | _=>none
def d7d (args:List PV) (h:List PObj):Option (PV×List PObj):=
 match args with
 | [.int .i64 n]=>if -9223372036854775808≤n∧n≤9223372036854775807 then some (.str (Go.Lib.itoa n),h) else none
 | _=>none
def Fv:List PV→Option (List Int)
 | []=>some []
 | .int .i64 n::r=>(Fv r).map (n::·)
 | _=>none
def ins {α:Type} (le:α→α→Bool) (x:α):List α→List α
 | []=>[x]
 | y::ys=>if le x y then x::y::ys else y::ins le x ys
def Bh {α:Type} (le:α→α→Bool):List α→List α
 | []=>[]
 | x::xs=>ins le x (Bh le xs)
theorem Ov {α:Type} (le:α→α→Bool) (x:α):∀l,(ins le x l).Perm (x::l)
 | [] => .refl _
 | y :: ys => by
   unfold ins
   split
   ·exact .refl _
   ·exact((Ov le x ys).cons y).trans (.swap x y ys)
theorem Gd {α:Type} (le:α→α→Bool):∀l,(Bh le l).Perm l
 | [] => .refl _
 | x::xs=>(Ov le x _).trans ((Gd le xs).cons x)
theorem Tt {α:Type} {le:α→α→Bool} (ht:∀a b c,le a b=true→le b c=true→le a c=true) (hn:∀a b,(le a b||le b a)=true) (x:α):∀l,l.Pairwise (λa b=>le a b=true)→(ins le x l).Pairwise (λa b=>le a b=true)
 | [],_=>by simp[ins]
 | y :: ys, h => by
   unfold ins
   split
   ·rename_i kS
    refine bR.2 ⟨λz hz =>?_,h⟩
    rcases az.1 hz with rfl|hz
    ·exact kS
    ·exact ht _ _ _ kS ((bR.1 h).1 z hz)
   ·rename_i kS
    have xI:le y x=true:=by have:=hn x y; simp only[kS,Bool.false_or] at this; exact this
    refine bR.2 ⟨λz hz =>?_,Tt ht hn x ys (bR.1 h).2⟩
    rcases az.1 ((Ov le x ys).mem_iff.1 hz) with rfl|hz
    ·exact xI
    ·exact(bR.1 h).1 z hz
theorem Tu {α:Type} {le:α→α→Bool} (ht:∀a b c,le a b=true→le b c=true→le a c=true) (hn:∀a b,(le a b||le b a)=true):∀l,(Bh le l).Pairwise (λa b=>le a b=true)
 | [] => .nil
 | x::xs=>Tt ht hn x _ (Tu ht hn xs)
theorem Tv {α:Type} {le:α→α→Bool} (ht:∀a b c,le a b=true→le b c=true→le a c=true) (hn:∀a b,(le a b||le b a)=true) (ha:∀a b,le a b=true→le b a=true→a=b) (l:List α):Bh le l=l.mergeSort le:=
 List.Perm.eq_of_pairwise (λa b _ _=>ha a b) (Tu ht hn l) (List.pairwise_mergeSort ht hn l) ((Gd le l).trans (List.mergeSort_perm l le).symm)
def Fw (x y:Int):Bool:=decide (x≤y)
theorem c2V (l:List Int):Bh Fw l=l.mergeSort λx y=>decide (x≤y):=
 Tv (le:=Fw) (λa b c h1 h2=>by simp[Fw] at *; omega) (λa b=>by simp[Fw]; omega) (λa b h1 h2=>by simp[Fw] at *; omega) l
def Fj (args:List PV) (h:List PObj):Option (PV×List PObj):=
 match args with
 | [.rowp n 1 false len] =>
   match h[n]? with
   | some (.cells cs)=>if len≤cs.length∧len<4611686018427387904 then(Fv (cs.take len)).map λzs=>(.tuple [],h.set n (.cells ((Bh Fw zs).map (.int .i64 ·)++cs.drop len))) else none
   | _=>none
 | [.list _ []]=>some (.tuple [],h)
 | _=>none
def ET:List PV→Option (List (Int×Int))
 | []=>some []
 | .int .i64 a :: .int .i64 b::r=>(ET r).map ((a,b)::·)
 | _=>none
def zi (x:Int×Int):List PV:=[.int .i64 x.1,.int .i64 x.2]
def AS (x y:Int×Int):Bool:=decide (x.1<y.1∨x.1=y.1∧x.2≤y.2)
theorem c07 (l:List (Int×Int)):Bh AS l=l.mergeSort AS:=
 Tv (λa b c h1 h2=>by simp[AS] at *; omega) (λa b=>by simp[AS]; omega) (λa b h1 h2=>by simp[AS] at *; exact Prod.ext (by omega) (by omega)) l
def ER (kc:Nat) (args:List PV) (h:List PObj):Option (PV×List PObj):=
 match args with
 | [.rowp n 2 true len, .func k [] []] =>
   match h[n]? with
   | some (.cells cs)=>if k=kc∧len*2≤cs.length∧len<4611686018427387904 then(ET (cs.take (len*2))).map λzs=>(.tuple [],h.set n (.cells ((Bh AS zs).flatMap zi++cs.drop (len*2)))) else none
   | _=>none
 | [.list _ [],_]=>some (.tuple [],h)
 | _=>none
section
variable {cf:yt} {V l:List PV} {g:Nat} {h:List PObj} {L:Nat→Option PFunc}
@[simp] theorem d7e (i:Nat):raw ⟨V,l,g,h⟩ (.v i)=V[i]? := rfl
@[simp] theorem d7f (i:Nat):raw ⟨V,l,g,h⟩ (.l i)=l[i]? := rfl
@[simp] theorem d7g (p:PV):raw ⟨V,l,g,h⟩ (.c p)=some p:=rfl
@[simp] theorem d7h (x:PX):rd ⟨V,l,g,h⟩ x=match raw ⟨V,l,g,h⟩ x with | some v=>cp v | none=>none:=by
 simp only[rd]; cases raw ⟨V,l,g,h⟩ x<;>rfl
@[simp] theorem d4B (b:Bool):cp (.bool b)=some (.bool b):=rfl
@[simp] theorem d2Z (b:Bool):dem (.bool b) = .bool b:=rfl
@[simp] theorem d5m (k:IntKind) (n:Int):cp (.int k n)=some (.int k n):=rfl
@[simp] theorem d4C (k:IntKind) (n:Int):dem (.int k n) = .int k n:=rfl
@[simp] theorem d5n (s:List UInt8):cp (.str s)=some (.str s):=rfl
@[simp] theorem d4D (s:List UInt8):dem (.str s) = .str s:=rfl
@[simp] theorem d5o (cs:List PV):cp (.agg cs)=some (.agg cs):=rfl
@[simp] theorem d4E (cs:List PV):dem (.agg cs) = .agg cs:=rfl
@[simp] theorem d20 (vs:List PV):cp (.tuple vs)=some (.tuple vs):=rfl
@[simp] theorem d1c (vs:List PV):dem (.tuple vs) = .tuple vs:=rfl
@[simp] theorem d1d:cp (.nilptr)=some (.nilptr):=rfl
@[simp] theorem c87:dem (.nilptr) = .nilptr:=rfl
@[simp] theorem d4F (cs:List PV):cp (.cptr cs)=some (.cptr cs):=rfl
@[simp] theorem d21 (cs:List PV):dem (.cptr cs) = .cptr cs:=rfl
@[simp] theorem d5p (n o:Nat):cp (.ptr n o)=some (.ptr n o):=rfl
@[simp] theorem d4G (n o:Nat):dem (.ptr n o) = .ptr n o:=rfl
@[simp] theorem d5q (n:Option Nat):cp (.map n)=some (.map n):=rfl
@[simp] theorem d4H (n:Option Nat):dem (.map n) = .map n:=rfl
@[simp] theorem d4I (k:Nat) (a b:List PV):cp (.func k a b)=some (.func k a b):=rfl
@[simp] theorem d22 (k:Nat) (a b:List PV):dem (.func k a b) = .func k a b:=rfl
@[simp] theorem c88:cp (.nilfunc)=some (.nilfunc):=rfl
@[simp] theorem c7L:dem (.nilfunc) = .nilfunc:=rfl
@[simp] theorem d23 (t:Nat) (v:PV):cp (.iface t v)=some (.iface t v):=rfl
@[simp] theorem d1e (t:Nat) (v:PV):dem (.iface t v) = .iface t v:=rfl
@[simp] theorem c7M:cp (.nilIface)=some (.nilIface):=rfl
@[simp] theorem c51:dem (.nilIface) = .nilIface:=rfl
@[simp] theorem d4J:cp (.nils)=some (.nils):=rfl
@[simp] theorem d24:dem (.nils) = .nils:=rfl
@[simp] theorem d4K:cp (.void)=some (.void):=rfl
@[simp] theorem d25:dem (.void) = .void:=rfl
@[simp] theorem d4L (o:Bool) (es:List PV):cp (.list o es)=some (.list false es):=rfl
@[simp] theorem d26 (o:Bool) (es:List PV):dem (.list o es) = .list false es:=rfl
@[simp] theorem d5r (n:Nat) (cs:List PV):cp (.loc n cs)=none:=rfl
@[simp] theorem d4M (s n o:Nat):cp (.lptr s n o)=none:=rfl
@[simp] theorem d4N:cp .dead=none:=rfl
@[simp] theorem d4O (n sz:Nat) (a:Bool) (k:Nat):cp (.rowp n sz a k)=some (.rowp n sz a k):=rfl
@[simp] theorem d27 (n sz:Nat) (a:Bool) (k:Nat):dem (.rowp n sz a k) = .rowp n sz a k:=rfl
@[simp] theorem TQ (n sz:Nat) (a:Bool) (k:Nat):zw (.rowp n sz a k)=some n:=rfl
@[simp] theorem d1f (b:Bool):zw (.bool b)=none:=rfl
@[simp] theorem d28 (k:IntKind) (n:Int):zw (.int k n)=none:=rfl
@[simp] theorem d29 (s:List UInt8):zw (.str s)=none:=rfl
@[simp] theorem d3a (cs:List PV):zw (.agg cs)=none:=rfl
@[simp] theorem c89 (vs:List PV):zw (.tuple vs)=none:=rfl
@[simp] theorem c7N:zw (.nilptr)=none:=rfl
@[simp] theorem d1g (cs:List PV):zw (.cptr cs)=none:=rfl
@[simp] theorem d3b (n o:Nat):zw (.ptr n o)=none:=rfl
@[simp] theorem d3c (n:Option Nat):zw (.map n)=none:=rfl
@[simp] theorem d1h (k:Nat) (a b:List PV):zw (.func k a b)=none:=rfl
@[simp] theorem c52:zw (.nilfunc)=none:=rfl
@[simp] theorem c9a (t:Nat) (v:PV):zw (.iface t v)=none:=rfl
@[simp] theorem c4O:zw (.nilIface)=none:=rfl
@[simp] theorem d1i:zw (.nils)=none:=rfl
@[simp] theorem d1j:zw (.void)=none:=rfl
@[simp] theorem d1k (o:Bool) (es:List PV):zw (.list o es)=none:=rfl
@[simp] theorem d3d (n:Nat) (cs:List PV):zw (.loc n cs)=none:=rfl
@[simp] theorem d1l (s n o:Nat):zw (.lptr s n o)=none:=rfl
@[simp] theorem d1m:zw (.dead)=none:=rfl
@[simp] theorem d4P (n:Nat) (cs:List PV):dem (.loc n cs) = .loc n cs:=rfl
@[simp] theorem d3e:dem .dead = .dead:=rfl
@[simp] theorem d1n (b:Bool):yC (.bool b)=true:=rfl
@[simp] theorem d3f (k:IntKind) (n:Int):yC (.int k n)=true:=rfl
@[simp] theorem d3g (s:List UInt8):yC (.str s)=true:=rfl
@[simp] theorem d3h (cs:List PV):yC (.agg cs)=yD cs:=rfl
@[simp] theorem c9b (vs:List PV):yC (.tuple vs)=yD vs:=rfl
@[simp] theorem c7O:yC (.nilptr)=true:=rfl
@[simp] theorem d1o (cs:List PV):yC (.cptr cs)=yD cs:=rfl
@[simp] theorem d3i (n o:Nat):yC (.ptr n o)=false:=rfl
@[simp] theorem d3j (n:Option Nat):yC (.map n)=n.isNone:=rfl
@[simp] theorem d1p (k:Nat) (a b:List PV):yC (.func k a b)=(yD a&&yD b):=rfl
@[simp] theorem c53:yC (.nilfunc)=true:=rfl
@[simp] theorem c9c (t:Nat) (v:PV):yC (.iface t v)=yC v:=rfl
@[simp] theorem c4P:yC (.nilIface)=true:=rfl
@[simp] theorem d1q:yC (.nils)=true:=rfl
@[simp] theorem d1r:yC (.void)=true:=rfl
@[simp] theorem d1s (o:Bool) (es:List PV):yC (.list o es)=yD es:=rfl
@[simp] theorem d1t:yC (.dead)=false:=rfl
@[simp] theorem d1u (n sz:Nat) (a:Bool) (k:Nat):yC (.rowp n sz a k)=false:=rfl
@[simp] theorem d4Q (k:EK) (x y:PV):peq false [k] x y=Bo k x y:=rfl
@[simp] theorem d4R (ks:List EK) (xs ys:List PV):peq true ks (.agg xs) (.agg ys)=A4 ks xs ys:=rfl
def tkv:PV→Option (PV×Bool)
 | .list true es=>some (.list true es,true)
 | v => match cp v with
   | some u=>some (u,false)
   | none=>none
@[simp] theorem d3k (b:Bool):tkv (.bool b)=some (.bool b,false):=rfl
@[simp] theorem d4S (k:IntKind) (n:Int):tkv (.int k n)=some (.int k n,false):=rfl
@[simp] theorem d4T (s:List UInt8):tkv (.str s)=some (.str s,false):=rfl
@[simp] theorem d4U (cs:List PV):tkv (.agg cs)=some (.agg cs,false):=rfl
@[simp] theorem d1v (vs:List PV):tkv (.tuple vs)=some (.tuple vs,false):=rfl
@[simp] theorem c9d:tkv (.nilptr)=some (.nilptr,false):=rfl
@[simp] theorem d3l (cs:List PV):tkv (.cptr cs)=some (.cptr cs,false):=rfl
@[simp] theorem d4V (n o:Nat):tkv (.ptr n o)=some (.ptr n o,false):=rfl
@[simp] theorem d4W (n:Option Nat):tkv (.map n)=some (.map n,false):=rfl
@[simp] theorem d3m (k:Nat) (a b:List PV):tkv (.func k a b)=some (.func k a b,false):=rfl
@[simp] theorem c7P:tkv (.nilfunc)=some (.nilfunc,false):=rfl
@[simp] theorem d1w (t:Nat) (v:PV):tkv (.iface t v)=some (.iface t v,false):=rfl
@[simp] theorem c54:tkv (.nilIface)=some (.nilIface,false):=rfl
@[simp] theorem d3n:tkv (.nils)=some (.nils,false):=rfl
@[simp] theorem d3o:tkv (.void)=some (.void,false):=rfl
@[simp] theorem d4X (es:List PV):tkv (.list true es)=some (.list true es,true):=rfl
@[simp] theorem d3p (es:List PV):tkv (.list false es)=some (.list false es,false):=rfl
@[simp] theorem d4Y (n:Nat) (cs:List PV):tkv (.loc n cs)=none:=rfl
@[simp] theorem d3q (s n o:Nat):tkv (.lptr s n o)=none:=rfl
@[simp] theorem d3r:tkv .dead=none:=rfl
@[simp] theorem d3s (n sz:Nat) (a:Bool) (k:Nat):tkv (.rowp n sz a k)=some (.rowp n sz a k,false):=rfl
@[simp] theorem d4Z (x:PX):tk ⟨V,l,g,h⟩ x=match raw ⟨V,l,g,h⟩ x with
  | some v => (match tkv v with
    | some (u,true)=>some (u,Dk ⟨V,l,g,h⟩ x (dem v))
    | some (u,false)=>some (u,⟨V,l,g,h⟩)
    | none=>none)
  | none=>none:=by
 unfold tk
 cases raw ⟨V,l,g,h⟩ x with
 | none=>rfl
 | some v => cases v with
   | list ow es=>cases ow<;>rfl
   | _=>rfl
def CP:PV→Option (List PV)
 | .agg cs=>some cs
 | _=>none
@[simp] theorem c55 (cs:List PV):CP (.agg cs)=some cs:=rfl
@[simp] theorem d3t (cs:List PV):AN (.agg cs) = .agg (cs.map dem):=rfl
@[simp] theorem d1x (b:Bool):AN (.bool b) = .bool b:=rfl
@[simp] theorem d3u (k:IntKind) (n:Int):AN (.int k n) = .int k n:=rfl
@[simp] theorem d3v (s:List UInt8):AN (.str s) = .str s:=rfl
@[simp] theorem d1y (o:Bool) (es:List PV):AN (.list o es) = .list false es:=rfl
@[simp] theorem c4Q (n:Nat) (cs:List PV) (off:Nat) (v:PV):yM n true cs off v=match CP v with
  | some vs=>if vs.length=n∧off+n≤cs.length then some (cs.take off++(vs++cs.drop (off+n))) else none
  | none=>none:=by
 cases v<;>rfl
@[simp] theorem c4R (n:Nat) (cs:List PV) (off:Nat) (v:PV):yM n false cs off v=if off<cs.length∧v.flat=true then some (cs.set off v) else none:=rfl
def OD (h:List PObj):PV→Option PV
 | .rowp n sz agg len=>if agg=true∨sz=1 then(match h[n]? with | some (.cells cs)=>(match Ao sz agg cs len 0 with | some es=>some (.list false es) | none=>none) | _=>none) else none
 | _=>none
@[simp] theorem TR (h:List PObj) (n sz len:Nat) (agg:Bool):OD h (.rowp n sz agg len)=if agg=true∨sz=1 then(match h[n]? with | some (.cells cs)=>(match Ao sz agg cs len 0 with | some es=>some (.list false es) | none=>none) | _=>none) else none:=rfl
def BG:PV→PV
 | .nils => .list false []
 | v=>v
@[simp] theorem d1z:BG .nils = .list false []:=rfl
@[simp] theorem d1A (b:Bool):BG (.bool b) = .bool b:=rfl
@[simp] theorem d3w (k:IntKind) (n:Int):BG (.int k n) = .int k n:=rfl
@[simp] theorem d3x (s:List UInt8):BG (.str s) = .str s:=rfl
@[simp] theorem d3y (cs:List PV):BG (.agg cs) = .agg cs:=rfl
@[simp] theorem c9e (cs:List PV):BG (.tuple cs) = .tuple cs:=rfl
@[simp] theorem c7Q  : BG (.nilptr) = .nilptr:=rfl
@[simp] theorem d1B (cs:List PV):BG (.cptr cs) = .cptr cs:=rfl
@[simp] theorem d3z (n o:Nat):BG (.ptr n o) = .ptr n o:=rfl
@[simp] theorem d3A (n:Option Nat):BG (.map n) = .map n:=rfl
@[simp] theorem d1C (k:Nat) (a b:List PV):BG (.func k a b) = .func k a b:=rfl
@[simp] theorem c56  : BG (.nilfunc) = .nilfunc:=rfl
@[simp] theorem c9f (t:Nat) (v:PV):BG (.iface t v) = .iface t v:=rfl
@[simp] theorem c4S  : BG (.nilIface) = .nilIface:=rfl
@[simp] theorem d1D  : BG (.void) = .void:=rfl
@[simp] theorem d1E (o:Bool) (es:List PV):BG (.list o es) = .list o es:=rfl
@[simp] theorem d1F  : BG (.dead) = .dead:=rfl
@[simp] theorem d3B (n:Nat) (cs:List PV):BG (.loc n cs) = .loc n cs:=rfl
@[simp] theorem c4T (i:Nat):BZ ⟨V,l,g,h⟩ (.keep i)=match V[i]? with | some v=>cp v | none=>none:=by
 simp only[BZ]; cases V[i]?<;>rfl
@[simp] theorem c57 (V:List PV) (i:Nat) (rs:List PRes) (h:List PObj):zh V (.keep i::rs) h=zh V rs h:=rfl
@[simp] theorem c58 (i:Nat):BZ ⟨V,l,g,h⟩ (.var i)=match V[i]? with
  | some v=>(match zw v with | some _=>OD h v | none=>(match tkv v with | some (u,_)=>some (BG u) | none=>none))
  | none=>none:=by
 simp only[BZ]
 cases V[i]? with
 | none=>rfl
 | some v => cases v with
   | list ow es=>cases ow<;>rfl
   | rowp n sz agg len =>
     simp only[ar,TQ,TR]
     split
     ·simp only[yN]
      cases h[n]? with
      | none=>rfl
      | some o => cases o <;> try rfl
                  rename_i cs
                  simp only[ar]
                  cases Ao sz agg cs len 0<;>rfl
     ·rfl
   | _=>rfl
@[simp] theorem c9g:DM []=[]:=rfl
@[simp] theorem c7R (p:PV) (ps:List PV):DM (p::ps)=match zw p with | some n=>n::DM ps | none=>DM ps:=by
 cases p<;>rfl
@[simp] theorem d1G (h:List PObj):BU [] h=h:=rfl
@[simp] theorem c9h (n:Nat) (ns:List Nat) (h:List PObj):BU (n::ns) h=BU ns (h.set n .gone):=rfl
@[simp] theorem c7S (V:List PV) (h:List PObj):zh V [] h=h:=rfl
@[simp] theorem c59 (V:List PV) (i n:Nat) (agg:Bool) (rs:List PRes) (h:List PObj):zh V (.cell i n agg::rs) h=match V[i]? with
  | some (.loc _ cs)=>zh V rs (BU (DM cs) h)
  | _=>zh V rs h:=by
 simp only[zh,C3]
 cases V[i]? with
 | none=>rfl
 | some v=>cases v<;>rfl
@[simp] theorem c7T (V:List PV) (i:Nat) (rs:List PRes) (h:List PObj):zh V (.var i::rs) h=match V[i]? with
  | some v=>(match zw v with | some n=>zh V rs (h.set n .gone) | none=>zh V rs h)
  | none=>zh V rs h:=by
 simp only[zh,C3,KS]
 cases V[i]? with
 | none=>rfl
 | some v=>cases v<;>rfl
@[simp] theorem d1H (h:List PObj):Cu h []=some []:=rfl
@[simp] theorem c9i (h:List PObj) (p:PV) (ps:List PV):Cu h (p::ps)=match zw p with
  | some _=>(match OD h p with | some q=>(match Cu h ps with | some qs=>some (q::qs) | none=>none) | none=>none)
  | none=>(match Cu h ps with | some qs=>some (p::qs) | none=>none):=by
 simp only[Cu]
 cases p with
 | rowp n sz agg len =>
   simp only[TQ,TR,Cd]
   split
   ·cases h[n]? with
    | none=>rfl
    | some o => cases o <;> try rfl
                rename_i cs
                simp only
                cases Ao sz agg cs len 0 with
                | none=>rfl
                | some es=>simp only[aC,ar]; cases Cu h ps<;>rfl
   ·rfl
 | _=>simp only[Cd,ar]; cases Cu h ps<;>rfl
@[simp] theorem d3C (h:List PObj) (ps:List PV):zY h (.agg ps)=match Cu h ps with | some qs=>some (.agg qs) | none=>none:=by
 simp only[zY]; cases Cu h ps<;>rfl
@[simp] theorem d1I (h:List PObj) (b:Bool):zY h (.bool b)=some (.bool b):=rfl
@[simp] theorem d3D (h:List PObj) (k:IntKind) (n:Int):zY h (.int k n)=some (.int k n):=rfl
@[simp] theorem d3E (h:List PObj) (s:List UInt8):zY h (.str s)=some (.str s):=rfl
@[simp] theorem d1J (h:List PObj) (o:Bool) (es:List PV):zY h (.list o es)=some (.list o es):=rfl
@[simp] theorem c7U (h:List PObj)  : zY h (.nilptr)=some (.nilptr):=rfl
@[simp] theorem d1K (h:List PObj) (cs:List PV):zY h (.cptr cs)=some (.cptr cs):=rfl
@[simp] theorem d3F (h:List PObj) (n o:Nat):zY h (.ptr n o)=some (.ptr n o):=rfl
@[simp] theorem d1L (h:List PObj) (n sz:Nat) (a:Bool) (k:Nat):zY h (.rowp n sz a k)=some (.rowp n sz a k):=rfl
@[simp] theorem d3G (h:List PObj) (n:Option Nat):zY h (.map n)=some (.map n):=rfl
@[simp] theorem d1M (h:List PObj) (k:Nat) (a b:List PV):zY h (.func k a b)=some (.func k a b):=rfl
@[simp] theorem c6a (h:List PObj)  : zY h (.nilfunc)=some (.nilfunc):=rfl
@[simp] theorem c9j (h:List PObj) (t:Nat) (v:PV):zY h (.iface t v)=some (.iface t v):=rfl
@[simp] theorem c4U (h:List PObj)  : zY h (.nilIface)=some (.nilIface):=rfl
@[simp] theorem c4V (i n:Nat) (agg:Bool):BZ ⟨V,l,g,h⟩ (.cell i n agg)=match V[i]? with
  | some (.loc _ cs)=>(match yu n agg cs 0 with | some v=>zY h v | none=>none)
  | some (.ptr m 0)=>(match yN ⟨V,l,g,h⟩ m with | some cs=>yu n agg cs 0 | none=>none)
  | _=>none:=by
 simp only[BZ]
 cases V[i]? with
 | none=>rfl
 | some v =>
   cases v with
   | loc g cs=>simp only; cases yu n agg cs 0<;>rfl
   | ptr m off =>
     cases off with
     | zero=>simp only; cases yN ⟨V,l,g,h⟩ m<;>rfl
     | succ off=>rfl
   | _=>rfl
attribute [simp] addr rdInt Dk yD GX GY unv bound Bo EG
@[simp] theorem d1N (st:St):rdAll st []=some []:=rfl
@[simp] theorem c9k (x:PX) (xs:List PX):rdAll ⟨V,l,g,h⟩ (x::xs)=match rd ⟨V,l,g,h⟩ x with | some v=>(match rdAll ⟨V,l,g,h⟩ xs with | some vs=>some (v::vs) | none=>none) | none=>none:=by
 simp only[rdAll]; cases rd ⟨V,l,g,h⟩ x<;>simp; cases rdAll ⟨V,l,g,h⟩ xs<;>rfl
@[simp] theorem c7V (st:St):rdElems st []=some []:=rfl
@[simp] theorem c6b (i:Nat) (x:PX) (xs:List (Nat×PX)):rdElems ⟨V,l,g,h⟩ ((i,x)::xs)=match rd ⟨V,l,g,h⟩ x with | some v=>(match rdElems ⟨V,l,g,h⟩ xs with | some vs=>some ((i,v)::vs) | none=>none) | none=>none:=by
 simp only[rdElems]; cases rd ⟨V,l,g,h⟩ x<;>simp; cases rdElems ⟨V,l,g,h⟩ xs<;>rfl
@[simp] theorem c7W (st:St):rdParts st []=some []:=rfl
@[simp] theorem c6c (i s:Nat) (x:PX) (xs:List (Nat×Nat×PX)):rdParts ⟨V,l,g,h⟩ ((i,s,x)::xs)=match rd ⟨V,l,g,h⟩ x with | some v=>(match rdParts ⟨V,l,g,h⟩ xs with | some vs=>some ((i,s,v)::vs) | none=>none) | none=>none:=by
 simp only[rdParts]; cases rd ⟨V,l,g,h⟩ x<;>simp; cases rdParts ⟨V,l,g,h⟩ xs<;>rfl
@[simp] theorem d7i (i j:Nat) (v:PV):put ⟨V,l,g,h⟩ j (.v i) v=⟨V.set i v,l,g,h⟩:=rfl
@[simp] theorem d7j (j:Nat) (v:PV):put ⟨V,l,g,h⟩ j .l v=⟨V,l.set j v,g,h⟩:=rfl
@[simp] theorem d7k (j:Nat) (v:PV):put ⟨V,l,g,h⟩ j .n v=⟨V,l,g,h⟩:=rfl
@[simp] theorem c9l (ops:List PO):AG cf ops ⟨V,l,g,h⟩=AO cf 0 ops ⟨V,List.replicate ops.length .dead,g,h⟩:=rfl
@[simp] theorem c6d (j:Nat) (st:St):AO cf j [] st=some st:=rfl
@[simp] theorem c4W (j:Nat) (d:PD) (o:POp) (os:List PO):AO cf j (⟨d,o,none⟩::os) ⟨V,l,g,h⟩ =
  match opv cf o ⟨V,l,g,h⟩ with | some (v,st)=>AO cf (j+1) os (put st j d v) | none=>none:=by
 simp only[AO,zm]; cases opv cf o ⟨V,l,g,h⟩<;>rfl
@[simp] theorem c3y (j:Nat) (d:PD) (o:POp) (x:PX) (want:Bool) (os:List PO):AO cf j (⟨d,o,some (x,want)⟩::os) ⟨V,l,g,h⟩ =
  match rd ⟨V,l,g,h⟩ x with
  | some (.bool b)=>if b=want then(match opv cf o ⟨V,l,g,h⟩ with | some (v,st)=>AO cf (j+1) os (put st j d v) | none=>none) else AO cf (j+1) os (put ⟨V,l,g,h⟩ j d (.tuple []))
  | some (.tuple [])=>AO cf (j+1) os (put ⟨V,l,g,h⟩ j d (.tuple []))
  | _=>none:=by
 simp only[AO,zm]
 cases rd ⟨V,l,g,h⟩ x with
 | none=>rfl
 | some v =>
   cases v<;>try rfl
   ·rename_i b
    simp only
    by_cases hb:b=want
    ·simp only[af hb]; cases opv cf o ⟨V,l,g,h⟩<;>rfl
    ·simp only[ae hb]; rfl
   ·rename_i vs
    cases vs<;>rfl
def sv (r:Option PV) (st:St):Option (PV×St):=match r with | some v=>some (v,st) | none=>none
@[simp] theorem d41 (v:PV) (st:St):sv (some v) st=some (v,st):=rfl
@[simp] theorem d42 (st:St):sv none st=none:=rfl
theorem DI (r:Option PV) (st:St):r.map (·,st)=sv r st:=by cases r<;>rfl
@[simp] theorem d43 (x:PX):opv cf (.mov x) ⟨V,l,g,h⟩=sv (rd ⟨V,l,g,h⟩ x) ⟨V,l,g,h⟩:=DI _ _
@[simp] theorem d3H (x:PX):opv cf (.take x) ⟨V,l,g,h⟩=match raw ⟨V,l,g,h⟩ x with
  | some v => (match tkv v with
    | some (u,true)=>some (u,Dk ⟨V,l,g,h⟩ x (dem v))
    | some (u,false)=>some (u,⟨V,l,g,h⟩)
    | none=>none)
  | none=>none:=by
 simp only[opv,d4Z]
@[simp] theorem d3I (c a b:PX):opv cf (.pick c a b) ⟨V,l,g,h⟩=match rd ⟨V,l,g,h⟩ c with
  | some (.bool t)=>sv (rd ⟨V,l,g,h⟩ (if t then a else b)) ⟨V,l,g,h⟩
  | _=>none:=by
 simp only[opv,DI]; rfl
@[simp] theorem c9m (z:List PV):opv cf (.newloc z) ⟨V,l,g,h⟩=some (.loc g z,⟨V,l,g+1,h⟩):=rfl
@[simp] theorem c9n (s:Nat) (x:PX):opv cf (.boxloc s x) ⟨V,l,g,h⟩=match rd ⟨V,l,g,h⟩ x with
  | some v=>if v.cells.length=s then some (.loc g (v.cells.map dem),⟨V,l,g+1,h⟩) else none
  | none=>none:=rfl
@[simp] theorem c7X (s:Nat) (z:PV) (n:Nat) (ps:List (Nat×PX)):opv cf (.mkslice s z n ps) ⟨V,l,g,h⟩=match rdElems ⟨V,l,g,h⟩ ps with
  | some es=>(match Cc s (List.replicate n z) es with | some es=>some (.list true es,⟨V,l,g,h⟩) | none=>none)
  | none=>none:=by
 simp only[opv]; cases rdElems ⟨V,l,g,h⟩ ps<;>simp; rename_i es; cases Cc s (List.replicate n z) es<;>rfl
@[simp] theorem d1O (z:List PV) (ps:List (Nat×Nat×PX)):opv cf (.build z ps) ⟨V,l,g,h⟩=match rdParts ⟨V,l,g,h⟩ ps with
  | some es=>(match Cb z es with | some cs=>some (.agg cs,⟨V,l,g,h⟩) | none=>none)
  | none=>none:=by
 simp only[opv]; cases rdParts ⟨V,l,g,h⟩ ps<;>simp; rename_i es; cases Cb z es<;>rfl
@[simp] theorem d3J (s:Nat) (agg:Bool) (a:PX) (t:Bool):opv cf (.load s agg a t) ⟨V,l,g,h⟩=match addr ⟨V,l,g,h⟩ a with
  | some (.cptr cs)=>sv (yu s agg cs 0) ⟨V,l,g,h⟩
  | some (.lptr s' g0 off) =>
    match V[s']? with
    | some (.loc g' cs) =>
      if g0=g' then
       match t && !agg,cs[off]? with
       | true,some (.list true es)=>some (.list true es,⟨V.set s' (.loc g0 (cs.set off (.list false es))),l,g,h⟩)
       | _,_=>sv (yu s agg cs off) ⟨V,l,g,h⟩
      else none
    | _=>none
  | _=>none:=by simp only[opv,DI]; rfl
@[simp] theorem d1P (s:Nat) (agg:Bool) (a x:PX):opv cf (.store s agg a x) ⟨V,l,g,h⟩=match addr ⟨V,l,g,h⟩ a,tk ⟨V,l,g,h⟩ x with
  | some (.lptr s' g0 off), some (v, ⟨V, l, g, h⟩) =>
    match V[s']? with
    | some (.loc g' cs)=>if g0=g' then(match yM s agg cs off v with | some cs=>some (.dead,⟨V.set s' (.loc g0 cs),l,g,h⟩) | none=>none) else none
    | _=>none
  | _,_=>none:=by
 simp only[opv]
 cases addr ⟨V,l,g,h⟩ a with
 | none=>rfl
 | some p => cases p <;> try rfl
             cases tk ⟨V,l,g,h⟩ x with
             | none=>rfl
             | some r => obtain ⟨v, ⟨V2, l2, g2, h2⟩⟩ := r
                         simp only
                         rename_i s1 g1 o1
                         cases V2[s1]? with
                         | none=>rfl
                         | some q => cases q <;> try rfl
                                     rename_i g' cs
                                     simp only
                                     by_cases hg:g1=g'
                                     ·simp only[af hg]; cases yM s agg cs o1 v<;>rfl
                                     ·simp only[ae hg]
@[simp] theorem d1Q (off:Nat) (x:PX):opv cf (.faddr off x) ⟨V,l,g,h⟩=match addr ⟨V,l,g,h⟩ x with
  | some (.cptr cs)=>some (.cptr (cs.drop off),⟨V,l,g,h⟩)
  | some (.lptr s g0 o)=>some (.lptr s g0 (o+off),⟨V,l,g,h⟩)
  | some (.ptr n o)=>some (.ptr n (o+off),⟨V,l,g,h⟩)
  | _=>none:=rfl
@[simp] theorem c9o (s:Nat) (x i:PX):opv cf (.iaddrS s x i) ⟨V,l,g,h⟩=match rd ⟨V,l,g,h⟩ x,rdInt ⟨V,l,g,h⟩ i with
  | some (.list _ es), some n =>
    if 0≤n then
     match es[n.toNat]? with
     | some e=>if e.cells.length=s then some (.cptr e.cells,⟨V,l,g,h⟩) else none
     | none=>none
    else none
  | some (.rowp m sz _ len),some n=>if sz=s∧0≤n∧n<len then some (.ptr m (n.toNat*s),⟨V,l,g,h⟩) else none
  | some (.rows m sz _ off len),some n=>if sz=s∧0≤n∧n<len then some (.ptr m ((off+n.toNat)*s),⟨V,l,g,h⟩) else none
  | _,_=>none:=rfl
@[simp] theorem c6e (x i:PX):opv cf (.indexStr x i) ⟨V,l,g,h⟩=match rd ⟨V,l,g,h⟩ x,rdInt ⟨V,l,g,h⟩ i with
  | some (.str s), some n =>
    if 0≤n then
     match s[n.toNat]? with
     | some b=>some (.int .u8 b.toNat,⟨V,l,g,h⟩)
     | none=>none
    else none
  | _,_=>none:=rfl
@[simp] theorem d44 (op:BinOp) (x y:PX):opv cf (.bin op x y) ⟨V,l,g,h⟩=match rd ⟨V,l,g,h⟩ x,rd ⟨V,l,g,h⟩ y with
  | some a,some b=>sv (Dl op a b) ⟨V,l,g,h⟩
  | _,_=>none:=by simp only[opv,DI]; rfl
@[simp] theorem d5s (neg agg:Bool) (ks:List EK) (x y:PX):opv cf (.eq neg agg ks x y) ⟨V,l,g,h⟩=match rd ⟨V,l,g,h⟩ x,rd ⟨V,l,g,h⟩ y with
  | some a,some b=>(match peq agg ks a b with | some t=>some (.bool (if neg then !t else t),⟨V,l,g,h⟩) | none=>none)
  | _,_=>none:=by
 simp only[opv]
 cases rd ⟨V,l,g,h⟩ x with
 | none=>rfl
 | some a => cases rd ⟨V, l, g, h⟩ y with
   | none=>rfl
   | some b=>simp only; cases peq agg ks a b<;>rfl
@[simp] theorem d5t (op:UnOp) (x:PX):opv cf (.un op x) ⟨V,l,g,h⟩=match rd ⟨V,l,g,h⟩ x with
  | some a=>sv (unv op a) ⟨V,l,g,h⟩
  | none=>none:=by simp only[opv,DI]; rfl
@[simp] theorem d3K (t:Nat) (x:PX):opv cf (.ifc true t x) ⟨V,l,g,h⟩=match rd ⟨V,l,g,h⟩ x with
  | some v=>some (.iface t v,⟨V,l,g,h⟩)
  | none=>none:=by
 simp only[opv]
 cases rd ⟨V,l,g,h⟩ x<;>rfl
@[simp] theorem d3L (t:Nat) (x:PX):opv cf (.ifc false t x) ⟨V,l,g,h⟩=match rd ⟨V,l,g,h⟩ x with
  | some (.iface t' v)=>if t'=t then some (dem v,⟨V,l,g,h⟩) else none
  | _=>none:=by
 simp only[opv]
 cases rd ⟨V,l,g,h⟩ x with
 | none=>rfl
 | some v=>cases v<;>rfl
@[simp] theorem c7Y (k:IntKind) (x:PX):opv cf (.convInt k x) ⟨V,l,g,h⟩=match rdInt ⟨V,l,g,h⟩ x with
  | some n=>some (.int k (k.wrap n),⟨V,l,g,h⟩)
  | none=>none:=by simp only[opv]; cases rdInt ⟨V,l,g,h⟩ x<;>rfl
@[simp] theorem c7Z (i:Nat) (x:PX):opv cf (.extract i x) ⟨V,l,g,h⟩=match rd ⟨V,l,g,h⟩ x with
  | some (.tuple vs)=>(match vs[i]? with | some v=>sv (cp v) ⟨V,l,g,h⟩ | none=>none)
  | _=>none:=by
 simp only[opv]
 cases rd ⟨V,l,g,h⟩ x with
 | none=>rfl
 | some a => cases a <;> try rfl
             rename_i vs; simp only; cases vs[i]?<;>simp[DI]
@[simp] theorem d45 (str:Bool) (x:PX):opv cf (.len str x) ⟨V,l,g,h⟩=match str,rd ⟨V,l,g,h⟩ x with
  | true,some (.str s)=>some (.int .i64 s.length,⟨V,l,g,h⟩)
  | false,some (.list _ es)=>some (.int .i64 es.length,⟨V,l,g,h⟩)
  | false,some (.rowp _ _ _ n)=>some (.int .i64 n,⟨V,l,g,h⟩)
  | false,some (.rows _ _ _ _ n)=>some (.int .i64 n,⟨V,l,g,h⟩)
  | false,some .nils=>some (.int .i64 0,⟨V,l,g,h⟩)
  | false,some .void=>some (.int .i64 0,⟨V,l,g,h⟩)
  | _,_=>none:=rfl
@[simp] theorem d46 (x:PX):opv cf (.cap x) ⟨V,l,g,h⟩=match rd ⟨V,l,g,h⟩ x with
  | some .nils=>some (.int .i64 0,⟨V,l,g,h⟩)
  | _=>none:=rfl
@[simp] theorem c9p (mx:Bool) (xs:List PX):opv cf (.minmax mx xs) ⟨V,l,g,h⟩=match rdAll ⟨V,l,g,h⟩ xs with
  | some (v::vs)=>sv (EG mx v vs) ⟨V,l,g,h⟩
  | _=>none:=by simp only[opv,DI]; rfl
@[simp] theorem c9q (s b:Nat) (y x:PX):opv cf (.append s b y x) ⟨V,l,g,h⟩=match rd ⟨V,l,g,h⟩ x,tk ⟨V,l,g,h⟩ y with
  | some (.list _ xs), some (.list true es, st) =>
    if zj s es∧zj s xs∧((es.length+xs.length≤2147483648∧b≤16384)∨(es.length+xs.length≤9223372036854775807∧(es.length+xs.length)*b≤140737488355328)) then some (.list true (es++xs),st) else none
  | some .nils,some (.list true es,st)=>if zj s es∧((es.length≤2147483648∧b≤16384)∨(es.length≤9223372036854775807∧es.length*b≤140737488355328)) then some (.list true es,st) else none
  | some .void,some (.list true es,st)=>if zj s es∧((es.length≤2147483648∧b≤16384)∨(es.length≤9223372036854775807∧es.length*b≤140737488355328)) then some (.list true es,st) else none
  | _,_=>none:=by
 simp only[opv]
 generalize tk ⟨V,l,g,h⟩ y=q
 rcases q with _|⟨v,st⟩
 ·cases rd ⟨V,l,g,h⟩ x with
  | none=>rfl
  | some p=>cases p<;>rfl
 ·cases rd ⟨V,l,g,h⟩ x with
  | none=>rfl
  | some p =>
    cases v with
    | list ow es =>
      cases ow with
      | false=>cases p<;>rfl
      | true=>cases p<;>first | rfl | (simp only[ar,DK,show zj s []=true from rfl,bq,bx,aW,true_and])
    | _=>cases p<;>rfl
@[simp] theorem d1R (k:Nat) (args:List PX):opv cf (.pcall k args) ⟨V,l,g,h⟩=match rdAll ⟨V,l,g,h⟩ args with
  | some vs=>if yD vs then(match cf k vs [] with | some (r,_)=>if yC r then some (dem r,⟨V,l,g,h⟩) else none | none=>none) else none
  | none=>none:=rfl
@[simp] theorem c9r (k:Nat) (args:List PX):opv cf (.pzcall k args) ⟨V,l,g,h⟩=match rdAll ⟨V,l,g,h⟩ args with
  | some vs=>if yD vs then(match cf k vs [] with | some (r,h')=>(if yC (frz h' r) then some (dem (frz h' r),⟨V,l,g,h⟩) else none) | none=>none) else none
  | none=>none:=rfl
@[simp] theorem c9s (k:Nat) (args:List PX):opv cf (.pcallx k args none) ⟨V,l,g,h⟩=match rdAll ⟨V,l,g,h⟩ args with
  | some vs=>if yD vs then(match cf k (BY none vs) [] with | some (r,_)=>if yC r then some (r,⟨V,l,g,h⟩) else none | none=>none) else none
  | none=>none:=rfl
@[simp] theorem c70 (k:Nat) (args:List PX) (i:Nat):opv cf (.pcallx k args (some i)) ⟨V,l,g,h⟩=match (match args[i]? with | some x=>tk ⟨V,l,g,h⟩ x | none=>none),rdAll ⟨V,l,g,h⟩ args with
  | some (v,st1),some vs=>if yD (vs.set i v)∧i<vs.length then(match cf k (BY (some i) (vs.set i v)) [] with | some (r,_)=>if yC r then some (r,st1) else none | none=>none) else none
  | _,_=>none:=by
 simp only[opv]; cases args[i]?<;>rfl
@[simp] theorem c9t (l:List PV):C4 none l=l.map dem:=rfl
@[simp] theorem c9u (i:Nat) (l:List PV):C4 (some i) l=(l.map dem).set i (l.getD i .dead):=rfl
@[simp] theorem d1S:zy ⟨V,l,g,h⟩=⟨V,[],g,h⟩:=rfl
@[simp] theorem b5Y (ops:List PO):evL L (.region ops) ⟨V,l,g,h⟩=match AG (ym L) ops ⟨V,l,g,h⟩ with | some st=>some (.normal,zy st) | none=>none:=by
 rw[c1d]; cases AG (ym L) ops ⟨V,l,g,h⟩<;>rfl
@[simp] theorem b5Z (ops:List PO) (x:PX) (a b:PC):evL L (.branch ops x a b) ⟨V,l,g,h⟩=match AG (ym L) ops ⟨V,l,g,h⟩ with
  | some st=>(match rd st x with | some (.bool t)=>if t then evL L a (zy st) else evL L b (zy st) | _=>none)
  | none=>none:=by
 rw[c1e]
 cases AG (ym L) ops ⟨V,l,g,h⟩ with
 | none=>rfl
 | some st =>
   simp only[ar]
   cases rd st x with
   | none=>rfl
   | some v => cases v <;> try rfl
               rename_i t; cases t<;>rfl
@[simp] theorem d3M (ob:Aa) (j:Nat) (st:St):zU cf ob j [] st=some (none,st):=rfl
noncomputable def GN (cf:yt) (ob:Aa) (j:Nat) (os:List PO):Option (Option PV×St)→Option (Option PV×St)
 | some (none,st)=>zU cf ob j os st
 | r=>r
@[simp] theorem d1T (ob:Aa) (j:Nat) (os:List PO) (st:St):GN cf ob j os (some (none,st))=zU cf ob j os st:=rfl
@[simp] theorem c9v (ob:Aa) (j:Nat) (os:List PO) (v:PV) (st:St):GN cf ob j os (some (some v,st))=some (some v,st):=rfl
@[simp] theorem c9w (ob:Aa) (j:Nat) (os:List PO):GN cf ob j os none=none:=rfl
theorem Kv (ob:Aa) (j:Nat) (o:PO) (os:List PO) (st:St):zU cf ob j (o::os) st=GN cf ob (j+1) os (Az cf ob j o st):=by
 simp only[zU]
 rcases Az cf ob j o st with _|⟨_|v,st1⟩<;>rfl
def FR (j:Nat) (d:PD):Option (Out×List PObj)→St→Option (Option PV×St)
 | some (.val r,h'),st=>some (none,put { st with heap:=h' } j d (dem r))
 | some (.boom v,h'),st=>some (some v,{ st with heap:=h' })
 | none,_=>none
@[simp] theorem d3N (j:Nat) (d:PD) (r:PV) (h':List PObj):FR j d (some (.val r,h')) ⟨V,l,g,h⟩=some (none,put ⟨V,l,g,h'⟩ j d (dem r)):=rfl
@[simp] theorem d1U (j:Nat) (d:PD) (v:PV) (h':List PObj):FR j d (some (.boom v,h')) ⟨V,l,g,h⟩=some (some v,⟨V,l,g,h'⟩):=rfl
@[simp] theorem d1V (j:Nat) (d:PD) (st:St):FR j d none st=none:=rfl
theorem b87 (ob:Aa) (j k:Nat) (d:PD) (args:List PX):Az cf ob j ⟨d,.h (.bcall k args),none⟩ ⟨V,l,g,h⟩=match rdAll ⟨V,l,g,h⟩ args with
  | some vs=>FR j d (ob k vs h) ⟨V,l,g,h⟩
  | none=>none:=by
 simp only[Az]
 cases rdAll ⟨V,l,g,h⟩ args with
 | none=>rfl
 | some vs=>simp only; rcases ob k vs h with _ | ⟨_ | v,h'⟩<;>rfl
theorem b7B (ob:Aa) (j:Nat) (x:PX) (d:PD) (args:List PX):Az cf ob j ⟨d,.h (.bcallv x args),none⟩ ⟨V,l,g,h⟩=match rd ⟨V,l,g,h⟩ x,rdAll ⟨V,l,g,h⟩ args with
  | some (.func k first captured),some vs=>FR j d (ob k (first++vs++captured) h) ⟨V,l,g,h⟩
  | _,_=>none:=by
 simp only[Az]
 cases rd ⟨V,l,g,h⟩ x with
 | none=>rfl
 | some f => cases rdAll ⟨V, l, g, h⟩ args with
   | none=>cases f<;>rfl
   | some vs => cases f <;> try rfl
                rename_i k first captured
                simp only; rcases ob k (first++vs++captured) h with _|⟨_|v,h'⟩<;>rfl
def OE:Option St→Option (Option PV×St)
 | some st=>some (none,st)
 | none=>none
@[simp] theorem c9x (st:St):OE (some st)=some (none,st):=rfl
@[simp] theorem c9y:OE none=none:=rfl
def yY:POp→Bool
 | .h (.bcall ..) | .h (.bcallv ..)=>true
 | _=>false
theorem TU (ob:Aa) (j:Nat) (d:PD) (op:POp) (gd:Option (PX×Bool)) (st:St) (hb:yY op=false):Az cf ob j ⟨d,op,gd⟩ st=OE (zm cf j ⟨d,op,gd⟩ st):=by
 have key:Az cf ob j ⟨d,op,gd⟩ st=(zm cf j ⟨d,op,gd⟩ st).map λst=>(none,st):=by
  cases op with
  | h o=>cases o<;>first | rfl | simp[yY] at hb
  | _=>rfl
 rw[key]
 cases zm cf j ⟨d,op,gd⟩ st<;>rfl
@[simp] theorem d1W (x:PX):yY (.mov x)=false:=id rfl
@[simp] theorem c9z (x:PX):yY (.take x)=false:=id rfl
@[simp] theorem c9A (c a b:PX):yY (.pick c a b)=false:=id rfl
@[simp] theorem c6f (zero:List PV):yY (.newloc zero)=false:=id rfl
@[simp] theorem c6g (size:Nat) (x:PX):yY (.boxloc size x)=false:=id rfl
@[simp] theorem c73 (zero:List PV) (parts:List (Nat×Nat×PX)):yY (.build zero parts)=false:=id rfl
@[simp] theorem c4X (size:Nat) (zero:PV) (len:Nat) (parts:List (Nat×PX)):yY (.mkslice size zero len parts)=false:=id rfl
@[simp] theorem c9B (size:Nat) (agg:Bool) (a:PX) (take:Bool):yY (.load size agg a take)=false:=id rfl
@[simp] theorem c74 (size:Nat) (agg:Bool) (a x:PX):yY (.store size agg a x)=false:=id rfl
@[simp] theorem c75 (off:Nat) (x:PX):yY (.faddr off x)=false:=id rfl
@[simp] theorem c6h (size:Nat) (x i:PX):yY (.iaddrS size x i)=false:=id rfl
@[simp] theorem c3z (x i:PX):yY (.indexStr x i)=false:=id rfl
@[simp] theorem c76 (str:Bool) (size:Nat) (x:PX) (lo hi:Option PX):yY (.slice str size x lo hi)=false:=id rfl
@[simp] theorem d1X (op:BinOp) (x y:PX):yY (.bin op x y)=false:=id rfl
@[simp] theorem d3O (neg agg:Bool) (ks:List EK) (x y:PX):yY (.eq neg agg ks x y)=false:=id rfl
@[simp] theorem d3P (op:UnOp) (x:PX):yY (.un op x)=false:=id rfl
@[simp] theorem d1Y (b:Bool) (t:Nat) (x:PX):yY (.ifc b t x)=false:=id rfl
@[simp] theorem c4Y (t:List (Nat×Nat×Option (Nat×Bool))) (x:PX) (args:List PX):yY (.h (.icall t x args))=false:=id rfl
@[simp] theorem c4Z (k:IntKind) (x:PX):yY (.convInt k x)=false:=id rfl
@[simp] theorem c40 (i:Nat) (x:PX):yY (.extract i x)=false:=id rfl
@[simp] theorem d1Z (str:Bool) (x:PX):yY (.len str x)=false:=id rfl
@[simp] theorem c6i (max:Bool) (xs:List PX):yY (.minmax max xs)=false:=id rfl
@[simp] theorem c6j (size bytes:Nat) (s x:PX):yY (.append size bytes s x)=false:=id rfl
@[simp] theorem c6k (k:Nat) (args:List PX) (o:Option Nat):yY (.pcallx k args o)=false:=id rfl
@[simp] theorem c77 (k:Nat) (args:List PX):yY (.pcall k args)=false:=id rfl
@[simp] theorem c78 (x:PX) (args:List PX):yY (.callv x args)=false:=id rfl
@[simp] theorem c3A (zero:List PV):yY (.h (.newobj zero))=false:=id rfl
@[simp] theorem c3B (size:Nat) (x:PX):yY (.h (.boxobj size x))=false:=id rfl
@[simp] theorem c6l (size:Nat) (agg:Bool) (a:PX) (take:Bool):yY (.h (.load size agg a take))=false:=id rfl
@[simp] theorem c3C (size:Nat) (agg:Bool) (a x:PX):yY (.h (.storer size agg a x))=false:=id rfl
@[simp] theorem c41 (size:Nat) (agg:Bool) (a x:PX):yY (.h (.store size agg a x))=false:=id rfl
@[simp] theorem c42  : yY (.h (.mkmap ))=false:=id rfl
@[simp] theorem c3D (ok take kagg:Bool) (ks:List EK) (zero:PV) (m x:PX):yY (.h (.lookup ok take kagg ks zero m x))=false:=id rfl
@[simp] theorem c6m (kagg:Bool) (ks:List EK) (m k v:PX):yY (.h (.mset kagg ks m k v))=false:=id rfl
@[simp] theorem c3E (k:Nat) (first captured:List PX):yY (.h (.mkfunc k first captured))=false:=id rfl
@[simp] theorem c43 (kind:Nat) (neg:Bool) (x:PX):yY (.h (.isnil kind neg x))=false:=id rfl
@[simp] theorem c3F (x:PX):yY (.h (.nilchk x))=false:=id rfl
@[simp] theorem c44 (size:Nat) (agg:Bool) (a:PX):yY (.h (.loadc size agg a))=false:=id rfl
@[simp] theorem c46 (k:Nat) (args:List PX):yY (.h (.rcall k args))=false:=id rfl
@[simp] theorem c47 (k:Nat) (args:List PX):yY (.h (.zcall k args))=false:=id rfl
@[simp] theorem c6n (k:Nat) (args:List PX):yY (.h (.call k args))=false:=id rfl
@[simp] theorem c48 (x:PX) (args:List PX):yY (.h (.callv x args))=false:=id rfl
@[simp] theorem c6o (size:Nat) (agg:Bool) (bytes:Nat) (s x:PX):yY (.h (.happ size agg bytes s x))=false:=id rfl
@[simp] theorem c27 (size:Nat) (agg:Bool) (b:Nat) (z:List PV) (x:PX):yY (.h (.mkfresh size agg b z x))=false:=id rfl
@[simp] theorem c3G (js:List Nat) (z:List PV) (ps:List (Nat×Nat×PX)):yY (.h (.buildA js z ps))=false:=id rfl
@[simp] theorem c49 (a:PX):yY (.h (.loadn a))=false:=id rfl
@[simp] theorem c6p (k:Nat) (args:List PX):yY (.pzcall k args)=false:=id rfl
@[simp] theorem c5a (size:Nat) (agg:Bool) (z:PV) (len:Nat) (ps:List (Nat×PX)):yY (.h (.mkrow size agg z len ps))=false:=id rfl
@[simp] theorem c5b (size:Nat) (agg:Bool) (bytes:Nat) (zero:List PV) (x:PX):yY (.h (.mkarr size agg bytes zero x))=false:=id rfl
@[simp] theorem d47 (ob:Aa) (j:Nat) (d:PD) (op:POp) (os:List PO) (hb:yY op=false):zU cf ob j (⟨d,op,none⟩::os) ⟨V,l,g,h⟩=match opv cf op ⟨V,l,g,h⟩ with
  | some (v,st)=>zU cf ob (j+1) os (put st j d v)
  | none=>none:=by
 rw[Kv,TU ob j d op none _ hb]
 simp only[zm]
 cases opv cf op ⟨V,l,g,h⟩<;>rfl
@[simp] theorem d3Q (ob:Aa) (j:Nat) (d:PD) (op:POp) (x:PX) (want:Bool) (os:List PO) (hb:yY op=false):zU cf ob j (⟨d,op,some (x,want)⟩::os) ⟨V,l,g,h⟩=match rd ⟨V,l,g,h⟩ x with
  | some (.bool b)=>if b=want then(match opv cf op ⟨V,l,g,h⟩ with | some (v,st)=>zU cf ob (j+1) os (put st j d v) | none=>none) else zU cf ob (j+1) os (put ⟨V,l,g,h⟩ j d (.tuple []))
  | some (.tuple [])=>zU cf ob (j+1) os (put ⟨V,l,g,h⟩ j d (.tuple []))
  | _=>none:=by
 rw[Kv,TU ob j d op _ _ hb]
 simp only[zm]
 cases rd ⟨V,l,g,h⟩ x with
 | none=>rfl
 | some v =>
   cases v with
   | bool b =>
     simp only
     by_cases hw:b=want
     ·simp only[hw,if_true]; cases opv cf op ⟨V,l,g,h⟩<;>rfl
     ·simp only[hw,if_false]; rfl
   | tuple vs=>cases vs<;>rfl
   | _=>rfl
@[simp] theorem c9C (ob:Aa) (j k:Nat) (d:PD) (args:List PX) (os:List PO):zU cf ob j (⟨d,.h (.bcall k args),none⟩::os) ⟨V,l,g,h⟩=match rdAll ⟨V,l,g,h⟩ args with
  | some vs=>GN cf ob (j+1) os (FR j d (ob k vs h) ⟨V,l,g,h⟩)
  | none=>none:=by
 rw[Kv,b87]
 cases rdAll ⟨V,l,g,h⟩ args<;>rfl
@[simp] theorem c79 (ob:Aa) (j:Nat) (x:PX) (d:PD) (args:List PX) (os:List PO):zU cf ob j (⟨d,.h (.bcallv x args),none⟩::os) ⟨V,l,g,h⟩=match rd ⟨V,l,g,h⟩ x,rdAll ⟨V,l,g,h⟩ args with
  | some (.func k first captured),some vs=>GN cf ob (j+1) os (FR j d (ob k (first++vs++captured) h) ⟨V,l,g,h⟩)
  | _,_=>none:=by
 rw[Kv,b7B]
 cases rd ⟨V,l,g,h⟩ x with
 | none=>rfl
 | some f => cases rdAll ⟨V, l, g, h⟩ args with
   | none=>cases f<;>rfl
   | some vs=>cases f<;>rfl
@[simp] theorem b4u (ops:List PO):evL L (.bregion ops) ⟨V,l,g,h⟩=match zU (ym L) (yI L) 0 ops ⟨V,List.replicate ops.length .dead,g,h⟩ with
  | some (none,st)=>some (.normal,zy st)
  | some (some v,st)=>some (.boom v,zy st)
  | none=>none:=by rw[b83]; rfl
@[simp] theorem b4v (ops:List PO) (x:PX) (a b:PC):evL L (.bbranch ops x a b) ⟨V,l,g,h⟩=match zU (ym L) (yI L) 0 ops ⟨V,List.replicate ops.length .dead,g,h⟩ with
  | some (none,st)=>(match rd st x with | some (.bool t)=>evL L (if t then a else b) (zy st) | _=>none)
  | some (some v,st)=>some (.boom v,zy st)
  | none=>none:=by rw[b84]; rfl
@[simp] theorem c5c (st:St):Ce st []=some []:=rfl
@[simp] theorem c3H (r:PRes) (rs:List PRes):Ce ⟨V,l,g,h⟩ (r::rs)=match BZ ⟨V,l,g,h⟩ r with
  | some v=>(match Ce ⟨V,l,g,h⟩ rs with | some vs=>some (v::vs) | none=>none)
  | none=>none:=by
 simp only[Ce]; cases BZ ⟨V,l,g,h⟩ r<;>simp; cases Ce ⟨V,l,g,h⟩ rs<;>rfl
def Ig:List PV→PV
 | [v]=>v
 | vs => .tuple (vs.map dem)
@[simp] theorem d3R (v:PV):Ig [v]=v:=rfl
@[simp] theorem d3S (v u:PV) (r:List PV):Ig (v::u::r) = .tuple ((v::u::r).map dem):=rfl
@[simp] theorem d3T:Ig [] = .tuple []:=rfl
@[simp] theorem c9D (rs:List PRes):zS ⟨V,l,g,h⟩ rs=match Ce ⟨V,l,g,h⟩ rs with | some vs=>some (Ig vs) | none=>none:=by
 simp only[zS]; cases Ce ⟨V,l,g,h⟩ rs<;>rfl
def Ec (rs:List PRes):Option (PExit×St)→Option (PV×List PObj)
 | some (.normal,st)=>(match zS st rs with | some v=>some (v,zh st.vars rs st.heap) | none=>none)
 | some (.ret,st)=>(match zS st rs with | some v=>some (v,zh st.vars rs st.heap) | none=>none)
 | _=>none
attribute [simp] Ec
theorem b50 {f:PFunc} {args:List PV} {hp:List PObj} {r:PV×List PObj} (hr:f.code.isRound=false) (he:Ec f.results (evL L f.code ⟨args.map dem++List.replicate (f.nv - f.params) .dead,[],0,hp⟩)=some r):Bp (evL L) (Ay L) f args hp=some (.val r.1,r.2):=by
 have key:∀st,(match zS st f.results with | some v=>some (v,zh st.vars f.results st.heap) | none=>none)=some r→(zS st f.results).map (λr=>(Out.val r,zh st.vars f.results st.heap))=some (Out.val r.1,r.2):=by
  intro st h
  cases hv:zS st f.results with
  | none=>rw[hv] at h; simp at h
  | some v=>rw[hv] at h; simp only[aa] at h; subst h; rfl
 unfold Bp
 split
 ·rename_i h1; rw[h1] at hr; simp[PC.isRound] at hr
 ·generalize evL L f.code ⟨args.map dem++List.replicate (f.nv - f.params) .dead,[],0,hp⟩=q at he ⊢
  rcases q with _|⟨e,st⟩
  ·simp at he
  ·cases e<;>simp only[Ec] at he ⊢
   ·exact key st he
   ·simp at he
   ·exact key st he
   ·simp at he
   ·simp at he
theorem Kw {f:PFunc} {args:List PV} {hp:List PObj} {r:PV×List PObj} (hr:f.code.isRound=false) (he:Ec f.results (evL L f.code ⟨args.map dem++List.replicate (f.nv - f.params) .dead,[],0,hp⟩)=some r):BA (evL L) (Ay L) f args hp=some r:=by
 unfold BA
 rw[ae (by rw[hr]; simp),IH]
 exact b50 hr he
theorem TV {k:Nat} {f:PFunc} {args:List PV} {hp:List PObj} {r} (hf:L k=some f) (hl:args.length=f.params) (he:Ec f.results (evL L f.code ⟨args.map dem++List.replicate (f.nv - f.params) .dead,[],0,hp⟩)=some r) (hs:f.split=false:=by rfl) (gm:f.prim=none:=by rfl) (hr:f.code.isRound=false:=by rfl):
  ym L k args hp=some r:=by
 rw[IM,zT,hf]
 simp only[af hl,hs,gm,bP,aJ,if_false]
 exact Kw hr he
theorem HH {k:Nat} {f:PFunc} {p:List PV→List PObj→Option (PV×List PObj)} {args:List PV} {hp:List PObj} (hf:L k=some f) (hl:args.length=f.params) (gm:f.prim=some p):ym L k args hp=match p (args.map dem) hp with | some r=>some (dem r.1,r.2) | none=>none:=by
 rw[IM,zT,hf]
 simp only[af hl,gm]
 cases p (args.map dem) hp<;>rfl
theorem b88 {k:Nat} {f:PFunc} {args:List PV} {hp:List PObj} {r} (hf:L k=some f) (hl:args.length=f.params) (hs:f.split=true) (h0:vague (args.headD .dead)=false→Ec f.results (evL L f.code ⟨args.map dem++List.replicate (f.nv - f.params) .dead,[],0,hp⟩)=some r)
  (h1:vague (args.headD .dead)=true→Ec f.results (evL L f.code ⟨(.nils::args.tail).map dem++List.replicate (f.nv - f.params) .dead,[],0,hp⟩)=some r∧Ec f.results (evL L f.code ⟨(.void::args.tail).map dem++List.replicate (f.nv - f.params) .dead,[],0,hp⟩)=some r) (gm:f.prim=none:=by rfl) (hr:f.code.isRound=false:=by rfl):
  ym L k args hp=some r:=by
 rw[IM,zT,hf]
 simp only[af hl,gm]
 cases hv:vague (args.headD .dead) with
 | false=>simp only[Bool.and_false,aJ,if_false]; exact Kw hr (h0 hv)
 | true =>
   obtain⟨a,b⟩:=h1 hv
   simp only[hs,Bool.and_self,if_true]
   rw[DD]
   exact⟨Kw hr a,Kw hr b⟩
end
section
variable {cf:yt} {V l:List PV} {g:Nat} {h:List PObj} {L:Nat→Option PFunc}
@[simp] theorem TW (n:Nat):yN ⟨V,l,g,h⟩ n=match h[n]? with | some (.cells cs)=>some cs | _=>none:=rfl
@[simp] theorem d11:zo ⟨V,l,g,h⟩ none=some []:=rfl
@[simp] theorem c29 (n:Nat):zo ⟨V,l,g,h⟩ (some n)=match h[n]? with | some (.map es)=>some es | _=>none:=rfl
@[simp] theorem d48 (n:Nat) (o:PObj):yH ⟨V,l,g,h⟩ n o=⟨V,l,g,h.set n o⟩:=rfl
@[simp] theorem d5u (i:Nat):Bz ⟨V,l,g,h⟩ (.v i)=match V[i]? with
  | some (.loc _ cs)=>some (.cptr (cs.map dem),⟨V.set i (.cptr (cs.map dem)),l,g,h⟩)
  | some v=>sv (cp v) ⟨V,l,g,h⟩
  | none=>none:=by
 simp only[Bz,raw,rd]
 cases V[i]? with
 | none=>rfl
 | some v=>cases v<;>rfl
@[simp] theorem d5v (p:PV):Bz ⟨V,l,g,h⟩ (.c p)=sv (cp p) ⟨V,l,g,h⟩:=by simp only[Bz,rd,raw,ar,DI]
@[simp] theorem d5w (i:Nat):Bz ⟨V,l,g,h⟩ (.l i)=sv (rd ⟨V,l,g,h⟩ (.l i)) ⟨V,l,g,h⟩:=by simp only[Bz,DI]
@[simp] theorem d12 (st:St):z8 st []=some ([],st):=rfl
@[simp] theorem c9E (x:PX) (xs:List PX):z8 ⟨V,l,g,h⟩ (x::xs)=match Bz ⟨V,l,g,h⟩ x with
  | some (v,st)=>(match z8 st xs with | some (vs,st)=>some (v::vs,st) | none=>none)
  | none=>none:=by
 simp only[z8]
 cases Bz ⟨V,l,g,h⟩ x with
 | none=>rfl
 | some r=>simp only[ar]; cases z8 r.2 xs<;>rfl
@[simp] theorem c9F (z:List PV):opv cf (.h (.newobj z)) ⟨V,l,g,h⟩=some (.ptr h.length 0,⟨V,l,g,h++[.cells z]⟩):=rfl
@[simp] theorem c9G (s:Nat) (x:PX):opv cf (.h (.boxobj s x)) ⟨V,l,g,h⟩=match rd ⟨V,l,g,h⟩ x with
  | some v=>if v.cells.length=s then some (.ptr h.length 0,⟨V,l,g,h++[.cells v.cells]⟩) else none
  | none=>none:=rfl
def FS (h:List PObj):PV→Option (List PV)
 | .rowp n sz agg len=>if agg=true∨sz=1 then(match h[n]? with | some (.cells cs)=>Ao sz agg cs len 0 | _=>none) else none
 | p=>DK p
@[simp] theorem c9H (o:Bool) (es:List PV):FS h (.list o es)=some es:=rfl
@[simp] theorem c9I:FS h .nils=some []:=rfl
@[simp] theorem c9J:FS h .void=some []:=rfl
theorem c5d (x:PX):b2G ⟨V,l,g,h⟩ x=match rd ⟨V,l,g,h⟩ x with | some v=>FS h v | none=>none:=by
 unfold b2G
 cases rd ⟨V,l,g,h⟩ x with
 | none=>rfl
 | some v => cases v <;> try rfl
             rename_i n sz agg len
             simp only[FS]
             split
             ·simp only[yN]
              cases h[n]? with
              | none=>rfl
              | some o=>cases o<;>rfl
             ·rfl
def AI (h:List PObj) (size:Nat) (agg:Bool) (bytes:Nat) (xs:List PV) (v:PV) (st:St):Option (PV×St):=
 match v with
 | .rowp n sz ag len =>
   match h[n]? with
   | some (.cells cs) =>
     if sz=size∧ag=agg∧len*size≤cs.length∧zj size xs∧len+xs.length≤2147483648∧bytes≤16384 then
      some (.rowp h.length size agg (len+xs.length),{ st with heap:=h.set n .gone++[.cells (cs.take (len*size)++(xs.flatMap PV.cells).map dem)] })
     else none
   | _=>none
 | .list true [] =>
   if xs=[] then some (.list true [],st)
   else if zj size xs∧xs.length≤2147483648∧bytes≤16384 then
    some (.rowp h.length size agg xs.length,{ st with heap:=h++[.cells ((xs.flatMap PV.cells).map dem)] })
   else none
 | .nils =>
   if xs=[] then some (.nils,st)
   else if zj size xs∧xs.length≤2147483648∧bytes≤16384 then
    some (.rowp h.length size agg xs.length,{ st with heap:=h++[.cells ((xs.flatMap PV.cells).map dem)] })
   else none
 | _=>none
@[simp] theorem c9K (v:PV):(some v).bind DK=DK v:=rfl
@[simp] theorem c9L (o:Bool) (es:List PV):DK (.list o es)=some es:=rfl
@[simp] theorem d3U (s:Nat) (agg:Bool) (b:Nat) (a x:PX):opv cf (.h (.happ s agg b a x)) ⟨V,l,g,h⟩=match (match rd ⟨V,l,g,h⟩ x with | some v=>FS h v | none=>none),raw ⟨V,l,g,h⟩ a with
  | some xs,some v=>AI h s agg b xs v ⟨V,l,g,h⟩
  | _,_=>none:=by
 simp only[opv,yo,c5d]
 cases (match rd ⟨V,l,g,h⟩ x with | some v=>FS h v | none=>none) with
 | none=>rfl
 | some xs => cases raw ⟨V, l, g, h⟩ a with
   | none=>rfl
   | some v => cases v <;> try rfl
               rename_i o es
               cases o<;>try rfl
               cases es<;>rfl
@[simp] theorem d13 (s:Nat) (agg:Bool) (b:Nat) (z:List PV) (a x:PX):opv cf (.h (.happz s agg b z a x)) ⟨V,l,g,h⟩=match rdInt ⟨V,l,g,h⟩ x,rd ⟨V,l,g,h⟩ a with
  | some n,some .nils=>if 0<n∧n≤2147483648∧b≤16384 then some (.rowp h.length s agg n.toNat,⟨V,l,g,h++[.cells (List.replicate n.toNat (z.map dem)).flatten]⟩) else none
  | _,_=>none:=rfl
@[simp] theorem c8a (n sz:Nat) (a:Bool) (off len:Nat):G6 (.rows n sz a off len)=some (n,sz,off):=rfl
@[simp] theorem c8b (n sz:Nat) (a:Bool) (len:Nat):G6 (.rowp n sz a len)=some (n,sz,0):=rfl
@[simp] theorem d14 (s:Nat) (x:PX):opv cf (.h (.clear s x)) ⟨V,l,g,h⟩=match (match rd ⟨V,l,g,h⟩ x with | some v=>G6 v | none=>none) with
  | some (n, sz, off) =>
    match h[n]? with
    | some (.cells cs)=>if sz=s∧off*s≤cs.length then some (.dead,⟨V,l,g,h.set n (.cells (cs.take (off*s)))⟩) else none
    | _=>none
  | _=>none:=by
 simp only[opv,yo]
 cases rd ⟨V,l,g,h⟩ x with
 | none=>rfl
 | some v=>rfl
@[simp] theorem c8c (s:Nat) (agg:Bool) (b:Nat) (z:List PV) (x:PX):opv cf (.h (.mkfresh s agg b z x)) ⟨V,l,g,h⟩=match rdInt ⟨V,l,g,h⟩ x with
  | some n=>if 0≤n∧b*n≤281474976710656∧n≤9223372036854775807 then some (.fresh s agg n.toNat (List.replicate n.toNat (z.map dem)).flatten,⟨V,l,g,h⟩) else none
  | none=>none:=rfl
@[simp] theorem c9M (js:List Nat) (z:List PV) (ps:List (Nat×Nat×PX)):opv cf (.h (.buildA js z ps)) ⟨V,l,g,h⟩=(adoptAll js ⟨V,l,g,h⟩).bind λst=>((rdParts st ps).bind (Cb z)).map λcs=>(.agg cs,st):=rfl
@[simp] theorem d15 (a:PX):opv cf (.h (.loadn a)) ⟨V,l,g,h⟩=match addr ⟨V,l,g,h⟩ a with
  | some (.ptr n off) => (yN ⟨V, l, g, h⟩ n).bind fun cs => match cs[off]? with
    | some (.list true es)=>some (.list true es,yH ⟨V,l,g,h⟩ n (.cells (cs.set off (.list false es))))
    | some .nils=>some (.list true [],⟨V,l,g,h⟩)
    | _=>none
  | _=>none:=rfl
@[simp] theorem d16 (s:Nat) (agg:Bool) (z:PV) (len:Nat) (ps:List (Nat×PX)):opv cf (.h (.mkrow s agg z len ps)) ⟨V,l,g,h⟩=((rdElems ⟨V,l,g,h⟩ ps).bind (Cc s (List.replicate len z))).map λes=>(.rowp h.length s agg es.length,⟨V,l,g,h++[.cells ((es.flatMap PV.cells).map dem)]⟩):=rfl
@[simp] theorem d17 (s:Nat) (agg:Bool) (b:Nat) (z:List PV) (x:PX):opv cf (.h (.mkarr s agg b z x)) ⟨V,l,g,h⟩=match rdInt ⟨V,l,g,h⟩ x with
  | some n=>if 0≤n∧b*n≤281474976710656∧n≤9223372036854775807 then some (.rowp h.length s agg n.toNat,⟨V,l,g,h++[.cells (List.replicate n.toNat z).flatten]⟩) else none
  | none=>none:=rfl
@[simp] theorem d18:opv cf (.h .mkmap) ⟨V,l,g,h⟩=some (.map (some h.length),⟨V,l,g,h++[.map []]⟩):=rfl
@[simp] theorem d19 (s:Nat) (agg:Bool) (a:PX) (t:Bool):opv cf (.h (.load s agg a t)) ⟨V,l,g,h⟩=match addr ⟨V,l,g,h⟩ a with
  | some (.cptr cs)=>sv (yu s agg cs 0) ⟨V,l,g,h⟩
  | some (.ptr n off) =>
    match h[n]? with
    | some (.cells cs) =>
      match t && !agg,cs[off]? with
      | true,some (.list true es)=>some (.list true es,⟨V,l,g,h.set n (.cells (cs.set off (.list false es)))⟩)
      | _,_=>sv (yu s agg cs off) ⟨V,l,g,h⟩
    | _=>none
  | _=>none:=by
 simp only[opv,yo,DI]
 cases addr ⟨V,l,g,h⟩ a with
 | none=>rfl
 | some p =>
   cases p<;>try rfl
   simp only[TW]
   rename_i n off
   cases h[n]? with
   | none=>rfl
   | some o=>cases o<;>rfl
@[simp] theorem c8d (s:Nat) (agg:Bool) (a x:PX):opv cf (.h (.storer s agg a x)) ⟨V,l,g,h⟩=match addr ⟨V,l,g,h⟩ a,rd ⟨V,l,g,h⟩ x with
  | some (.ptr n off), some v => if Ax v then none else (match h[n]? with
    | some (.cells cs)=>(match yM s agg cs off v with | some cs=>some (.dead,⟨V,l,g,h.set n (.cells cs)⟩) | none=>none)
    | _=>none)
  | _,_=>none:=by
 simp only[opv,yo]
 cases addr ⟨V,l,g,h⟩ a with
 | none=>rfl
 | some p =>
   cases p<;>try rfl
   rename_i n off
   cases rd ⟨V,l,g,h⟩ x with
   | none=>rfl
   | some v =>
     simp only
     split
     ·rfl
     ·simp only[yN]
      cases h[n]? with
      | none=>rfl
      | some ob =>
        cases ob<;>try rfl
        rename_i cs
        simp only[ar]
        cases yM s agg cs off v<;>rfl
@[simp] theorem c9N (s:Nat) (agg:Bool) (a x:PX):opv cf (.h (.store s agg a x)) ⟨V,l,g,h⟩=match addr ⟨V,l,g,h⟩ a,tk ⟨V,l,g,h⟩ x with
  | some (.ptr n off), some (v, ⟨V, l, g, h⟩) =>
    match h[n]? with
    | some (.cells cs)=>(match yM s agg cs off v with | some cs=>some (.dead,⟨V,l,g,h.set n (.cells cs)⟩) | none=>none)
    | _=>none
  | _,_=>none:=by
 simp only[opv,yo]
 cases addr ⟨V,l,g,h⟩ a with
 | none=>rfl
 | some p =>
   cases p<;>try rfl
   cases tk ⟨V,l,g,h⟩ x with
   | none=>rfl
   | some r =>
     obtain⟨v,⟨V2,l2,g2,h2⟩⟩:=r
     simp only[TW]
     rename_i n off
     cases h2[n]? with
     | none=>rfl
     | some o =>
       cases o<;>try rfl
       rename_i cs
       simp only[ar]
       cases yM s agg cs off v<;>rfl
def EZ (ok take:Bool) (zero:PV) (n:Option Nat) (es:List (PV×PV)) (st:St):Option (Nat×PV)→Option (PV×St)
 | some (i, v) =>
   if take && !ok&&IS v then some (v,yH st (n.getD 0) (.map (es.modify i λe=>(e.1,dem e.2))))
   else some (if ok then .tuple [dem v,.bool true] else dem v,st)
 | none=>some (if ok then .tuple [zero,.bool false] else zero,st)
@[simp] theorem c8e (ok take:Bool) (zero:PV) (n:Option Nat) (es:List (PV×PV)) (st:St):EZ ok take zero n es st none=some (if ok then .tuple [zero,.bool false] else zero,st):=rfl
@[simp] theorem c8f (ok:Bool) (zero:PV) (n:Option Nat) (es:List (PV×PV)) (st:St) (i:Nat) (v:PV):EZ ok false zero n es st (some (i,v))=some (if ok then .tuple [dem v,.bool true] else dem v,st):=by
 simp[EZ]
@[simp] theorem c8g (zero:PV) (n:Nat) (es:List (PV×PV)) (i:Nat) (v:PV):EZ false true zero (some n) es ⟨V,l,g,h⟩ (some (i,v))=if IS v then some (v,⟨V,l,g,h.set n (.map (es.modify i λe=>(e.1,dem e.2)))⟩) else some (dem v,⟨V,l,g,h⟩):=by
 simp[EZ]
@[simp] theorem c9O (ok take kagg:Bool) (ks:List EK) (zero:PV) (m x:PX):opv cf (.h (.lookup ok take kagg ks zero m x)) ⟨V,l,g,h⟩=match rd ⟨V,l,g,h⟩ m,rd ⟨V,l,g,h⟩ x with
  | some (.map n), some k =>
    match zo ⟨V,l,g,h⟩ n with
    | some es=>(match zG kagg ks k es 0 with | some r=>EZ ok take zero n es ⟨V,l,g,h⟩ r | none=>none)
    | none=>none
  | _,_=>none:=by
 simp only[opv,yo]
 cases rd ⟨V,l,g,h⟩ m with
 | none=>rfl
 | some p =>
   cases p<;>try rfl
   rename_i n
   cases rd ⟨V,l,g,h⟩ x with
   | none=>rfl
   | some k =>
     simp only
     cases zo ⟨V,l,g,h⟩ n with
     | none=>rfl
     | some es =>
       simp only[ar]
       cases zG kagg ks k es 0 with
       | none=>rfl
       | some r=>cases r<;>rfl
def Et (es:List (PV×PV)) (k v:PV):Option (Nat×PV)→List (PV×PV)
 | some (i,_)=>es.set i (k,v)
 | none=>es++[(k,v)]
@[simp] theorem c6q (es:List (PV×PV)) (k v:PV):Et es k v none=es++[(k,v)]:=rfl
@[simp] theorem b7D (es:List (PV×PV)) (k v:PV) (i:Nat) (u:PV):Et es k v (some (i,u))=es.set i (k,v):=rfl
@[simp] theorem d3V (kagg:Bool) (ks:List EK) (m k v:PX):opv cf (.h (.mset kagg ks m k v)) ⟨V,l,g,h⟩=match rd ⟨V,l,g,h⟩ m,rd ⟨V,l,g,h⟩ k,tk ⟨V,l,g,h⟩ v with
  | some (.map (some n)), some k, some (v, ⟨V, l, g, h⟩) =>
    match h[n]? with
    | some (.map es)=>(match zG kagg ks k es 0 with | some r=>some (.dead,⟨V,l,g,h.set n (.map (Et es k v r))⟩) | none=>none)
    | _=>none
  | _,_,_=>none:=by
 simp only[opv,yo]
 cases rd ⟨V,l,g,h⟩ m with
 | none=>rfl
 | some p =>
   cases p<;>try rfl
   rename_i n
   cases n with
   | none=>rfl
   | some n=>
   cases rd ⟨V,l,g,h⟩ k with
   | none=>rfl
   | some k =>
     cases tk ⟨V,l,g,h⟩ v with
     | none=>rfl
     | some r =>
       obtain⟨v,⟨V2,l2,g2,h2⟩⟩:=r
       simp only[c29]
       cases h2[n]? with
       | none=>rfl
       | some o =>
         cases o<;>try rfl
         rename_i es
         simp only[ar]
         cases zG kagg ks k es 0 with
         | none=>rfl
         | some r=>cases r<;>rfl
@[simp] theorem c9P (k:Nat) (a b:List PX):opv cf (.h (.mkfunc k a b)) ⟨V,l,g,h⟩=match z8 ⟨V,l,g,h⟩ a with
  | some (f,st)=>(match z8 st b with | some (c,st)=>some (.func k f c,st) | none=>none)
  | none=>none:=by
 simp only[opv,yo]
 cases z8 ⟨V,l,g,h⟩ a with
 | none=>rfl
 | some r=>simp only[ar]; cases z8 r.2 b<;>rfl
@[simp] theorem d2a (kd:Nat) (neg:Bool) (x:PX):opv cf (.h (.isnil kd neg x)) ⟨V,l,g,h⟩=match rd ⟨V,l,g,h⟩ x with
  | some p=>(match EI kd p with | some b=>some (.bool (if neg then !b else b),⟨V,l,g,h⟩) | none=>none)
  | none=>none:=by
 simp only[opv,yo]
 cases rd ⟨V,l,g,h⟩ x with
 | none=>rfl
 | some p=>simp only[ar]; cases EI kd p<;>rfl
@[simp] theorem c9Q (x:PX):opv cf (.h (.nilchk x)) ⟨V,l,g,h⟩=match addr ⟨V,l,g,h⟩ x with
  | some (.ptr n o)=>some (.ptr n o,⟨V,l,g,h⟩)
  | some (.cptr cs)=>some (.cptr cs,⟨V,l,g,h⟩)
  | some (.lptr s g0 o)=>some (.lptr s g0 o,⟨V,l,g,h⟩)
  | _=>none:=rfl
@[simp] theorem d2b (s:Nat) (agg:Bool) (a:PX):opv cf (.h (.loadc s agg a)) ⟨V,l,g,h⟩=match rd ⟨V,l,g,h⟩ a with
  | some (.cptr cs)=>sv (yu s agg cs 0) ⟨V,l,g,h⟩
  | _=>none:=by
 simp only[opv,yo,DI]; rfl
@[simp] theorem d2c (k:Nat) (args:List PX):opv cf (.h (.call k args)) ⟨V,l,g,h⟩=match rdAll ⟨V,l,g,h⟩ args with
  | some vs=>(match cf k vs h with | some (r,h)=>some (dem r,⟨V,l,g,h⟩) | none=>none)
  | none=>none:=by
 simp only[opv,yo]
 cases rdAll ⟨V,l,g,h⟩ args with
 | none=>rfl
 | some vs=>simp only[ar]; cases cf k vs h<;>rfl
@[simp] theorem c9R (tab:List (Nat×Nat×Option (Nat×Bool))) (x:PX) (args:List PX):opv cf (.h (.icall tab x args)) ⟨V,l,g,h⟩=match BV ⟨V,l,g,h⟩ tab (rd ⟨V,l,g,h⟩ x) with
  | some m => match rdAll ⟨V, l, g, h⟩ args with
    | some vs => match cf m.1 (m.2 :: vs) h with
      | some (r,h)=>some (dem r,⟨V,l,g,h⟩)
      | none=>none
    | none=>none
  | none=>none:=by
 simp only[opv,yo]
 cases BV ⟨V,l,g,h⟩ tab (rd ⟨V,l,g,h⟩ x) with
 | none=>rfl
 | some m =>
   simp only[ar]
   cases rdAll ⟨V,l,g,h⟩ args with
   | none=>rfl
   | some vs =>
     simp only[ar]
     cases cf m.1 (m.2::vs) h<;>rfl
@[simp] theorem c9S (k:Nat) (args:List PX):opv cf (.h (.zcall k args)) ⟨V,l,g,h⟩=match rdAll ⟨V,l,g,h⟩ args with
  | some vs => if yD (BK h vs) then (match cf k (BK h vs) [] with
    | some (r,h')=>if yC (frz h' r) then some (dem (frz h' r),⟨V,l,g,BU (DL vs) h⟩) else none
    | none=>none) else none
  | none=>none:=by
 simp only[opv,yo]
 cases rdAll ⟨V,l,g,h⟩ args with
 | none=>rfl
 | some vs =>
   simp only[ar]
   cases cf k (BK h vs) []<;>rfl
@[simp] theorem c9T (k:Nat) (args:List PX):opv cf (.h (.rcall k args)) ⟨V,l,g,h⟩=match rdAll ⟨V,l,g,h⟩ args with
  | some vs=>(match cf k vs h with | some (r,h')=>same ⟨V,l,g,h⟩ (r,h') | none=>none)
  | none=>none:=by
 simp only[opv,yo]
 cases rdAll ⟨V,l,g,h⟩ args with
 | none=>rfl
 | some vs=>simp only[ar]; cases cf k vs h<;>rfl
@[simp] theorem d49 (r:PV):same ⟨V,l,g,h⟩ (r,h)=some (dem r,⟨V,l,g,h⟩):=by simp[same]
@[simp] theorem c9U (x:PX) (args:List PX):opv cf (.h (.callv x args)) ⟨V,l,g,h⟩=match rd ⟨V,l,g,h⟩ x,rdAll ⟨V,l,g,h⟩ args with
  | some (.func k f c),some vs=>(match cf k (f++vs++c) h with | some (r,h)=>some (dem r,⟨V,l,g,h⟩) | none=>none)
  | _,_=>none:=by
 simp only[opv,yo]
 cases rd ⟨V,l,g,h⟩ x with
 | none=>rfl
 | some p =>
   cases p<;>try rfl
   rename_i k f c
   cases rdAll ⟨V,l,g,h⟩ args with
   | none=>rfl
   | some vs=>simp only; cases cf k (f++vs++c) h<;>rfl
@[simp] theorem d2d (x:PX) (args:List PX):opv cf (.callv x args) ⟨V,l,g,h⟩=match rd ⟨V,l,g,h⟩ x,rdAll ⟨V,l,g,h⟩ args with
  | some (.func k f c),some vs=>if yD (f++vs++c) then(match cf k (f++vs++c) [] with | some (r,_)=>if yC r then some (dem r,⟨V,l,g,h⟩) else none | none=>none) else none
  | _,_=>none:=by
 simp only[opv]
 cases rd ⟨V,l,g,h⟩ x with
 | none=>rfl
 | some p =>
   cases p<;>try rfl
attribute [simp] EI vague
@[simp] theorem d2e (str:Bool) (s:Nat) (x:PX) (lo hi:Option PX):opv cf (.slice str s x lo hi) ⟨V,l,g,h⟩=match str,rd ⟨V,l,g,h⟩ x with
  | true,some (.str t)=>(match bound ⟨V,l,g,h⟩ hi t.length t.length with | some b=>(match bound ⟨V,l,g,h⟩ lo 0 b with | some a=>some (.str ((t.take b).drop a),⟨V,l,g,h⟩) | none=>none) | none=>none)
  | false,some (.list _ es)=>if zj s es then(match bound ⟨V,l,g,h⟩ hi es.length es.length with | some b=>(match bound ⟨V,l,g,h⟩ lo 0 b with | some a=>some (.list false ((es.take b).drop a),⟨V,l,g,h⟩) | none=>none) | none=>none) else none
  | false,some .nils=>(match bound ⟨V,l,g,h⟩ hi 0 0 with | some b=>(match bound ⟨V,l,g,h⟩ lo 0 b with | some a=>some (.nils,⟨V,l,g,h⟩) | none=>none) | none=>none)
  | false,some (.rowp n sz agg len)=>if sz=s then(match bound ⟨V,l,g,h⟩ hi len len with | some b=>(match bound ⟨V,l,g,h⟩ lo 0 b with | some a=>some (if a=0 then .rowp n sz agg b else .rows n sz agg a (b - a),⟨V,l,g,h⟩) | none=>none) | none=>none) else none
  | _,_=>none:=by
 simp only[opv]
 cases str
 ·cases rd ⟨V,l,g,h⟩ x with
  | none=>rfl
  | some p =>
    cases p<;>try rfl
    all_goals simp only
    all_goals first
     | (split
        ·cases bound ⟨V,l,g,h⟩ hi _ _ with
         | none=>rfl
         | some b=>simp only[ar]; cases bound ⟨V,l,g,h⟩ lo 0 b<;>rfl
        ·rfl)
     | (cases bound ⟨V, l, g, h⟩ hi _ _ with
        | none=>rfl
        | some b=>simp only[ar]; cases bound ⟨V,l,g,h⟩ lo 0 b<;>rfl)
 ·cases rd ⟨V,l,g,h⟩ x with
  | none=>rfl
  | some p =>
    cases p<;>try rfl
    simp only
    cases bound ⟨V,l,g,h⟩ hi _ _ with
    | none=>rfl
    | some b=>simp only[ar]; cases bound ⟨V,l,g,h⟩ lo 0 b<;>rfl
end
end PI
namespace PI
open Go (IntKind BinOp UnOp)
def wpL (L:Nat→Option PFunc) (c:PC) (st:St) (Q:PExit→St→Prop):Prop:=
 match evL L c st with
 | some (e,st')=>Q e st'
 | none=>False
section
variable {L:Nat→Option PFunc} {V l:List PV} {g:Nat} {h:List PObj} {Q:PExit→St→Prop}
theorem D5 {c:PC} {st:St}:wpL L c st Q↔∃e st',evL L c st=some (e,st')∧Q e st':=by
 unfold wpL
 cases evL L c st with
 | none=>simp
 | some r =>
   obtain⟨e,st'⟩:=r
   constructor
   ·intro h; exact⟨e,st',rfl,h⟩
   ·rintro⟨e',st2,h1,h2⟩; cases h1; exact h2
@[simp] theorem d3W:wpL L .skip ⟨V,l,g,h⟩ Q=Q .normal ⟨V,l,g,h⟩:=by simp only[wpL,c4K]
@[simp] theorem d3X (id:Nat):wpL L (.exit id) ⟨V,l,g,h⟩ Q=Q (.exit id) ⟨V,l,g,h⟩:=by simp only[wpL,c4L]
@[simp] theorem d5b:wpL L .ret ⟨V,l,g,h⟩ Q=Q .ret ⟨V,l,g,h⟩:=by simp only[wpL,c7I]
def O5 (r:Option St) (K:St→Prop):Prop:=
 match r with
 | some st=>K (zy st)
 | none=>False
@[simp] theorem c9V (V l:List PV) (g:Nat) (h:List PObj) (K:St→Prop):O5 (some ⟨V,l,g,h⟩) K=K ⟨V,[],g,h⟩:=rfl
@[simp] theorem c9W (K:St→Prop):O5 none K=False:=rfl
@[simp] theorem c9X (ops:List PO):wpL L (.region ops) ⟨V,l,g,h⟩ Q=O5 (AG (ym L) ops ⟨V,l,g,h⟩) (Q .normal):=by
 simp only[wpL,b5Y]
 cases AG (ym L) ops ⟨V,l,g,h⟩<;>rfl
def KO (L:Nat→Option PFunc) (r:Option St) (x:PX) (a b:PC) (Q:PExit→St→Prop):Prop:=
 match r with
 | some st => (match rd st x with
   | some (.bool t)=>if t=true then wpL L a (zy st) Q else wpL L b (zy st) Q
   | _=>False)
 | none=>False
@[simp] theorem c9Y (x:PX) (a b:PC):KO L (some ⟨V,l,g,h⟩) x a b Q=match rd ⟨V,l,g,h⟩ x with
  | some (.bool t)=>if t=true then wpL L a ⟨V,[],g,h⟩ Q else wpL L b ⟨V,[],g,h⟩ Q
  | _=>False:=rfl
@[simp] theorem c9Z (x:PX) (a b:PC):KO L none x a b Q=False:=rfl
@[simp] theorem c90 (ops:List PO) (x:PX) (a b:PC):wpL L (.branch ops x a b) ⟨V,l,g,h⟩ Q=KO L (AG (ym L) ops ⟨V,l,g,h⟩) x a b Q:=by
 simp only[wpL,b5Z,KO]
 cases AG (ym L) ops ⟨V,l,g,h⟩ with
 | none=>rfl
 | some st =>
   simp only
   cases rd st x with
   | none=>rfl
   | some v =>
     cases v<;>try rfl
     rename_i t; cases t<;>rfl
def Ev (L:Nat→Option PFunc) (b:PC) (Q:PExit→St→Prop):PExit→St→Prop
 | .normal,st=>wpL L b st Q
 | .after _ _ _,_=>False
 | e,st=>Q e st
@[simp] theorem c8n (b:PC) (st:St):Ev L b Q .normal st=wpL L b st Q:=rfl
@[simp] theorem d2i (b:PC) (i:Nat) (st:St):Ev L b Q (.exit i) st=Q (.exit i) st:=rfl
@[simp] theorem d3Y (b:PC) (st:St):Ev L b Q .ret st=Q .ret st:=rfl
@[simp] theorem d2j (b:PC) (v:PV) (st:St):Ev L b Q (.boom v) st=Q (.boom v) st:=rfl
@[simp] theorem d5c (a b:PC):wpL L (.seq a b) ⟨V,l,g,h⟩ Q=wpL L a ⟨V,l,g,h⟩ (Ev L b Q):=by
 simp only[wpL,c7J]
 rcases evL L a ⟨V,l,g,h⟩ with _|⟨e,st⟩
 ·rfl
 ·cases e<;>rfl
def DO (id:Nat) (Q:PExit→St→Prop):PExit→St→Prop
 | .exit i,st=>if i=id then Q .normal st else Q (.exit i) st
 | .after _ _ _,_=>False
 | e,st=>Q e st
@[simp] theorem c8o (id:Nat) (v:PV) (st:St):DO id Q (.boom v) st=Q (.boom v) st:=rfl
@[simp] theorem c5o (id:Nat) (st:St):DO id Q .normal st=Q .normal st:=rfl
@[simp] theorem c91 (id:Nat) (st:St):DO id Q .ret st=Q .ret st:=rfl
@[simp] theorem c8p (id i:Nat) (st:St):DO id Q (.exit i) st=if i=id then Q .normal st else Q (.exit i) st:=rfl
@[simp] theorem d2k (id:Nat) (c:PC):wpL L (.block id c) ⟨V,l,g,h⟩ Q=wpL L c ⟨V,l,g,h⟩ (DO id Q):=by
 simp only[wpL,c23]
 rcases evL L c ⟨V,l,g,h⟩ with _|⟨e,st⟩
 ·rfl
 ·cases e<;>try rfl
  rename_i i
  simp only[DO]
  by_cases hi:i=id<;>simp[hi]
def z6 (L:Nat→Option PFunc) (c:PC) (Q:PExit→St→Prop):PExit→St→Prop:=Ev L (.loop c) Q
@[simp] theorem c6r (c:PC) (st:St):z6 L c Q .normal st=wpL L (.loop c) st Q:=rfl
@[simp] theorem c92 (c:PC) (i:Nat) (st:St):z6 L c Q (.exit i) st=Q (.exit i) st:=rfl
@[simp] theorem d2l (c:PC) (st:St):z6 L c Q .ret st=Q .ret st:=rfl
@[simp] theorem c93 (c:PC) (v:PV) (st:St):z6 L c Q (.boom v) st=Q (.boom v) st:=rfl
theorem Cy (c:PC) (st:St):wpL L (.loop c) st Q=wpL L c st (z6 L c Q):=by
 unfold wpL
 rw[c4M]
 rcases evL L c st with _|⟨e,st'⟩
 ·rfl
 ·cases e<;>rfl
def KP (r:Option (Option PV×St)) (Q:PExit→St→Prop):Prop:=
 match r with
 | some (none,st)=>Q .normal (zy st)
 | some (some v,st)=>Q (.boom v) (zy st)
 | none=>False
@[simp] theorem d2m:KP (some (none,⟨V,l,g,h⟩)) Q=Q .normal ⟨V,[],g,h⟩:=rfl
@[simp] theorem c94 (v:PV):KP (some (some v,⟨V,l,g,h⟩)) Q=Q (.boom v) ⟨V,[],g,h⟩:=rfl
@[simp] theorem c95:KP none Q=False:=rfl
@[simp] theorem c8q (ops:List PO):wpL L (.bregion ops) ⟨V,l,g,h⟩ Q=KP (zU (ym L) (yI L) 0 ops ⟨V,List.replicate ops.length .dead,g,h⟩) Q:=by
 simp only[wpL,b4u]
 rcases zU (ym L) (yI L) 0 ops ⟨V,List.replicate ops.length .dead,g,h⟩ with _|⟨_|v,st⟩<;>rfl
def IQ (L:Nat→Option PFunc) (r:Option (Option PV×St)) (x:PX) (a b:PC) (Q:PExit→St→Prop):Prop:=
 match r with
 | some (none, st) => (match rd st x with
   | some (.bool t)=>if t=true then wpL L a (zy st) Q else wpL L b (zy st) Q
   | _=>False)
 | some (some v,st)=>Q (.boom v) (zy st)
 | none=>False
@[simp] theorem c96 (x:PX) (a b:PC):IQ L (some (none,⟨V,l,g,h⟩)) x a b Q=match rd ⟨V,l,g,h⟩ x with
  | some (.bool t)=>if t=true then wpL L a ⟨V,[],g,h⟩ Q else wpL L b ⟨V,[],g,h⟩ Q
  | _=>False:=rfl
@[simp] theorem c8r (v:PV) (x:PX) (a b:PC):IQ L (some (some v,⟨V,l,g,h⟩)) x a b Q=Q (.boom v) ⟨V,[],g,h⟩:=rfl
@[simp] theorem c8s (x:PX) (a b:PC):IQ L none x a b Q=False:=rfl
@[simp] theorem c8t (ops:List PO) (x:PX) (a b:PC):wpL L (.bbranch ops x a b) ⟨V,l,g,h⟩ Q=IQ L (zU (ym L) (yI L) 0 ops ⟨V,List.replicate ops.length .dead,g,h⟩) x a b Q:=by
 simp only[wpL,b4v,IQ]
 rcases zU (ym L) (yI L) 0 ops ⟨V,List.replicate ops.length .dead,g,h⟩ with _|⟨_|v,st⟩
 ·rfl
 ·simp only
  cases rd st x with
  | none=>rfl
  | some v =>
    cases v<;>try rfl
    rename_i t; cases t<;>rfl
 ·rfl
def KR (r:Option St) (t:Nat) (x:PX) (Q:PExit→St→Prop):Prop:=
 match r with
 | some st => (match rd st x with
   | some p=>Q (.boom (.iface t p)) (zy st)
   | none=>False)
 | none=>False
@[simp] theorem c8u (t:Nat) (x:PX):KR (some ⟨V,l,g,h⟩) t x Q=match rd ⟨V,l,g,h⟩ x with
  | some p=>Q (.boom (.iface t p)) ⟨V,[],g,h⟩
  | none=>False:=rfl
@[simp] theorem c8v (t:Nat) (x:PX):KR none t x Q=False:=rfl
@[simp] theorem d2n (ops:List PO) (t:Nat) (x:PX):wpL L (.raise ops t x) ⟨V,l,g,h⟩ Q=KR (AG (ym L) ops ⟨V,l,g,h⟩) t x Q:=by
 simp only[wpL,c24,KR]
 cases AG (ym L) ops ⟨V,l,g,h⟩ with
 | none=>rfl
 | some st=>simp only; cases rd st x<;>rfl
def IR (kd:Nat) (cs:List PV) (Q:PExit→St→Prop):PExit→St→Prop
 | .normal,st=>Q (.after kd cs none) st
 | .ret,st=>Q (.after kd cs none) st
 | .boom v,st=>Q (.after kd cs (some v)) st
 | _,_=>False
@[simp] theorem c5q (kd:Nat) (cs:List PV) (st:St):IR kd cs Q .normal st=Q (.after kd cs none) st:=rfl
@[simp] theorem c97 (kd:Nat) (cs:List PV) (st:St):IR kd cs Q .ret st=Q (.after kd cs none) st:=rfl
@[simp] theorem c8w (kd:Nat) (cs:List PV) (v:PV) (st:St):IR kd cs Q (.boom v) st=Q (.after kd cs (some v)) st:=rfl
@[simp] theorem c8x (kd:Nat) (cs:List PV) (i:Nat) (st:St):IR kd cs Q (.exit i) st=False:=rfl
theorem Po (kd:Nat) (caps:List PX) (c:PC) {cs:List PV} (hn:c.NR=true) (hr:rdAll ⟨V,l,g,h⟩ caps=some cs):wpL L (.guarded kd caps c) ⟨V,l,g,h⟩ Q=wpL L c ⟨V,l,g,h⟩ (IR kd cs Q):=by
 simp only[wpL,b85 hn,hr]
 rcases evL L c ⟨V,l,g,h⟩ with _|⟨e,st⟩
 ·rfl
 ·cases e<;>rfl
def DA (L:Nat→Option PFunc) (f:PFunc) (r:Out×List PObj):PExit→St→Prop
 | .normal,st=>∃v,zS st f.results=some v∧r=(.val v,zh st.vars f.results st.heap)
 | .ret,st=>∃v,zS st f.results=some v∧r=(.val v,zh st.vars f.results st.heap)
 | .boom v,st=>r=(.boom v,st.heap)
 | .after kd cs v,st=>f.code.NR=true∧∃h1 x,Ay L kd (v.getD .nilIface::cs) st.heap=some h1∧zS { st with heap:=h1 } f.results=some x∧r=(.val x,zh st.vars f.results h1)
 | .exit _,_=>False
@[simp] theorem RS (f:PFunc) (r:Out×List PObj):DA L f r .normal ⟨V,l,g,h⟩=∃v,zS ⟨V,l,g,h⟩ f.results=some v∧r=(.val v,zh V f.results h):=rfl
@[simp] theorem d3Z (f:PFunc) (r:Out×List PObj):DA L f r .ret ⟨V,l,g,h⟩=∃v,zS ⟨V,l,g,h⟩ f.results=some v∧r=(.val v,zh V f.results h):=rfl
@[simp] theorem c3n (f:PFunc) (r:Out×List PObj) (v:PV):DA L f r (.boom v) ⟨V,l,g,h⟩=(r=(.boom v,h)):=rfl
@[simp] theorem c1x (f:PFunc) (r:Out×List PObj) (kd:Nat) (cs:List PV) (v:Option PV):DA L f r (.after kd cs v) ⟨V,l,g,h⟩=(f.code.NR=true∧∃h1 x,Ay L kd (v.getD .nilIface::cs) h=some h1∧zS ⟨V,l,g,h1⟩ f.results=some x∧r=(.val x,zh V f.results h1)):=rfl
theorem UD {f:PFunc} {args:List PV} {hp:List PObj} {r:Out×List PObj} (hr:f.code.isRound=false)
  (hw:wpL L f.code ⟨args.map dem++List.replicate (f.nv - f.params) .dead,[],0,hp⟩ (DA L f r)):Bp (evL L) (Ay L) f args hp=some r:=by
 rw[D5] at hw
 obtain⟨e,st,h1,h2⟩:=hw
 unfold Bp
 split
 ·rename_i h3; rw[h3] at hr; simp[PC.isRound] at hr
 ·rw[h1]
  cases e with
  | normal=>obtain⟨v,h3,rfl⟩:=h2; simp only[h3]; rfl
  | ret=>obtain⟨v,h3,rfl⟩:=h2; simp only[h3]; rfl
  | exit i=>exact h2.elim
  | boom v=>simp only[DA] at h2; subst h2; rfl
  | after kd cs v =>
    obtain⟨h3,h4,x,h5,h6,rfl⟩:=h2
    simp only[h3,Bool.true_eq_false,if_false,h5,ar,h6,aC]
theorem Bi {k:Nat} {f:PFunc} {args:List PV} {hp:List PObj} {r:Out×List PObj} (hf:L k=some f) (hl:args.length=f.params)
  (hw:wpL L f.code ⟨args.map dem++List.replicate (f.nv - f.params) .dead,[],0,hp⟩ (DA L f r)) (hs:f.split=false:=by rfl) (gm:f.prim=none:=by rfl) (hr:f.code.isRound=false:=by rfl):yI L k args hp=some r:=
 Tq hf hl (UD hr hw) hs gm
theorem c3o {k:Nat} {f:PFunc} {args:List PV} {hp:List PObj} {r:PV×List PObj} (hf:L k=some f) (hl:args.length=f.params)
  (hw:wpL L f.code ⟨args.map dem++List.replicate (f.nv - f.params) .dead,[],0,hp⟩ (DA L f (.val r.1,r.2))) (hs:f.split=false:=by rfl) (gm:f.prim=none:=by rfl) (hr:f.code.isRound=false:=by rfl):ym L k args hp=some r:=
 c4N hf hl (UD hr hw) hs gm hr
def Eu (rs:List PRes) (r:PV×List PObj) (e:PExit) (st:St):Prop:=(e = .normal∨e = .ret)∧zS st rs=some r.1∧zh st.vars rs st.heap=r.2
@[simp] theorem c8y (rs:List PRes) (r:PV×List PObj):Eu rs r .normal ⟨V,l,g,h⟩=(zS ⟨V,l,g,h⟩ rs=some r.1∧zh V rs h=r.2):=by simp[Eu]
@[simp] theorem d30 (rs:List PRes) (r:PV×List PObj):Eu rs r .ret ⟨V,l,g,h⟩=(zS ⟨V,l,g,h⟩ rs=some r.1∧zh V rs h=r.2):=by simp[Eu]
theorem yB {k:Nat} {f:PFunc} {args:List PV} {hp:List PObj} {r:PV×List PObj} (hf:L k=some f) (hl:args.length=f.params)
  (hw:wpL L f.code ⟨args.map dem++List.replicate (f.nv - f.params) .dead,[],0,hp⟩ (Eu f.results r)) (hs:f.split=false:=by rfl) (gm:f.prim=none:=by rfl) (hr:f.code.isRound=false:=by rfl):ym L k args hp=some r:=by
 refine TV hf hl ?_ hs gm hr
 rw[D5] at hw
 obtain⟨e,st,h1,h2,h3,h4⟩:=hw
 rw[h1]
 rcases h2 with rfl|rfl<;>simp only[Ec,h3,h4]
theorem c3p {k:Nat} {f:PFunc} {own:Option Nat} {args:List PV} {hp:List PObj} {r:PV×List PObj} (hf:L k=some f) (hl:args.length=f.params)
  (hw:wpL L f.code ⟨C4 own args++List.replicate (f.nv - f.params) .dead,[],0,hp⟩ (Eu f.results r)) (hs:f.split=false:=by rfl) (gm:f.prim=none:=by rfl) (hr:f.code.isRound=false:=by rfl) (gW:f.params<1000:=by decide):ym L k (BY own args) hp=some r:=by
 refine c26 hf hl ?_ hs gm gW
 rw[D5] at hw
 obtain⟨e,st,h1,h2,h3,h4⟩:=hw
 unfold Bq
 rw[ae (by rw[hr]; simp),h1]
 rcases h2 with rfl|rfl<;>simp only[h3,h4,aC]
def yJ (rs:List PRes) (P:PV×List PObj→Prop) (e:PExit) (st:St):Prop:=(e = .normal∨e = .ret)∧∃v,zS st rs=some v∧P (v,zh st.vars rs st.heap)
theorem AP {k:Nat} {f:PFunc} {args:List PV} {hp:List PObj} {P:PV×List PObj→Prop} (hf:L k=some f) (hl:args.length=f.params)
  (hw:wpL L f.code ⟨args.map dem++List.replicate (f.nv - f.params) .dead,[],0,hp⟩ (yJ f.results P)) (hs:f.split=false:=by rfl) (gm:f.prim=none:=by rfl) (hr:f.code.isRound=false:=by rfl):∃r,ym L k args hp=some r∧P r:=by
 rw[D5] at hw
 obtain⟨e,st,h1,h2,v,h3,h4⟩:=hw
 refine⟨(v,zh st.vars f.results st.heap),TV hf hl ?_ hs gm hr,h4⟩
 rw[h1]
 rcases h2 with rfl|rfl<;>simp only[Ec,h3]
end
end PI
namespace PI
section
variable {L:Nat→Option PFunc} {Q:PExit→St→Prop}
def upd (V:List PV):List (Nat×PV)→List PV
 | []=>V
 | (k,v)::r=>upd (V.set k v) r
@[simp] theorem d5d (V:List PV):upd V []=V:=rfl
@[simp] theorem d31 (V:List PV) (k:Nat) (v:PV) (r:List (Nat×PV)):upd V ((k,v)::r)=upd (V.set k v) r:=rfl
theorem UE {γ:Type} {c:PC} (n:Nat) (ok:Nat→Bool) (S:Nat→γ→St)
  (step:∀i,i<n→ok i=true→∀x,(∀y,wpL L (.loop c) (S (i+1) y) Q)→wpL L c (S i x) (z6 L c Q))
  (fail:∀i,i<n→ok i=false→(∀k,k<i→ok k=true)→∀x,wpL L c (S i x) (z6 L c Q))
  (last:(∀k,k<n→ok k=true)→∀x,wpL L c (S n x) (z6 L c Q)) (x:γ):wpL L (.loop c) (S 0 x) Q:=by
 have key:∀(d i:Nat),i+d=n→(∀k,k<i→ok k=true)→∀x,wpL L (.loop c) (S i x) Q:=by
  intro d
  induction d with
  | zero =>
    intro i hi hk x
    rw[Cy]
    have:i=n:=by omega
    subst this
    exact last hk x
  | succ d ih =>
    intro i hi hk x
    rw[Cy]
    cases ho:ok i with
    | true =>
      refine step i (by omega) ho x (ih (i+1) (by omega) ?_)
      intro k dt
      by_cases e:k=i
      ·rw[e]; exact ho
      ·exact hk k (by omega)
    | false=>exact fail i (by omega) ho hk x
 exact key n 0 (by omega) (λk h=>absurd h (Nat.not_lt_zero k)) x
theorem c5s {γ:Type} {c:PC} {V:List PV} {g:Nat} {h:List PObj} (n:Nat) (ok:Nat→Bool) (M:Nat→γ→List (Nat×PV)) (H:Nat→γ→List PObj) (x0:γ)
  (step:∀i,i<n→ok i=true→∀x,(∀y,wpL L (.loop c) ⟨upd V (M (i+1) y),[],g,H (i+1) y⟩ Q)→wpL L c ⟨upd V (M i x),[],g,H i x⟩ (z6 L c Q))
  (fail:∀i,i<n→ok i=false→(∀k,k<i→ok k=true)→∀x,wpL L c ⟨upd V (M i x),[],g,H i x⟩ (z6 L c Q))
  (last:(∀k,k<n→ok k=true)→∀x,wpL L c ⟨upd V (M n x),[],g,H n x⟩ (z6 L c Q)) (hV:upd V (M 0 x0)=V) (hH:H 0 x0=h):wpL L (.loop c) ⟨V,[],g,h⟩ Q:=by
 have:=UE n ok (λi x=>⟨upd V (M i x),[],g,H i x⟩) step fail last x0
 rw[hV,hH] at this
 exact this
theorem Nl {γ:Type} {c:PC} {V:List PV} {g:Nat} {h:List PObj} (n:Nat) (ok:Nat→Bool) (M:Nat→γ→List (Nat×PV)) (G:Nat→γ→Nat) (H:Nat→γ→List PObj) (x0:γ)
  (step:∀i,i<n→ok i=true→∀x,(∀y,wpL L (.loop c) ⟨upd V (M (i+1) y),[],G (i+1) y,H (i+1) y⟩ Q)→wpL L c ⟨upd V (M i x),[],G i x,H i x⟩ (z6 L c Q))
  (fail:∀i,i<n→ok i=false→(∀k,k<i→ok k=true)→∀x,wpL L c ⟨upd V (M i x),[],G i x,H i x⟩ (z6 L c Q))
  (last:(∀k,k<n→ok k=true)→∀x,wpL L c ⟨upd V (M n x),[],G n x,H n x⟩ (z6 L c Q)) (hV:upd V (M 0 x0)=V) (hG:G 0 x0=g) (hH:H 0 x0=h):wpL L (.loop c) ⟨V,[],g,h⟩ Q:=by
 have:=UE n ok (λi x=>⟨upd V (M i x),[],G i x,H i x⟩) step fail last x0
 rw[hV,hG,hH] at this
 exact this
end
end PI
set_option linter.unusedSimpArgs false
set_option linter.unusedVariables false
namespace PI
open Go Go.RowKit
def CN (t:Nat) (args:List PV) (h:List PObj):Option (List PObj):=
 match args with
 | [.nilIface,.ptr _ 0,.ptr _ 0]=>some h
 | [.iface t' (.agg [.int k1 a, .int k2 b, .int k3 c]), .ptr n 0, .ptr m 0] =>
   if t'=t∧n≠m then
    match h[n]?,h[m]? with
    | some (.cells [_,_]),some (.cells [_])=>some ((h.set n (.cells [.int k1 a,.int k2 b])).set m (.cells [.int k3 c]))
    | _,_=>none
   else none
 | _=>none
def IF (o:Oper):Bool:=
 match o.op with
 | .move _ | .assign _ | .extract _ _ | .alloc _ | .store _ _ _ | .load _ _ | .fieldAddr _ _ _=>true
 | _=>false
section
variable {P:Program} {w:World}
theorem c2Y {o:Oper} (h:IF o=true) {ρ:Operand→Value}:(∀r w',(execOp ρ o).run P w = .ok r w'→(∃v,r = .value v)∨r = .skip)∧True:=by
 refine⟨?_,trivial⟩
 intro r w' hr
 have val:∀(s:Sem Value),(do pure (.value (← s)):Sem Next).run P w = .ok r w'→∃v,r = .value v:=by
  intro s hs
  rw[Sem.run_bind] at hs
  cases hx:s.run P w with
  | ok v w1=>rw[hx] at hs; simp only[Result.andThen_ok,Sem.run_pure,Result.ok.injEq] at hs; exact⟨v,hs.1.symm⟩
  | halt x w1=>rw[hx] at hs; simp[Result.andThen] at hs
 have unit:∀(s:Sem Unit),(do s; pure .skip:Sem Next).run P w = .ok r w'→r = .skip:=by
  intro s hs
  rw[Sem.run_bind] at hs
  cases hx:s.run P w with
  | ok v w1=>rw[hx] at hs; simp only[Result.andThen_ok,Sem.run_pure,Result.ok.injEq] at hs; exact hs.1.symm
  | halt x w1=>rw[hx] at hs; simp[Result.andThen] at hs
 unfold IF at h
 unfold execOp at hr
 cases cZ:o.op<;>rw[cZ] at h hr<;>simp only[reduceCtorEq,aJ] at h
 all_goals first
  | exact .inl (val _ hr)
  | exact .inr (unit _ hr)
  | (simp only[Sem.run_pure,Result.ok.injEq] at hr; exact .inl ⟨_,hr.1.symm⟩)
theorem IG {ops:Array Oper} {Q:Exit→Act→List Frame→World→Prop} {cs:List Frame}:∀{l:List Nat} {a:Act} {w:World},(∀i∈l,∀o,ops[i]? = some o→IF o=true)→¬LetsOut (λe a w=>Q e a cs w) →
  wpOps P ops (λe a w=>Q e a cs w) l a w→wpOpsSIn (W none) 0 P ops Q l a cs w
 | [],a,w,_,_,h=>h
 | i :: l, a, w, hp, hQ, h => by
   simp only[wpOps] at h
   simp only[wpOpsSIn]
   cases ho:ops[i]? with
   | none=>simp only[ho] at h ⊢; exact IG (λj hj=>hp j (by simp[hj])) hQ h
   | some o =>
     simp only[ho] at h ⊢
     refine⟨λ_ _=>Cq _,?_⟩
     split at h
     ·rename_i hw
      rw[af hw]
      rcases h with h|⟨_,h⟩
      ·unfold Oper.wp at h
       have fl:=(c2Y (P:=P) (w:=w) (hp i (by simp) o ho) (ρ:=a.eval)).1
       generalize (execOp a.eval o).run P w=res at h fl
       cases res with
       | ok r w' =>
         rcases fl r w' rfl with⟨v,rfl⟩|rfl
         ·exact IG (λj hj=>hp j (by simp[hj])) hQ h
         ·exact IG (λj hj=>hp j (by simp[hj])) hQ h
       | halt x w'=>cases x<;>simp only[Oper.upon] at h ⊢<;>first | exact h | exact h.elim
      ·exact absurd h hQ
     ·rename_i hw
      rw[ae hw]
      exact IG (λj hj=>hp j (by simp[hj])) hQ h
theorem b7s {c:Code} {Q:Exit→Act→List Frame→World→Prop} {a:Act} {cs:List Frame} (h:∀fid,wpN none fid P c (λe a w=>Q e a cs w) a w):c.wpSIn (W none) 0 P Q a cs w:=by
 intro b k _ hr _ _
 obtain⟨e,a',w',q,r⟩:=h b.fn b k cs hr rfl
 exact⟨e,a',cs,w',rfl,q,r⟩
end
section
variable {E:Env} {N:Nm} {P:Program}
def L0:Nat→Option PFunc:=λ_=>none
theorem TD (n:Nat):Runs N P L0 n:=by
 refine⟨⟨?_,?_⟩,?_,?_,?_⟩
 ·intro k args r h h' hc; simp[zT,L0] at hc
 ·intro k own args r h' hc; simp[zT,L0] at hc
 ·intro k args o h h' hc; simp[Ae,L0] at hc
 ·intro k y n l tmps caps args o h h' _ hc; simp[Ae,L0] at hc
 ·intro k hk; simp[EJ,L0] at hk
theorem TE:Al N P L0:=by intro k f h; simp[L0] at h
theorem c2Z (hE:EnvOk E N) (hP:E.P=P) (dR:P.follows .mixedOrders=true) (oP:E.lps=[]) {k:Nat} {fn:Func} {id0:Nat} {ops0:Array Oper} {c2:Code} {vs:List Tmp} {pos0:List PO} {d5 d6:Tmp} {tA T t:Nat} {z:PV} {nv q:Nat} {o0 o1:Oper} {g:List PV→List PObj→Option (List PObj)}
  (hf:P.funcs[N.fn k]? = some fn) (hb:fn.body=some (.seq (.region id0 ops0 false) c2)) (dZ:fn.results = #[])
  (h0:ops0[0]? = some o0) (qY:∃ts,o0.op = .call { callee := .builtin .recover,args := #[],argTypes:=ts }) (ui:o0.dst=some d5) (uj:o0.guard=none)
  (h1:ops0[1]? = some o1) (uk:o1.op = .typeAssert (.tmp d5) tA T true) (ul:o1.dst=some d6) (um:o1.guard=none) (hT:N.ty t=T) (oQ:∃fs,P.underlying T=some (.struct fs)) (hz:Gw P T=some z)
  (jO:∀i,2≤i→∀o,ops0[i]? = some o→IF o=true) (xK:d5<fn.ntmps) (qZ:(zQ d5 vs 0).isNone=true) (sa:vs[q]? = some d6)
  (dx:vs.Nodup) (dc:∀t∈vs,t<fn.ntmps) (mC:vs.length=nv) (hq:2≤q) (jm:vs[0]? = some 0) (ip:vs[1]? = some 1)
  (kj:DB E fn.ntmps vs ops0 false=some pos0) (iY:(Ak E fn.ntmps vs c2).NR=true)
  (da:∀p caps h h',g (p::caps) h=some h'→caps.length=2∧∃tup:PV,(p = .nilIface∧tup = .tuple [z,.bool false]∨∃v,p = .iface t v∧tup = .tuple [v,.bool true]) ∧
   ∃n st1 x st2,Am (zT (yr L0 0) L0) pos0 (List.range' 2 (ops0.size - 2)) { vars:=(caps.map dem++List.replicate (nv - 2) PV.dead).set q tup,locs:=List.replicate pos0.length .dead,gen:=0,heap:=h }=some st1∧yr L0 n (Ak E fn.ntmps vs c2) (zy st1)=some (x,st2)∧(x = .normal∨x = .ret)∧st2.heap=h'):
  EP N P k g:=by
 intro p caps h h' hg w G vals ef dj di u hu
 obtain⟨dH,tup,q6,n,st1,x,st2,uq,ur,hx,eo⟩:=da p caps h h' hg
 refine callsDIn_of_wpSIn (F:=W none) hf hb (Cq _) ?_
 intro c₀ cs lR
 refine wpSIn_seq (wpSIn_region ?_)
 have eW:2≤ops0.size:=by have:=(aX.1 h1).1; omega
 have jH:List.range ops0.size=0::1::List.range' 2 (ops0.size - 2):=by
  obtain⟨m,hm⟩:∃m,ops0.size=m+2:=⟨ops0.size - 2,by omega⟩
  rw[hm,cP,List.range'_succ,List.range'_succ]
  rfl
 rw[jH]
 obtain⟨rv,u',cs',eC,yH,jb,q7⟩:∃rv u',∃cs':List Frame,(match recoverD (c₀::cs) with | some (v,cs')=>(v,cs') | none=>(.nilIface,c₀::cs))=(rv,cs')∧settle u' = .returning∧cs'={ c₀ with mode:=u' }::cs∧VR N w G.fix G.heap rv p:=by
  rcases hu with⟨rfl,rfl⟩|⟨v,rfl,hv⟩
  ·refine⟨.nilIface,.returning,c₀::cs,?_,rfl,by rw[← lR],.nilIface⟩
   simp[recoverD,lR]
  ·refine⟨v,.panicking [{ v,recovered:=true }],_,?_,rfl,rfl,hv⟩
   simp[recoverD,lR]
 let a0:Act:={ tmps:=vals++Array.replicate (fn.ntmps - vals.size) undef,defers:=[] }
 have step0:∀{Q:Exit→Act→List Frame→World→Prop} {rest:List Nat},wpOpsSIn (W none) 0 P ops0 Q rest (a0.put (some d5) rv) cs' w→wpOpsSIn (W none) 0 P ops0 Q (0::rest) a0 (c₀::cs) w:=by
  intro Q rest hw
  obtain⟨ts,qY⟩:=qY
  simp only[wpOpsSIn,h0]
  refine⟨λ_ _=>Cq _,?_⟩
  have q8:(execOp a0.eval o0).run P w = .ok .recover w:=by
   simp[execOp,qY,resolve,invoke,builtin]
  simp only[Region.wanted,uj,if_true,q8,ui]
  cases hr:recoverD (c₀::cs) with
  | none=>rw[hr] at eC; simp only[ac] at eC; obtain⟨rfl,rfl⟩:=eC; exact hw
  | some y=>obtain⟨v,cs2⟩:=y; rw[hr] at eC; simp only[ac] at eC; obtain⟨rfl,rfl⟩:=eC; exact hw
 refine step0 ?_
 have gK:a0.tmps.size≥fn.ntmps:=by
  simp only[a0,b8,cQ]; omega
 have ut:(a0.put (some d5) rv).eval (.tmp d5)=rv:=by
  have:d5<a0.tmps.size:=aP xK gK
  simp[Act.eval,Act.put,aV,bi,this]
 obtain⟨tv,xM,uu⟩:∃tv,(Instr.typeAssert rv tA T true).run P w = .ok tv w∧VR N w G.fix G.heap tv tup:=by
  obtain⟨fs,oQ⟩:=oQ
  rcases q6 with⟨rfl,rfl⟩|⟨v,rfl,rfl⟩
  ·cases q7
   obtain⟨zv,z1,z2,_⟩:=TG (P:=P) (N:=N) (w:=w) (fix:=G.fix) (hp:=G.heap) hz
   refine⟨.tuple #[zv,.bool false],by simp[Instr.typeAssert,Sem.run_bind,run_underlying oQ,Result.andThen_ok,z1],.tuple _ _ rfl ?_⟩
   intro i c p hc hp
   match i,hc,hp with
   | 0,hc,hp=>simp at hc hp; subst hc hp; exact z2
   | 1,hc,hp=>simp at hc hp; subst hc hp; exact .bool _
  ·cases q7 with
   | iface _ v' _ hv =>
     refine⟨.tuple #[v',.bool true],by simp[Instr.typeAssert,Sem.run_bind,run_underlying oQ,Result.andThen_ok,hT],.tuple _ _ rfl ?_⟩
     intro i c p hc hp
     match i,hc,hp with
     | 0,hc,hp=>simp at hc hp; subst hc hp; exact hv
     | 1,hc,hp=>simp at hc hp; subst hc hp; exact .bool _
 let a2:Act:=(a0.put (some d5) rv).put (some d6) tv
 have zm:∀{Q:Exit→Act→List Frame→World→Prop} {rest:List Nat},wpOpsSIn (W none) 0 P ops0 Q rest a2 cs' w→wpOpsSIn (W none) 0 P ops0 Q (1::rest) (a0.put (some d5) rv) cs' w:=by
  intro Q rest hw
  simp only[wpOpsSIn,h1]
  refine⟨λ_ _=>Cq _,?_⟩
  have lE:(execOp (a0.put (some d5) rv).eval o1).run P w = .ok (.value tv) w:=by
   simp only[execOp,uk,ut,Sem.run_bind,xM,Result.andThen_ok,Sem.run_pure]
  simp only[Region.wanted,um,if_true,lE,ul]
  exact hw
 refine zm ?_
 have de:E1 vs ops0.toList=true∧Ik fn.ntmps ops0.toList=true∧Ez E vs ops0.toList ops0.toList=some pos0:=by
  unfold DB at kj
  split at kj
  ·rename_i hc
   simp only[ap] at hc
   simp only[aj] at kj
   obtain⟨pos',h1,h2⟩:=kj
   simp only[bP,aJ,if_false,aa] at h2
   subst h2
   exact⟨hc.1.1,hc.1.2,h1⟩
  ·simp at kj
 obtain⟨q9,eL,rc⟩:=de
 have nm:=J7 dx q9
 let G0:GS:={ G with df:=[] }
 have gt:FI N w G0 { vars:=(caps.map dem++List.replicate (nv - 2) PV.dead).set q tup,locs:=List.replicate pos0.length .dead,gen:=0,heap:=h } a2 vs (yk vs ops0.toList):=by
  have kA:a2.tmps.size=a0.tmps.size:=by simp[a2,Act.put]
  refine⟨?_,?_,?_,?_,?_,rfl,(by intro g b h; have h:G.box g=some b:=h; rw[ef.only.box] at h; simp at h),ef.owlt,ef.fixlt,ef.heap,ef.hdom⟩
  ·have:2<vs.length:=Nat.lt_of_le_of_lt hq (ah.1 sa).1
   simp[dH]; omega
  ·intro i t' u1 gy ez
   rw[aO] at ez
   have uv:t'≠d5:=by
    rintro rfl
    have:=NJ gy 0
    simp at qZ
    rw[qZ] at this
    simp at this
   by_cases uw:q=i
   ·subst uw
    rw[sa] at gy
    simp only[aa] at gy
    subst gy
    rw[af rfl] at ez
    split at ez
    ·simp only[aa] at ez
     subst ez
     have fN:a2.eval (.tmp d6)=tv:=by
      have:d6<a0.tmps.size:=aP (dc _ (ax sa)) gK
      simp[a2,Act.eval,Act.put,aV,bi,this]
     rw[fN]
     refine SR.of_pure uu ?_
     rcases q6 with⟨_,rfl⟩|⟨_,_,rfl⟩<;>rfl
    ·simp at ez
   ·rw[ae uw] at ez
    have ux:t'≠d6:=by
     rintro rfl
     have xO:=(ah.1 sa)
     have jz:=(ah.1 gy)
     obtain⟨p1,p2⟩:=xO
     obtain⟨p3,p4⟩:=jz
     exact uw ((List.getElem_inj dx).1 (p2.trans p4.symm))
    have fN:a2.eval (.tmp t')=a0.eval (.tmp t'):=by
     simp only[a2,Act.eval,Act.put,aV,bi]
     rw[ae (Ne.symm ux),ae (Ne.symm uv)]
    rw[fN]
    by_cases hi:i<2
    ·have mg:t'=i:=by
      match i,hi with
      | 0,_=>rw[jm] at gy; simpa using gy.symm
      | 1,_=>rw[ip] at gy; simpa using gy.symm
     subst mg
     have iQ:t'<caps.length:=by rw[dH]; exact hi
     rw[al (by simpa using iQ)] at ez
     simp only[aF,an iQ,aC,aa] at ez
     subst ez
     have kV:t'<vals.size:=by rw[dj]; exact iQ
     have fN:a0.eval (.tmp t')=vals[t']:=by
      simp only[a0,Act.eval,aV]
      rw[bp kV]
      simp[kV]
     rw[fN]
     have hv:=di t' vals[t'] caps[t'] (by simp[kV]) (an iQ)
     exact SR.of_pure hv.dem hv.cp_dem
    ·rw[aq (by rw[aG,dH]; omega)] at ez
     rw[cB] at ez
     split at ez
     ·simp at ez; subst ez; trivial
     ·simp at ez
  ·intro j t' u1 _ oF
   simp only[cB] at oF
   split at oF
   ·simp at oF; subst oF; trivial
   ·simp at oF
  ·intro i t' hi
   rw[kA]
   exact aP (dc _ (ax hi)) gK
  ·intro j t' hj
   rw[kA]
   exact aP (J4 eL j t' hj) gK
 refine IG ?_ ?_ ?_
 ·intro i hi o ho
  refine jO i ?_ o ho
  rw[List.mem_range'_1] at hi
  exact hi.1
 ·rintro⟨a,w,h⟩
  simp only[Exit.thenS,bodyPostS] at h
  obtain⟨u2,⟨v,hv⟩,_⟩:=h
  cases hv
 ·refine NH (L:=L0) TE hE hP nm (TD 0).call (by intro k args h r hc; simp[zT,L0] at hc) rc uq gt ?_
  intro a' w' G' iP he hs
  simp only[Exit.thenS]
  refine b7s λfid =>?_
  have kA:a2.tmps.size=a0.tmps.size:=by simp[a2,Act.put]
  have dn:=FI.finish (nt:=fn.ntmps) iP (by rw[hs,kA]; exact gK)
  refine EA (L:=L0) (rd':=none) TE hE hP dR dx n (λm _=>TD m) Io ur dn ?_ (.inl rfl) ?_ ?_
  ·intro ps kb vars hl
   rw[oP] at hl
   simp at hl
  ·rintro⟨a,w,h⟩
   simp only[bodyPostS] at h
   obtain⟨u2,⟨v,hv⟩,_⟩:=h
   cases hv
  ·intro a3 w3 G3 e vM jW lH uy
   have dT:ExtD w G w3 G3:=ExtD.trans (ExtD.of he:ExtD w G0 w' G') lH
   have hZ:G'.df=[]:=he.df
   have fF:G3.df=[]:=by
    have key:(∃ms,G3.df=ms++G'.df∧Marks w' w3 G3 ms∧((Ak E fn.ntmps vs c2).NR=true→ms=[]))→G3.df=[]:=by
     rintro⟨ms,q1,_,q3⟩
     rw[q1,q3 iY,hZ]; rfl
    rcases hx with rfl|rfl<;>exact key uy
   have fc:bodyPostS P fn c₀ cs (λe u' w'=>(∃v,e = .returned v)∧settle u' = .returning∧∃G',Ext w G w' G'∧Between N w' G' h') .normal a3 cs' w3:=by
    refine⟨by rw[jW.fi.defers,fF],u',jb,.tuple #[],?_,⟨_,rfl⟩,yH,?_⟩
    ·unfold results
     rw[dZ]
     simp
    ·obtain⟨l1,l2⟩:=GA dT jW (DefW.refl _) (λ_ _=>rfl) st2.vars []
     rw[← eo]
     exact⟨_,l1,l2⟩
   rcases hx with rfl|rfl<;>(simp only[Bk] at vM; subst vM; exact fc)
def Eb:List PO:=[⟨.l,EC,none⟩,⟨.v 4,EC,none⟩,⟨.l,.mov (.v 4),none⟩,⟨.l,.extract 0 (.l 2),none⟩,⟨.l,.extract 1 (.l 2),none⟩,⟨.v 2,.newloc [.int .i64 0,.int .i64 0,.int .i64 0],none⟩,⟨.n,.store 3 true (.v 2) (.l 3),none⟩,⟨.v 3,.take (.l 4),none⟩]
def GJ:PC := .branch [⟨.l,.mov (.v 3),none⟩] (.l 0) (.region [⟨.l,.faddr 0 (.v 2),none⟩,⟨.l,.load 2 true (.l 0) false,none⟩,⟨.l,.faddr 2 (.v 2),none⟩,⟨.l,.load 1 false (.l 2) false,none⟩,⟨.n,.h (.storer 2 true (.v 0) (.l 1)),none⟩,⟨.n,.h (.storer 1 false (.v 1) (.l 3)),none⟩]) .skip
def Fb:PV := .agg [.int .i64 0,.int .i64 0,.int .i64 0]
theorem c7H {t:Nat} {p:PV} {caps:List PV} {h h':List PObj} (hg:CN t (p::caps) h=some h'):caps.length=2∧∃tup:PV,(p = .nilIface∧tup = .tuple [Fb,.bool false]∨∃v,p = .iface t v∧tup = .tuple [v,.bool true]) ∧
   ∃n st1 x st2,Am (zT (yr L0 0) L0) Eb (List.range' 2 (8 - 2)) { vars:=(caps.map dem++List.replicate (5 - 2) PV.dead).set 4 tup,locs:=List.replicate Eb.length .dead,gen:=0,heap:=h }=some st1∧yr L0 n GJ (zy st1)=some (x,st2)∧(x = .normal∨x = .ret)∧st2.heap=h':=by
 have fin:∀{tup:PV} {st1:St} {x:PExit} {st2:St},AO (zT (yr L0 0) L0) 2 (Eb.drop 2) { vars:=(caps.map dem++List.replicate (5 - 2) PV.dead).set 4 tup,locs:=List.replicate Eb.length .dead,gen:=0,heap:=h }=some st1→evL L0 GJ (zy st1)=some (x,st2)→(x = .normal∨x = .ret)→st2.heap=h' →
   ∃n st1 x st2,Am (zT (yr L0 0) L0) Eb (List.range' 2 (8 - 2)) { vars:=(caps.map dem++List.replicate (5 - 2) PV.dead).set 4 tup,locs:=List.replicate Eb.length .dead,gen:=0,heap:=h }=some st1∧yr L0 n GJ (zy st1)=some (x,st2)∧(x = .normal∨x = .ret)∧st2.heap=h':=by
  intro tup st1 x st2 h1 h2 h3 h4
  obtain⟨n,hn⟩:=zq.1 h2
  rw[J8 (all:=Eb) rfl] at h1
  exact⟨n,st1,x,st2,h1,hn,h3,h4⟩
 unfold CN at hg
 split at hg
 ·rename_i n m heq
  simp only[bF] at heq
  obtain⟨rfl,rfl⟩:=heq
  simp only[aa] at hg
  subst hg
  refine⟨rfl,_,.inl ⟨rfl,rfl⟩,fin (st1:=⟨[.ptr n 0,.ptr m 0,.loc 0 [.int .i64 0,.int .i64 0,.int .i64 0],.bool false,.tuple [Fb,.bool false]],[.dead,.dead,.tuple [Fb,.bool false],Fb,.bool false,.dead,.dead,.dead],1,h⟩) (st2:=⟨[.ptr n 0,.ptr m 0,.loc 0 [.int .i64 0,.int .i64 0,.int .i64 0],.bool false,.tuple [Fb,.bool false]],[],1,h⟩) ?_ ?_ (.inl rfl) rfl⟩
  ·simp[Eb,Fb,EC,yM]
  ·simp[GJ]
 ·rename_i t' k1 a k2 b k3 c n m heq
  simp only[bF] at heq
  obtain⟨rfl,rfl⟩:=heq
  split at hg
  ·rename_i hc
   obtain⟨rfl,iL⟩:=hc
   split at hg
   ·rename_i x1 x2 x3 hn hm
    simp only[aa] at hg
    subst hg
    refine⟨rfl,_,.inr ⟨_,rfl,rfl⟩,fin (st1:=⟨[.ptr n 0,.ptr m 0,.loc 0 [.int k1 a,.int k2 b,.int k3 c],.bool true,.tuple [.agg [.int k1 a,.int k2 b,.int k3 c],.bool true]],[.dead,.dead,.tuple [.agg [.int k1 a,.int k2 b,.int k3 c],.bool true],.agg [.int k1 a,.int k2 b,.int k3 c],.bool true,.dead,.dead,.dead],1,h⟩) (st2:=⟨[.ptr n 0,.ptr m 0,.loc 0 [.int k1 a,.int k2 b,.int k3 c],.bool true,.tuple [.agg [.int k1 a,.int k2 b,.int k3 c],.bool true]],[],1,(h.set n (.cells [.int k1 a,.int k2 b])).set m (.cells [.int k3 c])⟩) ?_ ?_ (.inl rfl) rfl⟩
    ·simp[Eb,Fb,EC,yM]
    ·have kT:(h.set n (.cells [.int k1 a,.int k2 b]))[m]? = some (.cells [x3]):=by rw[ai iL]; exact hm
     simp[GJ,yM,yu,hn,kT,PV.flat,Ax]
   ·simp at hg
  ·simp at hg
 ·simp at hg
theorem Pw (hE:EnvOk E N) (hP:E.P=P) (dR:P.follows .mixedOrders=true) (oP:E.lps=[]) {k:Nat} {fn:Func} {id0:Nat} {ops0:Array Oper} {c2:Code} {tA T t:Nat} {o0 o1:Oper} (hf:P.funcs[N.fn k]? = some fn) (hb:fn.body=some (.seq (.region id0 ops0 false) c2)) (dZ:fn.results = #[])
  (h0:ops0[0]? = some o0) (qY:∃ts,o0.op = .call { callee := .builtin .recover,args := #[],argTypes:=ts }) (ui:o0.dst=some 5) (uj:o0.guard=none)
  (h1:ops0[1]? = some o1) (uk:o1.op = .typeAssert (.tmp 5) tA T true) (ul:o1.dst=some 6) (um:o1.guard=none) (hT:N.ty t=T) (oQ:(match P.underlying T with | some (.struct _)=>true | _=>false)=true) (hz:Gw P T=some Fb)
  (dj:ops0.size=8) (jO:(ops0.toList.drop 2).all IF=true) (re:fn.ntmps=14) (kj:DB E 14 [0,1,2,3,6] ops0 false=some Eb) (pK:Ak E 14 [0,1,2,3,6] c2=GJ):EP N P k (CN t):=by
 refine c2Z hE hP dR oP (vs:=[0,1,2,3,6]) (d5:=5) (d6:=6) (q:=4) (nv:=5) hf hb dZ h0 qY ui uj h1 uk ul um hT (by split at oQ<;>first|exact⟨_,by assumption⟩|simp at oQ) hz ?_ (by rw[re]; decide) rfl rfl (by decide) (by rw[re]; decide) rfl (by omega) rfl rfl (by rw[re]; exact kj) (by rw[re,pK]; rfl) ?_
 ·intro i hi o ho
  have:=aN.1 jO o
  refine this (ax (i:=i - 2) ?_)
  rw[bc,show 2+(i - 2)=i by omega]
  simpa using ho
 ·intro p caps h h' hg
  have:=c7H hg
  rw[dj,re,pK]
  exact this
end
end PI
namespace PI.Short
open Go (IntKind BinOp UnOp)
abbrev v0:PX := .v 0
abbrev v1:PX := .v 1
abbrev v2:PX := .v 2
abbrev v3:PX := .v 3
abbrev v4:PX := .v 4
abbrev v5:PX := .v 5
abbrev v6:PX := .v 6
abbrev v7:PX := .v 7
abbrev v8:PX := .v 8
abbrev v9:PX := .v 9
abbrev zB:PX := .v 10
abbrev zg:PX := .v 11
abbrev zC:PX := .v 12
abbrev Ap:PX := .v 13
abbrev Af:PX := .v 14
abbrev BD:PX := .v 15
abbrev B2:PX := .v 16
abbrev Ci:PX := .v 17
abbrev Ck:PX := .v 18
abbrev Cj:PX := .v 19
abbrev Dq:PX := .v 20
abbrev Em:PX := .v 21
abbrev F5:PX := .v 22
abbrev Ht:PX := .v 23
abbrev Hs:PX := .v 24
abbrev Mc:PX := .v 25
abbrev Jz:PX := .v 26
abbrev Jy:PX := .v 27
abbrev P0:PX := .v 28
abbrev v29:PX := .v 29
abbrev L6:PX := .v 30
abbrev P2:PX := .v 31
abbrev v32:PX := .v 32
abbrev Ma:PX := .v 33
abbrev P1:PX := .v 34
abbrev v35:PX := .v 35
abbrev L8:PX := .v 36
abbrev v39:PX := .v 39
abbrev v45:PX := .v 45
abbrev v46:PX := .v 46
abbrev v50:PX := .v 50
abbrev v51:PX := .v 51
abbrev v53:PX := .v 53
abbrev v55:PX := .v 55
abbrev v66:PX := .v 66
abbrev v70:PX := .v 70
abbrev v76:PX := .v 76
abbrev v77:PX := .v 77
abbrev l0:PX := .l 0
abbrev l1:PX := .l 1
abbrev l2:PX := .l 2
abbrev l3:PX := .l 3
abbrev l4:PX := .l 4
abbrev l5:PX := .l 5
abbrev l6:PX := .l 6
abbrev l7:PX := .l 7
abbrev l8:PX := .l 8
abbrev l9:PX := .l 9
abbrev yP:PX := .l 10
abbrev yW:PX := .l 11
abbrev zI:PX := .l 12
abbrev zL:PX := .l 13
abbrev zD:PX := .l 14
abbrev AJ:PX := .l 15
abbrev AE:PX := .l 16
abbrev AK:PX := .l 17
abbrev Dr:PX := .l 18
abbrev B3:PX := .l 19
abbrev DT:PX := .l 20
abbrev C8:PX := .l 21
abbrev Fk:PX := .l 22
abbrev C9:PX := .l 23
abbrev CA:PX := .l 24
abbrev FZ:PX := .l 25
abbrev F0:PX := .l 26
abbrev Cl:PX := .l 27
abbrev I9:PX := .l 28
abbrev Ja:PX := .l 29
abbrev Ln:PX := .l 30
abbrev Lm:PX := .l 31
abbrev Pz:PX := .l 32
abbrev PA:PX := .l 33
abbrev BE:PX := .l 34
abbrev PB:PX := .l 35
abbrev PE:PX := .l 36
abbrev l37:PX := .l 37
abbrev l38:PX := .l 38
abbrev l39:PX := .l 39
abbrev l40:PX := .l 40
abbrev l41:PX := .l 41
abbrev l42:PX := .l 42
abbrev l43:PX := .l 43
abbrev l44:PX := .l 44
abbrev l45:PX := .l 45
abbrev l46:PX := .l 46
abbrev l47:PX := .l 47
abbrev l48:PX := .l 48
abbrev l49:PX := .l 49
abbrev l50:PX := .l 50
abbrev l51:PX := .l 51
abbrev l52:PX := .l 52
abbrev T:PX := .c (.bool true)
abbrev F:PX := .c (.bool false)
abbrev k (n:Int):PX := .c (.int .i64 n)
abbrev p (o:POp):PO:=⟨.l,o,none⟩
abbrev q (i:Nat) (o:POp):PO:=⟨.v i,o,none⟩
abbrev r (o:POp):PO:=⟨.n,o,none⟩
abbrev t (i:Nat) (x:PX):PO:=⟨.v i,.take x,none⟩
abbrev g1 (o:POp) (x:PX):PO:=⟨.l,o,some (x,true)⟩
abbrev g0 (o:POp) (x:PX):PO:=⟨.l,o,some (x,false)⟩
abbrev G1 (i:Nat) (o:POp) (x:PX):PO:=⟨.v i,o,some (x,true)⟩
abbrev G0 (i:Nat) (o:POp) (x:PX):PO:=⟨.v i,o,some (x,false)⟩
abbrev m (x:PX):PO:=⟨.l,.mov x,none⟩
abbrev a (o:Nat) (x:PX):PO:=⟨.l,.faddr o x,none⟩
abbrev d (x:PX):PO:=⟨.l,.load 1 false x false,none⟩
abbrev D (n:Nat) (x:PX):PO:=⟨.l,.load n true x false,none⟩
abbrev e (x:PX):PO:=⟨.l,.h (.load 1 false x false),none⟩
abbrev e2 (n:Nat) (x:PX):PO:=⟨.l,.h (.load n true x false),none⟩
abbrev c (x:PX):PO:=⟨.l,.h (.loadc 1 false x),none⟩
abbrev C (n:Nat) (x:PX):PO:=⟨.l,.h (.loadc n true x),none⟩
abbrev n (x:PX):PO:=⟨.l,.len false x,none⟩
abbrev b (o:BinOp) (x y:PX):PO:=⟨.l,.bin o x y,none⟩
abbrev i (s:Nat) (x y:PX):PO:=⟨.l,.iaddrS s x y,none⟩
abbrev f (j:Nat) (xs:List PX):PO:=⟨.l,.pcall j xs,none⟩
abbrev fb (j:Nat) (xs:List PX):PO:=⟨.l,.h (.bcall j xs),none⟩
abbrev fh (j:Nat) (xs:List PX):PO:=⟨.l,.h (.call j xs),none⟩
abbrev R:=PC.region
abbrev B:=PC.branch
abbrev E:=PC.bregion
abbrev H:=PC.bbranch
abbrev S:=PC.seq
abbrev K:=PC.block
abbrev X:=PC.exit
abbrev Z:=PC.skip
abbrev Y:=PC.ret
end PI.Short
