import Derived.Test.YtljbhgpanekomaaGreatPiLaw2
import Derived.Carry
import Derived.ChangeSame
import Derived.OpenShut
set_option linter.unusedSimpArgs false
set_option linter.unusedVariables false
set_option linter.unusedSectionVars false
namespace PI
open Go Go.RowKit Go.WideShapes Go.ChangeShapes
section
variable {H:Type} {enc:TypeId×Value→H} {P:Program} {W:World} {base':Nat} {N:Nm} {D:Nat→TyD} {tm:Nat→TypeId}
def E4 (D:Nat→TyD):List Nat→List PV→Prop
 | [],[]=>True
 | i::is,p::ps=>Sh D i p∧E4 D is ps
 | _,_=>False
theorem Pq {n:Nat} {r:Reach} {spare:Nat→Bool} {held:Bool} {base:Nat} (hM:∀i,i<n→CJ P D tm n i=true):
  ∀{idxs:List Nat} {vs:List Value} {ds:List (DataW H)} {p:List MemPlace},(∀i∈idxs,i<n) →
  (∀(j:Nat) (t:TypeId) (v:Value),(idxs.map tm)[j]? = some t→vs[j]? = some v→Value.okWide P W r base' t v) →
  DataW.TrodAll enc P W base spare held (idxs.map tm) vs ds p→(DataW.weightsEach P (idxs.map tm) ds).all (·≤reachBytes)=true →
  ∃ pvs : List PV, vs.length = pvs.length ∧ ds.length = idxs.length ∧ wts pvs ≤ Bh ds ∧ E4 D idxs pvs ∧
    ∀(j:Nat) (v:Value) (p:PV),vs[j]? = some v→pvs[j]? = some p→VR N W (AU W) (λ_=>none) v p
 | [], vs, ds, p, _, _, h, _ => by
   obtain⟨rfl,rfl,rfl⟩:=trodAll_nil h
   exact⟨[],rfl,rfl,by simp[wts],trivial,by simp⟩
 | i :: is, vs, ds, p, hi, hv, h, iH => by
   obtain⟨v,vs',d,ds',p1,q1,rfl,rfl,rfl,h1,h2⟩:=trodAll_cons h
   simp only[ax,DataW.weightsEach,ct,ak] at iH
   obtain⟨pvs,a1,a2,a3,a4,a5⟩:=Pq hM (λj hj=>hi j (bx _ hj)) (λj t u ht hu=>hv (j+1) t u (by simpa using ht) (by simpa using hu)) h2 iH.2
   obtain⟨pv,b1,b2⟩:=d07 (N:=N) hM (hi i (b8 ..)) (hv 0 (tm i) v rfl rfl) h1 iH.1
   refine⟨pv::pvs,by simp[a1],by simp[a2],by simp only[wts,Bh]; omega,⟨b1.1,a4⟩,?_⟩
   intro j u q hu hq
   cases j with
   | zero=>simp at hu hq; subst hu hq; exact b2
   | succ j=>exact a5 j u q (by simpa using hu) (by simpa using hq)
theorem Pt {W':World} (hl:laidOutB P=true) (hb:Below W.heap.size W W') {sp:Nat→Bool}:
  ∀{ts:List TypeId} {vs:List Value} {ds:List (DataW H)} {p:List MemPlace},(∀t∈ts,P.readableRec t=true∧t<P.types.size) →
  (∀x∈p,x.block<W.heap.size)→(∀x∈p,sp x.block=true) →
  DataW.TrodAll enc P W 0 (λ_=>true) true ts vs ds p→DataW.TrodAll enc P W' 0 sp true ts vs ds p
 | [], vs, ds, p, _, _, _, h => by
   obtain⟨rfl,rfl,rfl⟩:=trodAll_nil h
   exact rfl
 | t :: ts, vs, ds, p, ht, cS, gO, h => by
   obtain⟨v,vs',d,ds',p1,q1,rfl,rfl,rfl,h1,h2⟩:=trodAll_cons h
   have:=ht t (b8 ..)
   exact trodAll_cons_mk (WideElems.Trod_stays hl this.1 this.2 h1 (λx hx=>hb.same (cS x (b9 _ hx))) (λx hx=>gO x (b9 _ hx)))
    (Pt hl hb (λt' h'=>ht t' (bx _ h')) (λx hx=>cS x (b6 _ hx)) (λx hx=>gO x (b6 _ hx)) h2)
theorem b6Y {ts us:List TypeId} {ds:List (DataW H)}:∀(_:ts.length=ds.length),(DataW.weightsEach P (ts++us) ds).all (·≤reachBytes)=true→(DataW.weightsEach P ts ds).all (·≤reachBytes)=true:=by
 induction ts generalizing ds with
 | nil=>intro _ _; simp[DataW.weightsEach]
 | cons t ts ih =>
   intro hl h
   cases ds with
   | nil=>simp[DataW.weightsEach]
   | cons d ds =>
     simp only[aL,DataW.weightsEach,ct,ak] at h ⊢
     exact⟨h.1,ih (by simpa using hl) h.2⟩
theorem Pu {base:Nat} {spare:Nat→Bool} {held:Bool}:∀{ts:List TypeId} {vs:List Value} {ds:List (DataW H)} {p:List MemPlace},DataW.TrodAll enc P W base spare held ts vs ds p→ts.length=ds.length
 | [],vs,ds,p,h=>by obtain⟨rfl,rfl,rfl⟩:=trodAll_nil h; rfl
 | t :: ts, vs, ds, p, h => by
   obtain⟨v,vs',d,ds',p1,q1,rfl,rfl,rfl,h1,h2⟩:=trodAll_cons h
   simp[Pu h2]
theorem b8J {E:Env} {L:Nat→Option PFunc} (hE:EnvOk E N) (hP:E.P=P) (dz:P.follows .mixedOrders=true) (hL:∀k pf,L k=some pf→FnS E N k pf) (hT:∀t∈N.tabs,W.cell? ⟨t.1,t.2.1,none⟩=some t.2.2) (nz:∀r∈N.rows,W.shape? r.1=some r.2)
  {n k:Nat} (hM:∀i,i<n→CJ P D tm n i=true) (oI:laidOutB P=true) {f:Func} {s:ChangeSpec} {idxs:List Nat} {tb:TypeId}
  (lu:f.params.toList=idxs.map tm) (jB:∀i∈idxs,i<n∧P.readableRec (tm i)=true∧tm i<P.types.size) (lO:s.vars=[])
  (tD:P.underlying tb=some .bool) (dN:f.resultTypes = #[tb]) (oJ:∀ds:List (DataW H),ds.length=idxs.length→s.fn H ds={ results:=[.lit (.bool true)],args:=ds })
  {Ef fresh lw again:Bool} {args:Array Value} {ds gs:List (DataW H)} {before:List MemPlace}
  (em:∀(j:Nat) (t:TypeId) (v:Value),f.params[j]? = some t→args[j]? = some v→Value.okWide P W .any base' t v)
  (hW:DataW.Whole enc P f.params.toList s.vars Ef W args.toList ds gs before)
  (iH:(DataW.weightsEach P (f.params.toList++s.plain.varTypes P) (ds++gs)).all (·≤reachBytes)=true)
  (rj:∀pvs:List PV,E4 D idxs pvs→wts pvs≤Bh (ds++gs)→∃m h',call L m k pvs []=some (.bool true,h')):
  Calls P (N.fn k) args W λe W'=>∃v,e = .returned v∧s.post enc P f Ef fresh lw again W args v W':=by
 have tE:=hW
 rw[lO] at hW
 obtain⟨p,q,hA,hV,rfl,qP,dr⟩:=hW
 obtain⟨rfl,rfl⟩:=trodVars_none hV
 rw[lu] at hA
 obtain⟨pvs,a1,a2,a3,a4,a5⟩:=Pq (N:=N) (n:=n) (base':=base') hM (λi hi=>(jB i hi).1) (λj t v ht hv=>em j t v (by rw[← lu] at ht; simpa using ht) (by simpa using hv)) hA (by rw[bh,lu] at iH; exact b6Y (by simpa using Pu hA) iH)
 obtain⟨m,h',cQ⟩:=rj pvs a4 (by simpa using a3)
 refine(c4s (W:=W) hE hP dz hL hT nz cQ (by simpa using a1) (λi v p hv hp=>a5 i v p (by simpa using hv) hp)).mono ?_
 rintro e W' ⟨rfl,hb⟩
 refine⟨_,rfl,?_⟩
 have mF:∀x∈p,x.block<W.heap.size:=λx hx=>tE.lt x (by simpa using hx)
 have eo:∀t∈idxs.map tm,P.readableRec t=true∧t<P.types.size:=by
  intro t ht
  obtain⟨i,hi,rfl⟩:=bc.1 ht
  exact(jB i hi).2
 have dC:∀sp:Nat→Bool,(∀x∈p,sp x.block=true)→DataW.TrodAll enc P W' 0 sp true f.params.toList args.toList ds p:=λsp gO=>by
  rw[lu]; exact Pt oI hb eo mF gO hA
 have hr:s.fn H (ds++[])={ results:=[.lit (.bool true)],args:=ds }:=by rw[bh]; exact oJ ds a2
 have lP:∀(b:Nat) (sp:Nat→Bool) (hd:Bool),DataW.TrodAll enc P W' b sp hd f.resultTypes.toList ((Value.bool true).resultList f.resultTypes.size) (s.fn H (ds++[])).results []:=by
  intro b sp hd
  rw[dN,hr]
  exact trodAll_cons_mk (shut_bool tD _) trodAll_mk0
 have jg:∀sp:Nat→Bool,DataW.TrodVars enc P W' sp s.vars (s.fn H (ds++[])).vars []:=by
  intro sp; rw[lO,hr]; rfl
 have tF:∀sp:Nat→Bool,(∀x∈p,sp x.block=true)→DataW.TrodAll enc P W' 0 sp true f.params.toList args.toList (s.fn H (ds++[])).args p:=by
  intro sp gO; rw[hr]; exact dC sp gO
 refine⟨ds,[],p++[],[],p,[],tE,lP _ _ _,tF _ (λx hx=>by simpa using mF x hx),jg _,hb.frame _,λ_ =>?_⟩
 refine⟨ok_one dN rfl (okWide_bool_mk tD _),_,_,([]++p)++[],⟨[]++p,[],trodAll_append (tF _ (λ_ _=>rfl)) (lP _ _ _),jg _,rfl,?_,?_⟩,?_⟩
 ·intro b off hp
  have cS:=mF _ (by simpa using hp)
  rw[hb.frozen (p:=⟨b,off,none⟩) cS]
  exact qP b off (by simpa using hp)
 ·intro ha
  simpa using dr ha
 ·intro x hx _
  simpa using hx
end
section
variable {D:Nat→TyD} {i:Nat} {p:PV}
theorem Sh.inv_int {k:IntKind} (hd:D i = .int k) (h:Sh D i p):∃n,p = .int k n∧k.min≤n∧n≤k.max:=by
 cases h with
 | bool _ b h=>rw[hd] at h; cases h
 | int _ k n h h1 h2=>rw[hd] at h; cases h; exact⟨n,rfl,h1,h2⟩
 | str _ s h=>rw[hd] at h; cases h
 | slice _ e b es h=>rw[hd] at h; cases h
 | struct _ fs ps h=>rw[hd] at h; cases h
theorem Sh.inv_str (hd:D i = .str) (h:Sh D i p):∃s,p = .str s∧s.length≤9223372036854775807:=by
 cases h with
 | bool _ b h=>rw[hd] at h; cases h
 | int _ k n h=>rw[hd] at h; cases h
 | str _ s _ hl=>exact⟨s,rfl,hl⟩
 | slice _ e b es h=>rw[hd] at h; cases h
 | struct _ fs ps h=>rw[hd] at h; cases h
theorem Sh.inv_slice {e b:Nat} (hd:D i = .slice e b) (h:Sh D i p):∃es,p = .list false es∧es.length≤9223372036854775807∧es.length*b≤140737488351232∧∀x∈es,Sh D e x:=by
 cases h with
 | bool _ b h=>rw[hd] at h; cases h
 | int _ k n h=>rw[hd] at h; cases h
 | str _ s h=>rw[hd] at h; cases h
 | slice _ e b es h hl hb hs=>rw[hd] at h; cases h; exact⟨es,rfl,hl,hb,hs⟩
 | struct _ fs ps h=>rw[hd] at h; cases h
theorem Sh.inv_struct {fs:List Nat} (hd:D i = .struct fs) (h:Sh D i p):∃ps:List PV,p = .agg (ps.flatMap PV.cells)∧E4 D fs ps:=by
 cases h with
 | bool _ b h=>rw[hd] at h; cases h
 | int _ k n h=>rw[hd] at h; cases h
 | str _ s h=>rw[hd] at h; cases h
 | slice _ e b es h=>rw[hd] at h; cases h
 | struct _ fs' ps h hl hs =>
   rw[hd] at h; cases h
   refine⟨ps,rfl,?_⟩
   clear hd
   induction fs generalizing ps with
   | nil =>
     cases ps with
     | nil=>trivial
     | cons p ps=>simp at hl
   | cons f fs ih =>
     cases ps with
     | nil=>simp at hl
     | cons p ps=>exact⟨hs 0 f p rfl rfl,ih ps (by simpa using hl) (λj f' p' hf hp=>hs (j+1) f' p' (by simpa using hf) (by simpa using hp))⟩
end
end PI
