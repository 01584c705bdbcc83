import Derived.Test.YtljbhgpanekomaaGreatDoorPiLaw2
import Derived.Carry
import Derived.ChangeSame
import Derived.OpenShut
set_option linter.unusedSimpArgs false
set_option linter.unusedVariables false
set_option linter.unusedSectionVars false
namespace PI
open Go Go.RowKit Go.WideShapes Go.ChangeShapes
section
variable {H:Type} {enc:TypeId×Value→H} {P:Program} {W:World} {base':Nat} {N:Nm} {D:Nat→TyD} {tm:Nat→TypeId}
def Ex (D:Nat→TyD):List Nat→List PV→Prop
 | [],[]=>True
 | i::is,p::ps=>Sh D i p∧Ex D is ps
 | _,_=>False
theorem K3 {n:Nat} {r:Reach} {spare:Nat→Bool} {held:Bool} {base:Nat} (hM:∀i,i<n→Cy P D tm n i=true):
  ∀{idxs:List Nat} {vs:List Value} {ds:List (DataW H)} {p:List MemPlace},(∀i∈idxs,i<n) →
  (∀(j:Nat) (t:TypeId) (v:Value),(idxs.map tm)[j]? = some t→vs[j]? = some v→Value.okWide P W r base' t v) →
  DataW.TrodAll enc P W base spare held (idxs.map tm) vs ds p→(DataW.weightsEach P (idxs.map tm) ds).all (·≤reachBytes)=true →
  ∃ pvs : List PV, vs.length = pvs.length ∧ ds.length = idxs.length ∧ wts pvs ≤ B8 ds ∧ Ex D idxs pvs ∧
    ∀(j:Nat) (v:Value) (p:PV),vs[j]? = some v→pvs[j]? = some p→VR N W (As W) (λ_=>none) v p
 | [], vs, ds, p, _, _, h, _ => by
   obtain⟨rfl,rfl,rfl⟩:=trodAll_nil h
   exact⟨[],rfl,rfl,by simp[wts],trivial,by simp⟩
 | i :: is, vs, ds, p, hi, hv, h, iB => by
   obtain⟨v,vs',d,ds',p1,q1,rfl,rfl,rfl,h1,h2⟩:=trodAll_cons h
   simp only[aC,DataW.weightsEach,cj,al] at iB
   obtain⟨pvs,a1,a2,a3,a4,a5⟩:=K3 hM (λj hj=>hi j (bC _ hj)) (λj t u ht hu=>hv (j+1) t u (by simpa using ht) (by simpa using hu)) h2 iB.2
   obtain⟨pv,b1,b2⟩:=c8e (N:=N) hM (hi i (bW ..)) (hv 0 (tm i) v rfl rfl) h1 iB.1
   refine⟨pv::pvs,by simp[a1],by simp[a2],by simp only[wts,B8]; omega,⟨b1.1,a4⟩,?_⟩
   intro j u q hu hq
   cases j with
   | zero=>simp at hu hq; subst hu hq; exact b2
   | succ j=>exact a5 j u q (by simpa using hu) (by simpa using hq)
theorem La {W':World} (hl:laidOutB P=true) (hb:Below W.heap.size W W') {sp:Nat→Bool}:
  ∀{ts:List TypeId} {vs:List Value} {ds:List (DataW H)} {p:List MemPlace},(∀t∈ts,P.readableRec t=true∧t<P.types.size) →
  (∀x∈p,x.block<W.heap.size)→(∀x∈p,sp x.block=true) →
  DataW.TrodAll enc P W 0 (λ_=>true) true ts vs ds p→DataW.TrodAll enc P W' 0 sp true ts vs ds p
 | [], vs, ds, p, _, _, _, h => by
   obtain⟨rfl,rfl,rfl⟩:=trodAll_nil h
   exact rfl
 | t :: ts, vs, ds, p, ht, cQ, gt, h => by
   obtain⟨v,vs',d,ds',p1,q1,rfl,rfl,rfl,h1,h2⟩:=trodAll_cons h
   have:=ht t (bW ..)
   exact trodAll_cons_mk (WideElems.Trod_stays hl this.1 this.2 h1 (λx hx=>hb.same (cQ x (bq _ hx))) (λx hx=>gt x (bq _ hx)))
    (La hl hb (λt' h'=>ht t' (bC _ h')) (λx hx=>cQ x (bG _ hx)) (λx hx=>gt x (bG _ hx)) h2)
theorem b5a {ts us:List TypeId} {ds:List (DataW H)}:∀(_:ts.length=ds.length),(DataW.weightsEach P (ts++us) ds).all (·≤reachBytes)=true→(DataW.weightsEach P ts ds).all (·≤reachBytes)=true:=by
 induction ts generalizing ds with
 | nil=>intro _ _; simp[DataW.weightsEach]
 | cons t ts ih =>
   intro hl h
   cases ds with
   | nil=>simp[DataW.weightsEach]
   | cons d ds =>
     simp only[aJ,DataW.weightsEach,cj,al] at h ⊢
     exact⟨h.1,ih (by simpa using hl) h.2⟩
theorem Lb {base:Nat} {spare:Nat→Bool} {held:Bool}:∀{ts:List TypeId} {vs:List Value} {ds:List (DataW H)} {p:List MemPlace},DataW.TrodAll enc P W base spare held ts vs ds p→ts.length=ds.length
 | [],vs,ds,p,h=>by obtain⟨rfl,rfl,rfl⟩:=trodAll_nil h; rfl
 | t :: ts, vs, ds, p, h => by
   obtain⟨v,vs',d,ds',p1,q1,rfl,rfl,rfl,h1,h2⟩:=trodAll_cons h
   simp[Lb h2]
theorem b6W {E:Env} {L:Nat→Option PFunc} (hE:EnvOk E N) (hP:E.P=P) (dq:P.follows .mixedOrders=true) (hL:∀k pf,L k=some pf→FnS E N k pf) (hT:∀t∈N.tabs,W.cell? ⟨t.1,t.2.1,none⟩=some t.2.2) (nf:∀r∈N.rows,W.shape? r.1=some r.2)
  {n k:Nat} (hM:∀i,i<n→Cy P D tm n i=true) (nN:laidOutB P=true) {f:Func} {s:ChangeSpec} {idxs:List Nat} {tb:TypeId}
  (kV:f.params.toList=idxs.map tm) (jr:∀i∈idxs,i<n∧P.readableRec (tm i)=true∧tm i<P.types.size) (lE:s.vars=[])
  (sV:P.underlying tb=some .bool) (dt:f.resultTypes = #[tb]) (nO:∀ds:List (DataW H),ds.length=idxs.length→s.fn H ds={ results:=[.lit (.bool true)],args:=ds })
  {Dx BH kW again:Bool} {args:Array Value} {ds gs:List (DataW H)} {before:List MemPlace}
  (eh:∀(j:Nat) (t:TypeId) (v:Value),f.params[j]? = some t→args[j]? = some v→Value.okWide P W .any base' t v)
  (hW:DataW.Whole enc P f.params.toList s.vars Dx W args.toList ds gs before)
  (iB:(DataW.weightsEach P (f.params.toList++s.plain.varTypes P) (ds++gs)).all (·≤reachBytes)=true)
  (qC:∀pvs:List PV,Ex D idxs pvs→wts pvs≤B8 (ds++gs)→∃m h',call L m k pvs []=some (.bool true,h')):
  Calls P (N.fn k) args W λe W'=>∃v,e = .returned v∧s.post enc P f Dx BH kW again W args v W':=by
 have sW:=hW
 rw[lE] at hW
 obtain⟨p,q,hA,hV,rfl,uf,dl⟩:=hW
 obtain⟨rfl,rfl⟩:=trodVars_none hV
 rw[kV] at hA
 obtain⟨pvs,a1,a2,a3,a4,a5⟩:=K3 (N:=N) (n:=n) (base':=base') hM (λi hi=>(jr i hi).1) (λj t v ht hv=>eh j t v (by rw[← kV] at ht; simpa using ht) (by simpa using hv)) hA (by rw[aV,kV] at iB; exact b5a (by simpa using Lb hA) iB)
 obtain⟨m,h',cO⟩:=qC pvs a4 (by simpa using a3)
 refine(c1W (W:=W) hE hP dq hL hT nf cO (by simpa using a1) (λi v p hv hp=>a5 i v p (by simpa using hv) hp)).mono ?_
 rintro e W' ⟨rfl,hb⟩
 refine⟨_,rfl,?_⟩
 have mf:∀x∈p,x.block<W.heap.size:=λx hx=>sW.lt x (by simpa using hx)
 have eo:∀t∈idxs.map tm,P.readableRec t=true∧t<P.types.size:=by
  intro t ht
  obtain⟨i,hi,rfl⟩:=bl.1 ht
  exact(jr i hi).2
 have du:∀sp:Nat→Bool,(∀x∈p,sp x.block=true)→DataW.TrodAll enc P W' 0 sp true f.params.toList args.toList ds p:=λsp gt=>by
  rw[kV]; exact La nN hb eo mf gt hA
 have hr:s.fn H (ds++[])={ results:=[.lit (.bool true)],args:=ds }:=by rw[aV]; exact nO ds a2
 have lF:∀(b:Nat) (sp:Nat→Bool) (hd:Bool),DataW.TrodAll enc P W' b sp hd f.resultTypes.toList ((Value.bool true).resultList f.resultTypes.size) (s.fn H (ds++[])).results []:=by
  intro b sp hd
  rw[dt,hr]
  exact trodAll_cons_mk (shut_bool sV _) trodAll_mk0
 have iW:∀sp:Nat→Bool,DataW.TrodVars enc P W' sp s.vars (s.fn H (ds++[])).vars []:=by
  intro sp; rw[lE,hr]; rfl
 have sX:∀sp:Nat→Bool,(∀x∈p,sp x.block=true)→DataW.TrodAll enc P W' 0 sp true f.params.toList args.toList (s.fn H (ds++[])).args p:=by
  intro sp gt; rw[hr]; exact du sp gt
 refine⟨ds,[],p++[],[],p,[],sW,lF _ _ _,sX _ (λx hx=>by simpa using mf x hx),iW _,hb.frame _,λ_ =>?_⟩
 refine⟨ok_one dt rfl (okWide_bool_mk sV _),_,_,([]++p)++[],⟨[]++p,[],trodAll_append (sX _ (λ_ _=>rfl)) (lF _ _ _),iW _,rfl,?_,?_⟩,?_⟩
 ·intro b off hp
  have cQ:=mf _ (by simpa using hp)
  rw[hb.frozen (p:=⟨b,off,none⟩) cQ]
  exact uf b off (by simpa using hp)
 ·intro ha
  simpa using dl ha
 ·intro x hx _
  simpa using hx
end
section
variable {D:Nat→TyD} {i:Nat} {p:PV}
theorem Sh.inv_int {k:IntKind} (hd:D i = .int k) (h:Sh D i p):∃n,p = .int k n∧k.min≤n∧n≤k.max:=by
 cases h with
 | bool _ b h=>rw[hd] at h; cases h
 | int _ k n h h1 h2=>rw[hd] at h; cases h; exact⟨n,rfl,h1,h2⟩
 | str _ s h=>rw[hd] at h; cases h
 | slice _ e b es h=>rw[hd] at h; cases h
 | struct _ fs ps h=>rw[hd] at h; cases h
theorem Sh.inv_str (hd:D i = .str) (h:Sh D i p):∃s,p = .str s∧s.length≤9223372036854775807:=by
 cases h with
 | bool _ b h=>rw[hd] at h; cases h
 | int _ k n h=>rw[hd] at h; cases h
 | str _ s _ hl=>exact⟨s,rfl,hl⟩
 | slice _ e b es h=>rw[hd] at h; cases h
 | struct _ fs ps h=>rw[hd] at h; cases h
theorem Sh.inv_slice {e b:Nat} (hd:D i = .slice e b) (h:Sh D i p):∃es,p = .list false es∧es.length≤9223372036854775807∧es.length*b≤140737488351232∧∀x∈es,Sh D e x:=by
 cases h with
 | bool _ b h=>rw[hd] at h; cases h
 | int _ k n h=>rw[hd] at h; cases h
 | str _ s h=>rw[hd] at h; cases h
 | slice _ e b es h hl hb hs=>rw[hd] at h; cases h; exact⟨es,rfl,hl,hb,hs⟩
 | struct _ fs ps h=>rw[hd] at h; cases h
theorem Sh.inv_struct {fs:List Nat} (hd:D i = .struct fs) (h:Sh D i p):∃ps:List PV,p = .agg (ps.flatMap PV.cells)∧Ex D fs ps:=by
 cases h with
 | bool _ b h=>rw[hd] at h; cases h
 | int _ k n h=>rw[hd] at h; cases h
 | str _ s h=>rw[hd] at h; cases h
 | slice _ e b es h=>rw[hd] at h; cases h
 | struct _ fs' ps h hl hs =>
   rw[hd] at h; cases h
   refine⟨ps,rfl,?_⟩
   clear hd
   induction fs generalizing ps with
   | nil =>
     cases ps with
     | nil=>trivial
     | cons p ps=>simp at hl
   | cons f fs ih =>
     cases ps with
     | nil=>simp at hl
     | cons p ps=>exact⟨hs 0 f p rfl rfl,ih ps (by simpa using hl) (λj f' p' hf hp=>hs (j+1) f' p' (by simpa using hf) (by simpa using hp))⟩
end
end PI
