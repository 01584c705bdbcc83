import Derived.Test.YtljbhgpanekomaaGreatDoorPiBase
set_option linter.unusedSimpArgs false
set_option linter.unusedVariables false
set_option linter.unusedSectionVars false
namespace PI
def A1 (cf cf':vZ):Prop:=∀k args h r,cf k args h=some r→cf' k args h=some r
theorem b9V {cf cf':vZ} (hc:A1 cf cf') {o:HOp} {st:St} {r} (h:vW cf o st=some r):vW cf' o st=some r:=by
 cases o<;>try exact h
 case call k args=>
  simp only[vW,af,ab] at h ⊢
  obtain⟨vs,h1,q,h2,h3⟩:=h
  exact⟨vs,h1,q,hc _ _ _ _ h2,h3⟩
 case rcall k args=>
  simp only[vW,af] at h ⊢
  obtain⟨vs,h1,q,h2,h3⟩:=h
  exact⟨vs,h1,q,hc _ _ _ _ h2,h3⟩
 case callv x args=>
  simp only[vW] at h ⊢
  split at h
  ·simp only[ab] at h ⊢
   obtain⟨q,h2,h3⟩:=h
   exact⟨q,hc _ _ _ _ h2,h3⟩
  ·simp at h
theorem LL {cf cf':vZ} (hc:A1 cf cf') {o:POp} {st:St} {r} (h:opv cf o st=some r):opv cf' o st=some r:=by
 cases o<;>try exact h
 case h o=>exact b9V hc h
 case pcall k args=>
  simp only[opv] at h ⊢
  split at h
  ·split at h
   ·rename_i hr
    simp only[hr,if_true]
    split at h
    ·rename_i hx; rw[hc _ _ _ _ hx]; exact h
    ·simp at h
   ·simp at h
  ·simp at h
 case pcallx k args own=>
  simp only[opv] at h ⊢
  cases own with
  | none =>
    simp only at h ⊢
    split at h
    ·split at h
     ·rename_i hr
      simp only[hr,if_true]
      split at h
      ·rename_i hx; rw[hc _ _ _ _ hx]; exact h
      ·simp at h
     ·simp at h
    ·simp at h
  | some i =>
    simp only at h ⊢
    split at h
    ·split at h
     ·rename_i hr
      rw[ah hr]
      split at h
      ·rename_i hx; rw[hc _ _ _ _ hx]; exact h
      ·simp at h
     ·simp at h
    ·simp at h
 case callv x args=>
  simp only[opv] at h ⊢
  split at h
  ·split at h
   ·rename_i hr
    simp only[hr,if_true]
    split at h
    ·rename_i hx; rw[hc _ _ _ _ hx]; exact h
    ·simp at h
   ·simp at h
  ·simp at h
theorem Ih {cf cf':vZ} (hc:A1 cf cf') {j:Nat} {o:PO} {st:St} {r} (h:xn cf j o st=some r):xn cf' j o st=some r:=by
 simp only[xn] at h ⊢
 split at h
 ·simp only[ab] at h ⊢
  obtain⟨a,h1,h2⟩:=h
  exact⟨a,LL hc h1,h2⟩
 ·split at h
  ·split at h
   ·rename_i hb
    simp only[ah hb,ab] at h ⊢
    obtain⟨a,h1,h2⟩:=h
    exact⟨a,LL hc h1,h2⟩
   ·rename_i hb
    rw[ae hb]; exact h
  ·exact h
  ·simp at h
theorem FP {cf cf':vZ} (hc:A1 cf cf'):∀{os:List PO} {j:Nat} {st:St} {r},yc cf j os st=some r→yc cf' j os st=some r
 | [],_,_,_,h=>h
 | o :: os, j, st, r, h => by
   simp only[yc,af] at h ⊢
   obtain⟨a,h1,h2⟩:=h
   exact⟨a,Ih hc h1,FP hc h2⟩
theorem Du {cf cf':vZ} (hc:A1 cf cf') {os:List PO} {st:St} {r} (h:x6 cf os st=some r):x6 cf' os st=some r:=FP hc h
def Dv (ob ob':xF):Prop:=∀k args h r,ob k args h=some r→ob' k args h=some r
theorem b33 {ex ex':PC→St→Option (PExit×St)} (he:∀c st r,ex c st=some r→ex' c st=some r) {nv:Nat} {a b:PC} {args:List PV} {h:List PObj} {r} (hr:zM ex nv a b args h=some r):zM ex' nv a b args h=some r:=by
 unfold zM at hr ⊢
 split at hr
 ·split at hr
  ·rename_i h1 h2
   simp only[h1,he _ _ _ h2]
   split at hr
   all_goals first
    | (rename_i h3 h4; simp only[h3,he _ _ _ h4]; exact hr)
    | simp at hr
  ·simp at hr
 ·simp at hr
theorem LM {ex ex':PC→St→Option (PExit×St)} (he:∀c st r,ex c st=some r→ex' c st=some r) {dfr} {f:PFunc} {args:List PV} {h:List PObj} {r} (hr:yA ex dfr f args h=some r):yA ex' dfr f args h=some r:=by
 unfold yA at hr ⊢
 split at hr
 ·exact b33 he hr
 ·split at hr
  ·rename_i hx; rw[he _ _ _ hx]; exact hr
  ·rename_i hx; rw[he _ _ _ hx]; exact hr
  ·rename_i hx; rw[he _ _ _ hx]; exact hr
  ·rename_i hx; rw[he _ _ _ hx]; exact hr
  ·simp at hr
theorem Ep {x:Option (Out×List PObj)} {r}:Fq x=some r↔x=some (.val r.1,r.2):=by
 obtain⟨v,h⟩:=r
 unfold Fq
 split
 ·simp
 ·rename_i c9
  constructor
  ·intro e; cases e
  ·intro e; exact absurd e (c9 v h)
theorem Eq {ex ex':PC→St→Option (PExit×St)} (he:∀c st r,ex c st=some r→ex' c st=some r) {dfr} {f:PFunc} {args:List PV} {h:List PObj} {r} (hr:zd ex dfr f args h=some r):zd ex' dfr f args h=some r:=by
 simp only[zd] at hr ⊢
 split at hr
 ·simp at hr
 ·rename_i hn
  rw[ae hn]
  rw[Ep] at hr ⊢
  exact LM he hr
theorem AY {a b:Option (PV×List PObj)} {r}:B3 a b=some r↔a=some r∧b=some r:=by
 unfold B3
 constructor
 ·intro h
  split at h
  ·rename_i he; exact⟨h,he▸h⟩
  ·simp at h
 ·rintro⟨rfl,rfl⟩; simp
theorem Er {ex ex':PC→St→Option (PExit×St)} (he:∀c st r,ex c st=some r→ex' c st=some r) {f:PFunc} {o:Option Nat} {args:List PV} {h:List PObj} {r} (hr:zj ex f o args h=some r):zj ex' f o args h=some r:=by
 unfold zj at hr ⊢
 split at hr
 ·simp at hr
 ·rename_i hn
  rw[ae hn]
  split at hr
  ·rename_i hx; rw[he _ _ _ hx]; exact hr
  ·rename_i hx; rw[he _ _ _ hx]; exact hr
  ·simp at hr
theorem b5c {ex ex':PC→St→Option (PExit×St)} (he:∀c st r,ex c st=some r→ex' c st=some r) {f:PFunc} {args:List PV} {h:List PObj} {r} (hr:Ap ex f args h=some r):Ap ex' f args h=some r:=by
 unfold Ap at hr ⊢
 split at hr
 ·split at hr
  ·rename_i hd
   try simp only[hd]
   split at hr
   ·rename_i hl
    rw[ah hl]
    split at hr
    ·rename_i hs
     rw[AY] at hr
     rw[ah hs,AY]
     exact⟨Er he hr.1,Er he hr.2⟩
    ·rename_i hs
     rw[ae hs]
     exact Er he hr
   ·simp at hr
  ·simp at hr
 ·simp at hr
theorem Ii {ex ex':PC→St→Option (PExit×St)} (he:∀c st r,ex c st=some r→ex' c st=some r) (L:Nat→Option PFunc):A1 (xx ex L) (xx ex' L):=by
 intro k args h r hr
 simp only[xx] at hr ⊢
 split at hr
 ·simp at hr
 ·split at hr
  ·rename_i hl
   simp only[ah hl]
   split at hr
   ·exact hr
   split at hr
   ·rename_i hs
    rw[AY] at hr
    rw[ah hs,AY]
    exact⟨Eq he hr.1,Eq he hr.2⟩
   ·rename_i hs
    rw[ae hs]
    exact Eq he hr
  ·rename_i hl
   rw[ae hl]
   exact b5c he hr
theorem Ij {ex ex':PC→St→Option (PExit×St)} (he:∀c st r,ex c st=some r→ex' c st=some r) (L:Nat→Option PFunc):Dv (xK ex L) (xK ex' L):=by
 intro k args h r hr
 simp only[xK] at hr ⊢
 split at hr
 ·simp at hr
 ·split at hr
  ·rename_i hl
   simp only[ah hl]
   split at hr
   ·exact hr
   ·exact LM he hr
  ·simp at hr
theorem Ik {cf cf':vZ} {ob ob':xF} (hc:A1 cf cf') (hb:Dv ob ob') {j:Nat} {o:PO} {st:St} {r} (h:xX cf ob j o st=some r):xX cf' ob' j o st=some r:=by
 unfold xX at h ⊢
 split at h
 ·split at h
  ·rename_i vs lE
   split at h
   ·rename_i h1; simp only[lE,hb _ _ _ _ h1]; exact h
   ·rename_i h1; simp only[lE,hb _ _ _ _ h1]; exact h
   ·simp at h
  ·simp at h
 ·split at h
  ·rename_i hf vs
   split at h
   ·rename_i h1; simp only[hf,vs,hb _ _ _ _ h1]; exact h
   ·rename_i h1; simp only[hf,vs,hb _ _ _ _ h1]; exact h
   ·simp at h
  ·simp at h
 ·simp at h
 ·simp at h
 ·simp only[ab] at h ⊢
  obtain⟨a,h1,h2⟩:=h
  exact⟨a,Ih hc h1,h2⟩
theorem A2 {cf cf':vZ} {ob ob':xF} (hc:A1 cf cf') (hb:Dv ob ob'):∀{os:List PO} {j:Nat} {st:St} {r},xt cf ob j os st=some r→xt cf' ob' j os st=some r
 | [],_,_,_,h=>h
 | o :: os, j, st, r, h => by
   simp only[xt] at h ⊢
   split at h
   ·rename_i h1
    rw[Ik hc hb h1]
    exact A2 hc hb h
   ·rename_i c9
    rw[Ik hc hb h]
    split
    ·rename_i h1
     simp only[aa] at h1
     subst h1
     exact absurd h (c9 _)
    ·rfl
section
variable {L:Nat→Option PFunc}
theorem zm:∀(n:Nat) (c:PC) (st:St) (r),vY L n c st=some r→vY L (n+1) c st=some r
 | 0,c,st,r,h=>by simp[vY] at h
 | n + 1, c, st, r, h => by
   have dH:A1 (xx (vY L n) L) (xx (vY L (n+1)) L):=Ii (zm n) L
   have dz:Dv (xK (vY L n) L) (xK (vY L (n+1)) L):=Ij (zm n) L
   rw[vY.eq_def] at h ⊢
   cases c with
   | skip=>exact h
   | exit id=>exact h
   | ret=>exact h
   | region ops =>
     simp only[ab] at h ⊢
     obtain⟨a,h1,h2⟩:=h
     exact⟨a,Du dH h1,h2⟩
   | branch ops x a b =>
     try simp only at h
     try simp only
     split at h
     ·rename_i h1
      rw[Du dH h1]
      simp only
      split at h
      ·rename_i h2
       exact zm n _ _ _ h
      ·simp at h
     ·simp at h
   | seq a b =>
     try simp only at h
     try simp only
     split at h
     ·rename_i h1
      rw[zm n _ _ _ h1]
      exact zm n _ _ _ h
     ·simp at h
     ·rename_i c9 fj
      rw[zm n _ _ _ h]
      split
      ·rename_i h1; cases h1; exact absurd h (c9 _)
      ·rename_i h1; cases h1; exact absurd h (fj _ _ _ _)
      ·rfl
   | block id c =>
     try simp only at h
     try simp only
     split at h
     ·rename_i h1
      rw[zm n _ _ _ h1]; exact h
     ·simp at h
     ·rename_i c9 fj
      rw[zm n _ _ _ h]
      split
      ·rename_i h1; cases h1; exact absurd h (c9 _ _)
      ·rename_i h1; cases h1; exact absurd h (fj _ _ _ _)
      ·rfl
   | loop c =>
     try simp only at h
     try simp only
     split at h
     ·rename_i h1
      rw[zm n _ _ _ h1]
      exact zm n _ _ _ h
     ·simp at h
     ·rename_i c9 fj
      rw[zm n _ _ _ h]
      split
      ·rename_i h1; cases h1; exact absurd h (c9 _)
      ·rename_i h1; cases h1; exact absurd h (fj _ _ _ _)
      ·rfl
   | bregion ops =>
     try simp only at h
     try simp only
     split at h
     ·rename_i h1; rw[A2 dH dz h1]; exact h
     ·rename_i h1; rw[A2 dH dz h1]; exact h
     ·simp at h
   | bbranch ops x a b =>
     try simp only at h
     try simp only
     split at h
     ·rename_i h1
      rw[A2 dH dz h1]
      simp only
      split at h
      ·exact zm n _ _ _ h
      ·simp at h
     ·rename_i h1; rw[A2 dH dz h1]; exact h
     ·simp at h
   | raise ops t x =>
     try simp only at h
     try simp only
     split at h
     ·rename_i h1; rw[Du dH h1]; exact h
     ·simp at h
   | rangeF x kb caps =>
     try simp only at h
     try simp only
     split at h
     ·rename_i hf dY
      try simp only[hf,dY]
      split at h
      ·simp at h
      ·rename_i hn
       rw[ae hn]
       split at h
       ·rename_i h1; rw[dz _ _ _ _ h1]; exact h
       ·rename_i h1; rw[dz _ _ _ _ h1]; exact h
       ·simp at h
     ·simp at h
   | round a b=>simp at h
   | guarded kd caps c =>
     try simp only at h
     try simp only
     split at h
     ·simp at h
     ·rename_i hn
      rw[ae hn]
      split at h
      ·rename_i dY
       split at h
       ·rename_i h1; rw[zm n _ _ _ h1]; exact h
       ·rename_i h1; rw[zm n _ _ _ h1]; exact h
       ·rename_i h1; rw[zm n _ _ _ h1]; exact h
       ·simp at h
      ·simp at h
theorem AH {n m:Nat} (iH:n≤m) {c:PC} {st:St} {r} (h:vY L n c st=some r):vY L m c st=some r:=by
 induction iH with
 | refl=>exact h
 | step _ ih=>exact zm _ _ _ _ ih
theorem Ch {n m:Nat} (iH:n≤m):A1 (call L n) (call L m):=Ii (λ_ _ _ h=>AH iH h) L
open Classical in
noncomputable def evL (L:Nat→Option PFunc) (c:PC) (st:St):Option (PExit×St):=
 if h:∃r,∃n,vY L n c st=some r then some h.choose else none
open Classical in
noncomputable def vU (L:Nat→Option PFunc):vZ:=λk args hp=>
 if h:∃r,∃n,call L n k args hp=some r then some h.choose else none
theorem wW {c:PC} {st:St} {r}:evL L c st=some r↔∃n,vY L n c st=some r:=by
 unfold evL
 split
 ·rename_i h
  obtain⟨n,hn⟩:=h.choose_spec
  constructor
  ·intro e; cases e; exact⟨n,hn⟩
  ·rintro⟨m,hm⟩
   have h1:=AH (bp n m) hn
   have h2:=AH (bw n m) hm
   rw[h1] at h2; exact h2
 ·rename_i h
  constructor
  ·intro e; cases e
  ·rintro⟨m,hm⟩; exact absurd ⟨r,m,hm⟩ h
theorem A3 {k:Nat} {args:List PV} {hp:List PObj} {r}:vU L k args hp=some r↔∃n,call L n k args hp=some r:=by
 unfold vU
 split
 ·rename_i h
  obtain⟨n,hn⟩:=h.choose_spec
  constructor
  ·intro e; cases e; exact⟨n,hn⟩
  ·rintro⟨m,hm⟩
   have h1:=Ch (bp n m) _ _ _ _ hn
   have h2:=Ch (bw n m) _ _ _ _ hm
   rw[h1] at h2; exact h2
 ·rename_i h
  constructor
  ·intro e; cases e
  ·rintro⟨m,hm⟩; exact absurd ⟨r,m,hm⟩ h
theorem CI (n:Nat):A1 (call L n) (vU L):=λ_ _ _ _ h=>A3.2 ⟨n,h⟩
theorem Es {n m:Nat} (iH:n≤m):Dv (xK (vY L n) L) (xK (vY L m) L):=Ij (λ_ _ _ h=>AH iH h) L
open Classical in
noncomputable def wm (L:Nat→Option PFunc):xF:=λk args hp=>
 if h:∃r,∃n,xK (vY L n) L k args hp=some r then some h.choose else none
theorem BQ {k:Nat} {args:List PV} {hp:List PObj} {r}:wm L k args hp=some r↔∃n,xK (vY L n) L k args hp=some r:=by
 unfold wm
 split
 ·rename_i h
  obtain⟨n,hn⟩:=h.choose_spec
  constructor
  ·intro e; cases e; exact⟨n,hn⟩
  ·rintro⟨m,hm⟩
   have h1:=Es (bp n m) _ _ _ _ hn
   have h2:=Es (bw n m) _ _ _ _ hm
   rw[h1] at h2; exact h2
 ·rename_i h
  constructor
  ·intro e; cases e
  ·rintro⟨m,hm⟩; exact absurd ⟨r,m,hm⟩ h
theorem FQ (n:Nat):Dv (xK (vY L n) L) (wm L):=λ_ _ _ _ h=>BQ.2 ⟨n,h⟩
theorem c1z {o:HOp} {st:St} {r} (h:vW (vU L) o st=some r):∃n,vW (call L n) o st=some r:=by
 cases o<;>try exact⟨0,h⟩
 case call k args=>
  simp only[vW,af,ab] at h ⊢
  obtain⟨vs,h1,q,h2,h3⟩:=h
  obtain⟨n,hn⟩:=A3.1 h2
  exact⟨n,vs,h1,q,hn,h3⟩
 case rcall k args=>
  simp only[vW,af] at h ⊢
  obtain⟨vs,h1,q,h2,h3⟩:=h
  obtain⟨n,hn⟩:=A3.1 h2
  exact⟨n,vs,h1,q,hn,h3⟩
 case callv x args=>
  simp only[vW] at h ⊢
  split at h
  ·simp only[ab] at h ⊢
   obtain⟨q,h2,h3⟩:=h
   obtain⟨n,hn⟩:=A3.1 h2
   exact⟨n,q,hn,h3⟩
  ·simp at h
theorem LN {o:POp} {st:St} {r} (h:opv (vU L) o st=some r):∃n,opv (call L n) o st=some r:=by
 cases o<;>try exact⟨0,h⟩
 case h o=>exact c1z h
 case pcall k args=>
  simp only[opv] at h ⊢
  split at h
  ·split at h
   ·rename_i hr
    simp only[hr,if_true]
    split at h
    ·rename_i hx
     obtain⟨n,hn⟩:=A3.1 hx
     exact⟨n,by rw[hn]; exact h⟩
    ·simp at h
   ·simp at h
  ·simp at h
 case pcallx k args own=>
  simp only[opv] at h ⊢
  cases own with
  | none =>
    simp only at h ⊢
    split at h
    ·split at h
     ·rename_i hr
      simp only[hr,if_true]
      split at h
      ·rename_i hx
       obtain⟨n,hn⟩:=A3.1 hx
       exact⟨n,by rw[hn]; exact h⟩
      ·simp at h
     ·simp at h
    ·simp at h
  | some i =>
    simp only at h ⊢
    split at h
    ·split at h
     ·rename_i hr
      split at h
      ·rename_i hx
       obtain⟨n,hn⟩:=A3.1 hx
       exact⟨n,by rw[ah hr,hn]; exact h⟩
      ·simp at h
     ·simp at h
    ·simp at h
 case callv x args=>
  simp only[opv] at h ⊢
  split at h
  ·split at h
   ·rename_i hr
    simp only[hr,if_true]
    split at h
    ·rename_i hx
     obtain⟨n,hn⟩:=A3.1 hx
     exact⟨n,by rw[hn]; exact h⟩
    ·simp at h
   ·simp at h
  ·simp at h
theorem LO {j:Nat} {o:PO} {st:St} {r} (h:xn (vU L) j o st=some r):∃n,xn (call L n) j o st=some r:=by
 simp only[xn] at h ⊢
 split at h
 ·simp only[ab] at h ⊢
  obtain⟨a,h1,h2⟩:=h
  obtain⟨n,hn⟩:=LN h1
  exact⟨n,a,hn,h2⟩
 ·split at h
  ·split at h
   ·rename_i hb
    simp only[ah hb,ab] at h ⊢
    obtain⟨a,h1,h2⟩:=h
    obtain⟨n,hn⟩:=LN h1
    exact⟨n,a,hn,h2⟩
   ·rename_i hb
    simp only[ae hb]; exact⟨0,h⟩
  ·exact⟨0,h⟩
  ·simp at h
theorem FR:∀{os:List PO} {j:Nat} {st:St} {r},yc (vU L) j os st=some r→∃n,yc (call L n) j os st=some r
 | [],_,_,_,h=>⟨0,h⟩
 | o :: os, j, st, r, h => by
   simp only[yc,af] at h ⊢
   obtain⟨a,h1,h2⟩:=h
   obtain⟨n,hn⟩:=LO h1
   obtain⟨m,hm⟩:=FR h2
   exact⟨max n m,a,Ih (Ch (bp ..)) hn,FP (Ch (bw ..)) hm⟩
theorem LP {j:Nat} {o:PO} {st:St} {r} (h:xX (vU L) (wm L) j o st=some r):∃n,xX (call L n) (xK (vY L n) L) j o st=some r:=by
 unfold xX at h ⊢
 split at h
 ·split at h
  ·rename_i vs lE
   split at h
   ·rename_i h1
    obtain⟨n,hn⟩:=BQ.1 h1
    exact⟨n,by simp only[lE,hn]; exact h⟩
   ·rename_i h1
    obtain⟨n,hn⟩:=BQ.1 h1
    exact⟨n,by simp only[lE,hn]; exact h⟩
   ·simp at h
  ·simp at h
 ·split at h
  ·rename_i hf vs
   split at h
   ·rename_i h1
    obtain⟨n,hn⟩:=BQ.1 h1
    exact⟨n,by simp only[hf,vs,hn]; exact h⟩
   ·rename_i h1
    obtain⟨n,hn⟩:=BQ.1 h1
    exact⟨n,by simp only[hf,vs,hn]; exact h⟩
   ·simp at h
  ·simp at h
 ·simp at h
 ·simp at h
 ·simp only[ab] at h ⊢
  obtain⟨a,h1,h2⟩:=h
  obtain⟨n,hn⟩:=LO h1
  exact⟨n,a,hn,h2⟩
theorem Et:∀{os:List PO} {j:Nat} {st:St} {r},xt (vU L) (wm L) j os st=some r→∃n,xt (call L n) (xK (vY L n) L) j os st=some r
 | [],_,_,_,h=>⟨0,h⟩
 | o :: os, j, st, r, h => by
   simp only[xt] at h ⊢
   split at h
   ·rename_i h1
    obtain⟨n,hn⟩:=LP h1
    obtain⟨m,hm⟩:=Et h
    refine⟨max n m,?_⟩
    rw[Ik (Ch (bp n m)) (Es (bp n m)) hn]
    exact A2 (Ch (bw n m)) (Es (bw n m)) hm
   ·rename_i c9
    obtain⟨n,hn⟩:=LP h
    refine⟨n,?_⟩
    rw[hn]
    split
    ·rename_i h1
     simp only[aa] at h1
     subst h1
     exact absurd h (c9 _)
    ·rfl
theorem AG {α:Type} {a b:Option α} (h:∀r,a=some r↔b=some r):a=b:=by
 cases a with
 | some x=>exact((h x).1 rfl).symm
 | none => cases b with
   | none=>rfl
   | some y=>exact(h y).2 rfl
theorem Bn {c:PC} {st:St} {r}:evL L c st=some r↔∃n,vY L (n+1) c st=some r:=by
 rw[wW]
 exact⟨fun⟨n,hn⟩=>⟨n,zm n _ _ _ hn⟩,fun⟨n,hn⟩=>⟨n+1,hn⟩⟩
@[simp] theorem c1A {st:St}:evL L .skip st=some (.normal,st):=wW.2 ⟨1,rfl⟩
@[simp] theorem c1B {id:Nat} {st:St}:evL L (.exit id) st=some (.exit id,st):=wW.2 ⟨1,rfl⟩
@[simp] theorem c4f {st:St}:evL L .ret st=some (.ret,st):=wW.2 ⟨1,rfl⟩
theorem b8y {ops:List PO} {st:St}:evL L (.region ops) st=(x6 (vU L) ops st).map λst=>(.normal,xc st):=by
 refine AG λr =>?_
 rw[Bn]
 simp only[vY,ab]
 constructor
 ·rintro⟨n,a,h,e⟩; exact⟨a,Du (CI n) h,e⟩
 ·rintro⟨a,h,e⟩
  obtain⟨n,hn⟩:=FR h
  exact⟨n,a,hn,e⟩
theorem b8z {ops:List PO} {x:PX} {a b:PC} {st:St}:evL L (.branch ops x a b) st =
  (x6 (vU L) ops st).bind λst=>match rd st x with | some (.bool t)=>evL L (if t then a else b) (xc st) | _=>none:=by
 refine AG λr =>?_
 rw[Bn]
 simp only[vY,af]
 constructor
 ·rintro⟨n,h⟩
  split at h
  ·rename_i s1 h1
   refine⟨s1,Du (CI n) h1,?_⟩
   split at h
   ·rename_i t h2; simp only[h2]; exact wW.2 ⟨n,h⟩
   ·simp at h
  ·simp at h
 ·rintro⟨s1,h1,h2⟩
  obtain⟨n,hn⟩:=FR h1
  split at h2
  ·rename_i t h3
   obtain⟨m,hm⟩:=wW.1 h2
   refine⟨max n m,?_⟩
   rw[show x6 (xx (vY L (max n m)) L) ops st=some s1 from FP (Ch (bp ..)) hn]
   simp only[h3]
   exact AH (bw ..) hm
  ·simp at h2
@[simp] theorem c4g {a b:PC} {st:St}:evL L (.seq a b) st=match evL L a st with | some (.normal,st)=>evL L b st | some (.after _ _ _,_)=>none | r=>r:=by
 refine AG λr =>?_
 rw[Bn]
 simp only[vY]
 constructor
 ·rintro⟨n,h⟩
  split at h
  ·rename_i s1 h1; rw[wW.2 ⟨n,h1⟩]; exact wW.2 ⟨n,h⟩
  ·simp at h
  ·rename_i c9 fj
   rw[wW.2 ⟨n,h⟩]
   split
   ·rename_i h1; cases h1; exact absurd h (c9 _)
   ·rename_i h1; cases h1; exact absurd h (fj _ _ _ _)
   ·rfl
 ·intro h
  split at h
  ·rename_i s1 h1
   obtain⟨n,hn⟩:=wW.1 h1
   obtain⟨m,hm⟩:=wW.1 h
   refine⟨max n m,?_⟩
   rw[AH (bp ..) hn]
   exact AH (bw ..) hm
  ·simp at h
  ·rename_i c9 fj
   obtain⟨n,hn⟩:=wW.1 h
   refine⟨n,?_⟩
   rw[hn]
   split
   ·rename_i h1; cases h1; exact absurd h (c9 _)
   ·rename_i h1; cases h1; exact absurd h (fj _ _ _ _)
   ·rfl
theorem c1C {c:PC} {st:St}:evL L (.loop c) st=match evL L c st with | some (.normal,st)=>evL L (.loop c) st | some (.after _ _ _,_)=>none | r=>r:=by
 refine AG λr =>?_
 rw[Bn]
 simp only[vY]
 constructor
 ·rintro⟨n,h⟩
  split at h
  ·rename_i s1 h1; rw[wW.2 ⟨n,h1⟩]; exact wW.2 ⟨n,h⟩
  ·simp at h
  ·rename_i c9 fj
   rw[wW.2 ⟨n,h⟩]
   split
   ·rename_i h1; cases h1; exact absurd h (c9 _)
   ·rename_i h1; cases h1; exact absurd h (fj _ _ _ _)
   ·rfl
 ·intro h
  split at h
  ·rename_i s1 h1
   obtain⟨n,hn⟩:=wW.1 h1
   obtain⟨m,hm⟩:=wW.1 h
   refine⟨max n m,?_⟩
   rw[AH (bp ..) hn]
   exact AH (bw ..) hm
  ·simp at h
  ·rename_i c9 fj
   obtain⟨n,hn⟩:=wW.1 h
   refine⟨n,?_⟩
   rw[hn]
   split
   ·rename_i h1; cases h1; exact absurd h (c9 _)
   ·rename_i h1; cases h1; exact absurd h (fj _ _ _ _)
   ·rfl
@[simp] theorem b9X {id:Nat} {c:PC} {st:St}:evL L (.block id c) st=match evL L c st with | some (.exit i,st)=>if i=id then some (.normal,st) else some (.exit i,st) | some (.after _ _ _,_)=>none | r=>r:=by
 refine AG λr =>?_
 rw[Bn]
 simp only[vY]
 constructor
 ·rintro⟨n,h⟩
  split at h
  ·rename_i h1; rw[wW.2 ⟨n,h1⟩]; exact h
  ·simp at h
  ·rename_i c9 fj
   rw[wW.2 ⟨n,h⟩]
   split
   ·rename_i h1; cases h1; exact absurd h (c9 _ _)
   ·rename_i h1; cases h1; exact absurd h (fj _ _ _ _)
   ·rfl
 ·intro h
  split at h
  ·rename_i h1
   obtain⟨n,hn⟩:=wW.1 h1
   exact⟨n,by rw[hn]; exact h⟩
  ·simp at h
  ·rename_i c9 fj
   obtain⟨n,hn⟩:=wW.1 h
   refine⟨n,?_⟩
   rw[hn]
   split
   ·rename_i h1; cases h1; exact absurd h (c9 _ _)
   ·rename_i h1; cases h1; exact absurd h (fj _ _ _ _)
   ·rfl
theorem b6C {ops:List PO} {st:St}:evL L (.bregion ops) st=match xt (vU L) (wm L) 0 ops (An ops.length st) with
  | some (none,st)=>some (.normal,xc st)
  | some (some v,st)=>some (.boom v,xc st)
  | none=>none:=by
 refine AG λr =>?_
 rw[Bn]
 simp only[vY]
 constructor
 ·rintro⟨n,h⟩
  split at h
  ·rename_i h1; rw[A2 (CI n) (FQ n) h1]; exact h
  ·rename_i h1; rw[A2 (CI n) (FQ n) h1]; exact h
  ·simp at h
 ·intro h
  split at h
  ·rename_i h1
   obtain⟨n,hn⟩:=Et h1
   exact⟨n,by simp only[call] at hn; rw[hn]; exact h⟩
  ·rename_i h1
   obtain⟨n,hn⟩:=Et h1
   exact⟨n,by simp only[call] at hn; rw[hn]; exact h⟩
  ·simp at h
theorem b6D {ops:List PO} {x:PX} {a b:PC} {st:St}:evL L (.bbranch ops x a b) st=match xt (vU L) (wm L) 0 ops (An ops.length st) with
  | some (none,st)=>(match rd st x with | some (.bool t)=>evL L (if t then a else b) (xc st) | _=>none)
  | some (some v,st)=>some (.boom v,xc st)
  | none=>none:=by
 refine AG λr =>?_
 rw[Bn]
 simp only[vY]
 constructor
 ·rintro⟨n,h⟩
  split at h
  ·rename_i h1
   rw[A2 (CI n) (FQ n) h1]
   simp only
   split at h
   ·rename_i t h2
    rw[h2]
    exact wW.2 ⟨n,h⟩
   ·simp at h
  ·rename_i h1; rw[A2 (CI n) (FQ n) h1]; exact h
  ·simp at h
 ·intro h
  split at h
  ·rename_i h1
   obtain⟨n,hn⟩:=Et h1
   split at h
   ·rename_i t h2
    obtain⟨m,hm⟩:=wW.1 h
    refine⟨max n m,?_⟩
    have:=A2 (Ch (bp n m)) (Es (bp n m)) hn
    simp only[call] at this
    rw[this]
    simp only[h2]
    exact AH (bw ..) hm
   ·simp at h
  ·rename_i h1
   obtain⟨n,hn⟩:=Et h1
   exact⟨n,by simp only[call] at hn; rw[hn]; exact h⟩
  ·simp at h
theorem b9Y {ops:List PO} {t:Nat} {x:PX} {st:St}:evL L (.raise ops t x) st=match x6 (vU L) ops st with
  | some st=>(match rd st x with | some p=>some (.boom (.iface t p),xc st) | none=>none)
  | none=>none:=by
 refine AG λr =>?_
 rw[Bn]
 simp only[vY]
 constructor
 ·rintro⟨n,h⟩
  split at h
  ·rename_i st1 h1
   rw[Du (CI n) h1]
   simp only
   cases hr:rd st1 x with
   | none=>rw[hr] at h; simp at h
   | some p=>rw[hr] at h; exact h
  ·simp at h
 ·intro h
  split at h
  ·rename_i st1 h1
   obtain⟨n,hn⟩:=FR h1
   refine⟨n,?_⟩
   rw[show x6 (xx (vY L n) L) ops st=some st1 from hn]
   simp only
   cases hr:rd st1 x with
   | none=>rw[hr] at h; simp at h
   | some p=>rw[hr] at h; exact h
  ·simp at h
theorem b6E {kd:Nat} {caps:List PX} {c:PC} {st:St} (hn:c.NR=true):evL L (.guarded kd caps c) st=match rdAll st caps with
  | some cs => (match evL L c st with
    | some (.normal,st)=>some (.after kd cs none,st)
    | some (.ret,st)=>some (.after kd cs none,st)
    | some (.boom v,st)=>some (.after kd cs (some v),st)
    | _=>none)
  | none=>none:=by
 refine AG λr =>?_
 rw[Bn]
 simp only[vY,hn,Bool.true_eq_false,if_false]
 constructor
 ·rintro⟨n,h⟩
  split at h
  ·rename_i dY
   simp only[dY]
   split at h
   ·rename_i h1; rw[wW.2 ⟨n,h1⟩]; exact h
   ·rename_i h1; rw[wW.2 ⟨n,h1⟩]; exact h
   ·rename_i h1; rw[wW.2 ⟨n,h1⟩]; exact h
   ·simp at h
  ·simp at h
 ·intro h
  split at h
  ·rename_i dY
   simp only[dY]
   split at h
   ·rename_i h1
    obtain⟨n,hn⟩:=wW.1 h1
    exact⟨n,by rw[hn]; exact h⟩
   ·rename_i h1
    obtain⟨n,hn⟩:=wW.1 h1
    exact⟨n,by rw[hn]; exact h⟩
   ·rename_i h1
    obtain⟨n,hn⟩:=wW.1 h1
    exact⟨n,by rw[hn]; exact h⟩
   ·simp at h
  ·simp at h
theorem b5f {nv:Nat} {a b:PC} {args:List PV} {h:List PObj} {r} (hr:zM (evL L) nv a b args h=some r):∃n,zM (vY L n) nv a b args h=some r:=by
 unfold zM at hr ⊢
 split at hr
 ·split at hr
  ·rename_i h1 h2
   obtain⟨n,hn⟩:=wW.1 h2
   split at hr
   all_goals first
    | (rename_i h3 h4
       obtain⟨m,hm⟩:=wW.1 h4
       refine⟨max n m,?_⟩
       simp only[h1,AH (bp n m) hn,h3,AH (bw n m) hm]
       exact hr)
    | simp at hr
  ·simp at hr
 ·simp at hr
theorem LQ {dfr} {f:PFunc} {args:List PV} {h:List PObj} {r} (hr:yA (evL L) dfr f args h=some r):∃n,yA (vY L n) dfr f args h=some r:=by
 unfold yA at hr ⊢
 split at hr
 ·exact b5f hr
 ·split at hr
  ·rename_i h1
   obtain⟨n,hn⟩:=wW.1 h1
   exact⟨n,by rw[hn]; exact hr⟩
  ·rename_i h1
   obtain⟨n,hn⟩:=wW.1 h1
   exact⟨n,by rw[hn]; exact hr⟩
  ·rename_i h1
   obtain⟨n,hn⟩:=wW.1 h1
   exact⟨n,by rw[hn]; exact hr⟩
  ·rename_i h1
   obtain⟨n,hn⟩:=wW.1 h1
   exact⟨n,by rw[hn]; exact hr⟩
  ·simp at hr
theorem Il {dfr} {f:PFunc} {args:List PV} {h:List PObj} {r} (hr:zd (evL L) dfr f args h=some r):∃n,zd (vY L n) dfr f args h=some r:=by
 simp only[zd] at hr ⊢
 split at hr
 ·simp at hr
 ·rename_i hn
  rw[Ep] at hr
  obtain⟨n,h⟩:=LQ hr
  exact⟨n,by rw[ae hn,Ep]; exact h⟩
theorem FS {n m:Nat} (h:n≤m):∀(c:PC) (st:St) (r),vY L n c st=some r→vY L m c st=some r:=by
 intro c st r hr
 induction h with
 | refl=>exact hr
 | step _ ih=>exact zm _ _ _ _ ih
theorem Im {f:PFunc} {o:Option Nat} {args:List PV} {h:List PObj} {r} (hr:zj (evL L) f o args h=some r):∃n,zj (vY L n) f o args h=some r:=by
 unfold zj at hr ⊢
 split at hr
 ·simp at hr
 ·rename_i hn
  split at hr
  ·rename_i h1
   obtain⟨n,jF⟩:=wW.1 h1
   exact⟨n,by rw[ae hn,jF]; exact hr⟩
  ·rename_i h1
   obtain⟨n,jF⟩:=wW.1 h1
   exact⟨n,by rw[ae hn,jF]; exact hr⟩
  ·simp at hr
theorem b6F {f:PFunc} {args:List PV} {h:List PObj} {r} (hr:Ap (evL L) f args h=some r):∃n,Ap (vY L n) f args h=some r:=by
 unfold Ap at hr ⊢
 split at hr
 ·split at hr
  ·rename_i hd
   try simp only[hd]
   split at hr
   ·rename_i hl
    simp only[ah hl]
    split at hr
    ·rename_i hs
     rw[AY] at hr
     obtain⟨n,hn⟩:=Im hr.1
     obtain⟨m,hm⟩:=Im hr.2
     refine⟨max n m,?_⟩
     rw[ah hs,AY]
     exact⟨Er (FS (bp ..)) hn,Er (FS (bw ..)) hm⟩
    ·rename_i hs
     obtain⟨n,hn⟩:=Im hr
     exact⟨n,by rw[ae hs]; exact hn⟩
   ·simp at hr
  ·simp at hr
 ·simp at hr
theorem FT {k:Nat} {args:List PV} {hp:List PObj}:vU L k args hp=xx (evL L) L k args hp:=by
 refine AG λr =>?_
 rw[A3]
 simp only[call,xx]
 constructor
 ·rintro⟨n,h⟩
  exact Ii (ex:=vY L n) (λc st r h=>wW.2 ⟨n,h⟩) L k args hp r h
 ·intro h
  split at h
  ·simp at h
  ·rename_i f hf
   split at h
   ·rename_i hl
    simp only[ah hl]
    split at h
    ·exact⟨0,h⟩
    split at h
    ·rename_i hs
     rw[AY] at h
     obtain⟨n,hn⟩:=Il h.1
     obtain⟨m,hm⟩:=Il h.2
     refine⟨max n m,?_⟩
     rw[ah hs,AY]
     exact⟨Eq (FS (bp ..)) hn,Eq (FS (bw ..)) hm⟩
    ·rename_i hs
     obtain⟨n,hn⟩:=Il h
     exact⟨n,by rw[ae hs]; exact hn⟩
   ·rename_i hl
    obtain⟨n,hn⟩:=b6F h
    exact⟨n,by rw[ae hl]; exact hn⟩
theorem c4h {k:Nat} {args:List PV} {hp:List PObj}:wm L k args hp=xK (evL L) L k args hp:=by
 refine AG λr =>?_
 rw[BQ]
 constructor
 ·rintro⟨n,h⟩
  exact Ij (ex:=vY L n) (λc st r h=>wW.2 ⟨n,h⟩) L k args hp r h
 ·intro h
  simp only[xK] at h ⊢
  split at h
  ·simp at h
  ·rename_i f hf
   split at h
   ·rename_i hl
    simp only[ah hl]
    split at h
    ·exact⟨0,h⟩
    ·exact LQ h
   ·simp at h
theorem c1D {k:Nat} {f:PFunc} {args:List PV} {hp:List PObj} (hf:L k=some f) (hl:args.length=f.params) {r:PV×List PObj}
  (he:yA (evL L) (xW L) f args hp=some (.val r.1,r.2)) (hs:f.split=false:=by rfl) (fm:f.prim=none:=by rfl) (hr:f.code.isRound=false:=by rfl):
  vU L k args hp=some r:=by
 rw[FT,xx,hf]
 simp only[ah hl,hs,fm,bI,aH,if_false,zd,hr]
 rw[Ep]; exact he
theorem Ig {k:Nat} {f:PFunc} {args:List PV} {hp:List PObj} (hf:L k=some f) (hl:args.length=f.params) {r:Out×List PObj}
  (he:yA (evL L) (xW L) f args hp=some r) (hs:f.split=false:=by rfl) (fm:f.prim=none:=by rfl):
  wm L k args hp=some r:=by
 rw[c4h,xK,hf]
 simp only[hl,hs,fm,and_self,if_true]
 exact he
theorem b5g (own:Option Nat):D1 (D0 own)=own:=by cases own<;>simp[D1,D0]
theorem b6H (own:Option Nat) (args:List PV):(AV own args).length=args.length+1002:=by simp only[AV,bc,ax,c3W]; omega
theorem b5h (ex:PC→St→Option (PExit×St)) (f:PFunc) (own:Option Nat) (args:List PV) (h:List PObj):Ap ex f (AV own args) h =
  if args.length=f.params∧f.prim=none then
   if f.split&&vague (args.headD .dead) then B3 (zj ex f own (.nils::args.tail) h) (zj ex f own (.void::args.tail) h)
   else zj ex f own args h
  else none:=by
 have:(pad++D0 own::args).drop pad.length=D0 own::args:=List.drop_left' rfl
 unfold Ap AV
 simp only
 rw[this]
 simp only[b5g]
end
end PI
