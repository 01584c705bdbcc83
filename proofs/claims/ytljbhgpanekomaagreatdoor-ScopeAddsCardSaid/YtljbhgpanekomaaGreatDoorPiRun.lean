import Derived.Test.YtljbhgpanekomaaGreatDoorPiBase
set_option linter.unusedSimpArgs false
set_option linter.unusedVariables false
set_option linter.unusedSectionVars false
namespace PI
def Bn (cf cf':wu):Prop:=∀k args h r,cf k args h=some r→cf' k args h=some r
theorem c0p {cf cf':wu} (hc:Bn cf cf') {o:HOp} {st:St} {r} (h:wo cf o st=some r):wo cf' o st=some r:=by
 cases o<;>try exact h
 case call k args=>
  simp only[wo,ae,ab] at h ⊢
  obtain⟨vs,h1,q,h2,h3⟩:=h
  exact⟨vs,h1,q,hc _ _ _ _ h2,h3⟩
 case rcall k args=>
  simp only[wo,ae] at h ⊢
  obtain⟨vs,h1,q,h2,h3⟩:=h
  exact⟨vs,h1,q,hc _ _ _ _ h2,h3⟩
 case lcall k args=>
  simp only[wo,Cu,ae] at h ⊢
  obtain⟨vs,h1,ws,h2,h3⟩:=h
  refine⟨vs,h1,ws,h2,?_⟩
  split at h3
  ·rename_i hw
   rw[ah hw]
   simp only[ae] at h3 ⊢
   obtain⟨q,h4,h5⟩:=h3
   exact⟨q,hc _ _ _ _ h4,h5⟩
  ·simp at h3
 case callv x args=>
  simp only[wo] at h ⊢
  split at h
  ·simp only[ab] at h ⊢
   obtain⟨q,h2,h3⟩:=h
   exact⟨q,hc _ _ _ _ h2,h3⟩
  ·simp at h
theorem Ml {cf cf':wu} (hc:Bn cf cf') {o:POp} {st:St} {r} (h:opv cf o st=some r):opv cf' o st=some r:=by
 cases o<;>try exact h
 case h o=>exact c0p hc h
 case pcall k args=>
  simp only[opv] at h ⊢
  split at h
  ·split at h
   ·rename_i hr
    simp only[hr,if_true]
    split at h
    ·rename_i hx; rw[hc _ _ _ _ hx]; exact h
    ·simp at h
   ·simp at h
  ·simp at h
 case pcallx k args own=>
  simp only[opv] at h ⊢
  cases own with
  | none =>
    simp only at h ⊢
    split at h
    ·split at h
     ·rename_i hr
      simp only[hr,if_true]
      split at h
      ·rename_i hx; rw[hc _ _ _ _ hx]; exact h
      ·simp at h
     ·simp at h
    ·simp at h
  | some i =>
    simp only at h ⊢
    split at h
    ·split at h
     ·rename_i hr
      rw[ah hr]
      split at h
      ·rename_i hx; rw[hc _ _ _ _ hx]; exact h
      ·simp at h
     ·simp at h
    ·simp at h
 case callv x args=>
  simp only[opv] at h ⊢
  split at h
  ·split at h
   ·rename_i hr
    simp only[hr,if_true]
    split at h
    ·rename_i hx; rw[hc _ _ _ _ hx]; exact h
    ·simp at h
   ·simp at h
  ·simp at h
theorem IQ {cf cf':wu} (hc:Bn cf cf') {j:Nat} {o:PO} {st:St} {r} (h:xG cf j o st=some r):xG cf' j o st=some r:=by
 simp only[xG] at h ⊢
 split at h
 ·simp only[ab] at h ⊢
  obtain⟨a,h1,h2⟩:=h
  exact⟨a,Ml hc h1,h2⟩
 ·split at h
  ·split at h
   ·rename_i hb
    simp only[ah hb,ab] at h ⊢
    obtain⟨a,h1,h2⟩:=h
    exact⟨a,Ml hc h1,h2⟩
   ·rename_i hb
    rw[af hb]; exact h
  ·exact h
  ·simp at h
theorem Gh {cf cf':wu} (hc:Bn cf cf'):∀{os:List PO} {j:Nat} {st:St} {r},yB cf j os st=some r→yB cf' j os st=some r
 | [],_,_,_,h=>h
 | o :: os, j, st, r, h => by
   simp only[yB,ae] at h ⊢
   obtain⟨a,h1,h2⟩:=h
   exact⟨a,IQ hc h1,Gh hc h2⟩
theorem DT {cf cf':wu} (hc:Bn cf cf') {os:List PO} {st:St} {r} (h:yx cf os st=some r):yx cf' os st=some r:=Gh hc h
def DU (ob ob':xX):Prop:=∀k args h r,ob k args h=some r→ob' k args h=some r
theorem b4l {ex ex':PC→St→Option (PExit×St)} (he:∀c st r,ex c st=some r→ex' c st=some r) {nv:Nat} {a b:PC} {args:List PV} {h:List PObj} {r} (hr:Af ex nv a b args h=some r):Af ex' nv a b args h=some r:=by
 unfold Af at hr ⊢
 split at hr
 ·split at hr
  ·rename_i h1 h2
   simp only[h1,he _ _ _ h2]
   split at hr
   all_goals first
    | (rename_i h3 h4; simp only[h3,he _ _ _ h4]; exact hr)
    | simp at hr
  ·simp at hr
 ·simp at hr
theorem Mm {ex ex':PC→St→Option (PExit×St)} (he:∀c st r,ex c st=some r→ex' c st=some r) {dfr} {f:PFunc} {args:List PV} {h:List PObj} {r} (hr:yX ex dfr f args h=some r):yX ex' dfr f args h=some r:=by
 unfold yX at hr ⊢
 split at hr
 ·exact b4l he hr
 ·split at hr
  ·rename_i hx; rw[he _ _ _ hx]; exact hr
  ·rename_i hx; rw[he _ _ _ hx]; exact hr
  ·rename_i hx; rw[he _ _ _ hx]; exact hr
  ·rename_i hx; rw[he _ _ _ hx]; exact hr
  ·simp at hr
theorem EX {x:Option (Out×List PObj)} {r}:FT x=some r↔x=some (.val r.1,r.2):=by
 obtain⟨v,h⟩:=r
 unfold FT
 split
 ·simp
 ·rename_i da
  constructor
  ·intro e; cases e
  ·intro e; exact absurd e (da v h)
theorem EY {ex ex':PC→St→Option (PExit×St)} (he:∀c st r,ex c st=some r→ex' c st=some r) {dfr} {f:PFunc} {args:List PV} {h:List PObj} {r} (hr:zA ex dfr f args h=some r):zA ex' dfr f args h=some r:=by
 simp only[zA] at hr ⊢
 split at hr
 ·simp at hr
 ·rename_i hn
  rw[af hn]
  rw[EX] at hr ⊢
  exact Mm he hr
theorem Bk {a b:Option (PV×List PObj)} {r}:Cx a b=some r↔a=some r∧b=some r:=by
 unfold Cx
 constructor
 ·intro h
  split at h
  ·rename_i he; exact⟨h,he▸h⟩
  ·simp at h
 ·rintro⟨rfl,rfl⟩; simp
theorem EZ {ex ex':PC→St→Option (PExit×St)} (he:∀c st r,ex c st=some r→ex' c st=some r) {f:PFunc} {o:Option Nat} {args:List PV} {h:List PObj} {r} (hr:zE ex f o args h=some r):zE ex' f o args h=some r:=by
 unfold zE at hr ⊢
 split at hr
 ·simp at hr
 ·rename_i hn
  rw[af hn]
  split at hr
  ·rename_i hx; rw[he _ _ _ hx]; exact hr
  ·rename_i hx; rw[he _ _ _ hx]; exact hr
  ·simp at hr
theorem b5A {ex ex':PC→St→Option (PExit×St)} (he:∀c st r,ex c st=some r→ex' c st=some r) {f:PFunc} {args:List PV} {h:List PObj} {r} (hr:AF ex f args h=some r):AF ex' f args h=some r:=by
 unfold AF at hr ⊢
 split at hr
 ·split at hr
  ·rename_i hd
   try simp only[hd]
   split at hr
   ·rename_i hl
    rw[ah hl]
    split at hr
    ·rename_i hs
     rw[Bk] at hr
     rw[ah hs,Bk]
     exact⟨EZ he hr.1,EZ he hr.2⟩
    ·rename_i hs
     rw[af hs]
     exact EZ he hr
   ·simp at hr
  ·simp at hr
 ·simp at hr
theorem IR {ex ex':PC→St→Option (PExit×St)} (he:∀c st r,ex c st=some r→ex' c st=some r) (L:Nat→Option PFunc):Bn (xO ex L) (xO ex' L):=by
 intro k args h r hr
 simp only[xO] at hr ⊢
 split at hr
 ·simp at hr
 ·split at hr
  ·rename_i hl
   simp only[ah hl]
   split at hr
   ·exact hr
   split at hr
   ·rename_i hs
    rw[Bk] at hr
    rw[ah hs,Bk]
    exact⟨EY he hr.1,EY he hr.2⟩
   ·rename_i hs
    rw[af hs]
    exact EY he hr
  ·rename_i hl
   rw[af hl]
   exact b5A he hr
theorem IS {ex ex':PC→St→Option (PExit×St)} (he:∀c st r,ex c st=some r→ex' c st=some r) (L:Nat→Option PFunc):DU (yc ex L) (yc ex' L):=by
 intro k args h r hr
 simp only[yc] at hr ⊢
 split at hr
 ·simp at hr
 ·split at hr
  ·rename_i hl
   simp only[ah hl]
   split at hr
   ·exact hr
   ·exact Mm he hr
  ·simp at hr
theorem IT {cf cf':wu} {ob ob':xX} (hc:Bn cf cf') (hb:DU ob ob') {j:Nat} {o:PO} {st:St} {r} (h:yq cf ob j o st=some r):yq cf' ob' j o st=some r:=by
 unfold yq at h ⊢
 split at h
 ·split at h
  ·rename_i vs lQ
   split at h
   ·rename_i h1; simp only[lQ,hb _ _ _ _ h1]; exact h
   ·rename_i h1; simp only[lQ,hb _ _ _ _ h1]; exact h
   ·simp at h
  ·simp at h
 ·split at h
  ·rename_i hf vs
   split at h
   ·rename_i h1; simp only[hf,vs,hb _ _ _ _ h1]; exact h
   ·rename_i h1; simp only[hf,vs,hb _ _ _ _ h1]; exact h
   ·simp at h
  ·simp at h
 ·simp at h
 ·simp at h
 ·simp only[ab] at h ⊢
  obtain⟨a,h1,h2⟩:=h
  exact⟨a,IQ hc h1,h2⟩
theorem Bo {cf cf':wu} {ob ob':xX} (hc:Bn cf cf') (hb:DU ob ob'):∀{os:List PO} {j:Nat} {st:St} {r},xJ cf ob j os st=some r→xJ cf' ob' j os st=some r
 | [],_,_,_,h=>h
 | o :: os, j, st, r, h => by
   simp only[xJ] at h ⊢
   split at h
   ·rename_i h1
    rw[IT hc hb h1]
    exact Bo hc hb h
   ·rename_i da
    rw[IT hc hb h]
    split
    ·rename_i h1
     simp only[aa] at h1
     subst h1
     exact absurd h (da _)
    ·rfl
section
variable {L:Nat→Option PFunc}
theorem zH:∀(n:Nat) (c:PC) (st:St) (r),wr L n c st=some r→wr L (n+1) c st=some r
 | 0,c,st,r,h=>by simp[wr] at h
 | n + 1, c, st, r, h => by
   have dE:Bn (xO (wr L n) L) (xO (wr L (n+1)) L):=IR (zH n) L
   have dB:DU (yc (wr L n) L) (yc (wr L (n+1)) L):=IS (zH n) L
   rw[wr.eq_def] at h ⊢
   cases c with
   | skip=>exact h
   | exit id=>exact h
   | ret=>exact h
   | region ops =>
     simp only[ab] at h ⊢
     obtain⟨a,h1,h2⟩:=h
     exact⟨a,DT dE h1,h2⟩
   | branch ops x a b =>
     try simp only at h
     try simp only
     split at h
     ·rename_i h1
      rw[DT dE h1]
      simp only
      split at h
      ·rename_i h2
       exact zH n _ _ _ h
      ·simp at h
     ·simp at h
   | seq a b =>
     try simp only at h
     try simp only
     split at h
     ·rename_i h1
      rw[zH n _ _ _ h1]
      exact zH n _ _ _ h
     ·simp at h
     ·rename_i da fl
      rw[zH n _ _ _ h]
      split
      ·rename_i h1; cases h1; exact absurd h (da _)
      ·rename_i h1; cases h1; exact absurd h (fl _ _ _ _)
      ·rfl
   | block id c =>
     try simp only at h
     try simp only
     split at h
     ·rename_i h1
      rw[zH n _ _ _ h1]; exact h
     ·simp at h
     ·rename_i da fl
      rw[zH n _ _ _ h]
      split
      ·rename_i h1; cases h1; exact absurd h (da _ _)
      ·rename_i h1; cases h1; exact absurd h (fl _ _ _ _)
      ·rfl
   | loop c =>
     try simp only at h
     try simp only
     split at h
     ·rename_i h1
      rw[zH n _ _ _ h1]
      exact zH n _ _ _ h
     ·simp at h
     ·rename_i da fl
      rw[zH n _ _ _ h]
      split
      ·rename_i h1; cases h1; exact absurd h (da _)
      ·rename_i h1; cases h1; exact absurd h (fl _ _ _ _)
      ·rfl
   | bregion ops =>
     try simp only at h
     try simp only
     split at h
     ·rename_i h1; rw[Bo dE dB h1]; exact h
     ·rename_i h1; rw[Bo dE dB h1]; exact h
     ·simp at h
   | bbranch ops x a b =>
     try simp only at h
     try simp only
     split at h
     ·rename_i h1
      rw[Bo dE dB h1]
      simp only
      split at h
      ·exact zH n _ _ _ h
      ·simp at h
     ·rename_i h1; rw[Bo dE dB h1]; exact h
     ·simp at h
   | raise ops t x =>
     try simp only at h
     try simp only
     split at h
     ·rename_i h1; rw[DT dE h1]; exact h
     ·simp at h
   | rangeF x kb caps =>
     try simp only at h
     try simp only
     split at h
     ·rename_i hf d9
      try simp only[hf,d9]
      split at h
      ·simp at h
      ·rename_i hn
       rw[af hn]
       split at h
       ·rename_i h1; rw[dB _ _ _ _ h1]; exact h
       ·rename_i h1; rw[dB _ _ _ _ h1]; exact h
       ·simp at h
     ·simp at h
   | round a b=>simp at h
   | guarded kd caps c =>
     try simp only at h
     try simp only
     split at h
     ·simp at h
     ·rename_i hn
      rw[af hn]
      split at h
      ·rename_i d9
       split at h
       ·rename_i h1; rw[zH n _ _ _ h1]; exact h
       ·rename_i h1; rw[zH n _ _ _ h1]; exact h
       ·rename_i h1; rw[zH n _ _ _ h1]; exact h
       ·simp at h
      ·simp at h
theorem AX {n m:Nat} (gx:n≤m) {c:PC} {st:St} {r} (h:wr L n c st=some r):wr L m c st=some r:=by
 induction gx with
 | refl=>exact h
 | step _ ih=>exact zH _ _ _ _ ih
theorem CL {n m:Nat} (gx:n≤m):Bn (call L n) (call L m):=IR (λ_ _ _ h=>AX gx h) L
open Classical in
noncomputable def evL (L:Nat→Option PFunc) (c:PC) (st:St):Option (PExit×St):=
 if h:∃r,∃n,wr L n c st=some r then some h.choose else none
open Classical in
noncomputable def wn (L:Nat→Option PFunc):wu:=λk args hp=>
 if h:∃r,∃n,call L n k args hp=some r then some h.choose else none
theorem xn {c:PC} {st:St} {r}:evL L c st=some r↔∃n,wr L n c st=some r:=by
 unfold evL
 split
 ·rename_i h
  obtain⟨n,hn⟩:=h.choose_spec
  constructor
  ·intro e; cases e; exact⟨n,hn⟩
  ·rintro⟨m,hm⟩
   have h1:=AX (br n m) hn
   have h2:=AX (bB n m) hm
   rw[h1] at h2; exact h2
 ·rename_i h
  constructor
  ·intro e; cases e
  ·rintro⟨m,hm⟩; exact absurd ⟨r,m,hm⟩ h
theorem AY {k:Nat} {args:List PV} {hp:List PObj} {r}:wn L k args hp=some r↔∃n,call L n k args hp=some r:=by
 unfold wn
 split
 ·rename_i h
  obtain⟨n,hn⟩:=h.choose_spec
  constructor
  ·intro e; cases e; exact⟨n,hn⟩
  ·rintro⟨m,hm⟩
   have h1:=CL (br n m) _ _ _ _ hn
   have h2:=CL (bB n m) _ _ _ _ hm
   rw[h1] at h2; exact h2
 ·rename_i h
  constructor
  ·intro e; cases e
  ·rintro⟨m,hm⟩; exact absurd ⟨r,m,hm⟩ h
theorem C9 (n:Nat):Bn (call L n) (wn L):=λ_ _ _ _ h=>AY.2 ⟨n,h⟩
theorem E0 {n m:Nat} (gx:n≤m):DU (yc (wr L n) L) (yc (wr L m) L):=IS (λ_ _ _ h=>AX gx h) L
open Classical in
noncomputable def wF (L:Nat→Option PFunc):xX:=λk args hp=>
 if h:∃r,∃n,yc (wr L n) L k args hp=some r then some h.choose else none
theorem Ce {k:Nat} {args:List PV} {hp:List PObj} {r}:wF L k args hp=some r↔∃n,yc (wr L n) L k args hp=some r:=by
 unfold wF
 split
 ·rename_i h
  obtain⟨n,hn⟩:=h.choose_spec
  constructor
  ·intro e; cases e; exact⟨n,hn⟩
  ·rintro⟨m,hm⟩
   have h1:=E0 (br n m) _ _ _ _ hn
   have h2:=E0 (bB n m) _ _ _ _ hm
   rw[h1] at h2; exact h2
 ·rename_i h
  constructor
  ·intro e; cases e
  ·rintro⟨m,hm⟩; exact absurd ⟨r,m,hm⟩ h
theorem Gi (n:Nat):DU (yc (wr L n) L) (wF L):=λ_ _ _ _ h=>Ce.2 ⟨n,h⟩
theorem c14 {o:HOp} {st:St} {r} (h:wo (wn L) o st=some r):∃n,wo (call L n) o st=some r:=by
 cases o<;>try exact⟨0,h⟩
 case call k args=>
  simp only[wo,ae,ab] at h ⊢
  obtain⟨vs,h1,q,h2,h3⟩:=h
  obtain⟨n,hn⟩:=AY.1 h2
  exact⟨n,vs,h1,q,hn,h3⟩
 case rcall k args=>
  simp only[wo,ae] at h ⊢
  obtain⟨vs,h1,q,h2,h3⟩:=h
  obtain⟨n,hn⟩:=AY.1 h2
  exact⟨n,vs,h1,q,hn,h3⟩
 case lcall k args=>
  simp only[wo,Cu,ae] at h ⊢
  obtain⟨vs,h1,ws,h2,h3⟩:=h
  split at h3
  ·rename_i hw
   simp only[ae] at h3
   obtain⟨q,h4,h5⟩:=h3
   obtain⟨n,hn⟩:=AY.1 h4
   exact⟨n,vs,h1,ws,h2,by rw[ah hw,hn]; exact h5⟩
  ·simp at h3
 case callv x args=>
  simp only[wo] at h ⊢
  split at h
  ·simp only[ab] at h ⊢
   obtain⟨q,h2,h3⟩:=h
   obtain⟨n,hn⟩:=AY.1 h2
   exact⟨n,q,hn,h3⟩
  ·simp at h
theorem Mn {o:POp} {st:St} {r} (h:opv (wn L) o st=some r):∃n,opv (call L n) o st=some r:=by
 cases o<;>try exact⟨0,h⟩
 case h o=>exact c14 h
 case pcall k args=>
  simp only[opv] at h ⊢
  split at h
  ·split at h
   ·rename_i hr
    simp only[hr,if_true]
    split at h
    ·rename_i hx
     obtain⟨n,hn⟩:=AY.1 hx
     exact⟨n,by rw[hn]; exact h⟩
    ·simp at h
   ·simp at h
  ·simp at h
 case pcallx k args own=>
  simp only[opv] at h ⊢
  cases own with
  | none =>
    simp only at h ⊢
    split at h
    ·split at h
     ·rename_i hr
      simp only[hr,if_true]
      split at h
      ·rename_i hx
       obtain⟨n,hn⟩:=AY.1 hx
       exact⟨n,by rw[hn]; exact h⟩
      ·simp at h
     ·simp at h
    ·simp at h
  | some i =>
    simp only at h ⊢
    split at h
    ·split at h
     ·rename_i hr
      split at h
      ·rename_i hx
       obtain⟨n,hn⟩:=AY.1 hx
       exact⟨n,by rw[ah hr,hn]; exact h⟩
      ·simp at h
     ·simp at h
    ·simp at h
 case callv x args=>
  simp only[opv] at h ⊢
  split at h
  ·split at h
   ·rename_i hr
    simp only[hr,if_true]
    split at h
    ·rename_i hx
     obtain⟨n,hn⟩:=AY.1 hx
     exact⟨n,by rw[hn]; exact h⟩
    ·simp at h
   ·simp at h
  ·simp at h
theorem Mo {j:Nat} {o:PO} {st:St} {r} (h:xG (wn L) j o st=some r):∃n,xG (call L n) j o st=some r:=by
 simp only[xG] at h ⊢
 split at h
 ·simp only[ab] at h ⊢
  obtain⟨a,h1,h2⟩:=h
  obtain⟨n,hn⟩:=Mn h1
  exact⟨n,a,hn,h2⟩
 ·split at h
  ·split at h
   ·rename_i hb
    simp only[ah hb,ab] at h ⊢
    obtain⟨a,h1,h2⟩:=h
    obtain⟨n,hn⟩:=Mn h1
    exact⟨n,a,hn,h2⟩
   ·rename_i hb
    simp only[af hb]; exact⟨0,h⟩
  ·exact⟨0,h⟩
  ·simp at h
theorem Gj:∀{os:List PO} {j:Nat} {st:St} {r},yB (wn L) j os st=some r→∃n,yB (call L n) j os st=some r
 | [],_,_,_,h=>⟨0,h⟩
 | o :: os, j, st, r, h => by
   simp only[yB,ae] at h ⊢
   obtain⟨a,h1,h2⟩:=h
   obtain⟨n,hn⟩:=Mo h1
   obtain⟨m,hm⟩:=Gj h2
   exact⟨max n m,a,IQ (CL (br ..)) hn,Gh (CL (bB ..)) hm⟩
theorem Mp {j:Nat} {o:PO} {st:St} {r} (h:yq (wn L) (wF L) j o st=some r):∃n,yq (call L n) (yc (wr L n) L) j o st=some r:=by
 unfold yq at h ⊢
 split at h
 ·split at h
  ·rename_i vs lQ
   split at h
   ·rename_i h1
    obtain⟨n,hn⟩:=Ce.1 h1
    exact⟨n,by simp only[lQ,hn]; exact h⟩
   ·rename_i h1
    obtain⟨n,hn⟩:=Ce.1 h1
    exact⟨n,by simp only[lQ,hn]; exact h⟩
   ·simp at h
  ·simp at h
 ·split at h
  ·rename_i hf vs
   split at h
   ·rename_i h1
    obtain⟨n,hn⟩:=Ce.1 h1
    exact⟨n,by simp only[hf,vs,hn]; exact h⟩
   ·rename_i h1
    obtain⟨n,hn⟩:=Ce.1 h1
    exact⟨n,by simp only[hf,vs,hn]; exact h⟩
   ·simp at h
  ·simp at h
 ·simp at h
 ·simp at h
 ·simp only[ab] at h ⊢
  obtain⟨a,h1,h2⟩:=h
  obtain⟨n,hn⟩:=Mo h1
  exact⟨n,a,hn,h2⟩
theorem E1:∀{os:List PO} {j:Nat} {st:St} {r},xJ (wn L) (wF L) j os st=some r→∃n,xJ (call L n) (yc (wr L n) L) j os st=some r
 | [],_,_,_,h=>⟨0,h⟩
 | o :: os, j, st, r, h => by
   simp only[xJ] at h ⊢
   split at h
   ·rename_i h1
    obtain⟨n,hn⟩:=Mp h1
    obtain⟨m,hm⟩:=E1 h
    refine⟨max n m,?_⟩
    rw[IT (CL (br n m)) (E0 (br n m)) hn]
    exact Bo (CL (bB n m)) (E0 (bB n m)) hm
   ·rename_i da
    obtain⟨n,hn⟩:=Mp h
    refine⟨n,?_⟩
    rw[hn]
    split
    ·rename_i h1
     simp only[aa] at h1
     subst h1
     exact absurd h (da _)
    ·rfl
theorem AW {α:Type} {a b:Option α} (h:∀r,a=some r↔b=some r):a=b:=by
 cases a with
 | some x=>exact((h x).1 rfl).symm
 | none => cases b with
   | none=>rfl
   | some y=>exact(h y).2 rfl
theorem BP {c:PC} {st:St} {r}:evL L c st=some r↔∃n,wr L (n+1) c st=some r:=by
 rw[xn]
 exact⟨fun⟨n,hn⟩=>⟨n,zH n _ _ _ hn⟩,fun⟨n,hn⟩=>⟨n+1,hn⟩⟩
@[simp] theorem c15 {st:St}:evL L .skip st=some (.normal,st):=xn.2 ⟨1,rfl⟩
@[simp] theorem c16 {id:Nat} {st:St}:evL L (.exit id) st=some (.exit id,st):=xn.2 ⟨1,rfl⟩
@[simp] theorem c4N {st:St}:evL L .ret st=some (.ret,st):=xn.2 ⟨1,rfl⟩
theorem b8Z {ops:List PO} {st:St}:evL L (.region ops) st=(yx (wn L) ops st).map λst=>(.normal,xu st):=by
 refine AW λr =>?_
 rw[BP]
 simp only[wr,ab]
 constructor
 ·rintro⟨n,a,h,e⟩; exact⟨a,DT (C9 n) h,e⟩
 ·rintro⟨a,h,e⟩
  obtain⟨n,hn⟩:=Gj h
  exact⟨n,a,hn,e⟩
theorem b80 {ops:List PO} {x:PX} {a b:PC} {st:St}:evL L (.branch ops x a b) st =
  (yx (wn L) ops st).bind λst=>match rd st x with | some (.bool t)=>evL L (if t then a else b) (xu st) | _=>none:=by
 refine AW λr =>?_
 rw[BP]
 simp only[wr,ae]
 constructor
 ·rintro⟨n,h⟩
  split at h
  ·rename_i s1 h1
   refine⟨s1,DT (C9 n) h1,?_⟩
   split at h
   ·rename_i t h2; simp only[h2]; exact xn.2 ⟨n,h⟩
   ·simp at h
  ·simp at h
 ·rintro⟨s1,h1,h2⟩
  obtain⟨n,hn⟩:=Gj h1
  split at h2
  ·rename_i t h3
   obtain⟨m,hm⟩:=xn.1 h2
   refine⟨max n m,?_⟩
   rw[show yx (xO (wr L (max n m)) L) ops st=some s1 from Gh (CL (br ..)) hn]
   simp only[h3]
   exact AX (bB ..) hm
  ·simp at h2
@[simp] theorem c4O {a b:PC} {st:St}:evL L (.seq a b) st=match evL L a st with | some (.normal,st)=>evL L b st | some (.after _ _ _,_)=>none | r=>r:=by
 refine AW λr =>?_
 rw[BP]
 simp only[wr]
 constructor
 ·rintro⟨n,h⟩
  split at h
  ·rename_i s1 h1; rw[xn.2 ⟨n,h1⟩]; exact xn.2 ⟨n,h⟩
  ·simp at h
  ·rename_i da fl
   rw[xn.2 ⟨n,h⟩]
   split
   ·rename_i h1; cases h1; exact absurd h (da _)
   ·rename_i h1; cases h1; exact absurd h (fl _ _ _ _)
   ·rfl
 ·intro h
  split at h
  ·rename_i s1 h1
   obtain⟨n,hn⟩:=xn.1 h1
   obtain⟨m,hm⟩:=xn.1 h
   refine⟨max n m,?_⟩
   rw[AX (br ..) hn]
   exact AX (bB ..) hm
  ·simp at h
  ·rename_i da fl
   obtain⟨n,hn⟩:=xn.1 h
   refine⟨n,?_⟩
   rw[hn]
   split
   ·rename_i h1; cases h1; exact absurd h (da _)
   ·rename_i h1; cases h1; exact absurd h (fl _ _ _ _)
   ·rfl
theorem c17 {c:PC} {st:St}:evL L (.loop c) st=match evL L c st with | some (.normal,st)=>evL L (.loop c) st | some (.after _ _ _,_)=>none | r=>r:=by
 refine AW λr =>?_
 rw[BP]
 simp only[wr]
 constructor
 ·rintro⟨n,h⟩
  split at h
  ·rename_i s1 h1; rw[xn.2 ⟨n,h1⟩]; exact xn.2 ⟨n,h⟩
  ·simp at h
  ·rename_i da fl
   rw[xn.2 ⟨n,h⟩]
   split
   ·rename_i h1; cases h1; exact absurd h (da _)
   ·rename_i h1; cases h1; exact absurd h (fl _ _ _ _)
   ·rfl
 ·intro h
  split at h
  ·rename_i s1 h1
   obtain⟨n,hn⟩:=xn.1 h1
   obtain⟨m,hm⟩:=xn.1 h
   refine⟨max n m,?_⟩
   rw[AX (br ..) hn]
   exact AX (bB ..) hm
  ·simp at h
  ·rename_i da fl
   obtain⟨n,hn⟩:=xn.1 h
   refine⟨n,?_⟩
   rw[hn]
   split
   ·rename_i h1; cases h1; exact absurd h (da _)
   ·rename_i h1; cases h1; exact absurd h (fl _ _ _ _)
   ·rfl
@[simp] theorem c0r {id:Nat} {c:PC} {st:St}:evL L (.block id c) st=match evL L c st with | some (.exit i,st)=>if i=id then some (.normal,st) else some (.exit i,st) | some (.after _ _ _,_)=>none | r=>r:=by
 refine AW λr =>?_
 rw[BP]
 simp only[wr]
 constructor
 ·rintro⟨n,h⟩
  split at h
  ·rename_i h1; rw[xn.2 ⟨n,h1⟩]; exact h
  ·simp at h
  ·rename_i da fl
   rw[xn.2 ⟨n,h⟩]
   split
   ·rename_i h1; cases h1; exact absurd h (da _ _)
   ·rename_i h1; cases h1; exact absurd h (fl _ _ _ _)
   ·rfl
 ·intro h
  split at h
  ·rename_i h1
   obtain⟨n,hn⟩:=xn.1 h1
   exact⟨n,by rw[hn]; exact h⟩
  ·simp at h
  ·rename_i da fl
   obtain⟨n,hn⟩:=xn.1 h
   refine⟨n,?_⟩
   rw[hn]
   split
   ·rename_i h1; cases h1; exact absurd h (da _ _)
   ·rename_i h1; cases h1; exact absurd h (fl _ _ _ _)
   ·rfl
theorem b65 {ops:List PO} {st:St}:evL L (.bregion ops) st=match xJ (wn L) (wF L) 0 ops (AD ops.length st) with
  | some (none,st)=>some (.normal,xu st)
  | some (some v,st)=>some (.boom v,xu st)
  | none=>none:=by
 refine AW λr =>?_
 rw[BP]
 simp only[wr]
 constructor
 ·rintro⟨n,h⟩
  split at h
  ·rename_i h1; rw[Bo (C9 n) (Gi n) h1]; exact h
  ·rename_i h1; rw[Bo (C9 n) (Gi n) h1]; exact h
  ·simp at h
 ·intro h
  split at h
  ·rename_i h1
   obtain⟨n,hn⟩:=E1 h1
   exact⟨n,by simp only[call] at hn; rw[hn]; exact h⟩
  ·rename_i h1
   obtain⟨n,hn⟩:=E1 h1
   exact⟨n,by simp only[call] at hn; rw[hn]; exact h⟩
  ·simp at h
theorem b66 {ops:List PO} {x:PX} {a b:PC} {st:St}:evL L (.bbranch ops x a b) st=match xJ (wn L) (wF L) 0 ops (AD ops.length st) with
  | some (none,st)=>(match rd st x with | some (.bool t)=>evL L (if t then a else b) (xu st) | _=>none)
  | some (some v,st)=>some (.boom v,xu st)
  | none=>none:=by
 refine AW λr =>?_
 rw[BP]
 simp only[wr]
 constructor
 ·rintro⟨n,h⟩
  split at h
  ·rename_i h1
   rw[Bo (C9 n) (Gi n) h1]
   simp only
   split at h
   ·rename_i t h2
    rw[h2]
    exact xn.2 ⟨n,h⟩
   ·simp at h
  ·rename_i h1; rw[Bo (C9 n) (Gi n) h1]; exact h
  ·simp at h
 ·intro h
  split at h
  ·rename_i h1
   obtain⟨n,hn⟩:=E1 h1
   split at h
   ·rename_i t h2
    obtain⟨m,hm⟩:=xn.1 h
    refine⟨max n m,?_⟩
    have:=Bo (CL (br n m)) (E0 (br n m)) hn
    simp only[call] at this
    rw[this]
    simp only[h2]
    exact AX (bB ..) hm
   ·simp at h
  ·rename_i h1
   obtain⟨n,hn⟩:=E1 h1
   exact⟨n,by simp only[call] at hn; rw[hn]; exact h⟩
  ·simp at h
theorem c0s {ops:List PO} {t:Nat} {x:PX} {st:St}:evL L (.raise ops t x) st=match yx (wn L) ops st with
  | some st=>(match rd st x with | some p=>some (.boom (.iface t p),xu st) | none=>none)
  | none=>none:=by
 refine AW λr =>?_
 rw[BP]
 simp only[wr]
 constructor
 ·rintro⟨n,h⟩
  split at h
  ·rename_i st1 h1
   rw[DT (C9 n) h1]
   simp only
   cases hr:rd st1 x with
   | none=>rw[hr] at h; simp at h
   | some p=>rw[hr] at h; exact h
  ·simp at h
 ·intro h
  split at h
  ·rename_i st1 h1
   obtain⟨n,hn⟩:=Gj h1
   refine⟨n,?_⟩
   rw[show yx (xO (wr L n) L) ops st=some st1 from hn]
   simp only
   cases hr:rd st1 x with
   | none=>rw[hr] at h; simp at h
   | some p=>rw[hr] at h; exact h
  ·simp at h
theorem b67 {kd:Nat} {caps:List PX} {c:PC} {st:St} (hn:c.NR=true):evL L (.guarded kd caps c) st=match rdAll st caps with
  | some cs => (match evL L c st with
    | some (.normal,st)=>some (.after kd cs none,st)
    | some (.ret,st)=>some (.after kd cs none,st)
    | some (.boom v,st)=>some (.after kd cs (some v),st)
    | _=>none)
  | none=>none:=by
 refine AW λr =>?_
 rw[BP]
 simp only[wr,hn,Bool.true_eq_false,if_false]
 constructor
 ·rintro⟨n,h⟩
  split at h
  ·rename_i d9
   simp only[d9]
   split at h
   ·rename_i h1; rw[xn.2 ⟨n,h1⟩]; exact h
   ·rename_i h1; rw[xn.2 ⟨n,h1⟩]; exact h
   ·rename_i h1; rw[xn.2 ⟨n,h1⟩]; exact h
   ·simp at h
  ·simp at h
 ·intro h
  split at h
  ·rename_i d9
   simp only[d9]
   split at h
   ·rename_i h1
    obtain⟨n,hn⟩:=xn.1 h1
    exact⟨n,by rw[hn]; exact h⟩
   ·rename_i h1
    obtain⟨n,hn⟩:=xn.1 h1
    exact⟨n,by rw[hn]; exact h⟩
   ·rename_i h1
    obtain⟨n,hn⟩:=xn.1 h1
    exact⟨n,by rw[hn]; exact h⟩
   ·simp at h
  ·simp at h
theorem b5D {nv:Nat} {a b:PC} {args:List PV} {h:List PObj} {r} (hr:Af (evL L) nv a b args h=some r):∃n,Af (wr L n) nv a b args h=some r:=by
 unfold Af at hr ⊢
 split at hr
 ·split at hr
  ·rename_i h1 h2
   obtain⟨n,hn⟩:=xn.1 h2
   split at hr
   all_goals first
    | (rename_i h3 h4
       obtain⟨m,hm⟩:=xn.1 h4
       refine⟨max n m,?_⟩
       simp only[h1,AX (br n m) hn,h3,AX (bB n m) hm]
       exact hr)
    | simp at hr
  ·simp at hr
 ·simp at hr
theorem Mq {dfr} {f:PFunc} {args:List PV} {h:List PObj} {r} (hr:yX (evL L) dfr f args h=some r):∃n,yX (wr L n) dfr f args h=some r:=by
 unfold yX at hr ⊢
 split at hr
 ·exact b5D hr
 ·split at hr
  ·rename_i h1
   obtain⟨n,hn⟩:=xn.1 h1
   exact⟨n,by rw[hn]; exact hr⟩
  ·rename_i h1
   obtain⟨n,hn⟩:=xn.1 h1
   exact⟨n,by rw[hn]; exact hr⟩
  ·rename_i h1
   obtain⟨n,hn⟩:=xn.1 h1
   exact⟨n,by rw[hn]; exact hr⟩
  ·rename_i h1
   obtain⟨n,hn⟩:=xn.1 h1
   exact⟨n,by rw[hn]; exact hr⟩
  ·simp at hr
theorem IU {dfr} {f:PFunc} {args:List PV} {h:List PObj} {r} (hr:zA (evL L) dfr f args h=some r):∃n,zA (wr L n) dfr f args h=some r:=by
 simp only[zA] at hr ⊢
 split at hr
 ·simp at hr
 ·rename_i hn
  rw[EX] at hr
  obtain⟨n,h⟩:=Mq hr
  exact⟨n,by rw[af hn,EX]; exact h⟩
theorem Gk {n m:Nat} (h:n≤m):∀(c:PC) (st:St) (r),wr L n c st=some r→wr L m c st=some r:=by
 intro c st r hr
 induction h with
 | refl=>exact hr
 | step _ ih=>exact zH _ _ _ _ ih
theorem IV {f:PFunc} {o:Option Nat} {args:List PV} {h:List PObj} {r} (hr:zE (evL L) f o args h=some r):∃n,zE (wr L n) f o args h=some r:=by
 unfold zE at hr ⊢
 split at hr
 ·simp at hr
 ·rename_i hn
  split at hr
  ·rename_i h1
   obtain⟨n,jO⟩:=xn.1 h1
   exact⟨n,by rw[af hn,jO]; exact hr⟩
  ·rename_i h1
   obtain⟨n,jO⟩:=xn.1 h1
   exact⟨n,by rw[af hn,jO]; exact hr⟩
  ·simp at hr
theorem b68 {f:PFunc} {args:List PV} {h:List PObj} {r} (hr:AF (evL L) f args h=some r):∃n,AF (wr L n) f args h=some r:=by
 unfold AF at hr ⊢
 split at hr
 ·split at hr
  ·rename_i hd
   try simp only[hd]
   split at hr
   ·rename_i hl
    simp only[ah hl]
    split at hr
    ·rename_i hs
     rw[Bk] at hr
     obtain⟨n,hn⟩:=IV hr.1
     obtain⟨m,hm⟩:=IV hr.2
     refine⟨max n m,?_⟩
     rw[ah hs,Bk]
     exact⟨EZ (Gk (br ..)) hn,EZ (Gk (bB ..)) hm⟩
    ·rename_i hs
     obtain⟨n,hn⟩:=IV hr
     exact⟨n,by rw[af hs]; exact hn⟩
   ·simp at hr
  ·simp at hr
 ·simp at hr
theorem Gl {k:Nat} {args:List PV} {hp:List PObj}:wn L k args hp=xO (evL L) L k args hp:=by
 refine AW λr =>?_
 rw[AY]
 simp only[call,xO]
 constructor
 ·rintro⟨n,h⟩
  exact IR (ex:=wr L n) (λc st r h=>xn.2 ⟨n,h⟩) L k args hp r h
 ·intro h
  split at h
  ·simp at h
  ·rename_i f hf
   split at h
   ·rename_i hl
    simp only[ah hl]
    split at h
    ·exact⟨0,h⟩
    split at h
    ·rename_i hs
     rw[Bk] at h
     obtain⟨n,hn⟩:=IU h.1
     obtain⟨m,hm⟩:=IU h.2
     refine⟨max n m,?_⟩
     rw[ah hs,Bk]
     exact⟨EY (Gk (br ..)) hn,EY (Gk (bB ..)) hm⟩
    ·rename_i hs
     obtain⟨n,hn⟩:=IU h
     exact⟨n,by rw[af hs]; exact hn⟩
   ·rename_i hl
    obtain⟨n,hn⟩:=b68 h
    exact⟨n,by rw[af hl]; exact hn⟩
theorem c4P {k:Nat} {args:List PV} {hp:List PObj}:wF L k args hp=yc (evL L) L k args hp:=by
 refine AW λr =>?_
 rw[Ce]
 constructor
 ·rintro⟨n,h⟩
  exact IS (ex:=wr L n) (λc st r h=>xn.2 ⟨n,h⟩) L k args hp r h
 ·intro h
  simp only[yc] at h ⊢
  split at h
  ·simp at h
  ·rename_i f hf
   split at h
   ·rename_i hl
    simp only[ah hl]
    split at h
    ·exact⟨0,h⟩
    ·exact Mq h
   ·simp at h
theorem c18 {k:Nat} {f:PFunc} {args:List PV} {hp:List PObj} (hf:L k=some f) (hl:args.length=f.params) {r:PV×List PObj}
  (he:yX (evL L) (yp L) f args hp=some (.val r.1,r.2)) (hs:f.split=false:=by rfl) (fw:f.prim=none:=by rfl) (hr:f.code.isRound=false:=by rfl):
  wn L k args hp=some r:=by
 rw[Gl,xO,hf]
 simp only[ah hl,hs,fw,bL,aH,if_false,zA,hr]
 rw[EX]; exact he
theorem IP {k:Nat} {f:PFunc} {args:List PV} {hp:List PObj} (hf:L k=some f) (hl:args.length=f.params) {r:Out×List PObj}
  (he:yX (evL L) (yp L) f args hp=some r) (hs:f.split=false:=by rfl) (fw:f.prim=none:=by rfl):
  wF L k args hp=some r:=by
 rw[c4P,yc,hf]
 simp only[hl,hs,fw,and_self,if_true]
 exact he
theorem b5E (own:Option Nat):Ev (Eu own)=own:=by cases own<;>simp[Ev,Eu]
theorem b7a (own:Option Nat) (args:List PV):(Bg own args).length=args.length+1002:=by simp only[Bg,aP,ap,c4u]; omega
theorem b5F (ex:PC→St→Option (PExit×St)) (f:PFunc) (own:Option Nat) (args:List PV) (h:List PObj):AF ex f (Bg own args) h =
  if args.length=f.params∧f.prim=none then
   if f.split&&vague (args.headD .dead) then Cx (zE ex f own (.nils::args.tail) h) (zE ex f own (.void::args.tail) h)
   else zE ex f own args h
  else none:=by
 have:(pad++Eu own::args).drop pad.length=Eu own::args:=List.drop_left' rfl
 unfold AF Bg
 simp only
 rw[this]
 simp only[b5E]
end
end PI
