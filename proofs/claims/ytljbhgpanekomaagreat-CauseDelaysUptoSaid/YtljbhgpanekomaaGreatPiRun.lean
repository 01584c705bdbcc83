import Derived.Test.YtljbhgpanekomaaGreatPiBase
set_option linter.unusedSimpArgs false
set_option linter.unusedVariables false
set_option linter.unusedSectionVars false
namespace PI
def BH (cf cf':wm):Prop:=∀k args h r,cf k args h=some r→cf' k args h=some r
theorem c2O {cf cf':wm} (hc:BH cf cf') {o:HOp} {st:St} {r} (h:wi cf o st=some r):wi cf' o st=some r:=by
 cases o<;>try exact h
 case call k args=>
  simp only[wi,ae,ab] at h ⊢
  obtain⟨vs,h1,q,h2,h3⟩:=h
  exact⟨vs,h1,q,hc _ _ _ _ h2,h3⟩
 case zcall k args=>
  simp only[wi,ae] at h ⊢
  obtain⟨vs,h1,h⟩:=h
  refine⟨vs,h1,?_⟩
  split at h
  ·rename_i hw
   rw[ah hw]
   simp only[ae] at h ⊢
   obtain⟨q,h4,h5⟩:=h
   exact⟨q,hc _ _ _ _ h4,h5⟩
  ·simp at h
 case rcall k args=>
  simp only[wi,ae] at h ⊢
  obtain⟨vs,h1,q,h2,h3⟩:=h
  exact⟨vs,h1,q,hc _ _ _ _ h2,h3⟩
 case lcall k args=>
  simp only[wi,CE,ae] at h ⊢
  obtain⟨vs,h1,ws,h2,h3⟩:=h
  refine⟨vs,h1,ws,h2,?_⟩
  split at h3
  ·rename_i hw
   rw[ah hw]
   simp only[ae] at h3 ⊢
   obtain⟨q,h4,h5⟩:=h3
   exact⟨q,hc _ _ _ _ h4,h5⟩
  ·simp at h3
 case icall tab x args=>
  simp only[wi,ae,ab] at h ⊢
  obtain⟨m,h0,vs,h1,q,h2,h3⟩:=h
  exact⟨m,h0,vs,h1,q,hc _ _ _ _ h2,h3⟩
 case callv x args=>
  simp only[wi] at h ⊢
  split at h
  ·simp only[ab] at h ⊢
   obtain⟨q,h2,h3⟩:=h
   exact⟨q,hc _ _ _ _ h2,h3⟩
  ·simp at h
theorem QO {cf cf':wm} (hc:BH cf cf') {o:POp} {st:St} {r} (h:opv cf o st=some r):opv cf' o st=some r:=by
 cases o<;>try exact h
 case h o=>exact c2O hc h
 case pcall k args=>
  simp only[opv] at h ⊢
  split at h
  ·split at h
   ·rename_i hr
    simp only[hr,if_true]
    split at h
    ·rename_i hx; rw[hc _ _ _ _ hx]; exact h
    ·simp at h
   ·simp at h
  ·simp at h
 case pzcall k args=>
  simp only[opv] at h ⊢
  split at h
  ·split at h
   ·rename_i hr
    simp only[hr,if_true]
    split at h
    ·rename_i hx; rw[hc _ _ _ _ hx]; exact h
    ·simp at h
   ·simp at h
  ·simp at h
 case pcallx k args own=>
  simp only[opv] at h ⊢
  cases own with
  | none =>
    simp only at h ⊢
    split at h
    ·split at h
     ·rename_i hr
      simp only[hr,if_true]
      split at h
      ·rename_i hx; rw[hc _ _ _ _ hx]; exact h
      ·simp at h
     ·simp at h
    ·simp at h
  | some i =>
    simp only at h ⊢
    split at h
    ·split at h
     ·rename_i hr
      rw[ah hr]
      split at h
      ·rename_i hx; rw[hc _ _ _ _ hx]; exact h
      ·simp at h
     ·simp at h
    ·simp at h
 case callv x args=>
  simp only[opv] at h ⊢
  split at h
  ·split at h
   ·rename_i hr
    simp only[hr,if_true]
    split at h
    ·rename_i hx; rw[hc _ _ _ _ hx]; exact h
    ·simp at h
   ·simp at h
  ·simp at h
theorem LB {cf cf':wm} (hc:BH cf cf') {j:Nat} {o:PO} {st:St} {r} (h:w9 cf j o st=some r):w9 cf' j o st=some r:=by
 simp only[w9] at h ⊢
 split at h
 ·simp only[ab] at h ⊢
  obtain⟨a,h1,h2⟩:=h
  exact⟨a,QO hc h1,h2⟩
 ·split at h
  ·split at h
   ·rename_i hb
    simp only[ah hb,ab] at h ⊢
    obtain⟨a,h1,h2⟩:=h
    exact⟨a,QO hc h1,h2⟩
   ·rename_i hb
    rw[af hb]; exact h
  ·exact h
  ·simp at h
theorem Ig {cf cf':wm} (hc:BH cf cf'):∀{os:List PO} {j:Nat} {st:St} {r},yG cf j os st=some r→yG cf' j os st=some r
 | [],_,_,_,h=>h
 | o :: os, j, st, r, h => by
   simp only[yG,ae] at h ⊢
   obtain⟨a,h1,h2⟩:=h
   exact⟨a,LB hc h1,Ig hc h2⟩
theorem ED {cf cf':wm} (hc:BH cf cf') {os:List PO} {st:St} {r} (h:yA cf os st=some r):yA cf' os st=some r:=Ig hc h
def EE (ob ob':xX):Prop:=∀k args h r,ob k args h=some r→ob' k args h=some r
theorem b5S {ex ex':PC→St→Option (PExit×St)} (he:∀c st r,ex c st=some r→ex' c st=some r) {nv:Nat} {a b:PC} {args:List PV} {h:List PObj} {r} (hr:BP ex nv a b args h=some r):BP ex' nv a b args h=some r:=by
 unfold BP at hr ⊢
 split at hr
 ·split at hr
  ·rename_i h1 h2
   simp only[h1,he _ _ _ h2]
   split at hr
   all_goals first
    | (rename_i h3 h4; simp only[h3,he _ _ _ h4]; exact hr)
    | simp at hr
  ·simp at hr
 ·simp at hr
theorem QP {ex ex':PC→St→Option (PExit×St)} (he:∀c st r,ex c st=some r→ex' c st=some r) {dfr} {f:PFunc} {args:List PV} {h:List PObj} {r} (hr:zw ex dfr f args h=some r):zw ex' dfr f args h=some r:=by
 unfold zw at hr ⊢
 split at hr
 ·exact b5S he hr
 ·split at hr
  ·rename_i hx; rw[he _ _ _ hx]; exact hr
  ·rename_i hx; rw[he _ _ _ hx]; exact hr
  ·rename_i hx; rw[he _ _ _ hx]; exact hr
  ·rename_i hx; rw[he _ _ _ hx]; exact hr
  ·simp at hr
theorem Gi {x:Option (Out×List PObj)} {r}:Gw x=some r↔x=some (.val r.1,r.2):=by
 obtain⟨v,h⟩:=r
 unfold Gw
 split
 ·simp
 ·rename_i cZ
  constructor
  ·intro e; cases e
  ·intro e; exact absurd e (cZ v h)
theorem Gj {ex ex':PC→St→Option (PExit×St)} (he:∀c st r,ex c st=some r→ex' c st=some r) {dfr} {f:PFunc} {args:List PV} {h:List PObj} {r} (hr:zK ex dfr f args h=some r):zK ex' dfr f args h=some r:=by
 simp only[zK] at hr ⊢
 split at hr
 ·simp at hr
 ·rename_i hn
  rw[af hn]
  rw[Gi] at hr ⊢
  exact QP he hr
theorem BF {a b:Option (PV×List PObj)} {r}:CH a b=some r↔a=some r∧b=some r:=by
 unfold CH
 constructor
 ·intro h
  split at h
  ·rename_i he; exact⟨h,he▸h⟩
  ·simp at h
 ·rintro⟨rfl,rfl⟩; simp
theorem Gk {ex ex':PC→St→Option (PExit×St)} (he:∀c st r,ex c st=some r→ex' c st=some r) {f:PFunc} {o:Option Nat} {args:List PV} {h:List PObj} {r} (hr:zx ex f o args h=some r):zx ex' f o args h=some r:=by
 unfold zx at hr ⊢
 split at hr
 ·simp at hr
 ·rename_i hn
  rw[af hn]
  split at hr
  ·rename_i hx; rw[he _ _ _ hx]; exact hr
  ·rename_i hx; rw[he _ _ _ hx]; exact hr
  ·simp at hr
theorem b7l {ex ex':PC→St→Option (PExit×St)} (he:∀c st r,ex c st=some r→ex' c st=some r) {f:PFunc} {args:List PV} {h:List PObj} {r} (hr:AX ex f args h=some r):AX ex' f args h=some r:=by
 unfold AX at hr ⊢
 split at hr
 ·split at hr
  ·rename_i hd
   try simp only[hd]
   split at hr
   ·rename_i hl
    rw[ah hl]
    split at hr
    ·rename_i hs
     rw[BF] at hr
     rw[ah hs,BF]
     exact⟨Gk he hr.1,Gk he hr.2⟩
    ·rename_i hs
     rw[af hs]
     exact Gk he hr
   ·simp at hr
  ·simp at hr
 ·simp at hr
theorem LC {ex ex':PC→St→Option (PExit×St)} (he:∀c st r,ex c st=some r→ex' c st=some r) (L:Nat→Option PFunc):BH (xH ex L) (xH ex' L):=by
 intro k args h r hr
 simp only[xH] at hr ⊢
 split at hr
 ·simp at hr
 ·split at hr
  ·rename_i hl
   simp only[ah hl]
   split at hr
   ·exact hr
   split at hr
   ·rename_i hs
    rw[BF] at hr
    rw[ah hs,BF]
    exact⟨Gj he hr.1,Gj he hr.2⟩
   ·rename_i hs
    rw[af hs]
    exact Gj he hr
  ·rename_i hl
   rw[af hl]
   exact b7l he hr
theorem LD {ex ex':PC→St→Option (PExit×St)} (he:∀c st r,ex c st=some r→ex' c st=some r) (L:Nat→Option PFunc):EE (yc ex L) (yc ex' L):=by
 intro k args h r hr
 simp only[yc] at hr ⊢
 split at hr
 ·simp at hr
 ·split at hr
  ·rename_i hl
   simp only[ah hl]
   split at hr
   ·exact hr
   ·exact QP he hr
  ·simp at hr
theorem LE {cf cf':wm} {ob ob':xX} (hc:BH cf cf') (hb:EE ob ob') {j:Nat} {o:PO} {st:St} {r} (h:yu cf ob j o st=some r):yu cf' ob' j o st=some r:=by
 unfold yu at h ⊢
 split at h
 ·split at h
  ·rename_i vs kK
   split at h
   ·rename_i h1; simp only[kK,hb _ _ _ _ h1]; exact h
   ·rename_i h1; simp only[kK,hb _ _ _ _ h1]; exact h
   ·simp at h
  ·simp at h
 ·split at h
  ·rename_i hf vs
   split at h
   ·rename_i h1; simp only[hf,vs,hb _ _ _ _ h1]; exact h
   ·rename_i h1; simp only[hf,vs,hb _ _ _ _ h1]; exact h
   ·simp at h
  ·simp at h
 ·simp at h
 ·simp at h
 ·simp only[ab] at h ⊢
  obtain⟨a,h1,h2⟩:=h
  exact⟨a,LB hc h1,h2⟩
theorem BJ {cf cf':wm} {ob ob':xX} (hc:BH cf cf') (hb:EE ob ob'):∀{os:List PO} {j:Nat} {st:St} {r},xI cf ob j os st=some r→xI cf' ob' j os st=some r
 | [],_,_,_,h=>h
 | o :: os, j, st, r, h => by
   simp only[xI] at h ⊢
   split at h
   ·rename_i h1
    rw[LE hc hb h1]
    exact BJ hc hb h
   ·rename_i cZ
    rw[LE hc hb h]
    split
    ·rename_i h1
     simp only[aa] at h1
     subst h1
     exact absurd h (cZ _)
    ·rfl
section
variable {L:Nat→Option PFunc}
theorem z8:∀(n:Nat) (c:PC) (st:St) (r),wn L n c st=some r→wn L (n+1) c st=some r
 | 0,c,st,r,h=>by simp[wn] at h
 | n + 1, c, st, r, h => by
   have du:BH (xH (wn L n) L) (xH (wn L (n+1)) L):=LC (z8 n) L
   have dB:EE (yc (wn L n) L) (yc (wn L (n+1)) L):=LD (z8 n) L
   rw[wn.eq_def] at h ⊢
   cases c with
   | skip=>exact h
   | exit id=>exact h
   | ret=>exact h
   | region ops =>
     simp only[ab] at h ⊢
     obtain⟨a,h1,h2⟩:=h
     exact⟨a,ED du h1,h2⟩
   | branch ops x a b =>
     try simp only at h
     try simp only
     split at h
     ·rename_i h1
      rw[ED du h1]
      simp only
      split at h
      ·rename_i h2
       exact z8 n _ _ _ h
      ·simp at h
     ·simp at h
   | seq a b =>
     try simp only at h
     try simp only
     split at h
     ·rename_i h1
      rw[z8 n _ _ _ h1]
      exact z8 n _ _ _ h
     ·simp at h
     ·rename_i cZ fy
      rw[z8 n _ _ _ h]
      split
      ·rename_i h1; cases h1; exact absurd h (cZ _)
      ·rename_i h1; cases h1; exact absurd h (fy _ _ _ _)
      ·rfl
   | block id c =>
     try simp only at h
     try simp only
     split at h
     ·rename_i h1
      rw[z8 n _ _ _ h1]; exact h
     ·simp at h
     ·rename_i cZ fy
      rw[z8 n _ _ _ h]
      split
      ·rename_i h1; cases h1; exact absurd h (cZ _ _)
      ·rename_i h1; cases h1; exact absurd h (fy _ _ _ _)
      ·rfl
   | loop c =>
     try simp only at h
     try simp only
     split at h
     ·rename_i h1
      rw[z8 n _ _ _ h1]
      exact z8 n _ _ _ h
     ·simp at h
     ·rename_i cZ fy
      rw[z8 n _ _ _ h]
      split
      ·rename_i h1; cases h1; exact absurd h (cZ _)
      ·rename_i h1; cases h1; exact absurd h (fy _ _ _ _)
      ·rfl
   | bregion ops =>
     try simp only at h
     try simp only
     split at h
     ·rename_i h1; rw[BJ du dB h1]; exact h
     ·rename_i h1; rw[BJ du dB h1]; exact h
     ·simp at h
   | bbranch ops x a b =>
     try simp only at h
     try simp only
     split at h
     ·rename_i h1
      rw[BJ du dB h1]
      simp only
      split at h
      ·exact z8 n _ _ _ h
      ·simp at h
     ·rename_i h1; rw[BJ du dB h1]; exact h
     ·simp at h
   | raise ops t x =>
     try simp only at h
     try simp only
     split at h
     ·rename_i h1; rw[ED du h1]; exact h
     ·simp at h
   | rangeF x kb caps =>
     try simp only at h
     try simp only
     split at h
     ·rename_i hf dW
      try simp only[hf,dW]
      split at h
      ·simp at h
      ·rename_i hn
       rw[af hn]
       split at h
       ·rename_i h1; rw[dB _ _ _ _ h1]; exact h
       ·rename_i h1; rw[dB _ _ _ _ h1]; exact h
       ·simp at h
     ·simp at h
   | round a b=>simp at h
   | guarded kd caps c =>
     try simp only at h
     try simp only
     split at h
     ·simp at h
     ·rename_i hn
      rw[af hn]
      split at h
      ·rename_i dW
       split at h
       ·rename_i h1; rw[z8 n _ _ _ h1]; exact h
       ·rename_i h1; rw[z8 n _ _ _ h1]; exact h
       ·rename_i h1; rw[z8 n _ _ _ h1]; exact h
       ·simp at h
      ·simp at h
theorem Bm {n m:Nat} (iK:n≤m) {c:PC} {st:St} {r} (h:wn L n c st=some r):wn L m c st=some r:=by
 induction iK with
 | refl=>exact h
 | step _ ih=>exact z8 _ _ _ _ ih
theorem Db {n m:Nat} (iK:n≤m):BH (call L n) (call L m):=LC (λ_ _ _ h=>Bm iK h) L
open Classical in
noncomputable def evL (L:Nat→Option PFunc) (c:PC) (st:St):Option (PExit×St):=
 if h:∃r,∃n,wn L n c st=some r then some h.choose else none
open Classical in
noncomputable def wj (L:Nat→Option PFunc):wm:=λk args hp=>
 if h:∃r,∃n,call L n k args hp=some r then some h.choose else none
theorem xf {c:PC} {st:St} {r}:evL L c st=some r↔∃n,wn L n c st=some r:=by
 unfold evL
 split
 ·rename_i h
  obtain⟨n,hn⟩:=h.choose_spec
  constructor
  ·intro e; cases e; exact⟨n,hn⟩
  ·rintro⟨m,hm⟩
   have h1:=Bm (bz n m) hn
   have h2:=Bm (bD n m) hm
   rw[h1] at h2; exact h2
 ·rename_i h
  constructor
  ·intro e; cases e
  ·rintro⟨m,hm⟩; exact absurd ⟨r,m,hm⟩ h
theorem At {k:Nat} {args:List PV} {hp:List PObj} {r}:wj L k args hp=some r↔∃n,call L n k args hp=some r:=by
 unfold wj
 split
 ·rename_i h
  obtain⟨n,hn⟩:=h.choose_spec
  constructor
  ·intro e; cases e; exact⟨n,hn⟩
  ·rintro⟨m,hm⟩
   have h1:=Db (bz n m) _ _ _ _ hn
   have h2:=Db (bD n m) _ _ _ _ hm
   rw[h1] at h2; exact h2
 ·rename_i h
  constructor
  ·intro e; cases e
  ·rintro⟨m,hm⟩; exact absurd ⟨r,m,hm⟩ h
theorem DK (n:Nat):BH (call L n) (wj L):=λ_ _ _ _ h=>At.2 ⟨n,h⟩
theorem Gl {n m:Nat} (iK:n≤m):EE (yc (wn L n) L) (yc (wn L m) L):=LD (λ_ _ _ h=>Bm iK h) L
open Classical in
noncomputable def wK (L:Nat→Option PFunc):xX:=λk args hp=>
 if h:∃r,∃n,yc (wn L n) L k args hp=some r then some h.choose else none
theorem CB {k:Nat} {args:List PV} {hp:List PObj} {r}:wK L k args hp=some r↔∃n,yc (wn L n) L k args hp=some r:=by
 unfold wK
 split
 ·rename_i h
  obtain⟨n,hn⟩:=h.choose_spec
  constructor
  ·intro e; cases e; exact⟨n,hn⟩
  ·rintro⟨m,hm⟩
   have h1:=Gl (bz n m) _ _ _ _ hn
   have h2:=Gl (bD n m) _ _ _ _ hm
   rw[h1] at h2; exact h2
 ·rename_i h
  constructor
  ·intro e; cases e
  ·rintro⟨m,hm⟩; exact absurd ⟨r,m,hm⟩ h
theorem Ih (n:Nat):EE (yc (wn L n) L) (wK L):=λ_ _ _ _ h=>CB.2 ⟨n,h⟩
theorem c4A {o:HOp} {st:St} {r} (h:wi (wj L) o st=some r):∃n,wi (call L n) o st=some r:=by
 cases o<;>try exact⟨0,h⟩
 case call k args=>
  simp only[wi,ae,ab] at h ⊢
  obtain⟨vs,h1,q,h2,h3⟩:=h
  obtain⟨n,hn⟩:=At.1 h2
  exact⟨n,vs,h1,q,hn,h3⟩
 case zcall k args=>
  simp only[wi,ae] at h ⊢
  obtain⟨vs,h1,h⟩:=h
  split at h
  ·rename_i hw
   simp only[ae] at h
   obtain⟨q,h4,h5⟩:=h
   obtain⟨n,hn⟩:=At.1 h4
   exact⟨n,vs,h1,by rw[ah hw,hn]; exact h5⟩
  ·simp at h
 case rcall k args=>
  simp only[wi,ae] at h ⊢
  obtain⟨vs,h1,q,h2,h3⟩:=h
  obtain⟨n,hn⟩:=At.1 h2
  exact⟨n,vs,h1,q,hn,h3⟩
 case lcall k args=>
  simp only[wi,CE,ae] at h ⊢
  obtain⟨vs,h1,ws,h2,h3⟩:=h
  split at h3
  ·rename_i hw
   simp only[ae] at h3
   obtain⟨q,h4,h5⟩:=h3
   obtain⟨n,hn⟩:=At.1 h4
   exact⟨n,vs,h1,ws,h2,by rw[ah hw,hn]; exact h5⟩
  ·simp at h3
 case icall tab x args=>
  simp only[wi,ae,ab] at h ⊢
  obtain⟨m,h0,vs,h1,q,h2,h3⟩:=h
  obtain⟨n,hn⟩:=At.1 h2
  exact⟨n,m,h0,vs,h1,q,hn,h3⟩
 case callv x args=>
  simp only[wi] at h ⊢
  split at h
  ·simp only[ab] at h ⊢
   obtain⟨q,h2,h3⟩:=h
   obtain⟨n,hn⟩:=At.1 h2
   exact⟨n,q,hn,h3⟩
  ·simp at h
theorem QQ {o:POp} {st:St} {r} (h:opv (wj L) o st=some r):∃n,opv (call L n) o st=some r:=by
 cases o<;>try exact⟨0,h⟩
 case h o=>exact c4A h
 case pcall k args=>
  simp only[opv] at h ⊢
  split at h
  ·split at h
   ·rename_i hr
    simp only[hr,if_true]
    split at h
    ·rename_i hx
     obtain⟨n,hn⟩:=At.1 hx
     exact⟨n,by rw[hn]; exact h⟩
    ·simp at h
   ·simp at h
  ·simp at h
 case pzcall k args=>
  simp only[opv] at h ⊢
  split at h
  ·split at h
   ·rename_i hr
    simp only[hr,if_true]
    split at h
    ·rename_i hx
     obtain⟨n,hn⟩:=At.1 hx
     exact⟨n,by rw[hn]; exact h⟩
    ·simp at h
   ·simp at h
  ·simp at h
 case pcallx k args own=>
  simp only[opv] at h ⊢
  cases own with
  | none =>
    simp only at h ⊢
    split at h
    ·split at h
     ·rename_i hr
      simp only[hr,if_true]
      split at h
      ·rename_i hx
       obtain⟨n,hn⟩:=At.1 hx
       exact⟨n,by rw[hn]; exact h⟩
      ·simp at h
     ·simp at h
    ·simp at h
  | some i =>
    simp only at h ⊢
    split at h
    ·split at h
     ·rename_i hr
      split at h
      ·rename_i hx
       obtain⟨n,hn⟩:=At.1 hx
       exact⟨n,by rw[ah hr,hn]; exact h⟩
      ·simp at h
     ·simp at h
    ·simp at h
 case callv x args=>
  simp only[opv] at h ⊢
  split at h
  ·split at h
   ·rename_i hr
    simp only[hr,if_true]
    split at h
    ·rename_i hx
     obtain⟨n,hn⟩:=At.1 hx
     exact⟨n,by rw[hn]; exact h⟩
    ·simp at h
   ·simp at h
  ·simp at h
theorem QR {j:Nat} {o:PO} {st:St} {r} (h:w9 (wj L) j o st=some r):∃n,w9 (call L n) j o st=some r:=by
 simp only[w9] at h ⊢
 split at h
 ·simp only[ab] at h ⊢
  obtain⟨a,h1,h2⟩:=h
  obtain⟨n,hn⟩:=QQ h1
  exact⟨n,a,hn,h2⟩
 ·split at h
  ·split at h
   ·rename_i hb
    simp only[ah hb,ab] at h ⊢
    obtain⟨a,h1,h2⟩:=h
    obtain⟨n,hn⟩:=QQ h1
    exact⟨n,a,hn,h2⟩
   ·rename_i hb
    simp only[af hb]; exact⟨0,h⟩
  ·exact⟨0,h⟩
  ·simp at h
theorem Ii:∀{os:List PO} {j:Nat} {st:St} {r},yG (wj L) j os st=some r→∃n,yG (call L n) j os st=some r
 | [],_,_,_,h=>⟨0,h⟩
 | o :: os, j, st, r, h => by
   simp only[yG,ae] at h ⊢
   obtain⟨a,h1,h2⟩:=h
   obtain⟨n,hn⟩:=QR h1
   obtain⟨m,hm⟩:=Ii h2
   exact⟨max n m,a,LB (Db (bz ..)) hn,Ig (Db (bD ..)) hm⟩
theorem QS {j:Nat} {o:PO} {st:St} {r} (h:yu (wj L) (wK L) j o st=some r):∃n,yu (call L n) (yc (wn L n) L) j o st=some r:=by
 unfold yu at h ⊢
 split at h
 ·split at h
  ·rename_i vs kK
   split at h
   ·rename_i h1
    obtain⟨n,hn⟩:=CB.1 h1
    exact⟨n,by simp only[kK,hn]; exact h⟩
   ·rename_i h1
    obtain⟨n,hn⟩:=CB.1 h1
    exact⟨n,by simp only[kK,hn]; exact h⟩
   ·simp at h
  ·simp at h
 ·split at h
  ·rename_i hf vs
   split at h
   ·rename_i h1
    obtain⟨n,hn⟩:=CB.1 h1
    exact⟨n,by simp only[hf,vs,hn]; exact h⟩
   ·rename_i h1
    obtain⟨n,hn⟩:=CB.1 h1
    exact⟨n,by simp only[hf,vs,hn]; exact h⟩
   ·simp at h
  ·simp at h
 ·simp at h
 ·simp at h
 ·simp only[ab] at h ⊢
  obtain⟨a,h1,h2⟩:=h
  obtain⟨n,hn⟩:=QR h1
  exact⟨n,a,hn,h2⟩
theorem Gm:∀{os:List PO} {j:Nat} {st:St} {r},xI (wj L) (wK L) j os st=some r→∃n,xI (call L n) (yc (wn L n) L) j os st=some r
 | [],_,_,_,h=>⟨0,h⟩
 | o :: os, j, st, r, h => by
   simp only[xI] at h ⊢
   split at h
   ·rename_i h1
    obtain⟨n,hn⟩:=QS h1
    obtain⟨m,hm⟩:=Gm h
    refine⟨max n m,?_⟩
    rw[LE (Db (bz n m)) (Gl (bz n m)) hn]
    exact BJ (Db (bD n m)) (Gl (bD n m)) hm
   ·rename_i cZ
    obtain⟨n,hn⟩:=QS h
    refine⟨n,?_⟩
    rw[hn]
    split
    ·rename_i h1
     simp only[aa] at h1
     subst h1
     exact absurd h (cZ _)
    ·rfl
theorem Bl {α:Type} {a b:Option α} (h:∀r,a=some r↔b=some r):a=b:=by
 cases a with
 | some x=>exact((h x).1 rfl).symm
 | none => cases b with
   | none=>rfl
   | some y=>exact(h y).2 rfl
theorem Ce {c:PC} {st:St} {r}:evL L c st=some r↔∃n,wn L (n+1) c st=some r:=by
 rw[xf]
 exact⟨fun⟨n,hn⟩=>⟨n,z8 n _ _ _ hn⟩,fun⟨n,hn⟩=>⟨n+1,hn⟩⟩
@[simp] theorem c4B {st:St}:evL L .skip st=some (.normal,st):=xf.2 ⟨1,rfl⟩
@[simp] theorem c4C {id:Nat} {st:St}:evL L (.exit id) st=some (.exit id,st):=xf.2 ⟨1,rfl⟩
@[simp] theorem c7D {st:St}:evL L .ret st=some (.ret,st):=xf.2 ⟨1,rfl⟩
theorem c00 {ops:List PO} {st:St}:evL L (.region ops) st=(yA (wj L) ops st).map λst=>(.normal,xk st):=by
 refine Bl λr =>?_
 rw[Ce]
 simp only[wn,ab]
 constructor
 ·rintro⟨n,a,h,e⟩; exact⟨a,ED (DK n) h,e⟩
 ·rintro⟨a,h,e⟩
  obtain⟨n,hn⟩:=Ii h
  exact⟨n,a,hn,e⟩
theorem c01 {ops:List PO} {x:PX} {a b:PC} {st:St}:evL L (.branch ops x a b) st =
  (yA (wj L) ops st).bind λst=>match rd st x with | some (.bool t)=>evL L (if t then a else b) (xk st) | _=>none:=by
 refine Bl λr =>?_
 rw[Ce]
 simp only[wn,ae]
 constructor
 ·rintro⟨n,h⟩
  split at h
  ·rename_i s1 h1
   refine⟨s1,ED (DK n) h1,?_⟩
   split at h
   ·rename_i t h2; simp only[h2]; exact xf.2 ⟨n,h⟩
   ·simp at h
  ·simp at h
 ·rintro⟨s1,h1,h2⟩
  obtain⟨n,hn⟩:=Ii h1
  split at h2
  ·rename_i t h3
   obtain⟨m,hm⟩:=xf.1 h2
   refine⟨max n m,?_⟩
   rw[show yA (xH (wn L (max n m)) L) ops st=some s1 from Ig (Db (bz ..)) hn]
   simp only[h3]
   exact Bm (bD ..) hm
  ·simp at h2
@[simp] theorem c7E {a b:PC} {st:St}:evL L (.seq a b) st=match evL L a st with | some (.normal,st)=>evL L b st | some (.after _ _ _,_)=>none | r=>r:=by
 refine Bl λr =>?_
 rw[Ce]
 simp only[wn]
 constructor
 ·rintro⟨n,h⟩
  split at h
  ·rename_i s1 h1; rw[xf.2 ⟨n,h1⟩]; exact xf.2 ⟨n,h⟩
  ·simp at h
  ·rename_i cZ fy
   rw[xf.2 ⟨n,h⟩]
   split
   ·rename_i h1; cases h1; exact absurd h (cZ _)
   ·rename_i h1; cases h1; exact absurd h (fy _ _ _ _)
   ·rfl
 ·intro h
  split at h
  ·rename_i s1 h1
   obtain⟨n,hn⟩:=xf.1 h1
   obtain⟨m,hm⟩:=xf.1 h
   refine⟨max n m,?_⟩
   rw[Bm (bz ..) hn]
   exact Bm (bD ..) hm
  ·simp at h
  ·rename_i cZ fy
   obtain⟨n,hn⟩:=xf.1 h
   refine⟨n,?_⟩
   rw[hn]
   split
   ·rename_i h1; cases h1; exact absurd h (cZ _)
   ·rename_i h1; cases h1; exact absurd h (fy _ _ _ _)
   ·rfl
theorem c4D {c:PC} {st:St}:evL L (.loop c) st=match evL L c st with | some (.normal,st)=>evL L (.loop c) st | some (.after _ _ _,_)=>none | r=>r:=by
 refine Bl λr =>?_
 rw[Ce]
 simp only[wn]
 constructor
 ·rintro⟨n,h⟩
  split at h
  ·rename_i s1 h1; rw[xf.2 ⟨n,h1⟩]; exact xf.2 ⟨n,h⟩
  ·simp at h
  ·rename_i cZ fy
   rw[xf.2 ⟨n,h⟩]
   split
   ·rename_i h1; cases h1; exact absurd h (cZ _)
   ·rename_i h1; cases h1; exact absurd h (fy _ _ _ _)
   ·rfl
 ·intro h
  split at h
  ·rename_i s1 h1
   obtain⟨n,hn⟩:=xf.1 h1
   obtain⟨m,hm⟩:=xf.1 h
   refine⟨max n m,?_⟩
   rw[Bm (bz ..) hn]
   exact Bm (bD ..) hm
  ·simp at h
  ·rename_i cZ fy
   obtain⟨n,hn⟩:=xf.1 h
   refine⟨n,?_⟩
   rw[hn]
   split
   ·rename_i h1; cases h1; exact absurd h (cZ _)
   ·rename_i h1; cases h1; exact absurd h (fy _ _ _ _)
   ·rfl
@[simp] theorem c2Q {id:Nat} {c:PC} {st:St}:evL L (.block id c) st=match evL L c st with | some (.exit i,st)=>if i=id then some (.normal,st) else some (.exit i,st) | some (.after _ _ _,_)=>none | r=>r:=by
 refine Bl λr =>?_
 rw[Ce]
 simp only[wn]
 constructor
 ·rintro⟨n,h⟩
  split at h
  ·rename_i h1; rw[xf.2 ⟨n,h1⟩]; exact h
  ·simp at h
  ·rename_i cZ fy
   rw[xf.2 ⟨n,h⟩]
   split
   ·rename_i h1; cases h1; exact absurd h (cZ _ _)
   ·rename_i h1; cases h1; exact absurd h (fy _ _ _ _)
   ·rfl
 ·intro h
  split at h
  ·rename_i h1
   obtain⟨n,hn⟩:=xf.1 h1
   exact⟨n,by rw[hn]; exact h⟩
  ·simp at h
  ·rename_i cZ fy
   obtain⟨n,hn⟩:=xf.1 h
   refine⟨n,?_⟩
   rw[hn]
   split
   ·rename_i h1; cases h1; exact absurd h (cZ _ _)
   ·rename_i h1; cases h1; exact absurd h (fy _ _ _ _)
   ·rfl
theorem b8U {ops:List PO} {st:St}:evL L (.bregion ops) st=match xI (wj L) (wK L) 0 ops (AW ops.length st) with
  | some (none,st)=>some (.normal,xk st)
  | some (some v,st)=>some (.boom v,xk st)
  | none=>none:=by
 refine Bl λr =>?_
 rw[Ce]
 simp only[wn]
 constructor
 ·rintro⟨n,h⟩
  split at h
  ·rename_i h1; rw[BJ (DK n) (Ih n) h1]; exact h
  ·rename_i h1; rw[BJ (DK n) (Ih n) h1]; exact h
  ·simp at h
 ·intro h
  split at h
  ·rename_i h1
   obtain⟨n,hn⟩:=Gm h1
   exact⟨n,by simp only[call] at hn; rw[hn]; exact h⟩
  ·rename_i h1
   obtain⟨n,hn⟩:=Gm h1
   exact⟨n,by simp only[call] at hn; rw[hn]; exact h⟩
  ·simp at h
theorem b8V {ops:List PO} {x:PX} {a b:PC} {st:St}:evL L (.bbranch ops x a b) st=match xI (wj L) (wK L) 0 ops (AW ops.length st) with
  | some (none,st)=>(match rd st x with | some (.bool t)=>evL L (if t then a else b) (xk st) | _=>none)
  | some (some v,st)=>some (.boom v,xk st)
  | none=>none:=by
 refine Bl λr =>?_
 rw[Ce]
 simp only[wn]
 constructor
 ·rintro⟨n,h⟩
  split at h
  ·rename_i h1
   rw[BJ (DK n) (Ih n) h1]
   simp only
   split at h
   ·rename_i t h2
    rw[h2]
    exact xf.2 ⟨n,h⟩
   ·simp at h
  ·rename_i h1; rw[BJ (DK n) (Ih n) h1]; exact h
  ·simp at h
 ·intro h
  split at h
  ·rename_i h1
   obtain⟨n,hn⟩:=Gm h1
   split at h
   ·rename_i t h2
    obtain⟨m,hm⟩:=xf.1 h
    refine⟨max n m,?_⟩
    have:=BJ (Db (bz n m)) (Gl (bz n m)) hn
    simp only[call] at this
    rw[this]
    simp only[h2]
    exact Bm (bD ..) hm
   ·simp at h
  ·rename_i h1
   obtain⟨n,hn⟩:=Gm h1
   exact⟨n,by simp only[call] at hn; rw[hn]; exact h⟩
  ·simp at h
theorem c2R {ops:List PO} {t:Nat} {x:PX} {st:St}:evL L (.raise ops t x) st=match yA (wj L) ops st with
  | some st=>(match rd st x with | some p=>some (.boom (.iface t p),xk st) | none=>none)
  | none=>none:=by
 refine Bl λr =>?_
 rw[Ce]
 simp only[wn]
 constructor
 ·rintro⟨n,h⟩
  split at h
  ·rename_i st1 h1
   rw[ED (DK n) h1]
   simp only
   cases hr:rd st1 x with
   | none=>rw[hr] at h; simp at h
   | some p=>rw[hr] at h; exact h
  ·simp at h
 ·intro h
  split at h
  ·rename_i st1 h1
   obtain⟨n,hn⟩:=Ii h1
   refine⟨n,?_⟩
   rw[show yA (xH (wn L n) L) ops st=some st1 from hn]
   simp only
   cases hr:rd st1 x with
   | none=>rw[hr] at h; simp at h
   | some p=>rw[hr] at h; exact h
  ·simp at h
theorem b8W {kd:Nat} {caps:List PX} {c:PC} {st:St} (hn:c.NR=true):evL L (.guarded kd caps c) st=match rdAll st caps with
  | some cs => (match evL L c st with
    | some (.normal,st)=>some (.after kd cs none,st)
    | some (.ret,st)=>some (.after kd cs none,st)
    | some (.boom v,st)=>some (.after kd cs (some v),st)
    | _=>none)
  | none=>none:=by
 refine Bl λr =>?_
 rw[Ce]
 simp only[wn,hn,Bool.true_eq_false,if_false]
 constructor
 ·rintro⟨n,h⟩
  split at h
  ·rename_i dW
   simp only[dW]
   split at h
   ·rename_i h1; rw[xf.2 ⟨n,h1⟩]; exact h
   ·rename_i h1; rw[xf.2 ⟨n,h1⟩]; exact h
   ·rename_i h1; rw[xf.2 ⟨n,h1⟩]; exact h
   ·simp at h
  ·simp at h
 ·intro h
  split at h
  ·rename_i dW
   simp only[dW]
   split at h
   ·rename_i h1
    obtain⟨n,hn⟩:=xf.1 h1
    exact⟨n,by rw[hn]; exact h⟩
   ·rename_i h1
    obtain⟨n,hn⟩:=xf.1 h1
    exact⟨n,by rw[hn]; exact h⟩
   ·rename_i h1
    obtain⟨n,hn⟩:=xf.1 h1
    exact⟨n,by rw[hn]; exact h⟩
   ·simp at h
  ·simp at h
theorem b7o {nv:Nat} {a b:PC} {args:List PV} {h:List PObj} {r} (hr:BP (evL L) nv a b args h=some r):∃n,BP (wn L n) nv a b args h=some r:=by
 unfold BP at hr ⊢
 split at hr
 ·split at hr
  ·rename_i h1 h2
   obtain⟨n,hn⟩:=xf.1 h2
   split at hr
   all_goals first
    | (rename_i h3 h4
       obtain⟨m,hm⟩:=xf.1 h4
       refine⟨max n m,?_⟩
       simp only[h1,Bm (bz n m) hn,h3,Bm (bD n m) hm]
       exact hr)
    | simp at hr
  ·simp at hr
 ·simp at hr
theorem QT {dfr} {f:PFunc} {args:List PV} {h:List PObj} {r} (hr:zw (evL L) dfr f args h=some r):∃n,zw (wn L n) dfr f args h=some r:=by
 unfold zw at hr ⊢
 split at hr
 ·exact b7o hr
 ·split at hr
  ·rename_i h1
   obtain⟨n,hn⟩:=xf.1 h1
   exact⟨n,by rw[hn]; exact hr⟩
  ·rename_i h1
   obtain⟨n,hn⟩:=xf.1 h1
   exact⟨n,by rw[hn]; exact hr⟩
  ·rename_i h1
   obtain⟨n,hn⟩:=xf.1 h1
   exact⟨n,by rw[hn]; exact hr⟩
  ·rename_i h1
   obtain⟨n,hn⟩:=xf.1 h1
   exact⟨n,by rw[hn]; exact hr⟩
  ·simp at hr
theorem LF {dfr} {f:PFunc} {args:List PV} {h:List PObj} {r} (hr:zK (evL L) dfr f args h=some r):∃n,zK (wn L n) dfr f args h=some r:=by
 simp only[zK] at hr ⊢
 split at hr
 ·simp at hr
 ·rename_i hn
  rw[Gi] at hr
  obtain⟨n,h⟩:=QT hr
  exact⟨n,by rw[af hn,Gi]; exact h⟩
theorem Ij {n m:Nat} (h:n≤m):∀(c:PC) (st:St) (r),wn L n c st=some r→wn L m c st=some r:=by
 intro c st r hr
 induction h with
 | refl=>exact hr
 | step _ ih=>exact z8 _ _ _ _ ih
theorem LG {f:PFunc} {o:Option Nat} {args:List PV} {h:List PObj} {r} (hr:zx (evL L) f o args h=some r):∃n,zx (wn L n) f o args h=some r:=by
 unfold zx at hr ⊢
 split at hr
 ·simp at hr
 ·rename_i hn
  split at hr
  ·rename_i h1
   obtain⟨n,jc⟩:=xf.1 h1
   exact⟨n,by rw[af hn,jc]; exact hr⟩
  ·rename_i h1
   obtain⟨n,jc⟩:=xf.1 h1
   exact⟨n,by rw[af hn,jc]; exact hr⟩
  ·simp at hr
theorem b8X {f:PFunc} {args:List PV} {h:List PObj} {r} (hr:AX (evL L) f args h=some r):∃n,AX (wn L n) f args h=some r:=by
 unfold AX at hr ⊢
 split at hr
 ·split at hr
  ·rename_i hd
   try simp only[hd]
   split at hr
   ·rename_i hl
    simp only[ah hl]
    split at hr
    ·rename_i hs
     rw[BF] at hr
     obtain⟨n,hn⟩:=LG hr.1
     obtain⟨m,hm⟩:=LG hr.2
     refine⟨max n m,?_⟩
     rw[ah hs,BF]
     exact⟨Gk (Ij (bz ..)) hn,Gk (Ij (bD ..)) hm⟩
    ·rename_i hs
     obtain⟨n,hn⟩:=LG hr
     exact⟨n,by rw[af hs]; exact hn⟩
   ·simp at hr
  ·simp at hr
 ·simp at hr
theorem Gn {k:Nat} {args:List PV} {hp:List PObj}:wj L k args hp=xH (evL L) L k args hp:=by
 refine Bl λr =>?_
 rw[At]
 simp only[call,xH]
 constructor
 ·rintro⟨n,h⟩
  exact LC (ex:=wn L n) (λc st r h=>xf.2 ⟨n,h⟩) L k args hp r h
 ·intro h
  split at h
  ·simp at h
  ·rename_i f hf
   split at h
   ·rename_i hl
    simp only[ah hl]
    split at h
    ·exact⟨0,h⟩
    split at h
    ·rename_i hs
     rw[BF] at h
     obtain⟨n,hn⟩:=LF h.1
     obtain⟨m,hm⟩:=LF h.2
     refine⟨max n m,?_⟩
     rw[ah hs,BF]
     exact⟨Gj (Ij (bz ..)) hn,Gj (Ij (bD ..)) hm⟩
    ·rename_i hs
     obtain⟨n,hn⟩:=LF h
     exact⟨n,by rw[af hs]; exact hn⟩
   ·rename_i hl
    obtain⟨n,hn⟩:=b8X h
    exact⟨n,by rw[af hl]; exact hn⟩
theorem c7F {k:Nat} {args:List PV} {hp:List PObj}:wK L k args hp=yc (evL L) L k args hp:=by
 refine Bl λr =>?_
 rw[CB]
 constructor
 ·rintro⟨n,h⟩
  exact LD (ex:=wn L n) (λc st r h=>xf.2 ⟨n,h⟩) L k args hp r h
 ·intro h
  simp only[yc] at h ⊢
  split at h
  ·simp at h
  ·rename_i f hf
   split at h
   ·rename_i hl
    simp only[ah hl]
    split at h
    ·exact⟨0,h⟩
    ·exact QT h
   ·simp at h
theorem c4E {k:Nat} {f:PFunc} {args:List PV} {hp:List PObj} (hf:L k=some f) (hl:args.length=f.params) {r:PV×List PObj}
  (he:zw (evL L) (yt L) f args hp=some (.val r.1,r.2)) (hs:f.split=false:=by rfl) (fE:f.prim=none:=by rfl) (hr:f.code.isRound=false:=by rfl):
  wj L k args hp=some r:=by
 rw[Gn,xH,hf]
 simp only[ah hl,hs,fE,bG,aH,if_false,zK,hr]
 rw[Gi]; exact he
theorem Qw {k:Nat} {f:PFunc} {args:List PV} {hp:List PObj} (hf:L k=some f) (hl:args.length=f.params) {r:Out×List PObj}
  (he:zw (evL L) (yt L) f args hp=some r) (hs:f.split=false:=by rfl) (fE:f.prim=none:=by rfl):
  wK L k args hp=some r:=by
 rw[c7F,yc,hf]
 simp only[hl,hs,fE,and_self,if_true]
 exact he
theorem b7p (own:Option Nat):ET (ES own)=own:=by cases own<;>simp[ET,ES]
theorem P4 (own:Option Nat) (args:List PV):(Ah own args).length=args.length+1002:=by simp only[Ah,aI,ap,c6r]; omega
theorem P5 (ex:PC→St→Option (PExit×St)) (f:PFunc) (own:Option Nat) (args:List PV) (h:List PObj):AX ex f (Ah own args) h =
  if args.length=f.params∧f.prim=none then
   if f.split&&vague (args.headD .dead) then CH (zx ex f own (.nils::args.tail) h) (zx ex f own (.void::args.tail) h)
   else zx ex f own args h
  else none:=by
 have:(pad++ES own::args).drop pad.length=ES own::args:=List.drop_left' rfl
 unfold AX Ah
 simp only
 rw[this]
 simp only[b7p]
theorem c2T {k:Nat} {f:PFunc} {own:Option Nat} {args:List PV} {hp:List PObj} (hf:L k=some f) (hl:args.length=f.params) {r:PV×List PObj}
  (he:zx (evL L) f own args hp=some r) (hs:f.split=false:=by rfl) (fE:f.prim=none:=by rfl) (iF:f.params<1000:=by decide):wj L k (Ah own args) hp=some r:=by
 rw[Gn,xH,hf]
 have:¬(Ah own args).length=f.params:=by rw[P4]; omega
 simp only[af this,P5,hl,fE,and_self,if_true,hs,bG,aH,if_false]
 exact he
end
end PI
