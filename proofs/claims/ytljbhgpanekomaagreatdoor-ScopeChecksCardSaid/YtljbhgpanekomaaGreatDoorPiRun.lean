import Derived.Test.YtljbhgpanekomaaGreatDoorPiBase
set_option linter.unusedSimpArgs false
set_option linter.unusedVariables false
set_option linter.unusedSectionVars false
namespace PI
def BJ (cf cf':wE):Prop:=∀k args h r,cf k args h=some r→cf' k args h=some r
theorem c19 {cf cf':wE} (hc:BJ cf cf') {o:HOp} {st:St} {r} (h:wx cf o st=some r):wx cf' o st=some r:=by
 cases o<;>try exact h
 case call k args=>
  simp only[wx,ai,ab] at h ⊢
  obtain⟨vs,h1,q,h2,h3⟩:=h
  exact⟨vs,h1,q,hc _ _ _ _ h2,h3⟩
 case rcall k args=>
  simp only[wx,ai] at h ⊢
  obtain⟨vs,h1,q,h2,h3⟩:=h
  exact⟨vs,h1,q,hc _ _ _ _ h2,h3⟩
 case callv x args=>
  simp only[wx] at h ⊢
  split at h
  ·simp only[ab] at h ⊢
   obtain⟨q,h2,h3⟩:=h
   exact⟨q,hc _ _ _ _ h2,h3⟩
  ·simp at h
theorem Ng {cf cf':wE} (hc:BJ cf cf') {o:POp} {st:St} {r} (h:opv cf o st=some r):opv cf' o st=some r:=by
 cases o<;>try exact h
 case h o=>exact c19 hc h
 case pcall k args=>
  simp only[opv] at h ⊢
  split at h
  ·split at h
   ·rename_i hr
    simp only[hr,if_true]
    split at h
    ·rename_i hx; rw[hc _ _ _ _ hx]; exact h
    ·simp at h
   ·simp at h
  ·simp at h
 case pcallx k args own=>
  simp only[opv] at h ⊢
  cases own with
  | none =>
    simp only at h ⊢
    split at h
    ·split at h
     ·rename_i hr
      simp only[hr,if_true]
      split at h
      ·rename_i hx; rw[hc _ _ _ _ hx]; exact h
      ·simp at h
     ·simp at h
    ·simp at h
  | some i =>
    simp only at h ⊢
    split at h
    ·split at h
     ·rename_i hr
      rw[ah hr]
      split at h
      ·rename_i hx; rw[hc _ _ _ _ hx]; exact h
      ·simp at h
     ·simp at h
    ·simp at h
 case callv x args=>
  simp only[opv] at h ⊢
  split at h
  ·split at h
   ·rename_i hr
    simp only[hr,if_true]
    split at h
    ·rename_i hx; rw[hc _ _ _ _ hx]; exact h
    ·simp at h
   ·simp at h
  ·simp at h
theorem Ji {cf cf':wE} (hc:BJ cf cf') {j:Nat} {o:PO} {st:St} {r} (h:xX cf j o st=some r):xX cf' j o st=some r:=by
 simp only[xX] at h ⊢
 split at h
 ·simp only[ab] at h ⊢
  obtain⟨a,h1,h2⟩:=h
  exact⟨a,Ng hc h1,h2⟩
 ·split at h
  ·split at h
   ·rename_i hb
    simp only[ah hb,ab] at h ⊢
    obtain⟨a,h1,h2⟩:=h
    exact⟨a,Ng hc h1,h2⟩
   ·rename_i hb
    rw[af hb]; exact h
  ·exact h
  ·simp at h
theorem GN {cf cf':wE} (hc:BJ cf cf'):∀{os:List PO} {j:Nat} {st:St} {r},zj cf j os st=some r→zj cf' j os st=some r
 | [],_,_,_,h=>h
 | o :: os, j, st, r, h => by
   simp only[zj,ai] at h ⊢
   obtain⟨a,h1,h2⟩:=h
   exact⟨a,Ji hc h1,GN hc h2⟩
theorem Ee {cf cf':wE} (hc:BJ cf cf') {os:List PO} {st:St} {r} (h:zd cf os st=some r):zd cf' os st=some r:=GN hc h
def Ef (ob ob':yq):Prop:=∀k args h r,ob k args h=some r→ob' k args h=some r
theorem b55 {ex ex':PC→St→Option (PExit×St)} (he:∀c st r,ex c st=some r→ex' c st=some r) {nv:Nat} {a b:PC} {args:List PV} {h:List PObj} {r} (hr:B2 ex nv a b args h=some r):B2 ex' nv a b args h=some r:=by
 unfold B2 at hr ⊢
 split at hr
 ·split at hr
  ·rename_i h1 h2
   simp only[h1,he _ _ _ h2]
   split at hr
   all_goals first
    | (rename_i h3 h4; simp only[h3,he _ _ _ h4]; exact hr)
    | simp at hr
  ·simp at hr
 ·simp at hr
theorem Nh {ex ex':PC→St→Option (PExit×St)} (he:∀c st r,ex c st=some r→ex' c st=some r) {dfr} {f:PFunc} {args:List PV} {h:List PObj} {r} (hr:zN ex dfr f args h=some r):zN ex' dfr f args h=some r:=by
 unfold zN at hr ⊢
 split at hr
 ·exact b55 he hr
 ·split at hr
  ·rename_i hx; rw[he _ _ _ hx]; exact hr
  ·rename_i hx; rw[he _ _ _ hx]; exact hr
  ·rename_i hx; rw[he _ _ _ hx]; exact hr
  ·rename_i hx; rw[he _ _ _ hx]; exact hr
  ·simp at hr
theorem Fg {x:Option (Out×List PObj)} {r}:Gp x=some r↔x=some (.val r.1,r.2):=by
 obtain⟨v,h⟩:=r
 unfold Gp
 split
 ·simp
 ·rename_i c9
  constructor
  ·intro e; cases e
  ·intro e; exact absurd e (c9 v h)
theorem Fh {ex ex':PC→St→Option (PExit×St)} (he:∀c st r,ex c st=some r→ex' c st=some r) {dfr} {f:PFunc} {args:List PV} {h:List PObj} {r} (hr:Ac ex dfr f args h=some r):Ac ex' dfr f args h=some r:=by
 simp only[Ac] at hr ⊢
 split at hr
 ·simp at hr
 ·rename_i hn
  rw[af hn]
  rw[Fg] at hr ⊢
  exact Nh he hr
theorem BG {a b:Option (PV×List PObj)} {r}:CM a b=some r↔a=some r∧b=some r:=by
 unfold CM
 constructor
 ·intro h
  split at h
  ·rename_i he; exact⟨h,he▸h⟩
  ·simp at h
 ·rintro⟨rfl,rfl⟩; simp
theorem Fi {ex ex':PC→St→Option (PExit×St)} (he:∀c st r,ex c st=some r→ex' c st=some r) {f:PFunc} {o:Option Nat} {args:List PV} {h:List PObj} {r} (hr:zO ex f o args h=some r):zO ex' f o args h=some r:=by
 unfold zO at hr ⊢
 split at hr
 ·simp at hr
 ·rename_i hn
  rw[af hn]
  split at hr
  ·rename_i hx; rw[he _ _ _ hx]; exact hr
  ·rename_i hx; rw[he _ _ _ hx]; exact hr
  ·simp at hr
theorem b7h {ex ex':PC→St→Option (PExit×St)} (he:∀c st r,ex c st=some r→ex' c st=some r) {f:PFunc} {args:List PV} {h:List PObj} {r} (hr:AY ex f args h=some r):AY ex' f args h=some r:=by
 unfold AY at hr ⊢
 split at hr
 ·split at hr
  ·rename_i hd
   try simp only[hd]
   split at hr
   ·rename_i hl
    rw[ah hl]
    split at hr
    ·rename_i hs
     rw[BG] at hr
     rw[ah hs,BG]
     exact⟨Fi he hr.1,Fi he hr.2⟩
    ·rename_i hs
     rw[af hs]
     exact Fi he hr
   ·simp at hr
  ·simp at hr
 ·simp at hr
theorem Jj {ex ex':PC→St→Option (PExit×St)} (he:∀c st r,ex c st=some r→ex' c st=some r) (L:Nat→Option PFunc):BJ (yc ex L) (yc ex' L):=by
 intro k args h r hr
 simp only[yc] at hr ⊢
 split at hr
 ·simp at hr
 ·split at hr
  ·rename_i hl
   simp only[ah hl]
   split at hr
   ·exact hr
   split at hr
   ·rename_i hs
    rw[BG] at hr
    rw[ah hs,BG]
    exact⟨Fh he hr.1,Fh he hr.2⟩
   ·rename_i hs
    rw[af hs]
    exact Fh he hr
  ·rename_i hl
   rw[af hl]
   exact b7h he hr
theorem Jk {ex ex':PC→St→Option (PExit×St)} (he:∀c st r,ex c st=some r→ex' c st=some r) (L:Nat→Option PFunc):Ef (yB ex L) (yB ex' L):=by
 intro k args h r hr
 simp only[yB] at hr ⊢
 split at hr
 ·simp at hr
 ·split at hr
  ·rename_i hl
   simp only[ah hl]
   split at hr
   ·exact hr
   ·exact Nh he hr
  ·simp at hr
theorem Jl {cf cf':wE} {ob ob':yq} (hc:BJ cf cf') (hb:Ef ob ob') {j:Nat} {o:PO} {st:St} {r} (h:yV cf ob j o st=some r):yV cf' ob' j o st=some r:=by
 unfold yV at h ⊢
 split at h
 ·split at h
  ·rename_i vs lX
   split at h
   ·rename_i h1; simp only[lX,hb _ _ _ _ h1]; exact h
   ·rename_i h1; simp only[lX,hb _ _ _ _ h1]; exact h
   ·simp at h
  ·simp at h
 ·split at h
  ·rename_i hf vs
   split at h
   ·rename_i h1; simp only[hf,vs,hb _ _ _ _ h1]; exact h
   ·rename_i h1; simp only[hf,vs,hb _ _ _ _ h1]; exact h
   ·simp at h
  ·simp at h
 ·simp at h
 ·simp at h
 ·simp only[ab] at h ⊢
  obtain⟨a,h1,h2⟩:=h
  exact⟨a,Ji hc h1,h2⟩
theorem BK {cf cf':wE} {ob ob':yq} (hc:BJ cf cf') (hb:Ef ob ob'):∀{os:List PO} {j:Nat} {st:St} {r},yd cf ob j os st=some r→yd cf' ob' j os st=some r
 | [],_,_,_,h=>h
 | o :: os, j, st, r, h => by
   simp only[yd] at h ⊢
   split at h
   ·rename_i h1
    rw[Jl hc hb h1]
    exact BK hc hb h
   ·rename_i c9
    rw[Jl hc hb h]
    split
    ·rename_i h1
     simp only[aa] at h1
     subst h1
     exact absurd h (c9 _)
    ·rfl
section
variable {L:Nat→Option PFunc}
theorem Ak:∀(n:Nat) (c:PC) (st:St) (r),wB L n c st=some r→wB L (n+1) c st=some r
 | 0,c,st,r,h=>by simp[wB] at h
 | n + 1, c, st, r, h => by
   have dP:BJ (yc (wB L n) L) (yc (wB L (n+1)) L):=Jj (Ak n) L
   have dF:Ef (yB (wB L n) L) (yB (wB L (n+1)) L):=Jk (Ak n) L
   rw[wB.eq_def] at h ⊢
   cases c with
   | skip=>exact h
   | exit id=>exact h
   | ret=>exact h
   | region ops =>
     simp only[ab] at h ⊢
     obtain⟨a,h1,h2⟩:=h
     exact⟨a,Ee dP h1,h2⟩
   | branch ops x a b =>
     try simp only at h
     try simp only
     split at h
     ·rename_i h1
      rw[Ee dP h1]
      simp only
      split at h
      ·rename_i h2
       exact Ak n _ _ _ h
      ·simp at h
     ·simp at h
   | seq a b =>
     try simp only at h
     try simp only
     split at h
     ·rename_i h1
      rw[Ak n _ _ _ h1]
      exact Ak n _ _ _ h
     ·simp at h
     ·rename_i c9 fy
      rw[Ak n _ _ _ h]
      split
      ·rename_i h1; cases h1; exact absurd h (c9 _)
      ·rename_i h1; cases h1; exact absurd h (fy _ _ _ _)
      ·rfl
   | block id c =>
     try simp only at h
     try simp only
     split at h
     ·rename_i h1
      rw[Ak n _ _ _ h1]; exact h
     ·simp at h
     ·rename_i c9 fy
      rw[Ak n _ _ _ h]
      split
      ·rename_i h1; cases h1; exact absurd h (c9 _ _)
      ·rename_i h1; cases h1; exact absurd h (fy _ _ _ _)
      ·rfl
   | loop c =>
     try simp only at h
     try simp only
     split at h
     ·rename_i h1
      rw[Ak n _ _ _ h1]
      exact Ak n _ _ _ h
     ·simp at h
     ·rename_i c9 fy
      rw[Ak n _ _ _ h]
      split
      ·rename_i h1; cases h1; exact absurd h (c9 _)
      ·rename_i h1; cases h1; exact absurd h (fy _ _ _ _)
      ·rfl
   | bregion ops =>
     try simp only at h
     try simp only
     split at h
     ·rename_i h1; rw[BK dP dF h1]; exact h
     ·rename_i h1; rw[BK dP dF h1]; exact h
     ·simp at h
   | bbranch ops x a b =>
     try simp only at h
     try simp only
     split at h
     ·rename_i h1
      rw[BK dP dF h1]
      simp only
      split at h
      ·exact Ak n _ _ _ h
      ·simp at h
     ·rename_i h1; rw[BK dP dF h1]; exact h
     ·simp at h
   | raise ops t x =>
     try simp only at h
     try simp only
     split at h
     ·rename_i h1; rw[Ee dP h1]; exact h
     ·simp at h
   | rangeF x kb caps =>
     try simp only at h
     try simp only
     split at h
     ·rename_i hf ea
      try simp only[hf,ea]
      split at h
      ·simp at h
      ·rename_i hn
       rw[af hn]
       split at h
       ·rename_i h1; rw[dF _ _ _ _ h1]; exact h
       ·rename_i h1; rw[dF _ _ _ _ h1]; exact h
       ·simp at h
     ·simp at h
   | round a b=>simp at h
   | guarded kd caps c =>
     try simp only at h
     try simp only
     split at h
     ·simp at h
     ·rename_i hn
      rw[af hn]
      split at h
      ·rename_i ea
       split at h
       ·rename_i h1; rw[Ak n _ _ _ h1]; exact h
       ·rename_i h1; rw[Ak n _ _ _ h1]; exact h
       ·rename_i h1; rw[Ak n _ _ _ h1]; exact h
       ·simp at h
      ·simp at h
theorem Bj {n m:Nat} (dq:n≤m) {c:PC} {st:St} {r} (h:wB L n c st=some r):wB L m c st=some r:=by
 induction dq with
 | refl=>exact h
 | step _ ih=>exact Ak _ _ _ _ ih
theorem C2 {n m:Nat} (dq:n≤m):BJ (call L n) (call L m):=Jj (λ_ _ _ h=>Bj dq h) L
open Classical in
noncomputable def evL (L:Nat→Option PFunc) (c:PC) (st:St):Option (PExit×St):=
 if h:∃r,∃n,wB L n c st=some r then some h.choose else none
open Classical in
noncomputable def wr (L:Nat→Option PFunc):wE:=λk args hp=>
 if h:∃r,∃n,call L n k args hp=some r then some h.choose else none
theorem xG {c:PC} {st:St} {r}:evL L c st=some r↔∃n,wB L n c st=some r:=by
 unfold evL
 split
 ·rename_i h
  obtain⟨n,hn⟩:=h.choose_spec
  constructor
  ·intro e; cases e; exact⟨n,hn⟩
  ·rintro⟨m,hm⟩
   have h1:=Bj (bw n m) hn
   have h2:=Bj (bz n m) hm
   rw[h1] at h2; exact h2
 ·rename_i h
  constructor
  ·intro e; cases e
  ·rintro⟨m,hm⟩; exact absurd ⟨r,m,hm⟩ h
theorem BL {k:Nat} {args:List PV} {hp:List PObj} {r}:wr L k args hp=some r↔∃n,call L n k args hp=some r:=by
 unfold wr
 split
 ·rename_i h
  obtain⟨n,hn⟩:=h.choose_spec
  constructor
  ·intro e; cases e; exact⟨n,hn⟩
  ·rintro⟨m,hm⟩
   have h1:=C2 (bw n m) _ _ _ _ hn
   have h2:=C2 (bz n m) _ _ _ _ hm
   rw[h1] at h2; exact h2
 ·rename_i h
  constructor
  ·intro e; cases e
  ·rintro⟨m,hm⟩; exact absurd ⟨r,m,hm⟩ h
theorem Dp (n:Nat):BJ (call L n) (wr L):=λ_ _ _ _ h=>BL.2 ⟨n,h⟩
theorem Fj {n m:Nat} (dq:n≤m):Ef (yB (wB L n) L) (yB (wB L m) L):=Jk (λ_ _ _ h=>Bj dq h) L
open Classical in
noncomputable def wQ (L:Nat→Option PFunc):yq:=λk args hp=>
 if h:∃r,∃n,yB (wB L n) L k args hp=some r then some h.choose else none
theorem CC {k:Nat} {args:List PV} {hp:List PObj} {r}:wQ L k args hp=some r↔∃n,yB (wB L n) L k args hp=some r:=by
 unfold wQ
 split
 ·rename_i h
  obtain⟨n,hn⟩:=h.choose_spec
  constructor
  ·intro e; cases e; exact⟨n,hn⟩
  ·rintro⟨m,hm⟩
   have h1:=Fj (bw n m) _ _ _ _ hn
   have h2:=Fj (bz n m) _ _ _ _ hm
   rw[h1] at h2; exact h2
 ·rename_i h
  constructor
  ·intro e; cases e
  ·rintro⟨m,hm⟩; exact absurd ⟨r,m,hm⟩ h
theorem GO (n:Nat):Ef (yB (wB L n) L) (wQ L):=λ_ _ _ _ h=>CC.2 ⟨n,h⟩
theorem c3R {o:HOp} {st:St} {r} (h:wx (wr L) o st=some r):∃n,wx (call L n) o st=some r:=by
 cases o<;>try exact⟨0,h⟩
 case call k args=>
  simp only[wx,ai,ab] at h ⊢
  obtain⟨vs,h1,q,h2,h3⟩:=h
  obtain⟨n,hn⟩:=BL.1 h2
  exact⟨n,vs,h1,q,hn,h3⟩
 case rcall k args=>
  simp only[wx,ai] at h ⊢
  obtain⟨vs,h1,q,h2,h3⟩:=h
  obtain⟨n,hn⟩:=BL.1 h2
  exact⟨n,vs,h1,q,hn,h3⟩
 case callv x args=>
  simp only[wx] at h ⊢
  split at h
  ·simp only[ab] at h ⊢
   obtain⟨q,h2,h3⟩:=h
   obtain⟨n,hn⟩:=BL.1 h2
   exact⟨n,q,hn,h3⟩
  ·simp at h
theorem Ni {o:POp} {st:St} {r} (h:opv (wr L) o st=some r):∃n,opv (call L n) o st=some r:=by
 cases o<;>try exact⟨0,h⟩
 case h o=>exact c3R h
 case pcall k args=>
  simp only[opv] at h ⊢
  split at h
  ·split at h
   ·rename_i hr
    simp only[hr,if_true]
    split at h
    ·rename_i hx
     obtain⟨n,hn⟩:=BL.1 hx
     exact⟨n,by rw[hn]; exact h⟩
    ·simp at h
   ·simp at h
  ·simp at h
 case pcallx k args own=>
  simp only[opv] at h ⊢
  cases own with
  | none =>
    simp only at h ⊢
    split at h
    ·split at h
     ·rename_i hr
      simp only[hr,if_true]
      split at h
      ·rename_i hx
       obtain⟨n,hn⟩:=BL.1 hx
       exact⟨n,by rw[hn]; exact h⟩
      ·simp at h
     ·simp at h
    ·simp at h
  | some i =>
    simp only at h ⊢
    split at h
    ·split at h
     ·rename_i hr
      split at h
      ·rename_i hx
       obtain⟨n,hn⟩:=BL.1 hx
       exact⟨n,by rw[ah hr,hn]; exact h⟩
      ·simp at h
     ·simp at h
    ·simp at h
 case callv x args=>
  simp only[opv] at h ⊢
  split at h
  ·split at h
   ·rename_i hr
    simp only[hr,if_true]
    split at h
    ·rename_i hx
     obtain⟨n,hn⟩:=BL.1 hx
     exact⟨n,by rw[hn]; exact h⟩
    ·simp at h
   ·simp at h
  ·simp at h
theorem Nj {j:Nat} {o:PO} {st:St} {r} (h:xX (wr L) j o st=some r):∃n,xX (call L n) j o st=some r:=by
 simp only[xX] at h ⊢
 split at h
 ·simp only[ab] at h ⊢
  obtain⟨a,h1,h2⟩:=h
  obtain⟨n,hn⟩:=Ni h1
  exact⟨n,a,hn,h2⟩
 ·split at h
  ·split at h
   ·rename_i hb
    simp only[ah hb,ab] at h ⊢
    obtain⟨a,h1,h2⟩:=h
    obtain⟨n,hn⟩:=Ni h1
    exact⟨n,a,hn,h2⟩
   ·rename_i hb
    simp only[af hb]; exact⟨0,h⟩
  ·exact⟨0,h⟩
  ·simp at h
theorem GP:∀{os:List PO} {j:Nat} {st:St} {r},zj (wr L) j os st=some r→∃n,zj (call L n) j os st=some r
 | [],_,_,_,h=>⟨0,h⟩
 | o :: os, j, st, r, h => by
   simp only[zj,ai] at h ⊢
   obtain⟨a,h1,h2⟩:=h
   obtain⟨n,hn⟩:=Nj h1
   obtain⟨m,hm⟩:=GP h2
   exact⟨max n m,a,Ji (C2 (bw ..)) hn,GN (C2 (bz ..)) hm⟩
theorem Nk {j:Nat} {o:PO} {st:St} {r} (h:yV (wr L) (wQ L) j o st=some r):∃n,yV (call L n) (yB (wB L n) L) j o st=some r:=by
 unfold yV at h ⊢
 split at h
 ·split at h
  ·rename_i vs lX
   split at h
   ·rename_i h1
    obtain⟨n,hn⟩:=CC.1 h1
    exact⟨n,by simp only[lX,hn]; exact h⟩
   ·rename_i h1
    obtain⟨n,hn⟩:=CC.1 h1
    exact⟨n,by simp only[lX,hn]; exact h⟩
   ·simp at h
  ·simp at h
 ·split at h
  ·rename_i hf vs
   split at h
   ·rename_i h1
    obtain⟨n,hn⟩:=CC.1 h1
    exact⟨n,by simp only[hf,vs,hn]; exact h⟩
   ·rename_i h1
    obtain⟨n,hn⟩:=CC.1 h1
    exact⟨n,by simp only[hf,vs,hn]; exact h⟩
   ·simp at h
  ·simp at h
 ·simp at h
 ·simp at h
 ·simp only[ab] at h ⊢
  obtain⟨a,h1,h2⟩:=h
  obtain⟨n,hn⟩:=Nj h1
  exact⟨n,a,hn,h2⟩
theorem Fk:∀{os:List PO} {j:Nat} {st:St} {r},yd (wr L) (wQ L) j os st=some r→∃n,yd (call L n) (yB (wB L n) L) j os st=some r
 | [],_,_,_,h=>⟨0,h⟩
 | o :: os, j, st, r, h => by
   simp only[yd] at h ⊢
   split at h
   ·rename_i h1
    obtain⟨n,hn⟩:=Nk h1
    obtain⟨m,hm⟩:=Fk h
    refine⟨max n m,?_⟩
    rw[Jl (C2 (bw n m)) (Fj (bw n m)) hn]
    exact BK (C2 (bz n m)) (Fj (bz n m)) hm
   ·rename_i c9
    obtain⟨n,hn⟩:=Nk h
    refine⟨n,?_⟩
    rw[hn]
    split
    ·rename_i h1
     simp only[aa] at h1
     subst h1
     exact absurd h (c9 _)
    ·rfl
theorem Bi {α:Type} {a b:Option α} (h:∀r,a=some r↔b=some r):a=b:=by
 cases a with
 | some x=>exact((h x).1 rfl).symm
 | none => cases b with
   | none=>rfl
   | some y=>exact(h y).2 rfl
theorem B8 {c:PC} {st:St} {r}:evL L c st=some r↔∃n,wB L (n+1) c st=some r:=by
 rw[xG]
 exact⟨fun⟨n,hn⟩=>⟨n,Ak n _ _ _ hn⟩,fun⟨n,hn⟩=>⟨n+1,hn⟩⟩
@[simp] theorem c3S {st:St}:evL L .skip st=some (.normal,st):=xG.2 ⟨1,rfl⟩
@[simp] theorem c3T {id:Nat} {st:St}:evL L (.exit id) st=some (.exit id,st):=xG.2 ⟨1,rfl⟩
@[simp] theorem c6j {st:St}:evL L .ret st=some (.ret,st):=xG.2 ⟨1,rfl⟩
theorem c0v {ops:List PO} {st:St}:evL L (.region ops) st=(zd (wr L) ops st).map λst=>(.normal,xP st):=by
 refine Bi λr =>?_
 rw[B8]
 simp only[wB,ab]
 constructor
 ·rintro⟨n,a,h,e⟩; exact⟨a,Ee (Dp n) h,e⟩
 ·rintro⟨a,h,e⟩
  obtain⟨n,hn⟩:=GP h
  exact⟨n,a,hn,e⟩
theorem c0w {ops:List PO} {x:PX} {a b:PC} {st:St}:evL L (.branch ops x a b) st =
  (zd (wr L) ops st).bind λst=>match rd st x with | some (.bool t)=>evL L (if t then a else b) (xP st) | _=>none:=by
 refine Bi λr =>?_
 rw[B8]
 simp only[wB,ai]
 constructor
 ·rintro⟨n,h⟩
  split at h
  ·rename_i s1 h1
   refine⟨s1,Ee (Dp n) h1,?_⟩
   split at h
   ·rename_i t h2; simp only[h2]; exact xG.2 ⟨n,h⟩
   ·simp at h
  ·simp at h
 ·rintro⟨s1,h1,h2⟩
  obtain⟨n,hn⟩:=GP h1
  split at h2
  ·rename_i t h3
   obtain⟨m,hm⟩:=xG.1 h2
   refine⟨max n m,?_⟩
   rw[show zd (yc (wB L (max n m)) L) ops st=some s1 from GN (C2 (bw ..)) hn]
   simp only[h3]
   exact Bj (bz ..) hm
  ·simp at h2
@[simp] theorem c6k {a b:PC} {st:St}:evL L (.seq a b) st=match evL L a st with | some (.normal,st)=>evL L b st | some (.after _ _ _,_)=>none | r=>r:=by
 refine Bi λr =>?_
 rw[B8]
 simp only[wB]
 constructor
 ·rintro⟨n,h⟩
  split at h
  ·rename_i s1 h1; rw[xG.2 ⟨n,h1⟩]; exact xG.2 ⟨n,h⟩
  ·simp at h
  ·rename_i c9 fy
   rw[xG.2 ⟨n,h⟩]
   split
   ·rename_i h1; cases h1; exact absurd h (c9 _)
   ·rename_i h1; cases h1; exact absurd h (fy _ _ _ _)
   ·rfl
 ·intro h
  split at h
  ·rename_i s1 h1
   obtain⟨n,hn⟩:=xG.1 h1
   obtain⟨m,hm⟩:=xG.1 h
   refine⟨max n m,?_⟩
   rw[Bj (bw ..) hn]
   exact Bj (bz ..) hm
  ·simp at h
  ·rename_i c9 fy
   obtain⟨n,hn⟩:=xG.1 h
   refine⟨n,?_⟩
   rw[hn]
   split
   ·rename_i h1; cases h1; exact absurd h (c9 _)
   ·rename_i h1; cases h1; exact absurd h (fy _ _ _ _)
   ·rfl
theorem c3U {c:PC} {st:St}:evL L (.loop c) st=match evL L c st with | some (.normal,st)=>evL L (.loop c) st | some (.after _ _ _,_)=>none | r=>r:=by
 refine Bi λr =>?_
 rw[B8]
 simp only[wB]
 constructor
 ·rintro⟨n,h⟩
  split at h
  ·rename_i s1 h1; rw[xG.2 ⟨n,h1⟩]; exact xG.2 ⟨n,h⟩
  ·simp at h
  ·rename_i c9 fy
   rw[xG.2 ⟨n,h⟩]
   split
   ·rename_i h1; cases h1; exact absurd h (c9 _)
   ·rename_i h1; cases h1; exact absurd h (fy _ _ _ _)
   ·rfl
 ·intro h
  split at h
  ·rename_i s1 h1
   obtain⟨n,hn⟩:=xG.1 h1
   obtain⟨m,hm⟩:=xG.1 h
   refine⟨max n m,?_⟩
   rw[Bj (bw ..) hn]
   exact Bj (bz ..) hm
  ·simp at h
  ·rename_i c9 fy
   obtain⟨n,hn⟩:=xG.1 h
   refine⟨n,?_⟩
   rw[hn]
   split
   ·rename_i h1; cases h1; exact absurd h (c9 _)
   ·rename_i h1; cases h1; exact absurd h (fy _ _ _ _)
   ·rfl
@[simp] theorem c2b {id:Nat} {c:PC} {st:St}:evL L (.block id c) st=match evL L c st with | some (.exit i,st)=>if i=id then some (.normal,st) else some (.exit i,st) | some (.after _ _ _,_)=>none | r=>r:=by
 refine Bi λr =>?_
 rw[B8]
 simp only[wB]
 constructor
 ·rintro⟨n,h⟩
  split at h
  ·rename_i h1; rw[xG.2 ⟨n,h1⟩]; exact h
  ·simp at h
  ·rename_i c9 fy
   rw[xG.2 ⟨n,h⟩]
   split
   ·rename_i h1; cases h1; exact absurd h (c9 _ _)
   ·rename_i h1; cases h1; exact absurd h (fy _ _ _ _)
   ·rfl
 ·intro h
  split at h
  ·rename_i h1
   obtain⟨n,hn⟩:=xG.1 h1
   exact⟨n,by rw[hn]; exact h⟩
  ·simp at h
  ·rename_i c9 fy
   obtain⟨n,hn⟩:=xG.1 h
   refine⟨n,?_⟩
   rw[hn]
   split
   ·rename_i h1; cases h1; exact absurd h (c9 _ _)
   ·rename_i h1; cases h1; exact absurd h (fy _ _ _ _)
   ·rfl
theorem b8L {ops:List PO} {st:St}:evL L (.bregion ops) st=match yd (wr L) (wQ L) 0 ops (AW ops.length st) with
  | some (none,st)=>some (.normal,xP st)
  | some (some v,st)=>some (.boom v,xP st)
  | none=>none:=by
 refine Bi λr =>?_
 rw[B8]
 simp only[wB]
 constructor
 ·rintro⟨n,h⟩
  split at h
  ·rename_i h1; rw[BK (Dp n) (GO n) h1]; exact h
  ·rename_i h1; rw[BK (Dp n) (GO n) h1]; exact h
  ·simp at h
 ·intro h
  split at h
  ·rename_i h1
   obtain⟨n,hn⟩:=Fk h1
   exact⟨n,by simp only[call] at hn; rw[hn]; exact h⟩
  ·rename_i h1
   obtain⟨n,hn⟩:=Fk h1
   exact⟨n,by simp only[call] at hn; rw[hn]; exact h⟩
  ·simp at h
theorem b8M {ops:List PO} {x:PX} {a b:PC} {st:St}:evL L (.bbranch ops x a b) st=match yd (wr L) (wQ L) 0 ops (AW ops.length st) with
  | some (none,st)=>(match rd st x with | some (.bool t)=>evL L (if t then a else b) (xP st) | _=>none)
  | some (some v,st)=>some (.boom v,xP st)
  | none=>none:=by
 refine Bi λr =>?_
 rw[B8]
 simp only[wB]
 constructor
 ·rintro⟨n,h⟩
  split at h
  ·rename_i h1
   rw[BK (Dp n) (GO n) h1]
   simp only
   split at h
   ·rename_i t h2
    rw[h2]
    exact xG.2 ⟨n,h⟩
   ·simp at h
  ·rename_i h1; rw[BK (Dp n) (GO n) h1]; exact h
  ·simp at h
 ·intro h
  split at h
  ·rename_i h1
   obtain⟨n,hn⟩:=Fk h1
   split at h
   ·rename_i t h2
    obtain⟨m,hm⟩:=xG.1 h
    refine⟨max n m,?_⟩
    have:=BK (C2 (bw n m)) (Fj (bw n m)) hn
    simp only[call] at this
    rw[this]
    simp only[h2]
    exact Bj (bz ..) hm
   ·simp at h
  ·rename_i h1
   obtain⟨n,hn⟩:=Fk h1
   exact⟨n,by simp only[call] at hn; rw[hn]; exact h⟩
  ·simp at h
theorem c2c {ops:List PO} {t:Nat} {x:PX} {st:St}:evL L (.raise ops t x) st=match zd (wr L) ops st with
  | some st=>(match rd st x with | some p=>some (.boom (.iface t p),xP st) | none=>none)
  | none=>none:=by
 refine Bi λr =>?_
 rw[B8]
 simp only[wB]
 constructor
 ·rintro⟨n,h⟩
  split at h
  ·rename_i st1 h1
   rw[Ee (Dp n) h1]
   simp only
   cases hr:rd st1 x with
   | none=>rw[hr] at h; simp at h
   | some p=>rw[hr] at h; exact h
  ·simp at h
 ·intro h
  split at h
  ·rename_i st1 h1
   obtain⟨n,hn⟩:=GP h1
   refine⟨n,?_⟩
   rw[show zd (yc (wB L n) L) ops st=some st1 from hn]
   simp only
   cases hr:rd st1 x with
   | none=>rw[hr] at h; simp at h
   | some p=>rw[hr] at h; exact h
  ·simp at h
theorem b8N {kd:Nat} {caps:List PX} {c:PC} {st:St} (hn:c.NR=true):evL L (.guarded kd caps c) st=match rdAll st caps with
  | some cs => (match evL L c st with
    | some (.normal,st)=>some (.after kd cs none,st)
    | some (.ret,st)=>some (.after kd cs none,st)
    | some (.boom v,st)=>some (.after kd cs (some v),st)
    | _=>none)
  | none=>none:=by
 refine Bi λr =>?_
 rw[B8]
 simp only[wB,hn,Bool.true_eq_false,if_false]
 constructor
 ·rintro⟨n,h⟩
  split at h
  ·rename_i ea
   simp only[ea]
   split at h
   ·rename_i h1; rw[xG.2 ⟨n,h1⟩]; exact h
   ·rename_i h1; rw[xG.2 ⟨n,h1⟩]; exact h
   ·rename_i h1; rw[xG.2 ⟨n,h1⟩]; exact h
   ·simp at h
  ·simp at h
 ·intro h
  split at h
  ·rename_i ea
   simp only[ea]
   split at h
   ·rename_i h1
    obtain⟨n,hn⟩:=xG.1 h1
    exact⟨n,by rw[hn]; exact h⟩
   ·rename_i h1
    obtain⟨n,hn⟩:=xG.1 h1
    exact⟨n,by rw[hn]; exact h⟩
   ·rename_i h1
    obtain⟨n,hn⟩:=xG.1 h1
    exact⟨n,by rw[hn]; exact h⟩
   ·simp at h
  ·simp at h
theorem b7k {nv:Nat} {a b:PC} {args:List PV} {h:List PObj} {r} (hr:B2 (evL L) nv a b args h=some r):∃n,B2 (wB L n) nv a b args h=some r:=by
 unfold B2 at hr ⊢
 split at hr
 ·split at hr
  ·rename_i h1 h2
   obtain⟨n,hn⟩:=xG.1 h2
   split at hr
   all_goals first
    | (rename_i h3 h4
       obtain⟨m,hm⟩:=xG.1 h4
       refine⟨max n m,?_⟩
       simp only[h1,Bj (bw n m) hn,h3,Bj (bz n m) hm]
       exact hr)
    | simp at hr
  ·simp at hr
 ·simp at hr
theorem Nl {dfr} {f:PFunc} {args:List PV} {h:List PObj} {r} (hr:zN (evL L) dfr f args h=some r):∃n,zN (wB L n) dfr f args h=some r:=by
 unfold zN at hr ⊢
 split at hr
 ·exact b7k hr
 ·split at hr
  ·rename_i h1
   obtain⟨n,hn⟩:=xG.1 h1
   exact⟨n,by rw[hn]; exact hr⟩
  ·rename_i h1
   obtain⟨n,hn⟩:=xG.1 h1
   exact⟨n,by rw[hn]; exact hr⟩
  ·rename_i h1
   obtain⟨n,hn⟩:=xG.1 h1
   exact⟨n,by rw[hn]; exact hr⟩
  ·rename_i h1
   obtain⟨n,hn⟩:=xG.1 h1
   exact⟨n,by rw[hn]; exact hr⟩
  ·simp at hr
theorem Jm {dfr} {f:PFunc} {args:List PV} {h:List PObj} {r} (hr:Ac (evL L) dfr f args h=some r):∃n,Ac (wB L n) dfr f args h=some r:=by
 simp only[Ac] at hr ⊢
 split at hr
 ·simp at hr
 ·rename_i hn
  rw[Fg] at hr
  obtain⟨n,h⟩:=Nl hr
  exact⟨n,by rw[af hn,Fg]; exact h⟩
theorem GQ {n m:Nat} (h:n≤m):∀(c:PC) (st:St) (r),wB L n c st=some r→wB L m c st=some r:=by
 intro c st r hr
 induction h with
 | refl=>exact hr
 | step _ ih=>exact Ak _ _ _ _ ih
theorem Jn {f:PFunc} {o:Option Nat} {args:List PV} {h:List PObj} {r} (hr:zO (evL L) f o args h=some r):∃n,zO (wB L n) f o args h=some r:=by
 unfold zO at hr ⊢
 split at hr
 ·simp at hr
 ·rename_i hn
  split at hr
  ·rename_i h1
   obtain⟨n,je⟩:=xG.1 h1
   exact⟨n,by rw[af hn,je]; exact hr⟩
  ·rename_i h1
   obtain⟨n,je⟩:=xG.1 h1
   exact⟨n,by rw[af hn,je]; exact hr⟩
  ·simp at hr
theorem b8O {f:PFunc} {args:List PV} {h:List PObj} {r} (hr:AY (evL L) f args h=some r):∃n,AY (wB L n) f args h=some r:=by
 unfold AY at hr ⊢
 split at hr
 ·split at hr
  ·rename_i hd
   try simp only[hd]
   split at hr
   ·rename_i hl
    simp only[ah hl]
    split at hr
    ·rename_i hs
     rw[BG] at hr
     obtain⟨n,hn⟩:=Jn hr.1
     obtain⟨m,hm⟩:=Jn hr.2
     refine⟨max n m,?_⟩
     rw[ah hs,BG]
     exact⟨Fi (GQ (bw ..)) hn,Fi (GQ (bz ..)) hm⟩
    ·rename_i hs
     obtain⟨n,hn⟩:=Jn hr
     exact⟨n,by rw[af hs]; exact hn⟩
   ·simp at hr
  ·simp at hr
 ·simp at hr
theorem Fl {k:Nat} {args:List PV} {hp:List PObj}:wr L k args hp=yc (evL L) L k args hp:=by
 refine Bi λr =>?_
 rw[BL]
 simp only[call,yc]
 constructor
 ·rintro⟨n,h⟩
  exact Jj (ex:=wB L n) (λc st r h=>xG.2 ⟨n,h⟩) L k args hp r h
 ·intro h
  split at h
  ·simp at h
  ·rename_i f hf
   split at h
   ·rename_i hl
    simp only[ah hl]
    split at h
    ·exact⟨0,h⟩
    split at h
    ·rename_i hs
     rw[BG] at h
     obtain⟨n,hn⟩:=Jm h.1
     obtain⟨m,hm⟩:=Jm h.2
     refine⟨max n m,?_⟩
     rw[ah hs,BG]
     exact⟨Fh (GQ (bw ..)) hn,Fh (GQ (bz ..)) hm⟩
    ·rename_i hs
     obtain⟨n,hn⟩:=Jm h
     exact⟨n,by rw[af hs]; exact hn⟩
   ·rename_i hl
    obtain⟨n,hn⟩:=b8O h
    exact⟨n,by rw[af hl]; exact hn⟩
theorem c6l {k:Nat} {args:List PV} {hp:List PObj}:wQ L k args hp=yB (evL L) L k args hp:=by
 refine Bi λr =>?_
 rw[CC]
 constructor
 ·rintro⟨n,h⟩
  exact Jk (ex:=wB L n) (λc st r h=>xG.2 ⟨n,h⟩) L k args hp r h
 ·intro h
  simp only[yB] at h ⊢
  split at h
  ·simp at h
  ·rename_i f hf
   split at h
   ·rename_i hl
    simp only[ah hl]
    split at h
    ·exact⟨0,h⟩
    ·exact Nl h
   ·simp at h
theorem c3V {k:Nat} {f:PFunc} {args:List PV} {hp:List PObj} (hf:L k=some f) (hl:args.length=f.params) {r:PV×List PObj}
  (he:zN (evL L) (yU L) f args hp=some (.val r.1,r.2)) (hs:f.split=false:=by rfl) (fD:f.prim=none:=by rfl) (hr:f.code.isRound=false:=by rfl):
  wr L k args hp=some r:=by
 rw[Fl,yc,hf]
 simp only[ah hl,hs,fD,bK,ay,if_false,Ac,hr]
 rw[Fg]; exact he
theorem M2 {k:Nat} {f:PFunc} {args:List PV} {hp:List PObj} (hf:L k=some f) (hl:args.length=f.params) {r:Out×List PObj}
  (he:zN (evL L) (yU L) f args hp=some r) (hs:f.split=false:=by rfl) (fD:f.prim=none:=by rfl):
  wQ L k args hp=some r:=by
 rw[c6l,yB,hf]
 simp only[hl,hs,fD,and_self,if_true]
 exact he
theorem b7l (own:Option Nat):EQ (EP own)=own:=by cases own<;>simp[EQ,EP]
theorem Mx (own:Option Nat) (args:List PV):(Ar own args).length=args.length+1002:=by simp only[Ar,bi,av,c50]; omega
theorem My (ex:PC→St→Option (PExit×St)) (f:PFunc) (own:Option Nat) (args:List PV) (h:List PObj):AY ex f (Ar own args) h =
  if args.length=f.params∧f.prim=none then
   if f.split&&vague (args.headD .dead) then CM (zO ex f own (.nils::args.tail) h) (zO ex f own (.void::args.tail) h)
   else zO ex f own args h
  else none:=by
 have:(pad++EP own::args).drop pad.length=EP own::args:=List.drop_left' rfl
 unfold AY Ar
 simp only
 rw[this]
 simp only[b7l]
theorem c2e {k:Nat} {f:PFunc} {own:Option Nat} {args:List PV} {hp:List PObj} (hf:L k=some f) (hl:args.length=f.params) {r:PV×List PObj}
  (he:zO (evL L) f own args hp=some r) (hs:f.split=false:=by rfl) (fD:f.prim=none:=by rfl) (kC:f.params<1000:=by decide):wr L k (Ar own args) hp=some r:=by
 rw[Fl,yc,hf]
 have:¬(Ar own args).length=f.params:=by rw[Mx]; omega
 simp only[af this,My,hl,fD,and_self,if_true,hs,bK,ay,if_false]
 exact he
end
end PI
