import Derived.Test.YtljbhgpanekomaaGreatDoorPiBase
set_option linter.unusedSimpArgs false
set_option linter.unusedVariables false
set_option linter.unusedSectionVars false
namespace PI
def b8Z (cf cf':a0v):Prop:=∀k args h r,cf k args h=some r→cf' k args h=some r
theorem b80 {cf cf':a0v} (hc:b8Z cf cf') {o:HOp} {st:St} {r} (h:a0N cf o st=some r):a0N cf' o st=some r:=by
 cases o<;>try exact h
 case call k args=>
  simp only[a0N,Option.bind_eq_some_iff,Option.map_eq_some_iff] at h ⊢
  obtain⟨vs,h1,q,h2,h3⟩:=h
  exact⟨vs,h1,q,hc _ _ _ _ h2,h3⟩
 case rcall k args=>
  simp only[a0N,Option.bind_eq_some_iff] at h ⊢
  obtain⟨vs,h1,q,h2,h3⟩:=h
  exact⟨vs,h1,q,hc _ _ _ _ h2,h3⟩
 case callv x args=>
  simp only[a0N] at h ⊢
  split at h
  ·simp only[Option.map_eq_some_iff] at h ⊢
   obtain⟨q,h2,h3⟩:=h
   exact⟨q,hc _ _ _ _ h2,h3⟩
  ·simp at h
theorem b6Z {cf cf':a0v} (hc:b8Z cf cf') {o:POp} {st:St} {r} (h:opv cf o st=some r):opv cf' o st=some r:=by
 cases o<;>try exact h
 case h o=>exact b80 hc h
 case pcall k args=>
  simp only[opv] at h ⊢
  split at h
  ·split at h
   ·rename_i hr
    simp only[hr,if_true]
    split at h
    ·rename_i hx; rw[hc _ _ _ _ hx]; exact h
    ·simp at h
   ·simp at h
  ·simp at h
 case pcallx k args own=>
  simp only[opv] at h ⊢
  cases own with
  | none =>
    simp only at h ⊢
    split at h
    ·split at h
     ·rename_i hr
      simp only[hr,if_true]
      split at h
      ·rename_i hx; rw[hc _ _ _ _ hx]; exact h
      ·simp at h
     ·simp at h
    ·simp at h
  | some i =>
    simp only at h ⊢
    split at h
    ·split at h
     ·rename_i hr
      rw[if_pos hr]
      split at h
      ·rename_i hx; rw[hc _ _ _ _ hx]; exact h
      ·simp at h
     ·simp at h
    ·simp at h
 case callv x args=>
  simp only[opv] at h ⊢
  split at h
  ·split at h
   ·rename_i hr
    simp only[hr,if_true]
    split at h
    ·rename_i hx; rw[hc _ _ _ _ hx]; exact h
    ·simp at h
   ·simp at h
  ·simp at h
theorem a9D {cf cf':a0v} (hc:b8Z cf cf') {j:Nat} {o:PO} {st:St} {r} (h:a20 cf j o st=some r):a20 cf' j o st=some r:=by
 simp only[a20] at h ⊢
 split at h
 ·simp only[Option.map_eq_some_iff] at h ⊢
  obtain⟨a,h1,h2⟩:=h
  exact⟨a,b6Z hc h1,h2⟩
 ·split at h
  ·split at h
   ·rename_i hb
    simp only[if_pos hb,Option.map_eq_some_iff] at h ⊢
    obtain⟨a,h1,h2⟩:=h
    exact⟨a,b6Z hc h1,h2⟩
   ·rename_i hb
    rw[if_neg hb]; exact h
  ·exact h
  ·simp at h
theorem a42 {cf cf':a0v} (hc:b8Z cf cf'):∀{os:List PO} {j:Nat} {st:St} {r},a09 cf j os st=some r→a09 cf' j os st=some r
 | [],_,_,_,h=>h
 | o :: os, j, st, r, h => by
   simp only[a09,Option.bind_eq_some_iff] at h ⊢
   obtain⟨a,h1,h2⟩:=h
   exact⟨a,a9D hc h1,a42 hc h2⟩
theorem a3E {cf cf':a0v} (hc:b8Z cf cf') {os:List PO} {st:St} {r} (h:a1A cf os st=some r):a1A cf' os st=some r:=a42 hc h
def b7F (ob ob':a8E):Prop:=∀k args h r,ob k args h=some r→ob' k args h=some r
theorem b3p {ex ex':PC→St→Option (PExit×St)} (he:∀c st r,ex c st=some r→ex' c st=some r) {nv:Nat} {a b:PC} {args:List PV} {h:List PObj} {r} (hr:a4p ex nv a b args h=some r):a4p ex' nv a b args h=some r:=by
 unfold a4p at hr ⊢
 split at hr
 ·split at hr
  ·rename_i h1 h2
   simp only[h1,he _ _ _ h2]
   split at hr
   all_goals first
    | (rename_i h3 h4; simp only[h3,he _ _ _ h4]; exact hr)
    | simp at hr
  ·simp at hr
 ·simp at hr
theorem b1r {ex ex':PC→St→Option (PExit×St)} (he:∀c st r,ex c st=some r→ex' c st=some r) {dfr} {f:PFunc} {args:List PV} {h:List PObj} {r} (hr:a3B ex dfr f args h=some r):a3B ex' dfr f args h=some r:=by
 unfold a3B at hr ⊢
 split at hr
 ·exact b3p he hr
 ·split at hr
  ·rename_i hx; rw[he _ _ _ hx]; exact hr
  ·rename_i hx; rw[he _ _ _ hx]; exact hr
  ·rename_i hx; rw[he _ _ _ hx]; exact hr
  ·rename_i hx; rw[he _ _ _ hx]; exact hr
  ·simp at hr
theorem a6e {x:Option (Out×List PObj)} {r}:c0q x=some r↔x=some (.val r.1,r.2):=by
 obtain⟨v,h⟩:=r
 unfold c0q
 split
 ·simp
 ·rename_i hne
  constructor
  ·intro e; cases e
  ·intro e; exact absurd e (hne v h)
theorem a6f {ex ex':PC→St→Option (PExit×St)} (he:∀c st r,ex c st=some r→ex' c st=some r) {dfr} {f:PFunc} {args:List PV} {h:List PObj} {r} (hr:a6v ex dfr f args h=some r):a6v ex' dfr f args h=some r:=by
 simp only[a6v] at hr ⊢
 split at hr
 ·simp at hr
 ·rename_i hn
  rw[if_neg hn]
  rw[a6e] at hr ⊢
  exact b1r he hr
theorem a2k {a b:Option (PV×List PObj)} {r}:b37 a b=some r↔a=some r∧b=some r:=by
 unfold b37
 constructor
 ·intro h
  split at h
  ·rename_i he; exact⟨h,he▸h⟩
  ·simp at h
 ·rintro⟨rfl,rfl⟩; simp
theorem a5j {ex ex':PC→St→Option (PExit×St)} (he:∀c st r,ex c st=some r→ex' c st=some r) {f:PFunc} {o:Option Nat} {args:List PV} {h:List PObj} {r} (hr:a4c ex f o args h=some r):a4c ex' f o args h=some r:=by
 unfold a4c at hr ⊢
 split at hr
 ·simp at hr
 ·rename_i hn
  rw[if_neg hn]
  split at hr
  ·rename_i hx; rw[he _ _ _ hx]; exact hr
  ·rename_i hx; rw[he _ _ _ hx]; exact hr
  ·simp at hr
theorem b4A {ex ex':PC→St→Option (PExit×St)} (he:∀c st r,ex c st=some r→ex' c st=some r) {f:PFunc} {args:List PV} {h:List PObj} {r} (hr:a4g ex f args h=some r):a4g ex' f args h=some r:=by
 unfold a4g at hr ⊢
 split at hr
 ·split at hr
  ·rename_i hd
   try simp only[hd]
   split at hr
   ·rename_i hl
    rw[if_pos hl]
    split at hr
    ·rename_i hs
     rw[a2k] at hr
     rw[if_pos hs,a2k]
     exact⟨a5j he hr.1,a5j he hr.2⟩
    ·rename_i hs
     rw[if_neg hs]
     exact a5j he hr
   ·simp at hr
  ·simp at hr
 ·simp at hr
theorem a6C {ex ex':PC→St→Option (PExit×St)} (he:∀c st r,ex c st=some r→ex' c st=some r) (L:Nat→Option PFunc):b8Z (a0I ex L) (a0I ex' L):=by
 intro k args h r hr
 simp only[a0I] at hr ⊢
 split at hr
 ·simp at hr
 ·split at hr
  ·rename_i hl
   simp only[if_pos hl]
   split at hr
   ·exact hr
   split at hr
   ·rename_i hs
    rw[a2k] at hr
    rw[if_pos hs,a2k]
    exact⟨a6f he hr.1,a6f he hr.2⟩
   ·rename_i hs
    rw[if_neg hs]
    exact a6f he hr
  ·rename_i hl
   rw[if_neg hl]
   exact b4A he hr
theorem a7j {ex ex':PC→St→Option (PExit×St)} (he:∀c st r,ex c st=some r→ex' c st=some r) (L:Nat→Option PFunc):b7F (a1j ex L) (a1j ex' L):=by
 intro k args h r hr
 simp only[a1j] at hr ⊢
 split at hr
 ·simp at hr
 ·split at hr
  ·rename_i hl
   simp only[if_pos hl]
   split at hr
   ·exact hr
   ·exact b1r he hr
  ·simp at hr
theorem a9E {cf cf':a0v} {ob ob':a8E} (hc:b8Z cf cf') (hb:b7F ob ob') {j:Nat} {o:PO} {st:St} {r} (h:a4B cf ob j o st=some r):a4B cf' ob' j o st=some r:=by
 unfold a4B at h ⊢
 split at h
 ·split at h
  ·rename_i vs hvs
   split at h
   ·rename_i h1; simp only[hvs,hb _ _ _ _ h1]; exact h
   ·rename_i h1; simp only[hvs,hb _ _ _ _ h1]; exact h
   ·simp at h
  ·simp at h
 ·split at h
  ·rename_i hf vs
   split at h
   ·rename_i h1; simp only[hf,vs,hb _ _ _ _ h1]; exact h
   ·rename_i h1; simp only[hf,vs,hb _ _ _ _ h1]; exact h
   ·simp at h
  ·simp at h
 ·simp at h
 ·simp at h
 ·simp only[Option.map_eq_some_iff] at h ⊢
  obtain⟨a,h1,h2⟩:=h
  exact⟨a,a9D hc h1,h2⟩
theorem a2N {cf cf':a0v} {ob ob':a8E} (hc:b8Z cf cf') (hb:b7F ob ob'):∀{os:List PO} {j:Nat} {st:St} {r},a7T cf ob j os st=some r→a7T cf' ob' j os st=some r
 | [],_,_,_,h=>h
 | o :: os, j, st, r, h => by
   simp only[a7T] at h ⊢
   split at h
   ·rename_i h1
    rw[a9E hc hb h1]
    exact a2N hc hb h
   ·rename_i hne
    rw[a9E hc hb h]
    split
    ·rename_i h1
     simp only[Option.some.injEq] at h1
     subst h1
     exact absurd h (hne _)
    ·rfl
section
variable {L:Nat→Option PFunc}
theorem a00:∀(n:Nat) (c:PC) (st:St) (r),a1e L n c st=some r→a1e L (n+1) c st=some r
 | 0,c,st,r,h=>by simp[a1e] at h
 | n + 1, c, st, r, h => by
   have hcf:b8Z (a0I (a1e L n) L) (a0I (a1e L (n+1)) L):=a6C (a00 n) L
   have hob:b7F (a1j (a1e L n) L) (a1j (a1e L (n+1)) L):=a7j (a00 n) L
   rw[a1e.eq_def] at h ⊢
   cases c with
   | skip=>exact h
   | exit id=>exact h
   | ret=>exact h
   | region ops =>
     simp only[Option.map_eq_some_iff] at h ⊢
     obtain⟨a,h1,h2⟩:=h
     exact⟨a,a3E hcf h1,h2⟩
   | branch ops x a b =>
     try simp only at h
     try simp only
     split at h
     ·rename_i h1
      rw[a3E hcf h1]
      simp only
      split at h
      ·rename_i h2
       exact a00 n _ _ _ h
      ·simp at h
     ·simp at h
   | seq a b =>
     try simp only at h
     try simp only
     split at h
     ·rename_i h1
      rw[a00 n _ _ _ h1]
      exact a00 n _ _ _ h
     ·simp at h
     ·rename_i hne hna
      rw[a00 n _ _ _ h]
      split
      ·rename_i h1; cases h1; exact absurd h (hne _)
      ·rename_i h1; cases h1; exact absurd h (hna _ _ _ _)
      ·rfl
   | block id c =>
     try simp only at h
     try simp only
     split at h
     ·rename_i h1
      rw[a00 n _ _ _ h1]; exact h
     ·simp at h
     ·rename_i hne hna
      rw[a00 n _ _ _ h]
      split
      ·rename_i h1; cases h1; exact absurd h (hne _ _)
      ·rename_i h1; cases h1; exact absurd h (hna _ _ _ _)
      ·rfl
   | loop c =>
     try simp only at h
     try simp only
     split at h
     ·rename_i h1
      rw[a00 n _ _ _ h1]
      exact a00 n _ _ _ h
     ·simp at h
     ·rename_i hne hna
      rw[a00 n _ _ _ h]
      split
      ·rename_i h1; cases h1; exact absurd h (hne _)
      ·rename_i h1; cases h1; exact absurd h (hna _ _ _ _)
      ·rfl
   | bregion ops =>
     try simp only at h
     try simp only
     split at h
     ·rename_i h1; rw[a2N hcf hob h1]; exact h
     ·rename_i h1; rw[a2N hcf hob h1]; exact h
     ·simp at h
   | bbranch ops x a b =>
     try simp only at h
     try simp only
     split at h
     ·rename_i h1
      rw[a2N hcf hob h1]
      simp only
      split at h
      ·exact a00 n _ _ _ h
      ·simp at h
     ·rename_i h1; rw[a2N hcf hob h1]; exact h
     ·simp at h
   | raise ops t x =>
     try simp only at h
     try simp only
     split at h
     ·rename_i h1; rw[a3E hcf h1]; exact h
     ·simp at h
   | rangeF x kb caps =>
     try simp only at h
     try simp only
     split at h
     ·rename_i hf hcs
      try simp only[hf,hcs]
      split at h
      ·simp at h
      ·rename_i hn
       rw[if_neg hn]
       split at h
       ·rename_i h1; rw[hob _ _ _ _ h1]; exact h
       ·rename_i h1; rw[hob _ _ _ _ h1]; exact h
       ·simp at h
     ·simp at h
   | round a b=>simp at h
   | guarded kd caps c =>
     try simp only at h
     try simp only
     split at h
     ·simp at h
     ·rename_i hn
      rw[if_neg hn]
      split at h
      ·rename_i hcs
       split at h
       ·rename_i h1; rw[a00 n _ _ _ h1]; exact h
       ·rename_i h1; rw[a00 n _ _ _ h1]; exact h
       ·rename_i h1; rw[a00 n _ _ _ h1]; exact h
       ·simp at h
      ·simp at h
theorem a2B {n m:Nat} (hnm:n≤m) {c:PC} {st:St} {r} (h:a1e L n c st=some r):a1e L m c st=some r:=by
 induction hnm with
 | refl=>exact h
 | step _ ih=>exact a00 _ _ _ _ ih
theorem a4C {n m:Nat} (hnm:n≤m):b8Z (call L n) (call L m):=a6C (λ_ _ _ h=>a2B hnm h) L
open Classical in
noncomputable def evL (L:Nat→Option PFunc) (c:PC) (st:St):Option (PExit×St):=
 if h:∃r,∃n,a1e L n c st=some r then some h.choose else none
open Classical in
noncomputable def a0o (L:Nat→Option PFunc):a0v:=λk args hp=>
 if h:∃r,∃n,call L n k args hp=some r then some h.choose else none
theorem a0H {c:PC} {st:St} {r}:evL L c st=some r↔∃n,a1e L n c st=some r:=by
 unfold evL
 split
 ·rename_i h
  obtain⟨n,hn⟩:=h.choose_spec
  constructor
  ·intro e; cases e; exact⟨n,hn⟩
  ·rintro⟨m,hm⟩
   have h1:=a2B (Nat.le_max_left n m) hn
   have h2:=a2B (Nat.le_max_right n m) hm
   rw[h1] at h2; exact h2
 ·rename_i h
  constructor
  ·intro e; cases e
  ·rintro⟨m,hm⟩; exact absurd ⟨r,m,hm⟩ h
theorem a2O {k:Nat} {args:List PV} {hp:List PObj} {r}:a0o L k args hp=some r↔∃n,call L n k args hp=some r:=by
 unfold a0o
 split
 ·rename_i h
  obtain⟨n,hn⟩:=h.choose_spec
  constructor
  ·intro e; cases e; exact⟨n,hn⟩
  ·rintro⟨m,hm⟩
   have h1:=a4C (Nat.le_max_left n m) _ _ _ _ hn
   have h2:=a4C (Nat.le_max_right n m) _ _ _ _ hm
   rw[h1] at h2; exact h2
 ·rename_i h
  constructor
  ·intro e; cases e
  ·rintro⟨m,hm⟩; exact absurd ⟨r,m,hm⟩ h
theorem a8s (n:Nat):b8Z (call L n) (a0o L):=λ_ _ _ _ h=>a2O.2 ⟨n,h⟩
theorem a8O {n m:Nat} (hnm:n≤m):b7F (a1j (a1e L n) L) (a1j (a1e L m) L):=a7j (λ_ _ _ h=>a2B hnm h) L
open Classical in
noncomputable def a3b (L:Nat→Option PFunc):a8E:=λk args hp=>
 if h:∃r,∃n,a1j (a1e L n) L k args hp=some r then some h.choose else none
theorem a43 {k:Nat} {args:List PV} {hp:List PObj} {r}:a3b L k args hp=some r↔∃n,a1j (a1e L n) L k args hp=some r:=by
 unfold a3b
 split
 ·rename_i h
  obtain⟨n,hn⟩:=h.choose_spec
  constructor
  ·intro e; cases e; exact⟨n,hn⟩
  ·rintro⟨m,hm⟩
   have h1:=a8O (Nat.le_max_left n m) _ _ _ _ hn
   have h2:=a8O (Nat.le_max_right n m) _ _ _ _ hm
   rw[h1] at h2; exact h2
 ·rename_i h
  constructor
  ·intro e; cases e
  ·rintro⟨m,hm⟩; exact absurd ⟨r,m,hm⟩ h
theorem b60 (n:Nat):b7F (a1j (a1e L n) L) (a3b L):=λ_ _ _ _ h=>a43.2 ⟨n,h⟩
theorem c0B {o:HOp} {st:St} {r} (h:a0N (a0o L) o st=some r):∃n,a0N (call L n) o st=some r:=by
 cases o<;>try exact⟨0,h⟩
 case call k args=>
  simp only[a0N,Option.bind_eq_some_iff,Option.map_eq_some_iff] at h ⊢
  obtain⟨vs,h1,q,h2,h3⟩:=h
  obtain⟨n,hn⟩:=a2O.1 h2
  exact⟨n,vs,h1,q,hn,h3⟩
 case rcall k args=>
  simp only[a0N,Option.bind_eq_some_iff] at h ⊢
  obtain⟨vs,h1,q,h2,h3⟩:=h
  obtain⟨n,hn⟩:=a2O.1 h2
  exact⟨n,vs,h1,q,hn,h3⟩
 case callv x args=>
  simp only[a0N] at h ⊢
  split at h
  ·simp only[Option.map_eq_some_iff] at h ⊢
   obtain⟨q,h2,h3⟩:=h
   obtain⟨n,hn⟩:=a2O.1 h2
   exact⟨n,q,hn,h3⟩
  ·simp at h
theorem b81 {o:POp} {st:St} {r} (h:opv (a0o L) o st=some r):∃n,opv (call L n) o st=some r:=by
 cases o<;>try exact⟨0,h⟩
 case h o=>exact c0B h
 case pcall k args=>
  simp only[opv] at h ⊢
  split at h
  ·split at h
   ·rename_i hr
    simp only[hr,if_true]
    split at h
    ·rename_i hx
     obtain⟨n,hn⟩:=a2O.1 hx
     exact⟨n,by rw[hn]; exact h⟩
    ·simp at h
   ·simp at h
  ·simp at h
 case pcallx k args own=>
  simp only[opv] at h ⊢
  cases own with
  | none =>
    simp only at h ⊢
    split at h
    ·split at h
     ·rename_i hr
      simp only[hr,if_true]
      split at h
      ·rename_i hx
       obtain⟨n,hn⟩:=a2O.1 hx
       exact⟨n,by rw[hn]; exact h⟩
      ·simp at h
     ·simp at h
    ·simp at h
  | some i =>
    simp only at h ⊢
    split at h
    ·split at h
     ·rename_i hr
      split at h
      ·rename_i hx
       obtain⟨n,hn⟩:=a2O.1 hx
       exact⟨n,by rw[if_pos hr,hn]; exact h⟩
      ·simp at h
     ·simp at h
    ·simp at h
 case callv x args=>
  simp only[opv] at h ⊢
  split at h
  ·split at h
   ·rename_i hr
    simp only[hr,if_true]
    split at h
    ·rename_i hx
     obtain⟨n,hn⟩:=a2O.1 hx
     exact⟨n,by rw[hn]; exact h⟩
    ·simp at h
   ·simp at h
  ·simp at h
theorem b4B {j:Nat} {o:PO} {st:St} {r} (h:a20 (a0o L) j o st=some r):∃n,a20 (call L n) j o st=some r:=by
 simp only[a20] at h ⊢
 split at h
 ·simp only[Option.map_eq_some_iff] at h ⊢
  obtain⟨a,h1,h2⟩:=h
  obtain⟨n,hn⟩:=b81 h1
  exact⟨n,a,hn,h2⟩
 ·split at h
  ·split at h
   ·rename_i hb
    simp only[if_pos hb,Option.map_eq_some_iff] at h ⊢
    obtain⟨a,h1,h2⟩:=h
    obtain⟨n,hn⟩:=b81 h1
    exact⟨n,a,hn,h2⟩
   ·rename_i hb
    simp only[if_neg hb]; exact⟨0,h⟩
  ·exact⟨0,h⟩
  ·simp at h
theorem a5I:∀{os:List PO} {j:Nat} {st:St} {r},a09 (a0o L) j os st=some r→∃n,a09 (call L n) j os st=some r
 | [],_,_,_,h=>⟨0,h⟩
 | o :: os, j, st, r, h => by
   simp only[a09,Option.bind_eq_some_iff] at h ⊢
   obtain⟨a,h1,h2⟩:=h
   obtain⟨n,hn⟩:=b4B h1
   obtain⟨m,hm⟩:=a5I h2
   exact⟨max n m,a,a9D (a4C (Nat.le_max_left ..)) hn,a42 (a4C (Nat.le_max_right ..)) hm⟩
theorem b4C {j:Nat} {o:PO} {st:St} {r} (h:a4B (a0o L) (a3b L) j o st=some r):∃n,a4B (call L n) (a1j (a1e L n) L) j o st=some r:=by
 unfold a4B at h ⊢
 split at h
 ·split at h
  ·rename_i vs hvs
   split at h
   ·rename_i h1
    obtain⟨n,hn⟩:=a43.1 h1
    exact⟨n,by simp only[hvs,hn]; exact h⟩
   ·rename_i h1
    obtain⟨n,hn⟩:=a43.1 h1
    exact⟨n,by simp only[hvs,hn]; exact h⟩
   ·simp at h
  ·simp at h
 ·split at h
  ·rename_i hf vs
   split at h
   ·rename_i h1
    obtain⟨n,hn⟩:=a43.1 h1
    exact⟨n,by simp only[hf,vs,hn]; exact h⟩
   ·rename_i h1
    obtain⟨n,hn⟩:=a43.1 h1
    exact⟨n,by simp only[hf,vs,hn]; exact h⟩
   ·simp at h
  ·simp at h
 ·simp at h
 ·simp at h
 ·simp only[Option.map_eq_some_iff] at h ⊢
  obtain⟨a,h1,h2⟩:=h
  obtain⟨n,hn⟩:=b4B h1
  exact⟨n,a,hn,h2⟩
theorem a8P:∀{os:List PO} {j:Nat} {st:St} {r},a7T (a0o L) (a3b L) j os st=some r→∃n,a7T (call L n) (a1j (a1e L n) L) j os st=some r
 | [],_,_,_,h=>⟨0,h⟩
 | o :: os, j, st, r, h => by
   simp only[a7T] at h ⊢
   split at h
   ·rename_i h1
    obtain⟨n,hn⟩:=b4C h1
    obtain⟨m,hm⟩:=a8P h
    refine⟨max n m,?_⟩
    rw[a9E (a4C (Nat.le_max_left n m)) (a8O (Nat.le_max_left n m)) hn]
    exact a2N (a4C (Nat.le_max_right n m)) (a8O (Nat.le_max_right n m)) hm
   ·rename_i hne
    obtain⟨n,hn⟩:=b4C h
    refine⟨n,?_⟩
    rw[hn]
    split
    ·rename_i h1
     simp only[Option.some.injEq] at h1
     subst h1
     exact absurd h (hne _)
    ·rfl
theorem a4Q {α:Type} {a b:Option α} (h:∀r,a=some r↔b=some r):a=b:=by
 cases a with
 | some x=>exact((h x).1 rfl).symm
 | none => cases b with
   | none=>rfl
   | some y=>exact(h y).2 rfl
theorem a4r {c:PC} {st:St} {r}:evL L c st=some r↔∃n,a1e L (n+1) c st=some r:=by
 rw[a0H]
 exact⟨fun⟨n,hn⟩=>⟨n,a00 n _ _ _ hn⟩,fun⟨n,hn⟩=>⟨n+1,hn⟩⟩
@[simp] theorem c0C {st:St}:evL L .skip st=some (.normal,st):=a0H.2 ⟨1,rfl⟩
@[simp] theorem c0D {id:Nat} {st:St}:evL L (.exit id) st=some (.exit id,st):=a0H.2 ⟨1,rfl⟩
@[simp] theorem c26 {st:St}:evL L .ret st=some (.ret,st):=a0H.2 ⟨1,rfl⟩
theorem b7G {ops:List PO} {st:St}:evL L (.region ops) st=(a1A (a0o L) ops st).map λst=>(.normal,a1i st):=by
 refine a4Q λr =>?_
 rw[a4r]
 simp only[a1e,Option.map_eq_some_iff]
 constructor
 ·rintro⟨n,a,h,e⟩; exact⟨a,a3E (a8s n) h,e⟩
 ·rintro⟨a,h,e⟩
  obtain⟨n,hn⟩:=a5I h
  exact⟨n,a,hn,e⟩
theorem b7H {ops:List PO} {x:PX} {a b:PC} {st:St}:evL L (.branch ops x a b) st =
  (a1A (a0o L) ops st).bind λst=>match rd st x with | some (.bool t)=>evL L (if t then a else b) (a1i st) | _=>none:=by
 refine a4Q λr =>?_
 rw[a4r]
 simp only[a1e,Option.bind_eq_some_iff]
 constructor
 ·rintro⟨n,h⟩
  split at h
  ·rename_i s1 h1
   refine⟨s1,a3E (a8s n) h1,?_⟩
   split at h
   ·rename_i t h2; simp only[h2]; exact a0H.2 ⟨n,h⟩
   ·simp at h
  ·simp at h
 ·rintro⟨s1,h1,h2⟩
  obtain⟨n,hn⟩:=a5I h1
  split at h2
  ·rename_i t h3
   obtain⟨m,hm⟩:=a0H.1 h2
   refine⟨max n m,?_⟩
   rw[show a1A (a0I (a1e L (max n m)) L) ops st=some s1 from a42 (a4C (Nat.le_max_left ..)) hn]
   simp only[h3]
   exact a2B (Nat.le_max_right ..) hm
  ·simp at h2
@[simp] theorem c27 {a b:PC} {st:St}:evL L (.seq a b) st=match evL L a st with | some (.normal,st)=>evL L b st | some (.after _ _ _,_)=>none | r=>r:=by
 refine a4Q λr =>?_
 rw[a4r]
 simp only[a1e]
 constructor
 ·rintro⟨n,h⟩
  split at h
  ·rename_i s1 h1; rw[a0H.2 ⟨n,h1⟩]; exact a0H.2 ⟨n,h⟩
  ·simp at h
  ·rename_i hne hna
   rw[a0H.2 ⟨n,h⟩]
   split
   ·rename_i h1; cases h1; exact absurd h (hne _)
   ·rename_i h1; cases h1; exact absurd h (hna _ _ _ _)
   ·rfl
 ·intro h
  split at h
  ·rename_i s1 h1
   obtain⟨n,hn⟩:=a0H.1 h1
   obtain⟨m,hm⟩:=a0H.1 h
   refine⟨max n m,?_⟩
   rw[a2B (Nat.le_max_left ..) hn]
   exact a2B (Nat.le_max_right ..) hm
  ·simp at h
  ·rename_i hne hna
   obtain⟨n,hn⟩:=a0H.1 h
   refine⟨n,?_⟩
   rw[hn]
   split
   ·rename_i h1; cases h1; exact absurd h (hne _)
   ·rename_i h1; cases h1; exact absurd h (hna _ _ _ _)
   ·rfl
theorem c0E {c:PC} {st:St}:evL L (.loop c) st=match evL L c st with | some (.normal,st)=>evL L (.loop c) st | some (.after _ _ _,_)=>none | r=>r:=by
 refine a4Q λr =>?_
 rw[a4r]
 simp only[a1e]
 constructor
 ·rintro⟨n,h⟩
  split at h
  ·rename_i s1 h1; rw[a0H.2 ⟨n,h1⟩]; exact a0H.2 ⟨n,h⟩
  ·simp at h
  ·rename_i hne hna
   rw[a0H.2 ⟨n,h⟩]
   split
   ·rename_i h1; cases h1; exact absurd h (hne _)
   ·rename_i h1; cases h1; exact absurd h (hna _ _ _ _)
   ·rfl
 ·intro h
  split at h
  ·rename_i s1 h1
   obtain⟨n,hn⟩:=a0H.1 h1
   obtain⟨m,hm⟩:=a0H.1 h
   refine⟨max n m,?_⟩
   rw[a2B (Nat.le_max_left ..) hn]
   exact a2B (Nat.le_max_right ..) hm
  ·simp at h
  ·rename_i hne hna
   obtain⟨n,hn⟩:=a0H.1 h
   refine⟨n,?_⟩
   rw[hn]
   split
   ·rename_i h1; cases h1; exact absurd h (hne _)
   ·rename_i h1; cases h1; exact absurd h (hna _ _ _ _)
   ·rfl
@[simp] theorem b82 {id:Nat} {c:PC} {st:St}:evL L (.block id c) st=match evL L c st with | some (.exit i,st)=>if i=id then some (.normal,st) else some (.exit i,st) | some (.after _ _ _,_)=>none | r=>r:=by
 refine a4Q λr =>?_
 rw[a4r]
 simp only[a1e]
 constructor
 ·rintro⟨n,h⟩
  split at h
  ·rename_i h1; rw[a0H.2 ⟨n,h1⟩]; exact h
  ·simp at h
  ·rename_i hne hna
   rw[a0H.2 ⟨n,h⟩]
   split
   ·rename_i h1; cases h1; exact absurd h (hne _ _)
   ·rename_i h1; cases h1; exact absurd h (hna _ _ _ _)
   ·rfl
 ·intro h
  split at h
  ·rename_i h1
   obtain⟨n,hn⟩:=a0H.1 h1
   exact⟨n,by rw[hn]; exact h⟩
  ·simp at h
  ·rename_i hne hna
   obtain⟨n,hn⟩:=a0H.1 h
   refine⟨n,?_⟩
   rw[hn]
   split
   ·rename_i h1; cases h1; exact absurd h (hne _ _)
   ·rename_i h1; cases h1; exact absurd h (hna _ _ _ _)
   ·rfl
theorem b5Z {ops:List PO} {st:St}:evL L (.bregion ops) st=match a7T (a0o L) (a3b L) 0 ops (a9s ops.length st) with
  | some (none,st)=>some (.normal,a1i st)
  | some (some v,st)=>some (.boom v,a1i st)
  | none=>none:=by
 refine a4Q λr =>?_
 rw[a4r]
 simp only[a1e]
 constructor
 ·rintro⟨n,h⟩
  split at h
  ·rename_i h1; rw[a2N (a8s n) (b60 n) h1]; exact h
  ·rename_i h1; rw[a2N (a8s n) (b60 n) h1]; exact h
  ·simp at h
 ·intro h
  split at h
  ·rename_i h1
   obtain⟨n,hn⟩:=a8P h1
   exact⟨n,by simp only[call] at hn; rw[hn]; exact h⟩
  ·rename_i h1
   obtain⟨n,hn⟩:=a8P h1
   exact⟨n,by simp only[call] at hn; rw[hn]; exact h⟩
  ·simp at h
theorem b50 {ops:List PO} {x:PX} {a b:PC} {st:St}:evL L (.bbranch ops x a b) st=match a7T (a0o L) (a3b L) 0 ops (a9s ops.length st) with
  | some (none,st)=>(match rd st x with | some (.bool t)=>evL L (if t then a else b) (a1i st) | _=>none)
  | some (some v,st)=>some (.boom v,a1i st)
  | none=>none:=by
 refine a4Q λr =>?_
 rw[a4r]
 simp only[a1e]
 constructor
 ·rintro⟨n,h⟩
  split at h
  ·rename_i h1
   rw[a2N (a8s n) (b60 n) h1]
   simp only
   split at h
   ·rename_i t h2
    rw[h2]
    exact a0H.2 ⟨n,h⟩
   ·simp at h
  ·rename_i h1; rw[a2N (a8s n) (b60 n) h1]; exact h
  ·simp at h
 ·intro h
  split at h
  ·rename_i h1
   obtain⟨n,hn⟩:=a8P h1
   split at h
   ·rename_i t h2
    obtain⟨m,hm⟩:=a0H.1 h
    refine⟨max n m,?_⟩
    have:=a2N (a4C (Nat.le_max_left n m)) (a8O (Nat.le_max_left n m)) hn
    simp only[call] at this
    rw[this]
    simp only[h2]
    exact a2B (Nat.le_max_right ..) hm
   ·simp at h
  ·rename_i h1
   obtain⟨n,hn⟩:=a8P h1
   exact⟨n,by simp only[call] at hn; rw[hn]; exact h⟩
  ·simp at h
theorem b83 {ops:List PO} {t:Nat} {x:PX} {st:St}:evL L (.raise ops t x) st=match a1A (a0o L) ops st with
  | some st=>(match rd st x with | some p=>some (.boom (.iface t p),a1i st) | none=>none)
  | none=>none:=by
 refine a4Q λr =>?_
 rw[a4r]
 simp only[a1e]
 constructor
 ·rintro⟨n,h⟩
  split at h
  ·rename_i st1 h1
   rw[a3E (a8s n) h1]
   simp only
   cases hr:rd st1 x with
   | none=>rw[hr] at h; simp at h
   | some p=>rw[hr] at h; exact h
  ·simp at h
 ·intro h
  split at h
  ·rename_i st1 h1
   obtain⟨n,hn⟩:=a5I h1
   refine⟨n,?_⟩
   rw[show a1A (a0I (a1e L n) L) ops st=some st1 from hn]
   simp only
   cases hr:rd st1 x with
   | none=>rw[hr] at h; simp at h
   | some p=>rw[hr] at h; exact h
  ·simp at h
theorem b51 {kd:Nat} {caps:List PX} {c:PC} {st:St} (hn:c.NR=true):evL L (.guarded kd caps c) st=match rdAll st caps with
  | some cs => (match evL L c st with
    | some (.normal,st)=>some (.after kd cs none,st)
    | some (.ret,st)=>some (.after kd cs none,st)
    | some (.boom v,st)=>some (.after kd cs (some v),st)
    | _=>none)
  | none=>none:=by
 refine a4Q λr =>?_
 rw[a4r]
 simp only[a1e,hn,Bool.true_eq_false,if_false]
 constructor
 ·rintro⟨n,h⟩
  split at h
  ·rename_i hcs
   simp only[hcs]
   split at h
   ·rename_i h1; rw[a0H.2 ⟨n,h1⟩]; exact h
   ·rename_i h1; rw[a0H.2 ⟨n,h1⟩]; exact h
   ·rename_i h1; rw[a0H.2 ⟨n,h1⟩]; exact h
   ·simp at h
  ·simp at h
 ·intro h
  split at h
  ·rename_i hcs
   simp only[hcs]
   split at h
   ·rename_i h1
    obtain⟨n,hn⟩:=a0H.1 h1
    exact⟨n,by rw[hn]; exact h⟩
   ·rename_i h1
    obtain⟨n,hn⟩:=a0H.1 h1
    exact⟨n,by rw[hn]; exact h⟩
   ·rename_i h1
    obtain⟨n,hn⟩:=a0H.1 h1
    exact⟨n,by rw[hn]; exact h⟩
   ·simp at h
  ·simp at h
theorem b4D {nv:Nat} {a b:PC} {args:List PV} {h:List PObj} {r} (hr:a4p (evL L) nv a b args h=some r):∃n,a4p (a1e L n) nv a b args h=some r:=by
 unfold a4p at hr ⊢
 split at hr
 ·split at hr
  ·rename_i h1 h2
   obtain⟨n,hn⟩:=a0H.1 h2
   split at hr
   all_goals first
    | (rename_i h3 h4
       obtain⟨m,hm⟩:=a0H.1 h4
       refine⟨max n m,?_⟩
       simp only[h1,a2B (Nat.le_max_left n m) hn,h3,a2B (Nat.le_max_right n m) hm]
       exact hr)
    | simp at hr
  ·simp at hr
 ·simp at hr
theorem b2G {dfr} {f:PFunc} {args:List PV} {h:List PObj} {r} (hr:a3B (evL L) dfr f args h=some r):∃n,a3B (a1e L n) dfr f args h=some r:=by
 unfold a3B at hr ⊢
 split at hr
 ·exact b4D hr
 ·split at hr
  ·rename_i h1
   obtain⟨n,hn⟩:=a0H.1 h1
   exact⟨n,by rw[hn]; exact hr⟩
  ·rename_i h1
   obtain⟨n,hn⟩:=a0H.1 h1
   exact⟨n,by rw[hn]; exact hr⟩
  ·rename_i h1
   obtain⟨n,hn⟩:=a0H.1 h1
   exact⟨n,by rw[hn]; exact hr⟩
  ·rename_i h1
   obtain⟨n,hn⟩:=a0H.1 h1
   exact⟨n,by rw[hn]; exact hr⟩
  ·simp at hr
theorem b1s {dfr} {f:PFunc} {args:List PV} {h:List PObj} {r} (hr:a6v (evL L) dfr f args h=some r):∃n,a6v (a1e L n) dfr f args h=some r:=by
 simp only[a6v] at hr ⊢
 split at hr
 ·simp at hr
 ·rename_i hn
  rw[a6e] at hr
  obtain⟨n,h⟩:=b2G hr
  exact⟨n,by rw[if_neg hn,a6e]; exact h⟩
theorem a6D {n m:Nat} (h:n≤m):∀(c:PC) (st:St) (r),a1e L n c st=some r→a1e L m c st=some r:=by
 intro c st r hr
 induction h with
 | refl=>exact hr
 | step _ ih=>exact a00 _ _ _ _ ih
theorem a9F {f:PFunc} {o:Option Nat} {args:List PV} {h:List PObj} {r} (hr:a4c (evL L) f o args h=some r):∃n,a4c (a1e L n) f o args h=some r:=by
 unfold a4c at hr ⊢
 split at hr
 ·simp at hr
 ·rename_i hn
  split at hr
  ·rename_i h1
   obtain⟨n,hn'⟩:=a0H.1 h1
   exact⟨n,by rw[if_neg hn,hn']; exact hr⟩
  ·rename_i h1
   obtain⟨n,hn'⟩:=a0H.1 h1
   exact⟨n,by rw[if_neg hn,hn']; exact hr⟩
  ·simp at hr
theorem b52 {f:PFunc} {args:List PV} {h:List PObj} {r} (hr:a4g (evL L) f args h=some r):∃n,a4g (a1e L n) f args h=some r:=by
 unfold a4g at hr ⊢
 split at hr
 ·split at hr
  ·rename_i hd
   try simp only[hd]
   split at hr
   ·rename_i hl
    simp only[if_pos hl]
    split at hr
    ·rename_i hs
     rw[a2k] at hr
     obtain⟨n,hn⟩:=a9F hr.1
     obtain⟨m,hm⟩:=a9F hr.2
     refine⟨max n m,?_⟩
     rw[if_pos hs,a2k]
     exact⟨a5j (a6D (Nat.le_max_left ..)) hn,a5j (a6D (Nat.le_max_right ..)) hm⟩
    ·rename_i hs
     obtain⟨n,hn⟩:=a9F hr
     exact⟨n,by rw[if_neg hs]; exact hn⟩
   ·simp at hr
  ·simp at hr
 ·simp at hr
theorem b0T {k:Nat} {args:List PV} {hp:List PObj}:a0o L k args hp=a0I (evL L) L k args hp:=by
 refine a4Q λr =>?_
 rw[a2O]
 simp only[call,a0I]
 constructor
 ·rintro⟨n,h⟩
  exact a6C (ex:=a1e L n) (λc st r h=>a0H.2 ⟨n,h⟩) L k args hp r h
 ·intro h
  split at h
  ·simp at h
  ·rename_i f hf
   split at h
   ·rename_i hl
    simp only[if_pos hl]
    split at h
    ·exact⟨0,h⟩
    split at h
    ·rename_i hs
     rw[a2k] at h
     obtain⟨n,hn⟩:=b1s h.1
     obtain⟨m,hm⟩:=b1s h.2
     refine⟨max n m,?_⟩
     rw[if_pos hs,a2k]
     exact⟨a6f (a6D (Nat.le_max_left ..)) hn,a6f (a6D (Nat.le_max_right ..)) hm⟩
    ·rename_i hs
     obtain⟨n,hn⟩:=b1s h
     exact⟨n,by rw[if_neg hs]; exact hn⟩
   ·rename_i hl
    obtain⟨n,hn⟩:=b52 h
    exact⟨n,by rw[if_neg hl]; exact hn⟩
theorem c28 {k:Nat} {args:List PV} {hp:List PObj}:a3b L k args hp=a1j (evL L) L k args hp:=by
 refine a4Q λr =>?_
 rw[a43]
 constructor
 ·rintro⟨n,h⟩
  exact a7j (ex:=a1e L n) (λc st r h=>a0H.2 ⟨n,h⟩) L k args hp r h
 ·intro h
  simp only[a1j] at h ⊢
  split at h
  ·simp at h
  ·rename_i f hf
   split at h
   ·rename_i hl
    simp only[if_pos hl]
    split at h
    ·exact⟨0,h⟩
    ·exact b2G h
   ·simp at h
theorem c0F {k:Nat} {f:PFunc} {args:List PV} {hp:List PObj} (hf:L k=some f) (hl:args.length=f.params) {r:PV×List PObj}
  (he:a3B (evL L) (a4A L) f args hp=some (.val r.1,r.2)) (hs:f.split=false:=by rfl) (hpr:f.prim=none:=by rfl) (hr:f.code.isRound=false:=by rfl):
  a0o L k args hp=some r:=by
 rw[b0T,a0I,hf]
 simp only[if_pos hl,hs,hpr,Bool.false_and,Bool.false_eq_true,if_false,a6v,hr]
 rw[a6e]; exact he
theorem b84 {k:Nat} {f:PFunc} {args:List PV} {hp:List PObj} (hf:L k=some f) (hl:args.length=f.params) {r:Out×List PObj}
  (he:a3B (evL L) (a4A L) f args hp=some r) (hs:f.split=false:=by rfl) (hpr:f.prim=none:=by rfl):
  a3b L k args hp=some r:=by
 rw[c28,a1j,hf]
 simp only[hl,hs,hpr,and_self,if_true]
 exact he
theorem b4E (own:Option Nat):b8w (b34 own)=own:=by cases own<;>simp[b8w,b34]
theorem b53 (own:Option Nat) (args:List PV):(a5f own args).length=args.length+1002:=by simp only[a5f,List.length_cons,List.length_append,c2N]; omega
theorem b4F (ex:PC→St→Option (PExit×St)) (f:PFunc) (own:Option Nat) (args:List PV) (h:List PObj):a4g ex f (a5f own args) h =
  if args.length=f.params∧f.prim=none then
   if f.split&&vague (args.headD .dead) then b37 (a4c ex f own (.nils::args.tail) h) (a4c ex f own (.void::args.tail) h)
   else a4c ex f own args h
  else none:=by
 have:(pad++b34 own::args).drop pad.length=b34 own::args:=List.drop_left' rfl
 unfold a4g a5f
 simp only
 rw[this]
 simp only[b4E]
end
end PI
