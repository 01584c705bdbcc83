import Derived.Test.YtljbhgpanekomaaGreatDoorPiSimpH
set_option linter.unusedSectionVars false
namespace PI
open Go (IntKind BinOp UnOp)
def wpL (L:Nat→Option PFunc) (c:PC) (st:St) (Q:PExit→St→Prop):Prop:=
 match evL L c st with
 | some (e,st')=>Q e st'
 | none=>False
section
variable {L:Nat→Option PFunc} {V l:List PV} {g:Nat} {h:List PObj} {Q:PExit→St→Prop}
theorem a6R {c:PC} {st:St}:wpL L c st Q↔∃e st',evL L c st=some (e,st')∧Q e st':=by
 unfold wpL
 cases evL L c st with
 | none=>simp
 | some r =>
   obtain⟨e,st'⟩:=r
   constructor
   ·intro h; exact⟨e,st',rfl,h⟩
   ·rintro⟨e',st2,h1,h2⟩; cases h1; exact h2
@[simp] theorem d0h:wpL L .skip ⟨V,l,g,h⟩ Q=Q .normal ⟨V,l,g,h⟩:=by simp only[wpL,c0C]
@[simp] theorem d0i (id:Nat):wpL L (.exit id) ⟨V,l,g,h⟩ Q=Q (.exit id) ⟨V,l,g,h⟩:=by simp only[wpL,c0D]
@[simp] theorem d1k:wpL L .ret ⟨V,l,g,h⟩ Q=Q .ret ⟨V,l,g,h⟩:=by simp only[wpL,c26]
def c4D (r:Option St) (K:St→Prop):Prop:=
 match r with
 | some st=>K (a1i st)
 | none=>False
@[simp] theorem c6h (V l:List PV) (g:Nat) (h:List PObj) (K:St→Prop):c4D (some ⟨V,l,g,h⟩) K=K ⟨V,[],g,h⟩:=rfl
@[simp] theorem c6i (K:St→Prop):c4D none K=False:=rfl
@[simp] theorem c6j (ops:List PO):wpL L (.region ops) ⟨V,l,g,h⟩ Q=c4D (a1A (a0o L) ops ⟨V,l,g,h⟩) (Q .normal):=by
 simp only[wpL,b3G]
 cases a1A (a0o L) ops ⟨V,l,g,h⟩<;>rfl
def c1G (L:Nat→Option PFunc) (r:Option St) (x:PX) (a b:PC) (Q:PExit→St→Prop):Prop:=
 match r with
 | some st => (match rd st x with
   | some (.bool t)=>if t=true then wpL L a (a1i st) Q else wpL L b (a1i st) Q
   | _=>False)
 | none=>False
@[simp] theorem c6k (x:PX) (a b:PC):c1G L (some ⟨V,l,g,h⟩) x a b Q=match rd ⟨V,l,g,h⟩ x with
  | some (.bool t)=>if t=true then wpL L a ⟨V,[],g,h⟩ Q else wpL L b ⟨V,[],g,h⟩ Q
  | _=>False:=rfl
@[simp] theorem c6l (x:PX) (a b:PC):c1G L none x a b Q=False:=rfl
@[simp] theorem c6m (ops:List PO) (x:PX) (a b:PC):wpL L (.branch ops x a b) ⟨V,l,g,h⟩ Q=c1G L (a1A (a0o L) ops ⟨V,l,g,h⟩) x a b Q:=by
 simp only[wpL,b3H,c1G]
 cases a1A (a0o L) ops ⟨V,l,g,h⟩ with
 | none=>rfl
 | some st =>
   simp only
   cases rd st x with
   | none=>rfl
   | some v =>
     cases v<;>try rfl
     rename_i t; cases t<;>rfl
def c0o (L:Nat→Option PFunc) (b:PC) (Q:PExit→St→Prop):PExit→St→Prop
 | .normal,st=>wpL L b st Q
 | .after _ _ _,_=>False
 | e,st=>Q e st
@[simp] theorem c4E (b:PC) (st:St):c0o L b Q .normal st=wpL L b st Q:=rfl
@[simp] theorem c8F (b:PC) (i:Nat) (st:St):c0o L b Q (.exit i) st=Q (.exit i) st:=rfl
@[simp] theorem d0j (b:PC) (st:St):c0o L b Q .ret st=Q .ret st:=rfl
@[simp] theorem c8G (b:PC) (v:PV) (st:St):c0o L b Q (.boom v) st=Q (.boom v) st:=rfl
@[simp] theorem d1l (a b:PC):wpL L (.seq a b) ⟨V,l,g,h⟩ Q=wpL L a ⟨V,l,g,h⟩ (c0o L b Q):=by
 simp only[wpL,c27]
 rcases evL L a ⟨V,l,g,h⟩ with _|⟨e,st⟩
 ·rfl
 ·cases e<;>rfl
def a7J (id:Nat) (Q:PExit→St→Prop):PExit→St→Prop
 | .exit i,st=>if i=id then Q .normal st else Q (.exit i) st
 | .after _ _ _,_=>False
 | e,st=>Q e st
@[simp] theorem c4F (id:Nat) (v:PV) (st:St):a7J id Q (.boom v) st=Q (.boom v) st:=rfl
@[simp] theorem c1H (id:Nat) (st:St):a7J id Q .normal st=Q .normal st:=rfl
@[simp] theorem c6n (id:Nat) (st:St):a7J id Q .ret st=Q .ret st:=rfl
@[simp] theorem c4G (id i:Nat) (st:St):a7J id Q (.exit i) st=if i=id then Q .normal st else Q (.exit i) st:=rfl
@[simp] theorem c8H (id:Nat) (c:PC):wpL L (.block id c) ⟨V,l,g,h⟩ Q=wpL L c ⟨V,l,g,h⟩ (a7J id Q):=by
 simp only[wpL,b82]
 rcases evL L c ⟨V,l,g,h⟩ with _|⟨e,st⟩
 ·rfl
 ·cases e<;>try rfl
  rename_i i
  simp only[a7J]
  by_cases hi:i=id<;>simp[hi]
def a3r (L:Nat→Option PFunc) (c:PC) (Q:PExit→St→Prop):PExit→St→Prop:=c0o L (.loop c) Q
@[simp] theorem c2L (c:PC) (st:St):a3r L c Q .normal st=wpL L (.loop c) st Q:=rfl
@[simp] theorem c6o (c:PC) (i:Nat) (st:St):a3r L c Q (.exit i) st=Q (.exit i) st:=rfl
@[simp] theorem c8I (c:PC) (st:St):a3r L c Q .ret st=Q .ret st:=rfl
@[simp] theorem c6p (c:PC) (v:PV) (st:St):a3r L c Q (.boom v) st=Q (.boom v) st:=rfl
theorem a2M (c:PC) (st:St):wpL L (.loop c) st Q=wpL L c st (a3r L c Q):=by
 unfold wpL
 rw[c0E]
 rcases evL L c st with _|⟨e,st'⟩
 ·rfl
 ·cases e<;>rfl
def c1I (r:Option (Option PV×St)) (Q:PExit→St→Prop):Prop:=
 match r with
 | some (none,st)=>Q .normal (a1i st)
 | some (some v,st)=>Q (.boom v) (a1i st)
 | none=>False
@[simp] theorem c8J:c1I (some (none,⟨V,l,g,h⟩)) Q=Q .normal ⟨V,[],g,h⟩:=rfl
@[simp] theorem c6q (v:PV):c1I (some (some v,⟨V,l,g,h⟩)) Q=Q (.boom v) ⟨V,[],g,h⟩:=rfl
@[simp] theorem c6r:c1I none Q=False:=rfl
@[simp] theorem c4H (ops:List PO):wpL L (.bregion ops) ⟨V,l,g,h⟩ Q=c1I (a7T (a0o L) (a3b L) 0 ops ⟨V,List.replicate ops.length .dead,g,h⟩) Q:=by
 simp only[wpL,b2r]
 rcases a7T (a0o L) (a3b L) 0 ops ⟨V,List.replicate ops.length .dead,g,h⟩ with _|⟨_|v,st⟩<;>rfl
def b5J (L:Nat→Option PFunc) (r:Option (Option PV×St)) (x:PX) (a b:PC) (Q:PExit→St→Prop):Prop:=
 match r with
 | some (none, st) => (match rd st x with
   | some (.bool t)=>if t=true then wpL L a (a1i st) Q else wpL L b (a1i st) Q
   | _=>False)
 | some (some v,st)=>Q (.boom v) (a1i st)
 | none=>False
@[simp] theorem c6s (x:PX) (a b:PC):b5J L (some (none,⟨V,l,g,h⟩)) x a b Q=match rd ⟨V,l,g,h⟩ x with
  | some (.bool t)=>if t=true then wpL L a ⟨V,[],g,h⟩ Q else wpL L b ⟨V,[],g,h⟩ Q
  | _=>False:=rfl
@[simp] theorem c4I (v:PV) (x:PX) (a b:PC):b5J L (some (some v,⟨V,l,g,h⟩)) x a b Q=Q (.boom v) ⟨V,[],g,h⟩:=rfl
@[simp] theorem c4J (x:PX) (a b:PC):b5J L none x a b Q=False:=rfl
@[simp] theorem c4K (ops:List PO) (x:PX) (a b:PC):wpL L (.bbranch ops x a b) ⟨V,l,g,h⟩ Q=b5J L (a7T (a0o L) (a3b L) 0 ops ⟨V,List.replicate ops.length .dead,g,h⟩) x a b Q:=by
 simp only[wpL,b2t,b5J]
 rcases a7T (a0o L) (a3b L) 0 ops ⟨V,List.replicate ops.length .dead,g,h⟩ with _|⟨_|v,st⟩
 ·rfl
 ·simp only
  cases rd st x with
  | none=>rfl
  | some v =>
    cases v<;>try rfl
    rename_i t; cases t<;>rfl
 ·rfl
def b7l (r:Option St) (t:Nat) (x:PX) (Q:PExit→St→Prop):Prop:=
 match r with
 | some st => (match rd st x with
   | some p=>Q (.boom (.iface t p)) (a1i st)
   | none=>False)
 | none=>False
@[simp] theorem c4L (t:Nat) (x:PX):b7l (some ⟨V,l,g,h⟩) t x Q=match rd ⟨V,l,g,h⟩ x with
  | some p=>Q (.boom (.iface t p)) ⟨V,[],g,h⟩
  | none=>False:=rfl
@[simp] theorem c4M (t:Nat) (x:PX):b7l none t x Q=False:=rfl
@[simp] theorem c8K (ops:List PO) (t:Nat) (x:PX):wpL L (.raise ops t x) ⟨V,l,g,h⟩ Q=b7l (a1A (a0o L) ops ⟨V,l,g,h⟩) t x Q:=by
 simp only[wpL,b83,b7l]
 cases a1A (a0o L) ops ⟨V,l,g,h⟩ with
 | none=>rfl
 | some st=>simp only; cases rd st x<;>rfl
def b5K (kd:Nat) (cs:List PV) (Q:PExit→St→Prop):PExit→St→Prop
 | .normal,st=>Q (.after kd cs none) st
 | .ret,st=>Q (.after kd cs none) st
 | .boom v,st=>Q (.after kd cs (some v)) st
 | _,_=>False
@[simp] theorem c1J (kd:Nat) (cs:List PV) (st:St):b5K kd cs Q .normal st=Q (.after kd cs none) st:=rfl
@[simp] theorem c6t (kd:Nat) (cs:List PV) (st:St):b5K kd cs Q .ret st=Q (.after kd cs none) st:=rfl
@[simp] theorem c4N (kd:Nat) (cs:List PV) (v:PV) (st:St):b5K kd cs Q (.boom v) st=Q (.after kd cs (some v)) st:=rfl
@[simp] theorem c4O (kd:Nat) (cs:List PV) (i:Nat) (st:St):b5K kd cs Q (.exit i) st=False:=rfl
theorem b2h (kd:Nat) (caps:List PX) (c:PC) {cs:List PV} (hn:c.NR=true) (hr:rdAll ⟨V,l,g,h⟩ caps=some cs):wpL L (.guarded kd caps c) ⟨V,l,g,h⟩ Q=wpL L c ⟨V,l,g,h⟩ (b5K kd cs Q):=by
 simp only[wpL,b51 hn,hr]
 rcases evL L c ⟨V,l,g,h⟩ with _|⟨e,st⟩
 ·rfl
 ·cases e<;>rfl
def b92 (L:Nat→Option PFunc) (f:PFunc) (r:Out×List PObj):PExit→St→Prop
 | .normal,st=>∃v,a0Y st f.results=some v∧r=(.val v,a0w st.vars f.results st.heap)
 | .ret,st=>∃v,a0Y st f.results=some v∧r=(.val v,a0w st.vars f.results st.heap)
 | .boom v,st=>r=(.boom v,st.heap)
 | .after kd cs v,st=>f.code.NR=true∧∃h1 x,a4A L kd (v.getD .nilIface::cs) st.heap=some h1∧a0Y { st with heap:=h1 } f.results=some x∧r=(.val x,a0w st.vars f.results h1)
 | .exit _,_=>False
@[simp] theorem b2i (f:PFunc) (r:Out×List PObj):b92 L f r .normal ⟨V,l,g,h⟩=∃v,a0Y ⟨V,l,g,h⟩ f.results=some v∧r=(.val v,a0w V f.results h):=rfl
@[simp] theorem d0k (f:PFunc) (r:Out×List PObj):b92 L f r .ret ⟨V,l,g,h⟩=∃v,a0Y ⟨V,l,g,h⟩ f.results=some v∧r=(.val v,a0w V f.results h):=rfl
@[simp] theorem b93 (f:PFunc) (r:Out×List PObj) (v:PV):b92 L f r (.boom v) ⟨V,l,g,h⟩=(r=(.boom v,h)):=rfl
@[simp] theorem b8r (f:PFunc) (r:Out×List PObj) (kd:Nat) (cs:List PV) (v:Option PV):b92 L f r (.after kd cs v) ⟨V,l,g,h⟩=(f.code.NR=true∧∃h1 x,a4A L kd (v.getD .nilIface::cs) h=some h1∧a0Y ⟨V,l,g,h1⟩ f.results=some x∧r=(.val x,a0w V f.results h1)):=rfl
theorem b5L {f:PFunc} {args:List PV} {hp:List PObj} {r:Out×List PObj} (hr:f.code.isRound=false)
  (hw:wpL L f.code ⟨args.map dem++List.replicate (f.nv - f.params) .dead,[],0,hp⟩ (b92 L f r)):a3B (evL L) (a4A L) f args hp=some r:=by
 rw[a6R] at hw
 obtain⟨e,st,h1,h2⟩:=hw
 unfold a3B
 split
 ·rename_i h3; rw[h3] at hr; simp[PC.isRound] at hr
 ·rw[h1]
  cases e with
  | normal=>obtain⟨v,h3,rfl⟩:=h2; simp only[h3]; rfl
  | ret=>obtain⟨v,h3,rfl⟩:=h2; simp only[h3]; rfl
  | exit i=>exact h2.elim
  | boom v=>simp only[b92] at h2; subst h2; rfl
  | after kd cs v =>
    obtain⟨h3,h4,x,h5,h6,rfl⟩:=h2
    simp only[h3,Bool.true_eq_false,if_false,h5,Option.bind_some,h6,Option.map_some]
theorem a2b {k:Nat} {f:PFunc} {args:List PV} {hp:List PObj} {r:Out×List PObj} (hf:L k=some f) (hl:args.length=f.params)
  (hw:wpL L f.code ⟨args.map dem++List.replicate (f.nv - f.params) .dead,[],0,hp⟩ (b92 L f r)) (hs:f.split=false:=by rfl) (hpr:f.prim=none:=by rfl) (hr:f.code.isRound=false:=by rfl):a3b L k args hp=some r:=
 b84 hf hl (b5L hr hw) hs hpr
theorem b94 {k:Nat} {f:PFunc} {args:List PV} {hp:List PObj} {r:PV×List PObj} (hf:L k=some f) (hl:args.length=f.params)
  (hw:wpL L f.code ⟨args.map dem++List.replicate (f.nv - f.params) .dead,[],0,hp⟩ (b92 L f (.val r.1,r.2))) (hs:f.split=false:=by rfl) (hpr:f.prim=none:=by rfl) (hr:f.code.isRound=false:=by rfl):a0o L k args hp=some r:=
 c0F hf hl (b5L hr hw) hs hpr hr
def c2M (rs:List PRes) (r:PV×List PObj) (e:PExit) (st:St):Prop:=(e = .normal∨e = .ret)∧a0Y st rs=some r.1∧a0w st.vars rs st.heap=r.2
@[simp] theorem c4P (rs:List PRes) (r:PV×List PObj):c2M rs r .normal ⟨V,l,g,h⟩=(a0Y ⟨V,l,g,h⟩ rs=some r.1∧a0w V rs h=r.2):=by simp[c2M]
@[simp] theorem d0l (rs:List PRes) (r:PV×List PObj):c2M rs r .ret ⟨V,l,g,h⟩=(a0Y ⟨V,l,g,h⟩ rs=some r.1∧a0w V rs h=r.2):=by simp[c2M]
theorem a0i {k:Nat} {f:PFunc} {args:List PV} {hp:List PObj} {r:PV×List PObj} (hf:L k=some f) (hl:args.length=f.params)
  (hw:wpL L f.code ⟨args.map dem++List.replicate (f.nv - f.params) .dead,[],0,hp⟩ (c2M f.results r)) (hs:f.split=false:=by rfl) (hpr:f.prim=none:=by rfl) (hr:f.code.isRound=false:=by rfl):a0o L k args hp=some r:=by
 refine b5f hf hl ?_ hs hpr hr
 rw[a6R] at hw
 obtain⟨e,st,h1,h2,h3,h4⟩:=hw
 rw[h1]
 rcases h2 with rfl|rfl<;>simp only[a8m,h3,h4]
def b3e (rs:List PRes) (P:PV×List PObj→Prop) (e:PExit) (st:St):Prop:=(e = .normal∨e = .ret)∧∃v,a0Y st rs=some v∧P (v,a0w st.vars rs st.heap)
theorem a2Y {k:Nat} {f:PFunc} {args:List PV} {hp:List PObj} {P:PV×List PObj→Prop} (hf:L k=some f) (hl:args.length=f.params)
  (hw:wpL L f.code ⟨args.map dem++List.replicate (f.nv - f.params) .dead,[],0,hp⟩ (b3e f.results P)) (hs:f.split=false:=by rfl) (hpr:f.prim=none:=by rfl) (hr:f.code.isRound=false:=by rfl):∃r,a0o L k args hp=some r∧P r:=by
 rw[a6R] at hw
 obtain⟨e,st,h1,h2,v,h3,h4⟩:=hw
 refine⟨(v,a0w st.vars f.results st.heap),b5f hf hl ?_ hs hpr hr,h4⟩
 rw[h1]
 rcases h2 with rfl|rfl<;>simp only[a8m,h3]
end
end PI
namespace PI
section
variable {L:Nat→Option PFunc} {Q:PExit→St→Prop}
def upd (V:List PV):List (Nat×PV)→List PV
 | []=>V
 | (k,v)::r=>upd (V.set k v) r
@[simp] theorem d1m (V:List PV):upd V []=V:=rfl
@[simp] theorem d0m (V:List PV) (k:Nat) (v:PV) (r:List (Nat×PV)):upd V ((k,v)::r)=upd (V.set k v) r:=rfl
theorem b7m {γ:Type} {c:PC} (n:Nat) (ok:Nat→Bool) (S:Nat→γ→St)
  (step:∀i,i<n→ok i=true→∀x,(∀y,wpL L (.loop c) (S (i+1) y) Q)→wpL L c (S i x) (a3r L c Q))
  (fail:∀i,i<n→ok i=false→(∀k,k<i→ok k=true)→∀x,wpL L c (S i x) (a3r L c Q))
  (last:(∀k,k<n→ok k=true)→∀x,wpL L c (S n x) (a3r L c Q)) (x:γ):wpL L (.loop c) (S 0 x) Q:=by
 have key:∀(d i:Nat),i+d=n→(∀k,k<i→ok k=true)→∀x,wpL L (.loop c) (S i x) Q:=by
  intro d
  induction d with
  | zero =>
    intro i hi hk x
    rw[a2M]
    have:i=n:=by omega
    subst this
    exact last hk x
  | succ d ih =>
    intro i hi hk x
    rw[a2M]
    cases ho:ok i with
    | true =>
      refine step i (by omega) ho x (ih (i+1) (by omega) ?_)
      intro k hk'
      by_cases e:k=i
      ·rw[e]; exact ho
      ·exact hk k (by omega)
    | false=>exact fail i (by omega) ho hk x
 exact key n 0 (by omega) (λk h=>absurd h (Nat.not_lt_zero k)) x
theorem c1K {γ:Type} {c:PC} {V:List PV} {g:Nat} {h:List PObj} (n:Nat) (ok:Nat→Bool) (M:Nat→γ→List (Nat×PV)) (H:Nat→γ→List PObj) (x0:γ)
  (step:∀i,i<n→ok i=true→∀x,(∀y,wpL L (.loop c) ⟨upd V (M (i+1) y),[],g,H (i+1) y⟩ Q)→wpL L c ⟨upd V (M i x),[],g,H i x⟩ (a3r L c Q))
  (fail:∀i,i<n→ok i=false→(∀k,k<i→ok k=true)→∀x,wpL L c ⟨upd V (M i x),[],g,H i x⟩ (a3r L c Q))
  (last:(∀k,k<n→ok k=true)→∀x,wpL L c ⟨upd V (M n x),[],g,H n x⟩ (a3r L c Q)) (hV:upd V (M 0 x0)=V) (hH:H 0 x0=h):wpL L (.loop c) ⟨V,[],g,h⟩ Q:=by
 have:=b7m n ok (λi x=>⟨upd V (M i x),[],g,H i x⟩) step fail last x0
 rw[hV,hH] at this
 exact this
theorem b2j {γ:Type} {c:PC} {V:List PV} {g:Nat} {h:List PObj} (n:Nat) (ok:Nat→Bool) (M:Nat→γ→List (Nat×PV)) (G:Nat→γ→Nat) (H:Nat→γ→List PObj) (x0:γ)
  (step:∀i,i<n→ok i=true→∀x,(∀y,wpL L (.loop c) ⟨upd V (M (i+1) y),[],G (i+1) y,H (i+1) y⟩ Q)→wpL L c ⟨upd V (M i x),[],G i x,H i x⟩ (a3r L c Q))
  (fail:∀i,i<n→ok i=false→(∀k,k<i→ok k=true)→∀x,wpL L c ⟨upd V (M i x),[],G i x,H i x⟩ (a3r L c Q))
  (last:(∀k,k<n→ok k=true)→∀x,wpL L c ⟨upd V (M n x),[],G n x,H n x⟩ (a3r L c Q)) (hV:upd V (M 0 x0)=V) (hG:G 0 x0=g) (hH:H 0 x0=h):wpL L (.loop c) ⟨V,[],g,h⟩ Q:=by
 have:=b7m n ok (λi x=>⟨upd V (M i x),[],G i x,H i x⟩) step fail last x0
 rw[hV,hG,hH] at this
 exact this
end
end PI
