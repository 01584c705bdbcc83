import Derived.Test.YtljbhgpanekomaaGreatDoorPiSimpH
set_option linter.unusedSectionVars false
namespace PI
open Go (IntKind BinOp UnOp)
def wpL (L:Nat→Option PFunc) (c:PC) (st:St) (Q:PExit→St→Prop):Prop:=
 match evL L c st with
 | some (e,st')=>Q e st'
 | none=>False
section
variable {L:Nat→Option PFunc} {V l:List PV} {g:Nat} {h:List PObj} {Q:PExit→St→Prop}
theorem Bm {c:PC} {st:St}:wpL L c st Q↔∃e st',evL L c st=some (e,st')∧Q e st':=by
 unfold wpL
 cases evL L c st with
 | none=>simp
 | some r =>
   obtain⟨e,st'⟩:=r
   constructor
   ·intro h; exact⟨e,st',rfl,h⟩
   ·rintro⟨e',st2,h1,h2⟩; cases h1; exact h2
@[simp] theorem d10:wpL L .skip ⟨V,l,g,h⟩ Q=Q .normal ⟨V,l,g,h⟩:=by simp only[wpL,c15]
@[simp] theorem d11 (id:Nat):wpL L (.exit id) ⟨V,l,g,h⟩ Q=Q (.exit id) ⟨V,l,g,h⟩:=by simp only[wpL,c16]
@[simp] theorem d21:wpL L .ret ⟨V,l,g,h⟩ Q=Q .ret ⟨V,l,g,h⟩:=by simp only[wpL,c4N]
def K2 (r:Option St) (K:St→Prop):Prop:=
 match r with
 | some st=>K (xu st)
 | none=>False
@[simp] theorem c7Z (V l:List PV) (g:Nat) (h:List PObj) (K:St→Prop):K2 (some ⟨V,l,g,h⟩) K=K ⟨V,[],g,h⟩:=rfl
@[simp] theorem c70 (K:St→Prop):K2 none K=False:=rfl
@[simp] theorem c71 (ops:List PO):wpL L (.region ops) ⟨V,l,g,h⟩ Q=K2 (yx (wn L) ops ⟨V,l,g,h⟩) (Q .normal):=by
 simp only[wpL,b4J]
 cases yx (wn L) ops ⟨V,l,g,h⟩<;>rfl
def HV (L:Nat→Option PFunc) (r:Option St) (x:PX) (a b:PC) (Q:PExit→St→Prop):Prop:=
 match r with
 | some st => (match rd st x with
   | some (.bool t)=>if t=true then wpL L a (xu st) Q else wpL L b (xu st) Q
   | _=>False)
 | none=>False
@[simp] theorem c72 (x:PX) (a b:PC):HV L (some ⟨V,l,g,h⟩) x a b Q=match rd ⟨V,l,g,h⟩ x with
  | some (.bool t)=>if t=true then wpL L a ⟨V,[],g,h⟩ Q else wpL L b ⟨V,[],g,h⟩ Q
  | _=>False:=rfl
@[simp] theorem c73 (x:PX) (a b:PC):HV L none x a b Q=False:=rfl
@[simp] theorem c74 (ops:List PO) (x:PX) (a b:PC):wpL L (.branch ops x a b) ⟨V,l,g,h⟩ Q=HV L (yx (wn L) ops ⟨V,l,g,h⟩) x a b Q:=by
 simp only[wpL,b4K,HV]
 cases yx (wn L) ops ⟨V,l,g,h⟩ with
 | none=>rfl
 | some st =>
   simp only
   cases rd st x with
   | none=>rfl
   | some v =>
     cases v<;>try rfl
     rename_i t; cases t<;>rfl
def B2 (L:Nat→Option PFunc) (b:PC) (Q:PExit→St→Prop):PExit→St→Prop
 | .normal,st=>wpL L b st Q
 | .after _ _ _,_=>False
 | e,st=>Q e st
@[simp] theorem c6l (b:PC) (st:St):B2 L b Q .normal st=wpL L b st Q:=rfl
@[simp] theorem d0n (b:PC) (i:Nat) (st:St):B2 L b Q (.exit i) st=Q (.exit i) st:=rfl
@[simp] theorem d12 (b:PC) (st:St):B2 L b Q .ret st=Q .ret st:=rfl
@[simp] theorem d0o (b:PC) (v:PV) (st:St):B2 L b Q (.boom v) st=Q (.boom v) st:=rfl
@[simp] theorem d22 (a b:PC):wpL L (.seq a b) ⟨V,l,g,h⟩ Q=wpL L a ⟨V,l,g,h⟩ (B2 L b Q):=by
 simp only[wpL,c4O]
 rcases evL L a ⟨V,l,g,h⟩ with _|⟨e,st⟩
 ·rfl
 ·cases e<;>rfl
def Bp (id:Nat) (Q:PExit→St→Prop):PExit→St→Prop
 | .exit i,st=>if i=id then Q .normal st else Q (.exit i) st
 | .after _ _ _,_=>False
 | e,st=>Q e st
@[simp] theorem c6m (id:Nat) (v:PV) (st:St):Bp id Q (.boom v) st=Q (.boom v) st:=rfl
@[simp] theorem c3n (id:Nat) (st:St):Bp id Q .normal st=Q .normal st:=rfl
@[simp] theorem c75 (id:Nat) (st:St):Bp id Q .ret st=Q .ret st:=rfl
@[simp] theorem c6n (id i:Nat) (st:St):Bp id Q (.exit i) st=if i=id then Q .normal st else Q (.exit i) st:=rfl
@[simp] theorem d0p (id:Nat) (c:PC):wpL L (.block id c) ⟨V,l,g,h⟩ Q=wpL L c ⟨V,l,g,h⟩ (Bp id Q):=by
 simp only[wpL,c0r]
 rcases evL L c ⟨V,l,g,h⟩ with _|⟨e,st⟩
 ·rfl
 ·cases e<;>try rfl
  rename_i i
  simp only[Bp]
  by_cases hi:i=id<;>simp[hi]
def xS (L:Nat→Option PFunc) (c:PC) (Q:PExit→St→Prop):PExit→St→Prop:=B2 L (.loop c) Q
@[simp] theorem c4s (c:PC) (st:St):xS L c Q .normal st=wpL L (.loop c) st Q:=rfl
@[simp] theorem c76 (c:PC) (i:Nat) (st:St):xS L c Q (.exit i) st=Q (.exit i) st:=rfl
@[simp] theorem d0q (c:PC) (st:St):xS L c Q .ret st=Q .ret st:=rfl
@[simp] theorem c77 (c:PC) (v:PV) (st:St):xS L c Q (.boom v) st=Q (.boom v) st:=rfl
theorem Aw (c:PC) (st:St):wpL L (.loop c) st Q=wpL L c st (xS L c Q):=by
 unfold wpL
 rw[c17]
 rcases evL L c st with _|⟨e,st'⟩
 ·rfl
 ·cases e<;>rfl
def HW (r:Option (Option PV×St)) (Q:PExit→St→Prop):Prop:=
 match r with
 | some (none,st)=>Q .normal (xu st)
 | some (some v,st)=>Q (.boom v) (xu st)
 | none=>False
@[simp] theorem d0r:HW (some (none,⟨V,l,g,h⟩)) Q=Q .normal ⟨V,[],g,h⟩:=rfl
@[simp] theorem c78 (v:PV):HW (some (some v,⟨V,l,g,h⟩)) Q=Q (.boom v) ⟨V,[],g,h⟩:=rfl
@[simp] theorem c79:HW none Q=False:=rfl
@[simp] theorem c6o (ops:List PO):wpL L (.bregion ops) ⟨V,l,g,h⟩ Q=HW (xJ (wn L) (wF L) 0 ops ⟨V,List.replicate ops.length .dead,g,h⟩) Q:=by
 simp only[wpL,b3k]
 rcases xJ (wn L) (wF L) 0 ops ⟨V,List.replicate ops.length .dead,g,h⟩ with _|⟨_|v,st⟩<;>rfl
def FO (L:Nat→Option PFunc) (r:Option (Option PV×St)) (x:PX) (a b:PC) (Q:PExit→St→Prop):Prop:=
 match r with
 | some (none, st) => (match rd st x with
   | some (.bool t)=>if t=true then wpL L a (xu st) Q else wpL L b (xu st) Q
   | _=>False)
 | some (some v,st)=>Q (.boom v) (xu st)
 | none=>False
@[simp] theorem c8a (x:PX) (a b:PC):FO L (some (none,⟨V,l,g,h⟩)) x a b Q=match rd ⟨V,l,g,h⟩ x with
  | some (.bool t)=>if t=true then wpL L a ⟨V,[],g,h⟩ Q else wpL L b ⟨V,[],g,h⟩ Q
  | _=>False:=rfl
@[simp] theorem c6p (v:PV) (x:PX) (a b:PC):FO L (some (some v,⟨V,l,g,h⟩)) x a b Q=Q (.boom v) ⟨V,[],g,h⟩:=rfl
@[simp] theorem c6q (x:PX) (a b:PC):FO L none x a b Q=False:=rfl
@[simp] theorem c6r (ops:List PO) (x:PX) (a b:PC):wpL L (.bbranch ops x a b) ⟨V,l,g,h⟩ Q=FO L (xJ (wn L) (wF L) 0 ops ⟨V,List.replicate ops.length .dead,g,h⟩) x a b Q:=by
 simp only[wpL,b3l,FO]
 rcases xJ (wn L) (wF L) 0 ops ⟨V,List.replicate ops.length .dead,g,h⟩ with _|⟨_|v,st⟩
 ·rfl
 ·simp only
  cases rd st x with
  | none=>rfl
  | some v =>
    cases v<;>try rfl
    rename_i t; cases t<;>rfl
 ·rfl
def HX (r:Option St) (t:Nat) (x:PX) (Q:PExit→St→Prop):Prop:=
 match r with
 | some st => (match rd st x with
   | some p=>Q (.boom (.iface t p)) (xu st)
   | none=>False)
 | none=>False
@[simp] theorem c6s (t:Nat) (x:PX):HX (some ⟨V,l,g,h⟩) t x Q=match rd ⟨V,l,g,h⟩ x with
  | some p=>Q (.boom (.iface t p)) ⟨V,[],g,h⟩
  | none=>False:=rfl
@[simp] theorem c6t (t:Nat) (x:PX):HX none t x Q=False:=rfl
@[simp] theorem d0s (ops:List PO) (t:Nat) (x:PX):wpL L (.raise ops t x) ⟨V,l,g,h⟩ Q=HX (yx (wn L) ops ⟨V,l,g,h⟩) t x Q:=by
 simp only[wpL,c0s,HX]
 cases yx (wn L) ops ⟨V,l,g,h⟩ with
 | none=>rfl
 | some st=>simp only; cases rd st x<;>rfl
def FP (kd:Nat) (cs:List PV) (Q:PExit→St→Prop):PExit→St→Prop
 | .normal,st=>Q (.after kd cs none) st
 | .ret,st=>Q (.after kd cs none) st
 | .boom v,st=>Q (.after kd cs (some v)) st
 | _,_=>False
@[simp] theorem c3p (kd:Nat) (cs:List PV) (st:St):FP kd cs Q .normal st=Q (.after kd cs none) st:=rfl
@[simp] theorem c8b (kd:Nat) (cs:List PV) (st:St):FP kd cs Q .ret st=Q (.after kd cs none) st:=rfl
@[simp] theorem c6u (kd:Nat) (cs:List PV) (v:PV) (st:St):FP kd cs Q (.boom v) st=Q (.after kd cs (some v)) st:=rfl
@[simp] theorem c6v (kd:Nat) (cs:List PV) (i:Nat) (st:St):FP kd cs Q (.exit i) st=False:=rfl
theorem MF (kd:Nat) (caps:List PX) (c:PC) {cs:List PV} (hn:c.NR=true) (hr:rdAll ⟨V,l,g,h⟩ caps=some cs):wpL L (.guarded kd caps c) ⟨V,l,g,h⟩ Q=wpL L c ⟨V,l,g,h⟩ (FP kd cs Q):=by
 simp only[wpL,b67 hn,hr]
 rcases evL L c ⟨V,l,g,h⟩ with _|⟨e,st⟩
 ·rfl
 ·cases e<;>rfl
def BA (L:Nat→Option PFunc) (f:PFunc) (r:Out×List PObj):PExit→St→Prop
 | .normal,st=>∃v,xa st f.results=some v∧r=(.val v,wM st.vars f.results st.heap)
 | .ret,st=>∃v,xa st f.results=some v∧r=(.val v,wM st.vars f.results st.heap)
 | .boom v,st=>r=(.boom v,st.heap)
 | .after kd cs v,st=>f.code.NR=true∧∃h1 x,yp L kd (v.getD .nilIface::cs) st.heap=some h1∧xa { st with heap:=h1 } f.results=some x∧r=(.val x,wM st.vars f.results h1)
 | .exit _,_=>False
@[simp] theorem O6 (f:PFunc) (r:Out×List PObj):BA L f r .normal ⟨V,l,g,h⟩=∃v,xa ⟨V,l,g,h⟩ f.results=some v∧r=(.val v,wM V f.results h):=rfl
@[simp] theorem d13 (f:PFunc) (r:Out×List PObj):BA L f r .ret ⟨V,l,g,h⟩=∃v,xa ⟨V,l,g,h⟩ f.results=some v∧r=(.val v,wM V f.results h):=rfl
@[simp] theorem c1t (f:PFunc) (r:Out×List PObj) (v:PV):BA L f r (.boom v) ⟨V,l,g,h⟩=(r=(.boom v,h)):=rfl
@[simp] theorem b9Q (f:PFunc) (r:Out×List PObj) (kd:Nat) (cs:List PV) (v:Option PV):BA L f r (.after kd cs v) ⟨V,l,g,h⟩=(f.code.NR=true∧∃h1 x,yp L kd (v.getD .nilIface::cs) h=some h1∧xa ⟨V,l,g,h1⟩ f.results=some x∧r=(.val x,wM V f.results h1)):=rfl
theorem Qh {f:PFunc} {args:List PV} {hp:List PObj} {r:Out×List PObj} (hr:f.code.isRound=false)
  (hw:wpL L f.code ⟨args.map dem++List.replicate (f.nv - f.params) .dead,[],0,hp⟩ (BA L f r)):yX (evL L) (yp L) f args hp=some r:=by
 rw[Bm] at hw
 obtain⟨e,st,h1,h2⟩:=hw
 unfold yX
 split
 ·rename_i h3; rw[h3] at hr; simp[PC.isRound] at hr
 ·rw[h1]
  cases e with
  | normal=>obtain⟨v,h3,rfl⟩:=h2; simp only[h3]; rfl
  | ret=>obtain⟨v,h3,rfl⟩:=h2; simp only[h3]; rfl
  | exit i=>exact h2.elim
  | boom v=>simp only[BA] at h2; subst h2; rfl
  | after kd cs v =>
    obtain⟨h3,h4,x,h5,h6,rfl⟩:=h2
    simp only[h3,Bool.true_eq_false,if_false,h5,aw,h6,aA]
theorem zg {k:Nat} {f:PFunc} {args:List PV} {hp:List PObj} {r:Out×List PObj} (hf:L k=some f) (hl:args.length=f.params)
  (hw:wpL L f.code ⟨args.map dem++List.replicate (f.nv - f.params) .dead,[],0,hp⟩ (BA L f r)) (hs:f.split=false:=by rfl) (fw:f.prim=none:=by rfl) (hr:f.code.isRound=false:=by rfl):wF L k args hp=some r:=
 IP hf hl (Qh hr hw) hs fw
theorem c1u {k:Nat} {f:PFunc} {args:List PV} {hp:List PObj} {r:PV×List PObj} (hf:L k=some f) (hl:args.length=f.params)
  (hw:wpL L f.code ⟨args.map dem++List.replicate (f.nv - f.params) .dead,[],0,hp⟩ (BA L f (.val r.1,r.2))) (hs:f.split=false:=by rfl) (fw:f.prim=none:=by rfl) (hr:f.code.isRound=false:=by rfl):wn L k args hp=some r:=
 c18 hf hl (Qh hr hw) hs fw hr
def CU (rs:List PRes) (r:PV×List PObj) (e:PExit) (st:St):Prop:=(e = .normal∨e = .ret)∧xa st rs=some r.1∧wM st.vars rs st.heap=r.2
@[simp] theorem c6w (rs:List PRes) (r:PV×List PObj):CU rs r .normal ⟨V,l,g,h⟩=(xa ⟨V,l,g,h⟩ rs=some r.1∧wM V rs h=r.2):=by simp[CU]
@[simp] theorem d14 (rs:List PRes) (r:PV×List PObj):CU rs r .ret ⟨V,l,g,h⟩=(xa ⟨V,l,g,h⟩ rs=some r.1∧wM V rs h=r.2):=by simp[CU]
theorem wJ {k:Nat} {f:PFunc} {args:List PV} {hp:List PObj} {r:PV×List PObj} (hf:L k=some f) (hl:args.length=f.params)
  (hw:wpL L f.code ⟨args.map dem++List.replicate (f.nv - f.params) .dead,[],0,hp⟩ (CU f.results r)) (hs:f.split=false:=by rfl) (fw:f.prim=none:=by rfl) (hr:f.code.isRound=false:=by rfl):wn L k args hp=some r:=by
 refine Pt hf hl ?_ hs fw hr
 rw[Bm] at hw
 obtain⟨e,st,h1,h2,h3,h4⟩:=hw
 rw[h1]
 rcases h2 with rfl|rfl<;>simp only[B6,h3,h4]
def xm (rs:List PRes) (P:PV×List PObj→Prop) (e:PExit) (st:St):Prop:=(e = .normal∨e = .ret)∧∃v,xa st rs=some v∧P (v,wM st.vars rs st.heap)
theorem zq {k:Nat} {f:PFunc} {args:List PV} {hp:List PObj} {P:PV×List PObj→Prop} (hf:L k=some f) (hl:args.length=f.params)
  (hw:wpL L f.code ⟨args.map dem++List.replicate (f.nv - f.params) .dead,[],0,hp⟩ (xm f.results P)) (hs:f.split=false:=by rfl) (fw:f.prim=none:=by rfl) (hr:f.code.isRound=false:=by rfl):∃r,wn L k args hp=some r∧P r:=by
 rw[Bm] at hw
 obtain⟨e,st,h1,h2,v,h3,h4⟩:=hw
 refine⟨(v,wM st.vars f.results st.heap),Pt hf hl ?_ hs fw hr,h4⟩
 rw[h1]
 rcases h2 with rfl|rfl<;>simp only[B6,h3]
end
end PI
namespace PI
section
variable {L:Nat→Option PFunc} {Q:PExit→St→Prop}
def upd (V:List PV):List (Nat×PV)→List PV
 | []=>V
 | (k,v)::r=>upd (V.set k v) r
@[simp] theorem d23 (V:List PV):upd V []=V:=rfl
@[simp] theorem d15 (V:List PV) (k:Nat) (v:PV) (r:List (Nat×PV)):upd V ((k,v)::r)=upd (V.set k v) r:=rfl
theorem Qi {γ:Type} {c:PC} (n:Nat) (ok:Nat→Bool) (S:Nat→γ→St)
  (step:∀i,i<n→ok i=true→∀x,(∀y,wpL L (.loop c) (S (i+1) y) Q)→wpL L c (S i x) (xS L c Q))
  (fail:∀i,i<n→ok i=false→(∀k,k<i→ok k=true)→∀x,wpL L c (S i x) (xS L c Q))
  (last:(∀k,k<n→ok k=true)→∀x,wpL L c (S n x) (xS L c Q)) (x:γ):wpL L (.loop c) (S 0 x) Q:=by
 have key:∀(d i:Nat),i+d=n→(∀k,k<i→ok k=true)→∀x,wpL L (.loop c) (S i x) Q:=by
  intro d
  induction d with
  | zero =>
    intro i hi hk x
    rw[Aw]
    have:i=n:=by omega
    subst this
    exact last hk x
  | succ d ih =>
    intro i hi hk x
    rw[Aw]
    cases ho:ok i with
    | true =>
      refine step i (by omega) ho x (ih (i+1) (by omega) ?_)
      intro k dh
      by_cases e:k=i
      ·rw[e]; exact ho
      ·exact hk k (by omega)
    | false=>exact fail i (by omega) ho hk x
 exact key n 0 (by omega) (λk h=>absurd h (Nat.not_lt_zero k)) x
theorem c3q {γ:Type} {c:PC} {V:List PV} {g:Nat} {h:List PObj} (n:Nat) (ok:Nat→Bool) (M:Nat→γ→List (Nat×PV)) (H:Nat→γ→List PObj) (x0:γ)
  (step:∀i,i<n→ok i=true→∀x,(∀y,wpL L (.loop c) ⟨upd V (M (i+1) y),[],g,H (i+1) y⟩ Q)→wpL L c ⟨upd V (M i x),[],g,H i x⟩ (xS L c Q))
  (fail:∀i,i<n→ok i=false→(∀k,k<i→ok k=true)→∀x,wpL L c ⟨upd V (M i x),[],g,H i x⟩ (xS L c Q))
  (last:(∀k,k<n→ok k=true)→∀x,wpL L c ⟨upd V (M n x),[],g,H n x⟩ (xS L c Q)) (hV:upd V (M 0 x0)=V) (hH:H 0 x0=h):wpL L (.loop c) ⟨V,[],g,h⟩ Q:=by
 have:=Qi n ok (λi x=>⟨upd V (M i x),[],g,H i x⟩) step fail last x0
 rw[hV,hH] at this
 exact this
theorem Kr {γ:Type} {c:PC} {V:List PV} {g:Nat} {h:List PObj} (n:Nat) (ok:Nat→Bool) (M:Nat→γ→List (Nat×PV)) (G:Nat→γ→Nat) (H:Nat→γ→List PObj) (x0:γ)
  (step:∀i,i<n→ok i=true→∀x,(∀y,wpL L (.loop c) ⟨upd V (M (i+1) y),[],G (i+1) y,H (i+1) y⟩ Q)→wpL L c ⟨upd V (M i x),[],G i x,H i x⟩ (xS L c Q))
  (fail:∀i,i<n→ok i=false→(∀k,k<i→ok k=true)→∀x,wpL L c ⟨upd V (M i x),[],G i x,H i x⟩ (xS L c Q))
  (last:(∀k,k<n→ok k=true)→∀x,wpL L c ⟨upd V (M n x),[],G n x,H n x⟩ (xS L c Q)) (hV:upd V (M 0 x0)=V) (hG:G 0 x0=g) (hH:H 0 x0=h):wpL L (.loop c) ⟨V,[],g,h⟩ Q:=by
 have:=Qi n ok (λi x=>⟨upd V (M i x),[],G i x,H i x⟩) step fail last x0
 rw[hV,hG,hH] at this
 exact this
end
end PI
