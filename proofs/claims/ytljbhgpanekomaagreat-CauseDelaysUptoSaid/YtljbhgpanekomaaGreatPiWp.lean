import Derived.Test.YtljbhgpanekomaaGreatPiSimpH
set_option linter.unusedSectionVars false
namespace PI
open Go (IntKind BinOp UnOp)
def wpL (L:Nat→Option PFunc) (c:PC) (st:St) (Q:PExit→St→Prop):Prop:=
 match evL L c st with
 | some (e,st')=>Q e st'
 | none=>False
section
variable {L:Nat→Option PFunc} {V l:List PV} {g:Nat} {h:List PObj} {Q:PExit→St→Prop}
theorem B8 {c:PC} {st:St}:wpL L c st Q↔∃e st',evL L c st=some (e,st')∧Q e st':=by
 unfold wpL
 cases evL L c st with
 | none=>simp
 | some r =>
   obtain⟨e,st'⟩:=r
   constructor
   ·intro h; exact⟨e,st',rfl,h⟩
   ·rintro⟨e',st2,h1,h2⟩; cases h1; exact h2
@[simp] theorem d36:wpL L .skip ⟨V,l,g,h⟩ Q=Q .normal ⟨V,l,g,h⟩:=by simp only[wpL,c4B]
@[simp] theorem d37 (id:Nat):wpL L (.exit id) ⟨V,l,g,h⟩ Q=Q (.exit id) ⟨V,l,g,h⟩:=by simp only[wpL,c4C]
@[simp] theorem d5g:wpL L .ret ⟨V,l,g,h⟩ Q=Q .ret ⟨V,l,g,h⟩:=by simp only[wpL,c7D]
def L9 (r:Option St) (K:St→Prop):Prop:=
 match r with
 | some st=>K (xk st)
 | none=>False
@[simp] theorem c9Y (V l:List PV) (g:Nat) (h:List PObj) (K:St→Prop):L9 (some ⟨V,l,g,h⟩) K=K ⟨V,[],g,h⟩:=rfl
@[simp] theorem c9Z (K:St→Prop):L9 none K=False:=rfl
@[simp] theorem c90 (ops:List PO):wpL L (.region ops) ⟨V,l,g,h⟩ Q=L9 (yA (wj L) ops ⟨V,l,g,h⟩) (Q .normal):=by
 simp only[wpL,b5U]
 cases yA (wj L) ops ⟨V,l,g,h⟩<;>rfl
def IF (L:Nat→Option PFunc) (r:Option St) (x:PX) (a b:PC) (Q:PExit→St→Prop):Prop:=
 match r with
 | some st => (match rd st x with
   | some (.bool t)=>if t=true then wpL L a (xk st) Q else wpL L b (xk st) Q
   | _=>False)
 | none=>False
@[simp] theorem c91 (x:PX) (a b:PC):IF L (some ⟨V,l,g,h⟩) x a b Q=match rd ⟨V,l,g,h⟩ x with
  | some (.bool t)=>if t=true then wpL L a ⟨V,[],g,h⟩ Q else wpL L b ⟨V,[],g,h⟩ Q
  | _=>False:=rfl
@[simp] theorem c92 (x:PX) (a b:PC):IF L none x a b Q=False:=rfl
@[simp] theorem c93 (ops:List PO) (x:PX) (a b:PC):wpL L (.branch ops x a b) ⟨V,l,g,h⟩ Q=IF L (yA (wj L) ops ⟨V,l,g,h⟩) x a b Q:=by
 simp only[wpL,b5V,IF]
 cases yA (wj L) ops ⟨V,l,g,h⟩ with
 | none=>rfl
 | some st =>
   simp only
   cases rd st x with
   | none=>rfl
   | some v =>
     cases v<;>try rfl
     rename_i t; cases t<;>rfl
def Ct (L:Nat→Option PFunc) (b:PC) (Q:PExit→St→Prop):PExit→St→Prop
 | .normal,st=>wpL L b st Q
 | .after _ _ _,_=>False
 | e,st=>Q e st
@[simp] theorem c8k (b:PC) (st:St):Ct L b Q .normal st=wpL L b st Q:=rfl
@[simp] theorem d2n (b:PC) (i:Nat) (st:St):Ct L b Q (.exit i) st=Q (.exit i) st:=rfl
@[simp] theorem d38 (b:PC) (st:St):Ct L b Q .ret st=Q .ret st:=rfl
@[simp] theorem d2o (b:PC) (v:PV) (st:St):Ct L b Q (.boom v) st=Q (.boom v) st:=rfl
@[simp] theorem d5h (a b:PC):wpL L (.seq a b) ⟨V,l,g,h⟩ Q=wpL L a ⟨V,l,g,h⟩ (Ct L b Q):=by
 simp only[wpL,c7E]
 rcases evL L a ⟨V,l,g,h⟩ with _|⟨e,st⟩
 ·rfl
 ·cases e<;>rfl
def BQ (id:Nat) (Q:PExit→St→Prop):PExit→St→Prop
 | .exit i,st=>if i=id then Q .normal st else Q (.exit i) st
 | .after _ _ _,_=>False
 | e,st=>Q e st
@[simp] theorem c8l (id:Nat) (v:PV) (st:St):BQ id Q (.boom v) st=Q (.boom v) st:=rfl
@[simp] theorem c5j (id:Nat) (st:St):BQ id Q .normal st=Q .normal st:=rfl
@[simp] theorem c94 (id:Nat) (st:St):BQ id Q .ret st=Q .ret st:=rfl
@[simp] theorem c8m (id i:Nat) (st:St):BQ id Q (.exit i) st=if i=id then Q .normal st else Q (.exit i) st:=rfl
@[simp] theorem d2p (id:Nat) (c:PC):wpL L (.block id c) ⟨V,l,g,h⟩ Q=wpL L c ⟨V,l,g,h⟩ (BQ id Q):=by
 simp only[wpL,c2Q]
 rcases evL L c ⟨V,l,g,h⟩ with _|⟨e,st⟩
 ·rfl
 ·cases e<;>try rfl
  rename_i i
  simp only[BQ]
  by_cases hi:i=id<;>simp[hi]
def xY (L:Nat→Option PFunc) (c:PC) (Q:PExit→St→Prop):PExit→St→Prop:=Ct L (.loop c) Q
@[simp] theorem c6q (c:PC) (st:St):xY L c Q .normal st=wpL L (.loop c) st Q:=rfl
@[simp] theorem c95 (c:PC) (i:Nat) (st:St):xY L c Q (.exit i) st=Q (.exit i) st:=rfl
@[simp] theorem d2q (c:PC) (st:St):xY L c Q .ret st=Q .ret st:=rfl
@[simp] theorem c96 (c:PC) (v:PV) (st:St):xY L c Q (.boom v) st=Q (.boom v) st:=rfl
theorem Bf (c:PC) (st:St):wpL L (.loop c) st Q=wpL L c st (xY L c Q):=by
 unfold wpL
 rw[c4D]
 rcases evL L c st with _|⟨e,st'⟩
 ·rfl
 ·cases e<;>rfl
def IG (r:Option (Option PV×St)) (Q:PExit→St→Prop):Prop:=
 match r with
 | some (none,st)=>Q .normal (xk st)
 | some (some v,st)=>Q (.boom v) (xk st)
 | none=>False
@[simp] theorem d2r:IG (some (none,⟨V,l,g,h⟩)) Q=Q .normal ⟨V,[],g,h⟩:=rfl
@[simp] theorem c97 (v:PV):IG (some (some v,⟨V,l,g,h⟩)) Q=Q (.boom v) ⟨V,[],g,h⟩:=rfl
@[simp] theorem c98:IG none Q=False:=rfl
@[simp] theorem c8n (ops:List PO):wpL L (.bregion ops) ⟨V,l,g,h⟩ Q=IG (xI (wj L) (wK L) 0 ops ⟨V,List.replicate ops.length .dead,g,h⟩) Q:=by
 simp only[wpL,b4x]
 rcases xI (wj L) (wK L) 0 ops ⟨V,List.replicate ops.length .dead,g,h⟩ with _|⟨_|v,st⟩<;>rfl
def Gr (L:Nat→Option PFunc) (r:Option (Option PV×St)) (x:PX) (a b:PC) (Q:PExit→St→Prop):Prop:=
 match r with
 | some (none, st) => (match rd st x with
   | some (.bool t)=>if t=true then wpL L a (xk st) Q else wpL L b (xk st) Q
   | _=>False)
 | some (some v,st)=>Q (.boom v) (xk st)
 | none=>False
@[simp] theorem c99 (x:PX) (a b:PC):Gr L (some (none,⟨V,l,g,h⟩)) x a b Q=match rd ⟨V,l,g,h⟩ x with
  | some (.bool t)=>if t=true then wpL L a ⟨V,[],g,h⟩ Q else wpL L b ⟨V,[],g,h⟩ Q
  | _=>False:=rfl
@[simp] theorem c8o (v:PV) (x:PX) (a b:PC):Gr L (some (some v,⟨V,l,g,h⟩)) x a b Q=Q (.boom v) ⟨V,[],g,h⟩:=rfl
@[simp] theorem c8p (x:PX) (a b:PC):Gr L none x a b Q=False:=rfl
@[simp] theorem c8q (ops:List PO) (x:PX) (a b:PC):wpL L (.bbranch ops x a b) ⟨V,l,g,h⟩ Q=Gr L (xI (wj L) (wK L) 0 ops ⟨V,List.replicate ops.length .dead,g,h⟩) x a b Q:=by
 simp only[wpL,b4y,Gr]
 rcases xI (wj L) (wK L) 0 ops ⟨V,List.replicate ops.length .dead,g,h⟩ with _|⟨_|v,st⟩
 ·rfl
 ·simp only
  cases rd st x with
  | none=>rfl
  | some v =>
    cases v<;>try rfl
    rename_i t; cases t<;>rfl
 ·rfl
def IH (r:Option St) (t:Nat) (x:PX) (Q:PExit→St→Prop):Prop:=
 match r with
 | some st => (match rd st x with
   | some p=>Q (.boom (.iface t p)) (xk st)
   | none=>False)
 | none=>False
@[simp] theorem c8r (t:Nat) (x:PX):IH (some ⟨V,l,g,h⟩) t x Q=match rd ⟨V,l,g,h⟩ x with
  | some p=>Q (.boom (.iface t p)) ⟨V,[],g,h⟩
  | none=>False:=rfl
@[simp] theorem c8s (t:Nat) (x:PX):IH none t x Q=False:=rfl
@[simp] theorem d2s (ops:List PO) (t:Nat) (x:PX):wpL L (.raise ops t x) ⟨V,l,g,h⟩ Q=IH (yA (wj L) ops ⟨V,l,g,h⟩) t x Q:=by
 simp only[wpL,c2R,IH]
 cases yA (wj L) ops ⟨V,l,g,h⟩ with
 | none=>rfl
 | some st=>simp only; cases rd st x<;>rfl
def Gs (kd:Nat) (cs:List PV) (Q:PExit→St→Prop):PExit→St→Prop
 | .normal,st=>Q (.after kd cs none) st
 | .ret,st=>Q (.after kd cs none) st
 | .boom v,st=>Q (.after kd cs (some v)) st
 | _,_=>False
@[simp] theorem c5l (kd:Nat) (cs:List PV) (st:St):Gs kd cs Q .normal st=Q (.after kd cs none) st:=rfl
@[simp] theorem d0a (kd:Nat) (cs:List PV) (st:St):Gs kd cs Q .ret st=Q (.after kd cs none) st:=rfl
@[simp] theorem c8t (kd:Nat) (cs:List PV) (v:PV) (st:St):Gs kd cs Q (.boom v) st=Q (.after kd cs (some v)) st:=rfl
@[simp] theorem c8u (kd:Nat) (cs:List PV) (i:Nat) (st:St):Gs kd cs Q (.exit i) st=False:=rfl
theorem Mr (kd:Nat) (caps:List PX) (c:PC) {cs:List PV} (hn:c.NR=true) (hr:rdAll ⟨V,l,g,h⟩ caps=some cs):wpL L (.guarded kd caps c) ⟨V,l,g,h⟩ Q=wpL L c ⟨V,l,g,h⟩ (Gs kd cs Q):=by
 simp only[wpL,b8W hn,hr]
 rcases evL L c ⟨V,l,g,h⟩ with _|⟨e,st⟩
 ·rfl
 ·cases e<;>rfl
def BB (L:Nat→Option PFunc) (f:PFunc) (r:Out×List PObj):PExit→St→Prop
 | .normal,st=>∃v,xG st f.results=some v∧r=(.val v,w5 st.vars f.results st.heap)
 | .ret,st=>∃v,xG st f.results=some v∧r=(.val v,w5 st.vars f.results st.heap)
 | .boom v,st=>r=(.boom v,st.heap)
 | .after kd cs v,st=>f.code.NR=true∧∃h1 x,yt L kd (v.getD .nilIface::cs) st.heap=some h1∧xG { st with heap:=h1 } f.results=some x∧r=(.val x,w5 st.vars f.results h1)
 | .exit _,_=>False
@[simp] theorem OI (f:PFunc) (r:Out×List PObj):BB L f r .normal ⟨V,l,g,h⟩=∃v,xG ⟨V,l,g,h⟩ f.results=some v∧r=(.val v,w5 V f.results h):=rfl
@[simp] theorem d39 (f:PFunc) (r:Out×List PObj):BB L f r .ret ⟨V,l,g,h⟩=∃v,xG ⟨V,l,g,h⟩ f.results=some v∧r=(.val v,w5 V f.results h):=rfl
@[simp] theorem c3a (f:PFunc) (r:Out×List PObj) (v:PV):BB L f r (.boom v) ⟨V,l,g,h⟩=(r=(.boom v,h)):=rfl
@[simp] theorem c1m (f:PFunc) (r:Out×List PObj) (kd:Nat) (cs:List PV) (v:Option PV):BB L f r (.after kd cs v) ⟨V,l,g,h⟩=(f.code.NR=true∧∃h1 x,yt L kd (v.getD .nilIface::cs) h=some h1∧xG ⟨V,l,g,h1⟩ f.results=some x∧r=(.val x,w5 V f.results h1)):=rfl
theorem RF {f:PFunc} {args:List PV} {hp:List PObj} {r:Out×List PObj} (hr:f.code.isRound=false)
  (hw:wpL L f.code ⟨args.map dem++List.replicate (f.nv - f.params) .dead,[],0,hp⟩ (BB L f r)):zw (evL L) (yt L) f args hp=some r:=by
 rw[B8] at hw
 obtain⟨e,st,h1,h2⟩:=hw
 unfold zw
 split
 ·rename_i h3; rw[h3] at hr; simp[PC.isRound] at hr
 ·rw[h1]
  cases e with
  | normal=>obtain⟨v,h3,rfl⟩:=h2; simp only[h3]; rfl
  | ret=>obtain⟨v,h3,rfl⟩:=h2; simp only[h3]; rfl
  | exit i=>exact h2.elim
  | boom v=>simp only[BB] at h2; subst h2; rfl
  | after kd cs v =>
    obtain⟨h3,h4,x,h5,h6,rfl⟩:=h2
    simp only[h3,Bool.true_eq_false,if_false,h5,an,h6,aB]
theorem zn {k:Nat} {f:PFunc} {args:List PV} {hp:List PObj} {r:Out×List PObj} (hf:L k=some f) (hl:args.length=f.params)
  (hw:wpL L f.code ⟨args.map dem++List.replicate (f.nv - f.params) .dead,[],0,hp⟩ (BB L f r)) (hs:f.split=false:=by rfl) (fE:f.prim=none:=by rfl) (hr:f.code.isRound=false:=by rfl):wK L k args hp=some r:=
 Qw hf hl (RF hr hw) hs fE
theorem c3b {k:Nat} {f:PFunc} {args:List PV} {hp:List PObj} {r:PV×List PObj} (hf:L k=some f) (hl:args.length=f.params)
  (hw:wpL L f.code ⟨args.map dem++List.replicate (f.nv - f.params) .dead,[],0,hp⟩ (BB L f (.val r.1,r.2))) (hs:f.split=false:=by rfl) (fE:f.prim=none:=by rfl) (hr:f.code.isRound=false:=by rfl):wj L k args hp=some r:=
 c4E hf hl (RF hr hw) hs fE hr
def Cs (rs:List PRes) (r:PV×List PObj) (e:PExit) (st:St):Prop:=(e = .normal∨e = .ret)∧xG st rs=some r.1∧w5 st.vars rs st.heap=r.2
@[simp] theorem c8v (rs:List PRes) (r:PV×List PObj):Cs rs r .normal ⟨V,l,g,h⟩=(xG ⟨V,l,g,h⟩ rs=some r.1∧w5 V rs h=r.2):=by simp[Cs]
@[simp] theorem d4a (rs:List PRes) (r:PV×List PObj):Cs rs r .ret ⟨V,l,g,h⟩=(xG ⟨V,l,g,h⟩ rs=some r.1∧w5 V rs h=r.2):=by simp[Cs]
theorem wD {k:Nat} {f:PFunc} {args:List PV} {hp:List PObj} {r:PV×List PObj} (hf:L k=some f) (hl:args.length=f.params)
  (hw:wpL L f.code ⟨args.map dem++List.replicate (f.nv - f.params) .dead,[],0,hp⟩ (Cs f.results r)) (hs:f.split=false:=by rfl) (fE:f.prim=none:=by rfl) (hr:f.code.isRound=false:=by rfl):wj L k args hp=some r:=by
 refine QY hf hl ?_ hs fE hr
 rw[B8] at hw
 obtain⟨e,st,h1,h2,h3,h4⟩:=hw
 rw[h1]
 rcases h2 with rfl|rfl<;>simp only[Cg,h3,h4]
theorem c3c {k:Nat} {f:PFunc} {own:Option Nat} {args:List PV} {hp:List PObj} {r:PV×List PObj} (hf:L k=some f) (hl:args.length=f.params)
  (hw:wpL L f.code ⟨Bd own args++List.replicate (f.nv - f.params) .dead,[],0,hp⟩ (Cs f.results r)) (hs:f.split=false:=by rfl) (fE:f.prim=none:=by rfl) (hr:f.code.isRound=false:=by rfl) (iF:f.params<1000:=by decide):wj L k (Ah own args) hp=some r:=by
 refine c2T hf hl ?_ hs fE iF
 rw[B8] at hw
 obtain⟨e,st,h1,h2,h3,h4⟩:=hw
 unfold zx
 rw[af (by rw[hr]; simp),h1]
 rcases h2 with rfl|rfl<;>simp only[h3,h4,aB]
def xR (rs:List PRes) (P:PV×List PObj→Prop) (e:PExit) (st:St):Prop:=(e = .normal∨e = .ret)∧∃v,xG st rs=some v∧P (v,w5 st.vars rs st.heap)
theorem Be {k:Nat} {f:PFunc} {args:List PV} {hp:List PObj} {P:PV×List PObj→Prop} (hf:L k=some f) (hl:args.length=f.params)
  (hw:wpL L f.code ⟨args.map dem++List.replicate (f.nv - f.params) .dead,[],0,hp⟩ (xR f.results P)) (hs:f.split=false:=by rfl) (fE:f.prim=none:=by rfl) (hr:f.code.isRound=false:=by rfl):∃r,wj L k args hp=some r∧P r:=by
 rw[B8] at hw
 obtain⟨e,st,h1,h2,v,h3,h4⟩:=hw
 refine⟨(v,w5 st.vars f.results st.heap),QY hf hl ?_ hs fE hr,h4⟩
 rw[h1]
 rcases h2 with rfl|rfl<;>simp only[Cg,h3]
end
end PI
namespace PI
section
variable {L:Nat→Option PFunc} {Q:PExit→St→Prop}
def upd (V:List PV):List (Nat×PV)→List PV
 | []=>V
 | (k,v)::r=>upd (V.set k v) r
@[simp] theorem d5i (V:List PV):upd V []=V:=rfl
@[simp] theorem d4b (V:List PV) (k:Nat) (v:PV) (r:List (Nat×PV)):upd V ((k,v)::r)=upd (V.set k v) r:=rfl
theorem RG {γ:Type} {c:PC} (n:Nat) (ok:Nat→Bool) (S:Nat→γ→St)
  (step:∀i,i<n→ok i=true→∀x,(∀y,wpL L (.loop c) (S (i+1) y) Q)→wpL L c (S i x) (xY L c Q))
  (fail:∀i,i<n→ok i=false→(∀k,k<i→ok k=true)→∀x,wpL L c (S i x) (xY L c Q))
  (last:(∀k,k<n→ok k=true)→∀x,wpL L c (S n x) (xY L c Q)) (x:γ):wpL L (.loop c) (S 0 x) Q:=by
 have key:∀(d i:Nat),i+d=n→(∀k,k<i→ok k=true)→∀x,wpL L (.loop c) (S i x) Q:=by
  intro d
  induction d with
  | zero =>
    intro i hi hk x
    rw[Bf]
    have:i=n:=by omega
    subst this
    exact last hk x
  | succ d ih =>
    intro i hi hk x
    rw[Bf]
    cases ho:ok i with
    | true =>
      refine step i (by omega) ho x (ih (i+1) (by omega) ?_)
      intro k dh
      by_cases e:k=i
      ·rw[e]; exact ho
      ·exact hk k (by omega)
    | false=>exact fail i (by omega) ho hk x
 exact key n 0 (by omega) (λk h=>absurd h (Nat.not_lt_zero k)) x
theorem c5n {γ:Type} {c:PC} {V:List PV} {g:Nat} {h:List PObj} (n:Nat) (ok:Nat→Bool) (M:Nat→γ→List (Nat×PV)) (H:Nat→γ→List PObj) (x0:γ)
  (step:∀i,i<n→ok i=true→∀x,(∀y,wpL L (.loop c) ⟨upd V (M (i+1) y),[],g,H (i+1) y⟩ Q)→wpL L c ⟨upd V (M i x),[],g,H i x⟩ (xY L c Q))
  (fail:∀i,i<n→ok i=false→(∀k,k<i→ok k=true)→∀x,wpL L c ⟨upd V (M i x),[],g,H i x⟩ (xY L c Q))
  (last:(∀k,k<n→ok k=true)→∀x,wpL L c ⟨upd V (M n x),[],g,H n x⟩ (xY L c Q)) (hV:upd V (M 0 x0)=V) (hH:H 0 x0=h):wpL L (.loop c) ⟨V,[],g,h⟩ Q:=by
 have:=RG n ok (λi x=>⟨upd V (M i x),[],g,H i x⟩) step fail last x0
 rw[hV,hH] at this
 exact this
theorem Kl {γ:Type} {c:PC} {V:List PV} {g:Nat} {h:List PObj} (n:Nat) (ok:Nat→Bool) (M:Nat→γ→List (Nat×PV)) (G:Nat→γ→Nat) (H:Nat→γ→List PObj) (x0:γ)
  (step:∀i,i<n→ok i=true→∀x,(∀y,wpL L (.loop c) ⟨upd V (M (i+1) y),[],G (i+1) y,H (i+1) y⟩ Q)→wpL L c ⟨upd V (M i x),[],G i x,H i x⟩ (xY L c Q))
  (fail:∀i,i<n→ok i=false→(∀k,k<i→ok k=true)→∀x,wpL L c ⟨upd V (M i x),[],G i x,H i x⟩ (xY L c Q))
  (last:(∀k,k<n→ok k=true)→∀x,wpL L c ⟨upd V (M n x),[],G n x,H n x⟩ (xY L c Q)) (hV:upd V (M 0 x0)=V) (hG:G 0 x0=g) (hH:H 0 x0=h):wpL L (.loop c) ⟨V,[],g,h⟩ Q:=by
 have:=RG n ok (λi x=>⟨upd V (M i x),[],G i x,H i x⟩) step fail last x0
 rw[hV,hG,hH] at this
 exact this
end
end PI
