import Derived.Test.YtljbhgpanekomaaGreatDoorPiSimpH
set_option linter.unusedSectionVars false
namespace PI
open Go (IntKind BinOp UnOp)
def wpL (L:Nat→Option PFunc) (c:PC) (st:St) (Q:PExit→St→Prop):Prop:=
 match evL L c st with
 | some (e,st')=>Q e st'
 | none=>False
section
variable {L:Nat→Option PFunc} {V l:List PV} {g:Nat} {h:List PObj} {Q:PExit→St→Prop}
theorem B9 {c:PC} {st:St}:wpL L c st Q↔∃e st',evL L c st=some (e,st')∧Q e st':=by
 unfold wpL
 cases evL L c st with
 | none=>simp
 | some r =>
   obtain⟨e,st'⟩:=r
   constructor
   ·intro h; exact⟨e,st',rfl,h⟩
   ·rintro⟨e',st2,h1,h2⟩; cases h1; exact h2
@[simp] theorem d3l:wpL L .skip ⟨V,l,g,h⟩ Q=Q .normal ⟨V,l,g,h⟩:=by simp only[wpL,c3S]
@[simp] theorem d3m (id:Nat):wpL L (.exit id) ⟨V,l,g,h⟩ Q=Q (.exit id) ⟨V,l,g,h⟩:=by simp only[wpL,c3T]
@[simp] theorem d4o:wpL L .ret ⟨V,l,g,h⟩ Q=Q .ret ⟨V,l,g,h⟩:=by simp only[wpL,c6j]
def LY (r:Option St) (K:St→Prop):Prop:=
 match r with
 | some st=>K (xP st)
 | none=>False
@[simp] theorem c9q (V l:List PV) (g:Nat) (h:List PObj) (K:St→Prop):LY (some ⟨V,l,g,h⟩) K=K ⟨V,[],g,h⟩:=rfl
@[simp] theorem c9r (K:St→Prop):LY none K=False:=rfl
@[simp] theorem c9s (ops:List PO):wpL L (.region ops) ⟨V,l,g,h⟩ Q=LY (zd (wr L) ops ⟨V,l,g,h⟩) (Q .normal):=by
 simp only[wpL,b6p]
 cases zd (wr L) ops ⟨V,l,g,h⟩<;>rfl
def Iv (L:Nat→Option PFunc) (r:Option St) (x:PX) (a b:PC) (Q:PExit→St→Prop):Prop:=
 match r with
 | some st => (match rd st x with
   | some (.bool t)=>if t=true then wpL L a (xP st) Q else wpL L b (xP st) Q
   | _=>False)
 | none=>False
@[simp] theorem c9t (x:PX) (a b:PC):Iv L (some ⟨V,l,g,h⟩) x a b Q=match rd ⟨V,l,g,h⟩ x with
  | some (.bool t)=>if t=true then wpL L a ⟨V,[],g,h⟩ Q else wpL L b ⟨V,[],g,h⟩ Q
  | _=>False:=rfl
@[simp] theorem c9u (x:PX) (a b:PC):Iv L none x a b Q=False:=rfl
@[simp] theorem c9v (ops:List PO) (x:PX) (a b:PC):wpL L (.branch ops x a b) ⟨V,l,g,h⟩ Q=Iv L (zd (wr L) ops ⟨V,l,g,h⟩) x a b Q:=by
 simp only[wpL,b6q,Iv]
 cases zd (wr L) ops ⟨V,l,g,h⟩ with
 | none=>rfl
 | some st =>
   simp only
   cases rd st x with
   | none=>rfl
   | some v =>
     cases v<;>try rfl
     rename_i t; cases t<;>rfl
def A8 (L:Nat→Option PFunc) (b:PC) (Q:PExit→St→Prop):PExit→St→Prop
 | .normal,st=>wpL L b st Q
 | .after _ _ _,_=>False
 | e,st=>Q e st
@[simp] theorem c7Q (b:PC) (st:St):A8 L b Q .normal st=wpL L b st Q:=rfl
@[simp] theorem d1J (b:PC) (i:Nat) (st:St):A8 L b Q (.exit i) st=Q (.exit i) st:=rfl
@[simp] theorem d3n (b:PC) (st:St):A8 L b Q .ret st=Q .ret st:=rfl
@[simp] theorem d1K (b:PC) (v:PV) (st:St):A8 L b Q (.boom v) st=Q (.boom v) st:=rfl
@[simp] theorem d4p (a b:PC):wpL L (.seq a b) ⟨V,l,g,h⟩ Q=wpL L a ⟨V,l,g,h⟩ (A8 L b Q):=by
 simp only[wpL,c6k]
 rcases evL L a ⟨V,l,g,h⟩ with _|⟨e,st⟩
 ·rfl
 ·cases e<;>rfl
def AQ (id:Nat) (Q:PExit→St→Prop):PExit→St→Prop
 | .exit i,st=>if i=id then Q .normal st else Q (.exit i) st
 | .after _ _ _,_=>False
 | e,st=>Q e st
@[simp] theorem c7R (id:Nat) (v:PV) (st:St):AQ id Q (.boom v) st=Q (.boom v) st:=rfl
@[simp] theorem c4Y (id:Nat) (st:St):AQ id Q .normal st=Q .normal st:=rfl
@[simp] theorem c9w (id:Nat) (st:St):AQ id Q .ret st=Q .ret st:=rfl
@[simp] theorem c7S (id i:Nat) (st:St):AQ id Q (.exit i) st=if i=id then Q .normal st else Q (.exit i) st:=rfl
@[simp] theorem d1L (id:Nat) (c:PC):wpL L (.block id c) ⟨V,l,g,h⟩ Q=wpL L c ⟨V,l,g,h⟩ (AQ id Q):=by
 simp only[wpL,c2b]
 rcases evL L c ⟨V,l,g,h⟩ with _|⟨e,st⟩
 ·rfl
 ·cases e<;>try rfl
  rename_i i
  simp only[AQ]
  by_cases hi:i=id<;>simp[hi]
def xB (L:Nat→Option PFunc) (c:PC) (Q:PExit→St→Prop):PExit→St→Prop:=A8 L (.loop c) Q
@[simp] theorem c5Z (c:PC) (st:St):xB L c Q .normal st=wpL L (.loop c) st Q:=rfl
@[simp] theorem c9x (c:PC) (i:Nat) (st:St):xB L c Q (.exit i) st=Q (.exit i) st:=rfl
@[simp] theorem d1M (c:PC) (st:St):xB L c Q .ret st=Q .ret st:=rfl
@[simp] theorem c9y (c:PC) (v:PV) (st:St):xB L c Q (.boom v) st=Q (.boom v) st:=rfl
theorem zo (c:PC) (st:St):wpL L (.loop c) st Q=wpL L c st (xB L c Q):=by
 unfold wpL
 rw[c3U]
 rcases evL L c st with _|⟨e,st'⟩
 ·rfl
 ·cases e<;>rfl
def Iw (r:Option (Option PV×St)) (Q:PExit→St→Prop):Prop:=
 match r with
 | some (none,st)=>Q .normal (xP st)
 | some (some v,st)=>Q (.boom v) (xP st)
 | none=>False
@[simp] theorem d1N:Iw (some (none,⟨V,l,g,h⟩)) Q=Q .normal ⟨V,[],g,h⟩:=rfl
@[simp] theorem c9z (v:PV):Iw (some (some v,⟨V,l,g,h⟩)) Q=Q (.boom v) ⟨V,[],g,h⟩:=rfl
@[simp] theorem c9A:Iw none Q=False:=rfl
@[simp] theorem c7T (ops:List PO):wpL L (.bregion ops) ⟨V,l,g,h⟩ Q=Iw (yd (wr L) (wQ L) 0 ops ⟨V,List.replicate ops.length .dead,g,h⟩) Q:=by
 simp only[wpL,b46]
 rcases yd (wr L) (wQ L) 0 ops ⟨V,List.replicate ops.length .dead,g,h⟩ with _|⟨_|v,st⟩<;>rfl
def Gj (L:Nat→Option PFunc) (r:Option (Option PV×St)) (x:PX) (a b:PC) (Q:PExit→St→Prop):Prop:=
 match r with
 | some (none, st) => (match rd st x with
   | some (.bool t)=>if t=true then wpL L a (xP st) Q else wpL L b (xP st) Q
   | _=>False)
 | some (some v,st)=>Q (.boom v) (xP st)
 | none=>False
@[simp] theorem c9B (x:PX) (a b:PC):Gj L (some (none,⟨V,l,g,h⟩)) x a b Q=match rd ⟨V,l,g,h⟩ x with
  | some (.bool t)=>if t=true then wpL L a ⟨V,[],g,h⟩ Q else wpL L b ⟨V,[],g,h⟩ Q
  | _=>False:=rfl
@[simp] theorem c7U (v:PV) (x:PX) (a b:PC):Gj L (some (some v,⟨V,l,g,h⟩)) x a b Q=Q (.boom v) ⟨V,[],g,h⟩:=rfl
@[simp] theorem c7V (x:PX) (a b:PC):Gj L none x a b Q=False:=rfl
@[simp] theorem c7W (ops:List PO) (x:PX) (a b:PC):wpL L (.bbranch ops x a b) ⟨V,l,g,h⟩ Q=Gj L (yd (wr L) (wQ L) 0 ops ⟨V,List.replicate ops.length .dead,g,h⟩) x a b Q:=by
 simp only[wpL,b47,Gj]
 rcases yd (wr L) (wQ L) 0 ops ⟨V,List.replicate ops.length .dead,g,h⟩ with _|⟨_|v,st⟩
 ·rfl
 ·simp only
  cases rd st x with
  | none=>rfl
  | some v =>
    cases v<;>try rfl
    rename_i t; cases t<;>rfl
 ·rfl
def Ix (r:Option St) (t:Nat) (x:PX) (Q:PExit→St→Prop):Prop:=
 match r with
 | some st => (match rd st x with
   | some p=>Q (.boom (.iface t p)) (xP st)
   | none=>False)
 | none=>False
@[simp] theorem c7X (t:Nat) (x:PX):Ix (some ⟨V,l,g,h⟩) t x Q=match rd ⟨V,l,g,h⟩ x with
  | some p=>Q (.boom (.iface t p)) ⟨V,[],g,h⟩
  | none=>False:=rfl
@[simp] theorem c7Y (t:Nat) (x:PX):Ix none t x Q=False:=rfl
@[simp] theorem d1O (ops:List PO) (t:Nat) (x:PX):wpL L (.raise ops t x) ⟨V,l,g,h⟩ Q=Ix (zd (wr L) ops ⟨V,l,g,h⟩) t x Q:=by
 simp only[wpL,c2c,Ix]
 cases zd (wr L) ops ⟨V,l,g,h⟩ with
 | none=>rfl
 | some st=>simp only; cases rd st x<;>rfl
def Gk (kd:Nat) (cs:List PV) (Q:PExit→St→Prop):PExit→St→Prop
 | .normal,st=>Q (.after kd cs none) st
 | .ret,st=>Q (.after kd cs none) st
 | .boom v,st=>Q (.after kd cs (some v)) st
 | _,_=>False
@[simp] theorem c40 (kd:Nat) (cs:List PV) (st:St):Gk kd cs Q .normal st=Q (.after kd cs none) st:=rfl
@[simp] theorem c9C (kd:Nat) (cs:List PV) (st:St):Gk kd cs Q .ret st=Q (.after kd cs none) st:=rfl
@[simp] theorem c7Z (kd:Nat) (cs:List PV) (v:PV) (st:St):Gk kd cs Q (.boom v) st=Q (.after kd cs (some v)) st:=rfl
@[simp] theorem c70 (kd:Nat) (cs:List PV) (i:Nat) (st:St):Gk kd cs Q (.exit i) st=False:=rfl
theorem NC (kd:Nat) (caps:List PX) (c:PC) {cs:List PV} (hn:c.NR=true) (hr:rdAll ⟨V,l,g,h⟩ caps=some cs):wpL L (.guarded kd caps c) ⟨V,l,g,h⟩ Q=wpL L c ⟨V,l,g,h⟩ (Gk kd cs Q):=by
 simp only[wpL,b8N hn,hr]
 rcases evL L c ⟨V,l,g,h⟩ with _|⟨e,st⟩
 ·rfl
 ·cases e<;>rfl
def BV (L:Nat→Option PFunc) (f:PFunc) (r:Out×List PObj):PExit→St→Prop
 | .normal,st=>∃v,x9 st f.results=some v∧r=(.val v,xj st.vars f.results st.heap)
 | .ret,st=>∃v,x9 st f.results=some v∧r=(.val v,xj st.vars f.results st.heap)
 | .boom v,st=>r=(.boom v,st.heap)
 | .after kd cs v,st=>f.code.NR=true∧∃h1 x,yU L kd (v.getD .nilIface::cs) st.heap=some h1∧x9 { st with heap:=h1 } f.results=some x∧r=(.val x,xj st.vars f.results h1)
 | .exit _,_=>False
@[simp] theorem PL (f:PFunc) (r:Out×List PObj):BV L f r .normal ⟨V,l,g,h⟩=∃v,x9 ⟨V,l,g,h⟩ f.results=some v∧r=(.val v,xj V f.results h):=rfl
@[simp] theorem d3o (f:PFunc) (r:Out×List PObj):BV L f r .ret ⟨V,l,g,h⟩=∃v,x9 ⟨V,l,g,h⟩ f.results=some v∧r=(.val v,xj V f.results h):=rfl
@[simp] theorem c3k (f:PFunc) (r:Out×List PObj) (v:PV):BV L f r (.boom v) ⟨V,l,g,h⟩=(r=(.boom v,h)):=rfl
@[simp] theorem c1w (f:PFunc) (r:Out×List PObj) (kd:Nat) (cs:List PV) (v:Option PV):BV L f r (.after kd cs v) ⟨V,l,g,h⟩=(f.code.NR=true∧∃h1 x,yU L kd (v.getD .nilIface::cs) h=some h1∧x9 ⟨V,l,g,h1⟩ f.results=some x∧r=(.val x,xj V f.results h1)):=rfl
theorem Q9 {f:PFunc} {args:List PV} {hp:List PObj} {r:Out×List PObj} (hr:f.code.isRound=false)
  (hw:wpL L f.code ⟨args.map dem++List.replicate (f.nv - f.params) .dead,[],0,hp⟩ (BV L f r)):zN (evL L) (yU L) f args hp=some r:=by
 rw[B9] at hw
 obtain⟨e,st,h1,h2⟩:=hw
 unfold zN
 split
 ·rename_i h3; rw[h3] at hr; simp[PC.isRound] at hr
 ·rw[h1]
  cases e with
  | normal=>obtain⟨v,h3,rfl⟩:=h2; simp only[h3]; rfl
  | ret=>obtain⟨v,h3,rfl⟩:=h2; simp only[h3]; rfl
  | exit i=>exact h2.elim
  | boom v=>simp only[BV] at h2; subst h2; rfl
  | after kd cs v =>
    obtain⟨h3,h4,x,h5,h6,rfl⟩:=h2
    simp only[h3,Bool.true_eq_false,if_false,h5,ar,h6,az]
theorem zF {k:Nat} {f:PFunc} {args:List PV} {hp:List PObj} {r:Out×List PObj} (hf:L k=some f) (hl:args.length=f.params)
  (hw:wpL L f.code ⟨args.map dem++List.replicate (f.nv - f.params) .dead,[],0,hp⟩ (BV L f r)) (hs:f.split=false:=by rfl) (fD:f.prim=none:=by rfl) (hr:f.code.isRound=false:=by rfl):wQ L k args hp=some r:=
 M2 hf hl (Q9 hr hw) hs fD
theorem c3l {k:Nat} {f:PFunc} {args:List PV} {hp:List PObj} {r:PV×List PObj} (hf:L k=some f) (hl:args.length=f.params)
  (hw:wpL L f.code ⟨args.map dem++List.replicate (f.nv - f.params) .dead,[],0,hp⟩ (BV L f (.val r.1,r.2))) (hs:f.split=false:=by rfl) (fD:f.prim=none:=by rfl) (hr:f.code.isRound=false:=by rfl):wr L k args hp=some r:=
 c3V hf hl (Q9 hr hw) hs fD hr
def Bs (rs:List PRes) (r:PV×List PObj) (e:PExit) (st:St):Prop:=(e = .normal∨e = .ret)∧x9 st rs=some r.1∧xj st.vars rs st.heap=r.2
@[simp] theorem c71 (rs:List PRes) (r:PV×List PObj):Bs rs r .normal ⟨V,l,g,h⟩=(x9 ⟨V,l,g,h⟩ rs=some r.1∧xj V rs h=r.2):=by simp[Bs]
@[simp] theorem d3p (rs:List PRes) (r:PV×List PObj):Bs rs r .ret ⟨V,l,g,h⟩=(x9 ⟨V,l,g,h⟩ rs=some r.1∧xj V rs h=r.2):=by simp[Bs]
theorem wz {k:Nat} {f:PFunc} {args:List PV} {hp:List PObj} {r:PV×List PObj} (hf:L k=some f) (hl:args.length=f.params)
  (hw:wpL L f.code ⟨args.map dem++List.replicate (f.nv - f.params) .dead,[],0,hp⟩ (Bs f.results r)) (hs:f.split=false:=by rfl) (fD:f.prim=none:=by rfl) (hr:f.code.isRound=false:=by rfl):wr L k args hp=some r:=by
 refine Qt hf hl ?_ hs fD hr
 rw[B9] at hw
 obtain⟨e,st,h1,h2,h3,h4⟩:=hw
 rw[h1]
 rcases h2 with rfl|rfl<;>simp only[Cs,h3,h4]
theorem PT {k:Nat} {f:PFunc} {own:Option Nat} {args:List PV} {hp:List PObj} {r:PV×List PObj} (hf:L k=some f) (hl:args.length=f.params)
  (hw:wpL L f.code ⟨BD own args++List.replicate (f.nv - f.params) .dead,[],0,hp⟩ (Bs f.results r)) (hs:f.split=false:=by rfl) (fD:f.prim=none:=by rfl) (hr:f.code.isRound=false:=by rfl) (kC:f.params<1000:=by decide):wr L k (Ar own args) hp=some r:=by
 refine c2e hf hl ?_ hs fD kC
 rw[B9] at hw
 obtain⟨e,st,h1,h2,h3,h4⟩:=hw
 unfold zO
 rw[af (by rw[hr]; simp),h1]
 rcases h2 with rfl|rfl<;>simp only[h3,h4,az]
def yJ (rs:List PRes) (P:PV×List PObj→Prop) (e:PExit) (st:St):Prop:=(e = .normal∨e = .ret)∧∃v,x9 st rs=some v∧P (v,xj st.vars rs st.heap)
theorem Bl {k:Nat} {f:PFunc} {args:List PV} {hp:List PObj} {P:PV×List PObj→Prop} (hf:L k=some f) (hl:args.length=f.params)
  (hw:wpL L f.code ⟨args.map dem++List.replicate (f.nv - f.params) .dead,[],0,hp⟩ (yJ f.results P)) (hs:f.split=false:=by rfl) (fD:f.prim=none:=by rfl) (hr:f.code.isRound=false:=by rfl):∃r,wr L k args hp=some r∧P r:=by
 rw[B9] at hw
 obtain⟨e,st,h1,h2,v,h3,h4⟩:=hw
 refine⟨(v,xj st.vars f.results st.heap),Qt hf hl ?_ hs fD hr,h4⟩
 rw[h1]
 rcases h2 with rfl|rfl<;>simp only[Cs,h3]
end
end PI
namespace PI
section
variable {L:Nat→Option PFunc} {Q:PExit→St→Prop}
def upd (V:List PV):List (Nat×PV)→List PV
 | []=>V
 | (k,v)::r=>upd (V.set k v) r
@[simp] theorem d4q (V:List PV):upd V []=V:=rfl
@[simp] theorem d3q (V:List PV) (k:Nat) (v:PV) (r:List (Nat×PV)):upd V ((k,v)::r)=upd (V.set k v) r:=rfl
theorem Ra {γ:Type} {c:PC} (n:Nat) (ok:Nat→Bool) (S:Nat→γ→St)
  (step:∀i,i<n→ok i=true→∀x,(∀y,wpL L (.loop c) (S (i+1) y) Q)→wpL L c (S i x) (xB L c Q))
  (fail:∀i,i<n→ok i=false→(∀k,k<i→ok k=true)→∀x,wpL L c (S i x) (xB L c Q))
  (last:(∀k,k<n→ok k=true)→∀x,wpL L c (S n x) (xB L c Q)) (x:γ):wpL L (.loop c) (S 0 x) Q:=by
 have key:∀(d i:Nat),i+d=n→(∀k,k<i→ok k=true)→∀x,wpL L (.loop c) (S i x) Q:=by
  intro d
  induction d with
  | zero =>
    intro i hi hk x
    rw[zo]
    have:i=n:=by omega
    subst this
    exact last hk x
  | succ d ih =>
    intro i hi hk x
    rw[zo]
    cases ho:ok i with
    | true =>
      refine step i (by omega) ho x (ih (i+1) (by omega) ?_)
      intro k dh
      by_cases e:k=i
      ·rw[e]; exact ho
      ·exact hk k (by omega)
    | false=>exact fail i (by omega) ho hk x
 exact key n 0 (by omega) (λk h=>absurd h (Nat.not_lt_zero k)) x
theorem HJ {γ:Type} {c:PC} {V:List PV} {g:Nat} {h:List PObj} (n:Nat) (ok:Nat→Bool) (M:Nat→γ→List (Nat×PV)) (H:Nat→γ→List PObj) (x0:γ)
  (step:∀i,i<n→ok i=true→∀x,(∀y,wpL L (.loop c) ⟨upd V (M (i+1) y),[],g,H (i+1) y⟩ Q)→wpL L c ⟨upd V (M i x),[],g,H i x⟩ (xB L c Q))
  (fail:∀i,i<n→ok i=false→(∀k,k<i→ok k=true)→∀x,wpL L c ⟨upd V (M i x),[],g,H i x⟩ (xB L c Q))
  (last:(∀k,k<n→ok k=true)→∀x,wpL L c ⟨upd V (M n x),[],g,H n x⟩ (xB L c Q)) (hV:upd V (M 0 x0)=V) (hH:H 0 x0=h):wpL L (.loop c) ⟨V,[],g,h⟩ Q:=by
 have:=Ra n ok (λi x=>⟨upd V (M i x),[],g,H i x⟩) step fail last x0
 rw[hV,hH] at this
 exact this
theorem K0 {γ:Type} {c:PC} {V:List PV} {g:Nat} {h:List PObj} (n:Nat) (ok:Nat→Bool) (M:Nat→γ→List (Nat×PV)) (G:Nat→γ→Nat) (H:Nat→γ→List PObj) (x0:γ)
  (step:∀i,i<n→ok i=true→∀x,(∀y,wpL L (.loop c) ⟨upd V (M (i+1) y),[],G (i+1) y,H (i+1) y⟩ Q)→wpL L c ⟨upd V (M i x),[],G i x,H i x⟩ (xB L c Q))
  (fail:∀i,i<n→ok i=false→(∀k,k<i→ok k=true)→∀x,wpL L c ⟨upd V (M i x),[],G i x,H i x⟩ (xB L c Q))
  (last:(∀k,k<n→ok k=true)→∀x,wpL L c ⟨upd V (M n x),[],G n x,H n x⟩ (xB L c Q)) (hV:upd V (M 0 x0)=V) (hG:G 0 x0=g) (hH:H 0 x0=h):wpL L (.loop c) ⟨V,[],g,h⟩ Q:=by
 have:=Ra n ok (λi x=>⟨upd V (M i x),[],G i x,H i x⟩) step fail last x0
 rw[hV,hG,hH] at this
 exact this
theorem C5 {γ:Type} {c:PC} {V:List PV} {g:Nat} {h:List PObj} (n:Nat) (M:Nat→γ→List (Nat×PV)) (H:Nat→γ→List PObj) (x0:γ)
  (step:∀i,i<n→∀x,(∀y,wpL L (.loop c) ⟨upd V (M (i+1) y),[],g,H (i+1) y⟩ Q)→wpL L c ⟨upd V (M i x),[],g,H i x⟩ (xB L c Q))
  (last:∀x,wpL L c ⟨upd V (M n x),[],g,H n x⟩ (xB L c Q)) (hV:upd V (M 0 x0)=V) (hH:H 0 x0=h):wpL L (.loop c) ⟨V,[],g,h⟩ Q:=
 HJ n (λ_=>true) M H x0 (λi hi _=>step i hi) (λ_ _ h=>by simp at h) (λ_=>last) hV hH
end
end PI
