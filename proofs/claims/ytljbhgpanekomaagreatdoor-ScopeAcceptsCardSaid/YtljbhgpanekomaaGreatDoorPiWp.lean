import Derived.Test.YtljbhgpanekomaaGreatDoorPiSimpH
set_option linter.unusedSectionVars false
namespace PI
open Go (IntKind BinOp UnOp)
def wpL (L:Nat→Option PFunc) (c:PC) (st:St) (Q:PExit→St→Prop):Prop:=
 match evL L c st with
 | some (e,st')=>Q e st'
 | none=>False
section
variable {L:Nat→Option PFunc} {V l:List PV} {g:Nat} {h:List PObj} {Q:PExit→St→Prop}
theorem A0 {c:PC} {st:St}:wpL L c st Q↔∃e st',evL L c st=some (e,st')∧Q e st':=by
 unfold wpL
 cases evL L c st with
 | none=>simp
 | some r =>
   obtain⟨e,st'⟩:=r
   constructor
   ·intro h; exact⟨e,st',rfl,h⟩
   ·rintro⟨e',st2,h1,h2⟩; cases h1; exact h2
@[simp] theorem d1u:wpL L .skip ⟨V,l,g,h⟩ Q=Q .normal ⟨V,l,g,h⟩:=by simp only[wpL,c1A]
@[simp] theorem d1v (id:Nat):wpL L (.exit id) ⟨V,l,g,h⟩ Q=Q (.exit id) ⟨V,l,g,h⟩:=by simp only[wpL,c1B]
@[simp] theorem d2v:wpL L .ret ⟨V,l,g,h⟩ Q=Q .ret ⟨V,l,g,h⟩:=by simp only[wpL,c4f]
def Ks (r:Option St) (K:St→Prop):Prop:=
 match r with
 | some st=>K (xc st)
 | none=>False
@[simp] theorem c7q (V l:List PV) (g:Nat) (h:List PObj) (K:St→Prop):Ks (some ⟨V,l,g,h⟩) K=K ⟨V,[],g,h⟩:=rfl
@[simp] theorem c7r (K:St→Prop):Ks none K=False:=rfl
@[simp] theorem c7s (ops:List PO):wpL L (.region ops) ⟨V,l,g,h⟩ Q=Ks (x6 (vU L) ops ⟨V,l,g,h⟩) (Q .normal):=by
 simp only[wpL,b4j]
 cases x6 (vU L) ops ⟨V,l,g,h⟩<;>rfl
def Hj (L:Nat→Option PFunc) (r:Option St) (x:PX) (a b:PC) (Q:PExit→St→Prop):Prop:=
 match r with
 | some st => (match rd st x with
   | some (.bool t)=>if t=true then wpL L a (xc st) Q else wpL L b (xc st) Q
   | _=>False)
 | none=>False
@[simp] theorem c7t (x:PX) (a b:PC):Hj L (some ⟨V,l,g,h⟩) x a b Q=match rd ⟨V,l,g,h⟩ x with
  | some (.bool t)=>if t=true then wpL L a ⟨V,[],g,h⟩ Q else wpL L b ⟨V,[],g,h⟩ Q
  | _=>False:=rfl
@[simp] theorem c7u (x:PX) (a b:PC):Hj L none x a b Q=False:=rfl
@[simp] theorem c7v (ops:List PO) (x:PX) (a b:PC):wpL L (.branch ops x a b) ⟨V,l,g,h⟩ Q=Hj L (x6 (vU L) ops ⟨V,l,g,h⟩) x a b Q:=by
 simp only[wpL,b4k,Hj]
 cases x6 (vU L) ops ⟨V,l,g,h⟩ with
 | none=>rfl
 | some st =>
   simp only
   cases rd st x with
   | none=>rfl
   | some v =>
     cases v<;>try rfl
     rename_i t; cases t<;>rfl
def Bz (L:Nat→Option PFunc) (b:PC) (Q:PExit→St→Prop):PExit→St→Prop
 | .normal,st=>wpL L b st Q
 | .after _ _ _,_=>False
 | e,st=>Q e st
@[simp] theorem c5P (b:PC) (st:St):Bz L b Q .normal st=wpL L b st Q:=rfl
@[simp] theorem c9S (b:PC) (i:Nat) (st:St):Bz L b Q (.exit i) st=Q (.exit i) st:=rfl
@[simp] theorem d1w (b:PC) (st:St):Bz L b Q .ret st=Q .ret st:=rfl
@[simp] theorem c9T (b:PC) (v:PV) (st:St):Bz L b Q (.boom v) st=Q (.boom v) st:=rfl
@[simp] theorem d2w (a b:PC):wpL L (.seq a b) ⟨V,l,g,h⟩ Q=wpL L a ⟨V,l,g,h⟩ (Bz L b Q):=by
 simp only[wpL,c4g]
 rcases evL L a ⟨V,l,g,h⟩ with _|⟨e,st⟩
 ·rfl
 ·cases e<;>rfl
def A5 (id:Nat) (Q:PExit→St→Prop):PExit→St→Prop
 | .exit i,st=>if i=id then Q .normal st else Q (.exit i) st
 | .after _ _ _,_=>False
 | e,st=>Q e st
@[simp] theorem c5Q (id:Nat) (v:PV) (st:St):A5 id Q (.boom v) st=Q (.boom v) st:=rfl
@[simp] theorem c2P (id:Nat) (st:St):A5 id Q .normal st=Q .normal st:=rfl
@[simp] theorem c7w (id:Nat) (st:St):A5 id Q .ret st=Q .ret st:=rfl
@[simp] theorem c5R (id i:Nat) (st:St):A5 id Q (.exit i) st=if i=id then Q .normal st else Q (.exit i) st:=rfl
@[simp] theorem c9U (id:Nat) (c:PC):wpL L (.block id c) ⟨V,l,g,h⟩ Q=wpL L c ⟨V,l,g,h⟩ (A5 id Q):=by
 simp only[wpL,b9X]
 rcases evL L c ⟨V,l,g,h⟩ with _|⟨e,st⟩
 ·rfl
 ·cases e<;>try rfl
  rename_i i
  simp only[A5]
  by_cases hi:i=id<;>simp[hi]
def xA (L:Nat→Option PFunc) (c:PC) (Q:PExit→St→Prop):PExit→St→Prop:=Bz L (.loop c) Q
@[simp] theorem c3U (c:PC) (st:St):xA L c Q .normal st=wpL L (.loop c) st Q:=rfl
@[simp] theorem c7x (c:PC) (i:Nat) (st:St):xA L c Q (.exit i) st=Q (.exit i) st:=rfl
@[simp] theorem c9V (c:PC) (st:St):xA L c Q .ret st=Q .ret st:=rfl
@[simp] theorem c7y (c:PC) (v:PV) (st:St):xA L c Q (.boom v) st=Q (.boom v) st:=rfl
theorem zE (c:PC) (st:St):wpL L (.loop c) st Q=wpL L c st (xA L c Q):=by
 unfold wpL
 rw[c1C]
 rcases evL L c st with _|⟨e,st'⟩
 ·rfl
 ·cases e<;>rfl
def Hl (r:Option (Option PV×St)) (Q:PExit→St→Prop):Prop:=
 match r with
 | some (none,st)=>Q .normal (xc st)
 | some (some v,st)=>Q (.boom v) (xc st)
 | none=>False
@[simp] theorem c9W:Hl (some (none,⟨V,l,g,h⟩)) Q=Q .normal ⟨V,[],g,h⟩:=rfl
@[simp] theorem c7z (v:PV):Hl (some (some v,⟨V,l,g,h⟩)) Q=Q (.boom v) ⟨V,[],g,h⟩:=rfl
@[simp] theorem c7A:Hl none Q=False:=rfl
@[simp] theorem c5S (ops:List PO):wpL L (.bregion ops) ⟨V,l,g,h⟩ Q=Hl (xt (vU L) (wm L) 0 ops ⟨V,List.replicate ops.length .dead,g,h⟩) Q:=by
 simp only[wpL,b24]
 rcases xt (vU L) (wm L) 0 ops ⟨V,List.replicate ops.length .dead,g,h⟩ with _|⟨_|v,st⟩<;>rfl
def Fk (L:Nat→Option PFunc) (r:Option (Option PV×St)) (x:PX) (a b:PC) (Q:PExit→St→Prop):Prop:=
 match r with
 | some (none, st) => (match rd st x with
   | some (.bool t)=>if t=true then wpL L a (xc st) Q else wpL L b (xc st) Q
   | _=>False)
 | some (some v,st)=>Q (.boom v) (xc st)
 | none=>False
@[simp] theorem c7B (x:PX) (a b:PC):Fk L (some (none,⟨V,l,g,h⟩)) x a b Q=match rd ⟨V,l,g,h⟩ x with
  | some (.bool t)=>if t=true then wpL L a ⟨V,[],g,h⟩ Q else wpL L b ⟨V,[],g,h⟩ Q
  | _=>False:=rfl
@[simp] theorem c5T (v:PV) (x:PX) (a b:PC):Fk L (some (some v,⟨V,l,g,h⟩)) x a b Q=Q (.boom v) ⟨V,[],g,h⟩:=rfl
@[simp] theorem c5U (x:PX) (a b:PC):Fk L none x a b Q=False:=rfl
@[simp] theorem c5V (ops:List PO) (x:PX) (a b:PC):wpL L (.bbranch ops x a b) ⟨V,l,g,h⟩ Q=Fk L (xt (vU L) (wm L) 0 ops ⟨V,List.replicate ops.length .dead,g,h⟩) x a b Q:=by
 simp only[wpL,b25,Fk]
 rcases xt (vU L) (wm L) 0 ops ⟨V,List.replicate ops.length .dead,g,h⟩ with _|⟨_|v,st⟩
 ·rfl
 ·simp only
  cases rd st x with
  | none=>rfl
  | some v =>
    cases v<;>try rfl
    rename_i t; cases t<;>rfl
 ·rfl
def Hm (r:Option St) (t:Nat) (x:PX) (Q:PExit→St→Prop):Prop:=
 match r with
 | some st => (match rd st x with
   | some p=>Q (.boom (.iface t p)) (xc st)
   | none=>False)
 | none=>False
@[simp] theorem c5W (t:Nat) (x:PX):Hm (some ⟨V,l,g,h⟩) t x Q=match rd ⟨V,l,g,h⟩ x with
  | some p=>Q (.boom (.iface t p)) ⟨V,[],g,h⟩
  | none=>False:=rfl
@[simp] theorem c5X (t:Nat) (x:PX):Hm none t x Q=False:=rfl
@[simp] theorem c9X (ops:List PO) (t:Nat) (x:PX):wpL L (.raise ops t x) ⟨V,l,g,h⟩ Q=Hm (x6 (vU L) ops ⟨V,l,g,h⟩) t x Q:=by
 simp only[wpL,b9Y,Hm]
 cases x6 (vU L) ops ⟨V,l,g,h⟩ with
 | none=>rfl
 | some st=>simp only; cases rd st x<;>rfl
def Fl (kd:Nat) (cs:List PV) (Q:PExit→St→Prop):PExit→St→Prop
 | .normal,st=>Q (.after kd cs none) st
 | .ret,st=>Q (.after kd cs none) st
 | .boom v,st=>Q (.after kd cs (some v)) st
 | _,_=>False
@[simp] theorem c2R (kd:Nat) (cs:List PV) (st:St):Fl kd cs Q .normal st=Q (.after kd cs none) st:=rfl
@[simp] theorem c7C (kd:Nat) (cs:List PV) (st:St):Fl kd cs Q .ret st=Q (.after kd cs none) st:=rfl
@[simp] theorem c5Y (kd:Nat) (cs:List PV) (v:PV) (st:St):Fl kd cs Q (.boom v) st=Q (.after kd cs (some v)) st:=rfl
@[simp] theorem c5Z (kd:Nat) (cs:List PV) (i:Nat) (st:St):Fl kd cs Q (.exit i) st=False:=rfl
theorem L9 (kd:Nat) (caps:List PX) (c:PC) {cs:List PV} (hn:c.NR=true) (hr:rdAll ⟨V,l,g,h⟩ caps=some cs):wpL L (.guarded kd caps c) ⟨V,l,g,h⟩ Q=wpL L c ⟨V,l,g,h⟩ (Fl kd cs Q):=by
 simp only[wpL,b6E hn,hr]
 rcases evL L c ⟨V,l,g,h⟩ with _|⟨e,st⟩
 ·rfl
 ·cases e<;>rfl
def Be (L:Nat→Option PFunc) (f:PFunc) (r:Out×List PObj):PExit→St→Prop
 | .normal,st=>∃v,wY st f.results=some v∧r=(.val v,wI st.vars f.results st.heap)
 | .ret,st=>∃v,wY st f.results=some v∧r=(.val v,wI st.vars f.results st.heap)
 | .boom v,st=>r=(.boom v,st.heap)
 | .after kd cs v,st=>f.code.NR=true∧∃h1 x,xW L kd (v.getD .nilIface::cs) st.heap=some h1∧wY { st with heap:=h1 } f.results=some x∧r=(.val x,wI st.vars f.results h1)
 | .exit _,_=>False
@[simp] theorem Of (f:PFunc) (r:Out×List PObj):Be L f r .normal ⟨V,l,g,h⟩=∃v,wY ⟨V,l,g,h⟩ f.results=some v∧r=(.val v,wI V f.results h):=rfl
@[simp] theorem d1x (f:PFunc) (r:Out×List PObj):Be L f r .ret ⟨V,l,g,h⟩=∃v,wY ⟨V,l,g,h⟩ f.results=some v∧r=(.val v,wI V f.results h):=rfl
@[simp] theorem c0Y (f:PFunc) (r:Out×List PObj) (v:PV):Be L f r (.boom v) ⟨V,l,g,h⟩=(r=(.boom v,h)):=rfl
@[simp] theorem b9n (f:PFunc) (r:Out×List PObj) (kd:Nat) (cs:List PV) (v:Option PV):Be L f r (.after kd cs v) ⟨V,l,g,h⟩=(f.code.NR=true∧∃h1 x,xW L kd (v.getD .nilIface::cs) h=some h1∧wY ⟨V,l,g,h1⟩ f.results=some x∧r=(.val x,wI V f.results h1)):=rfl
theorem Pp {f:PFunc} {args:List PV} {hp:List PObj} {r:Out×List PObj} (hr:f.code.isRound=false)
  (hw:wpL L f.code ⟨args.map dem++List.replicate (f.nv - f.params) .dead,[],0,hp⟩ (Be L f r)):yA (evL L) (xW L) f args hp=some r:=by
 rw[A0] at hw
 obtain⟨e,st,h1,h2⟩:=hw
 unfold yA
 split
 ·rename_i h3; rw[h3] at hr; simp[PC.isRound] at hr
 ·rw[h1]
  cases e with
  | normal=>obtain⟨v,h3,rfl⟩:=h2; simp only[h3]; rfl
  | ret=>obtain⟨v,h3,rfl⟩:=h2; simp only[h3]; rfl
  | exit i=>exact h2.elim
  | boom v=>simp only[Be] at h2; subst h2; rfl
  | after kd cs v =>
    obtain⟨h3,h4,x,h5,h6,rfl⟩:=h2
    simp only[h3,Bool.true_eq_false,if_false,h5,ar,h6,ay]
theorem yF {k:Nat} {f:PFunc} {args:List PV} {hp:List PObj} {r:Out×List PObj} (hf:L k=some f) (hl:args.length=f.params)
  (hw:wpL L f.code ⟨args.map dem++List.replicate (f.nv - f.params) .dead,[],0,hp⟩ (Be L f r)) (hs:f.split=false:=by rfl) (fm:f.prim=none:=by rfl) (hr:f.code.isRound=false:=by rfl):wm L k args hp=some r:=
 Ig hf hl (Pp hr hw) hs fm
theorem c0Z {k:Nat} {f:PFunc} {args:List PV} {hp:List PObj} {r:PV×List PObj} (hf:L k=some f) (hl:args.length=f.params)
  (hw:wpL L f.code ⟨args.map dem++List.replicate (f.nv - f.params) .dead,[],0,hp⟩ (Be L f (.val r.1,r.2))) (hs:f.split=false:=by rfl) (fm:f.prim=none:=by rfl) (hr:f.code.isRound=false:=by rfl):vU L k args hp=some r:=
 c1D hf hl (Pp hr hw) hs fm hr
def Cr (rs:List PRes) (r:PV×List PObj) (e:PExit) (st:St):Prop:=(e = .normal∨e = .ret)∧wY st rs=some r.1∧wI st.vars rs st.heap=r.2
@[simp] theorem c50 (rs:List PRes) (r:PV×List PObj):Cr rs r .normal ⟨V,l,g,h⟩=(wY ⟨V,l,g,h⟩ rs=some r.1∧wI V rs h=r.2):=by simp[Cr]
@[simp] theorem d1y (rs:List PRes) (r:PV×List PObj):Cr rs r .ret ⟨V,l,g,h⟩=(wY ⟨V,l,g,h⟩ rs=some r.1∧wI V rs h=r.2):=by simp[Cr]
theorem wj {k:Nat} {f:PFunc} {args:List PV} {hp:List PObj} {r:PV×List PObj} (hf:L k=some f) (hl:args.length=f.params)
  (hw:wpL L f.code ⟨args.map dem++List.replicate (f.nv - f.params) .dead,[],0,hp⟩ (Cr f.results r)) (hs:f.split=false:=by rfl) (fm:f.prim=none:=by rfl) (hr:f.code.isRound=false:=by rfl):vU L k args hp=some r:=by
 refine OJ hf hl ?_ hs fm hr
 rw[A0] at hw
 obtain⟨e,st,h1,h2,h3,h4⟩:=hw
 rw[h1]
 rcases h2 with rfl|rfl<;>simp only[BF,h3,h4]
def xi (rs:List PRes) (P:PV×List PObj→Prop) (e:PExit) (st:St):Prop:=(e = .normal∨e = .ret)∧∃v,wY st rs=some v∧P (v,wI st.vars rs st.heap)
theorem zq {k:Nat} {f:PFunc} {args:List PV} {hp:List PObj} {P:PV×List PObj→Prop} (hf:L k=some f) (hl:args.length=f.params)
  (hw:wpL L f.code ⟨args.map dem++List.replicate (f.nv - f.params) .dead,[],0,hp⟩ (xi f.results P)) (hs:f.split=false:=by rfl) (fm:f.prim=none:=by rfl) (hr:f.code.isRound=false:=by rfl):∃r,vU L k args hp=some r∧P r:=by
 rw[A0] at hw
 obtain⟨e,st,h1,h2,v,h3,h4⟩:=hw
 refine⟨(v,wI st.vars f.results st.heap),OJ hf hl ?_ hs fm hr,h4⟩
 rw[h1]
 rcases h2 with rfl|rfl<;>simp only[BF,h3]
end
end PI
namespace PI
section
variable {L:Nat→Option PFunc} {Q:PExit→St→Prop}
def upd (V:List PV):List (Nat×PV)→List PV
 | []=>V
 | (k,v)::r=>upd (V.set k v) r
@[simp] theorem d2x (V:List PV):upd V []=V:=rfl
@[simp] theorem d1z (V:List PV) (k:Nat) (v:PV) (r:List (Nat×PV)):upd V ((k,v)::r)=upd (V.set k v) r:=rfl
theorem Pq {γ:Type} {c:PC} (n:Nat) (ok:Nat→Bool) (S:Nat→γ→St)
  (step:∀i,i<n→ok i=true→∀x,(∀y,wpL L (.loop c) (S (i+1) y) Q)→wpL L c (S i x) (xA L c Q))
  (fail:∀i,i<n→ok i=false→(∀k,k<i→ok k=true)→∀x,wpL L c (S i x) (xA L c Q))
  (last:(∀k,k<n→ok k=true)→∀x,wpL L c (S n x) (xA L c Q)) (x:γ):wpL L (.loop c) (S 0 x) Q:=by
 have key:∀(d i:Nat),i+d=n→(∀k,k<i→ok k=true)→∀x,wpL L (.loop c) (S i x) Q:=by
  intro d
  induction d with
  | zero =>
    intro i hi hk x
    rw[zE]
    have:i=n:=by omega
    subst this
    exact last hk x
  | succ d ih =>
    intro i hi hk x
    rw[zE]
    cases ho:ok i with
    | true =>
      refine step i (by omega) ho x (ih (i+1) (by omega) ?_)
      intro k dg
      by_cases e:k=i
      ·rw[e]; exact ho
      ·exact hk k (by omega)
    | false=>exact fail i (by omega) ho hk x
 exact key n 0 (by omega) (λk h=>absurd h (Nat.not_lt_zero k)) x
theorem c2S {γ:Type} {c:PC} {V:List PV} {g:Nat} {h:List PObj} (n:Nat) (ok:Nat→Bool) (M:Nat→γ→List (Nat×PV)) (H:Nat→γ→List PObj) (x0:γ)
  (step:∀i,i<n→ok i=true→∀x,(∀y,wpL L (.loop c) ⟨upd V (M (i+1) y),[],g,H (i+1) y⟩ Q)→wpL L c ⟨upd V (M i x),[],g,H i x⟩ (xA L c Q))
  (fail:∀i,i<n→ok i=false→(∀k,k<i→ok k=true)→∀x,wpL L c ⟨upd V (M i x),[],g,H i x⟩ (xA L c Q))
  (last:(∀k,k<n→ok k=true)→∀x,wpL L c ⟨upd V (M n x),[],g,H n x⟩ (xA L c Q)) (hV:upd V (M 0 x0)=V) (hH:H 0 x0=h):wpL L (.loop c) ⟨V,[],g,h⟩ Q:=by
 have:=Pq n ok (λi x=>⟨upd V (M i x),[],g,H i x⟩) step fail last x0
 rw[hV,hH] at this
 exact this
theorem JL {γ:Type} {c:PC} {V:List PV} {g:Nat} {h:List PObj} (n:Nat) (ok:Nat→Bool) (M:Nat→γ→List (Nat×PV)) (G:Nat→γ→Nat) (H:Nat→γ→List PObj) (x0:γ)
  (step:∀i,i<n→ok i=true→∀x,(∀y,wpL L (.loop c) ⟨upd V (M (i+1) y),[],G (i+1) y,H (i+1) y⟩ Q)→wpL L c ⟨upd V (M i x),[],G i x,H i x⟩ (xA L c Q))
  (fail:∀i,i<n→ok i=false→(∀k,k<i→ok k=true)→∀x,wpL L c ⟨upd V (M i x),[],G i x,H i x⟩ (xA L c Q))
  (last:(∀k,k<n→ok k=true)→∀x,wpL L c ⟨upd V (M n x),[],G n x,H n x⟩ (xA L c Q)) (hV:upd V (M 0 x0)=V) (hG:G 0 x0=g) (hH:H 0 x0=h):wpL L (.loop c) ⟨V,[],g,h⟩ Q:=by
 have:=Pq n ok (λi x=>⟨upd V (M i x),[],G i x,H i x⟩) step fail last x0
 rw[hV,hG,hH] at this
 exact this
end
end PI
