import Derived.Test.YtljbhgpanekomaaGreatDoorPiScLaw1
set_option maxRecDepth 100000
set_option linter.unusedSimpArgs false
set_option linter.unusedVariables false
set_option linter.unusedSectionVars false
namespace PI.Sc
open Go (IntKind BinOp UnOp)
open Short
theorem State.ind {P:State→Prop} (h:∀s:State,(∀a∈s.autos,∀x∈a,P x)→P s):∀s,P s:=by
 intro s
 refine State.rec (motive_1:=P) (motive_2:=λl:List (List State)=>∀a∈l,∀x∈a,P x) (motive_3:=λl:List State=>∀x∈l,P x) ?_ ?_ ?_ ?_ ?_ s
 ·intro n l e a u w ih; exact h _ ih
 ·simp
 ·intro a l h1 h2 b hb x hx
  rcases aA.1 hb with rfl|hb
  ·exact h1 x hx
  ·exact h2 b hb x hx
 ·simp
 ·intro x l h1 h2 y hy
  rcases aA.1 hy with rfl|hy
  ·exact h1
  ·exact h2 y hy
def BR {α:Type} (f:α→List Str→EN):List α→List Str→EN
 | [],d=>(0,d)
 | x::xs,d=>xS (f x d) (BR f xs)
theorem Pb (s:Place):∀(l:List Eqn) (d:List Str),yT s l d=BR (xz s) l d
 | [],d=>rfl
 | q :: l, d => by
   simp only[yT,BR]
   congr 1
   funext d; exact Pb s l d
def xA (s:Place) (d:List Str) (x:List State):EN:=
 if ¬(x.map (·.name)).Nodup then(7,[])
 else if (yM s d x).1≠0 then((yM s d x).1,[])
 else if (yM s d x).2.all (λl=>A7 l ((yM s d x).2.headD [])) then(0,(yM s d x).2.headD [])
 else(8,[])
theorem Fp (s:Place) (d:List Str) (x:List State) (xs:List (List State)):xw s d (x::xs)=xS (xA s d x) λl=>xw s (d++l) xs:=by
 simp only[xw,xA]
 by_cases h1:(x.map (·.name)).Nodup
 ·simp only[h1,bc,if_false]
  by_cases h2:(yM s d x).1=0
  ·simp only[h2,ne_eq,bc,if_false]
   split
   ·rfl
   ·exact(xZ (a:=(8,[])) (by decide) _).symm
  ·simp only[h2,ne_eq,cB,if_true]
   exact(xZ (a:=((yM s d x).1,[])) h2 _).symm
 ·simp only[h1,cB,if_true]
  exact(xZ (a:=(7,[])) (by decide) _).symm
def Cp (s:Place) (x:List State) (d:List Str):EN:=xS (xA s d x) λl=>(0,d++l)
theorem K3 (s:Place):∀(l:List (List State)) (d:List Str),xw s d l=BR (Cp s) l d
 | [],d=>by simp[xw,BR]
 | x :: l, d => by
   rw[Fp]
   simp only[BR,Cp]
   by_cases h:(xA s d x).1=0
   ·have he:=yS h
    rw[he]
    simp only[Aw]
    exact K3 s l _
   ·rw[xZ h,xZ h,xZ (by exact h)]
theorem c2u:∀(x:State) (s:Place) (d:List Str),(x8 s d x).1≠0→x8 s d x=((x8 s d x).1,[])
 | .mk n l e a u w, s, d => by
   intro h
   simp only[x8] at h ⊢
   by_cases h1:(xI s.vis s.tags l).1=0
   ·rw[yS h1,Aw] at h ⊢
    generalize (xI s.vis s.tags l).2=vis at *
    by_cases h2:(yT (s.at vis) e d).1=0
    ·rw[yS h2,Aw] at h ⊢
     generalize (yT (s.at vis) e d).2=d1 at *
     by_cases h3:(xw (s.at vis) d1 a).1=0
     ·rw[yS h3,Aw] at h ⊢
      by_cases h4:zE s u=0
      ·rw[h4,Aw] at h ⊢
       by_cases h5:zE (s.at vis) w=0
       ·rw[h5,Aw] at h ⊢
        split at h
        ·simp at h
        ·rename_i hq; rw[af hq]
       ·rw[xZ (by exact h5)]
      ·rw[xZ (by exact h4)]
     ·rw[xZ h3]
    ·rw[xZ h2]
   ·rw[xZ h1]
theorem La {s:Place} {d:List Str}:∀{l:List State},(∀x∈l,(x8 s d x).1=0)→yM s d l=(0,l.map λx=>(x8 s d x).2)
 | [],_=>rfl
 | x :: l, h => by
   have h1:=h x (by simp)
   have h2:=La (l:=l) (λy hy=>h y (by simp[hy]))
   simp only[yM,h1,if_true,h2,aG]
theorem Lb {s:Place} {d:List Str}:∀{l:List State} {i:Nat} (hi:i<l.length),(x8 s d l[i]).1≠0→(∀k (hk:k<l.length),k<i→(x8 s d l[k]).1=0)→yM s d l=((x8 s d l[i]).1,[])
 | [],i,hi,_,_=>by simp at hi
 | x :: l, 0, hi, h, _ => by
   simp only[bq] at h
   simp only[yM,bq]
   rw[af h]
 | x :: l, i + 1, hi, h, hk => by
   have h0:=hk 0 (by simp) (by omega)
   simp only[bq] at h0
   simp only[cm] at h
   have ih:=Lb (l:=l) (i:=i) (by simpa using hi) h (λk dh h1=>by have:=hk (k+1) (by simpa using dh) (by omega); simpa using this)
   simp only[yM,h0,if_true,ih,cm]
   rw[af h]
theorem FW {α:Type}:∀{l:List α},l.Nodup↔∀i (hi:i<l.length),l[i]∉l.take i:=by
 intro l
 rw[List.nodup_iff_pairwise_ne,List.pairwise_iff_getElem]
 constructor
 ·intro h i hi hm
  obtain⟨j,hj,e⟩:=bg.1 hm
  have oO:j<i:=by simp at hj; omega
  simp only[bB] at e
  exact h j i (by omega) hi oO e
 ·intro h i j hi hj nE e
  refine h j hj ?_
  rw[← e,List.mem_take_iff_getElem]
  exact⟨i,by omega,rfl⟩
section
variable {L:Nat→Option PFunc} {Q:PExit→St→Prop}
theorem Pc {α γ:Type} {c:PC} {V:List PV} {g:Nat} {h:List PObj} (l:List α) (ok:Nat→α→Bool) (M:Nat→γ→List (Nat×PV)) (G:Nat→γ→Nat) (H:Nat→γ→List PObj) (x0:γ)
  (step:∀i (hi:i<l.length),ok i l[i]=true→(∀k (hk:k<l.length),k<i→ok k l[k]=true)→∀x,(∀y,wpL L (.loop c) ⟨upd V (M (i+1) y),[],G (i+1) y,H (i+1) y⟩ Q)→wpL L c ⟨upd V (M i x),[],G i x,H i x⟩ (xB L c Q))
  (fail:∀i (hi:i<l.length),ok i l[i]=false→(∀k (hk:k<l.length),k<i→ok k l[k]=true)→∀x,wpL L c ⟨upd V (M i x),[],G i x,H i x⟩ (xB L c Q))
  (last:(∀k (hk:k<l.length),ok k l[k]=true)→∀x,wpL L c ⟨upd V (M l.length x),[],G l.length x,H l.length x⟩ (xB L c Q)) (hV:upd V (M 0 x0)=V) (hG:G 0 x0=g) (hH:H 0 x0=h):wpL L (.loop c) ⟨V,[],g,h⟩ Q:=by
 have key:∀(n i:Nat),i+n=l.length→(∀k (hk:k<l.length),k<i→ok k l[k]=true)→∀x,wpL L (.loop c) ⟨upd V (M i x),[],G i x,H i x⟩ Q:=by
  intro n
  induction n with
  | zero =>
    intro i hi hk x
    have:i=l.length:=by omega
    subst this
    rw[zo]
    exact last (λk h1=>hk k h1 (by omega)) x
  | succ n ih =>
    intro i hi hk x
    rw[zo]
    cases ho:ok i l[i] with
    | true =>
      refine step i (by omega) ho hk x (ih (i+1) (by omega) ?_)
      intro k h1 h2
      by_cases e:k=i
      ·subst e; exact ho
      ·exact hk k h1 (by omega)
    | false=>exact fail i (by omega) ho hk x
 have:=key l.length 0 (by omega) (λk _ h=>by omega) x0
 rw[hV,hG,hH] at this
 exact this
theorem Lc {α γ:Type} {c:PC} {V:List PV} {g:Nat} {h:List PObj} (l:List α) (f:α→List Str→EN) (d:List Str) (Inv:List Str→Prop) (M:Nat→List Str→γ→List (Nat×PV)) (x0:γ) (h0:Inv d)
  (keep:∀i (hi:i<l.length) d',Inv d'→(f l[i] d').1=0→Inv (f l[i] d').2)
  (step:∀i (hi:i<l.length) d',Inv d'→(f l[i] d').1=0→∀x,(∀y,wpL L (.loop c) ⟨upd V (M (i+1) (f l[i] d').2 y),[],g,h⟩ Q)→wpL L c ⟨upd V (M i d' x),[],g,h⟩ (xB L c Q))
  (fail:∀i (hi:i<l.length) d',Inv d'→(f l[i] d').1≠0→BR f l d=((f l[i] d').1,[])→∀x,wpL L c ⟨upd V (M i d' x),[],g,h⟩ (xB L c Q))
  (last:∀d',Inv d'→BR f l d=(0,d')→∀x,wpL L c ⟨upd V (M l.length d' x),[],g,h⟩ (xB L c Q)) (hV:upd V (M 0 d x0)=V):wpL L (.loop c) ⟨V,[],g,h⟩ Q:=by
 have key:∀(n i:Nat) (d':List Str),i+n=l.length→Inv d'→BR f l d=BR f (l.drop i) d'→∀x,wpL L (.loop c) ⟨upd V (M i d' x),[],g,h⟩ Q:=by
  intro n
  induction n with
  | zero =>
    intro i d' hi hI hf x
    have:i=l.length:=by omega
    subst this
    rw[ba (aq _)] at hf
    rw[zo]
    exact last d' hI hf x
  | succ n ih =>
    intro i d' hi hI hf x
    have dC:i<l.length:=by omega
    rw[aN dC] at hf
    simp only[BR] at hf
    rw[zo]
    by_cases he:(f l[i] d').1=0
    ·refine step i dC d' hI he x (λy=>ih (i+1) _ (by omega) (keep i dC d' hI he) ?_ y)
     rw[hf]
     unfold xS
     rw[ah he]
    ·refine fail i dC d' hI he ?_ x
     rw[hf]; exact xZ he _
 have:=key l.length 0 d (by omega) h0 (by simp) x0
 rwa [hV] at this
end
theorem Defs.len {s:Place} {d xs:List Str} (h:Defs s d xs):xs.length≤s.vis.length:=KY _ _ h.2 λx hx=>(h.1 x hx).1
section
variable {L:Nat→Option PFunc} (hL:∀k f,LS k=some f→L k=some f)
include hL
theorem HK (en:List Enum) (ns:List Node) (i:Nat) (vis inp tags:List Str) (hv:vis.length≤1000000) (d:List Str) (hd:d.length≤1000000) (a:zq) (dt:a.length≤1500)
  (ih:∀x∈a,∀(o:Bool) (h:List PObj),wr L 108 [ePl en ns i vis inp tags,w8 x,.list o (d.map .str)] h=some (eEN (x8 ⟨ns.take i,vis,inp,tags⟩ d x),h))
  (o:Bool) (h:List PObj):wr L 71 [ePl en ns i vis inp tags,xg a,.list o (d.map .str)] h=some (eEN (xA ⟨ns.take i,vis,inp,tags⟩ d a),h):=by
 refine wz (hL 71 _ rfl) rfl ?_
 generalize hP:(⟨ns.take i,vis,inp,tags⟩:Place)=P at *
 have mX:P.vis=vis:=by rw[← hP]
 simp[J5]
 refine AL a (λj x=>decide (x.name∉(a.take j).map (·.name))) (λj (x:PV)=>[(7,.int .i64 j),(8,x)]) .dead ?_ ?_ ?_ rfl
 ·intro j hj cJ x ih2
  have hw:=wC j (by omega)
  simp only[ak] at cJ
  simp[hj]
  have cI:(a.take j).length=j:=by simp; omega
  refine AL (a.take j) (λm y => !decide (y.name=a[j].name)) (λm (_:Unit)=>[(8,.int .i64 m)]) () ?_ ?_ ?_ rfl
  ·intro m hm cU y ih3
   have hw:=wC m (by omega)
   have il:m<j:=by omega
   have im:m<a.length:=by omega
   simp only[bB,bj,aT] at cU
   simp[il,im,hj,hw,cU]
   simpa using ih3 ()
  ·intro m hm cU _ y
   simp only[bQ,ak] at cU
   exact absurd (a8.2 ⟨_,ae hm,cU⟩) cJ
  ·intro _ y
   rw[cI]
   simp[hw]
   simpa using ih2 _
 ·intro j hj cJ dK x
  simp only[aT,Decidable.not_not] at cJ
  have dk:¬(a.map (·.name)).Nodup:=by
   rw[FW]
   intro hh
   have:=hh j (by simpa using hj)
   rw[← List.map_take] at this
   exact this (by simpa using cJ)
  have hb:xA P d a=(7,[]):=by unfold xA; rw[ah dk]
  rw[hb]
  simp[hj]
  have cI:(a.take j).length=j:=by simp; omega
  refine AL (a.take j) (λm y => !decide (y.name=a[j].name)) (λm (_:Unit)=>[(8,.int .i64 m)]) () ?_ ?_ ?_ rfl
  ·intro m hm cU y ih3
   have hw:=wC m (by omega)
   have il:m<j:=by omega
   have im:m<a.length:=by omega
   simp only[bB,bj,aT] at cU
   simp[il,im,hj,hw,cU]
   simpa using ih3 ()
  ·intro m hm cU _ y
   have il:m<j:=by omega
   have im:m<a.length:=by omega
   simp only[bB,bQ,ak] at cU
   simp[il,im,hj,cU,eEN]
  ·intro cY y
   exfalso
   obtain⟨y,hy,he⟩:=a8.1 cJ
   obtain⟨m,hm,rfl⟩:=bg.1 hy
   have:=cY m hm
   simp only[he,decide_true,Bool.not_true,ay] at this
 ·intro cY x
  have dk:(a.map (·.name)).Nodup:=by
   rw[FW]
   intro j hj
   have:=cY j (by simpa using hj)
   simp only[ak] at this
   rw[← List.map_take]; simpa using this
  simp
  generalize hR:(λx:State=>(x8 P d x).2)=R
  obtain⟨F,hF⟩:∃F,F=(a.map R).headD []:=⟨_,rfl⟩
  obtain⟨sm,iT⟩:∃sm:Nat→Bool,∀j,sm j=(a.take j).all (λx=>A7 (R x) F):=⟨_,λ_=>rfl⟩
  have fE:sm 0=true:=by rw[iT]; rfl
  have d4:∀j (hj:j<a.length),sm (j+1)=(sm j&&A7 (R a[j]) F):=by
   intro j hj
   rw[iT,iT,zn hj,bU]
   simp
  refine Pc a (λj x=>decide ((x8 P d x).1=0)) (λj (x:PV×PV)=>[(9,.list (j==0) ((if j=0 then[] else F).map .str)),(10,.bool (sm j)),(11,.int .i64 j),(12,x.1),(13,x.2)]) (λ_ _=>2) (λ_ _=>h) (.dead,.dead) ?_ ?_ ?_ ?_ rfl rfl
  ·intro j hj cJ dK y ih2
   have hw:=wC j (by omega)
   simp only[ak] at cJ
   have hs:=ih a[j] (ae hj) false []
   have mY:=FS a[j] P d _ (yS cJ)
   have u7:R a[j]=(x8 P d a[j]).2:=by rw[← hR]
   have he:=yS cJ
   rw[← u7] at he mY
   rw[he] at hs
   have hlj:(R a[j]).length≤1000000:=by rw[mY.1]; have:=mY.2.1.len; rw[mX] at this; omega
   have ih2:=ih2 (.list false ((R a[j]).map .str),.int .i64 0)
   rw[d4 j hj] at ih2
   have qg:F.length≤1000000:=by
    rw[hF]
    cases a with
    | nil=>simp at hj
    | cons y r =>
      simp only[aG,List.headD_cons]
      have h0:(x8 P d y).1=0:=by
       cases j with
       | zero=>exact cJ
       | succ j =>
         have h0:=dK 0 (by simp) (by omega)
         simpa using h0
      have:=FS y P d _ (yS h0)
      have u9:R y=(x8 P d y).2:=by rw[← hR]
      rw[u9,this.1]
      have:=this.2.1.len
      rw[mX] at this; omega
   have gN:=EC hL (R a[j]) F (by omega) (by omega) false false []
   have kE:=EC hL F (R a[j]) (by omega) (by omega) false false []
   simp[eEN] at hs
   unfold A7 at ih2
   have eJ:(j+1==0)=false:=rfl
   have dI:(if j+1=0 then[] else F)=F:=af (by omega)
   rw[eJ,dI] at ih2
   by_cases iQ:j=0
   ·have va:F=R a[j]:=by
     subst iQ
     rw[hF]; cases a with | nil=>simp at hj | cons y r=>simp
    have oP:sm j=true:=by rw[iQ]; exact fE
    have oO:((j:Int)=0)=True:=eq_true (by omega)
    have oQ:wX F F=[]:=Dt.2 λx hx=>hx
    rw[← va] at gN kE ih2 hs
    rw[oQ] at gN kE ih2
    simp[oP] at ih2
    simp at gN
    simp[hj,hw,hs,gN,oP,tf iQ]
    simpa using ih2
   ·have c9:((j:Int)=0)=False:=eq_false (by omega)
    have jY:(if j=0 then[] else F)=F:=af iQ
    rw[jY]
    generalize sm j=S at *
    generalize R a[j]=z at *
    generalize wX z F=w1 at *
    generalize wX F z=w2 at *
    have vb:(j==0)=false:=by simpa using iQ
    rw[vb]
    cases S with
    | false =>
      simp at ih2
      simp[hj,hw,hs,iQ]
      simpa using ih2
    | true =>
      by_cases q1:w1=[]
      ·by_cases q2:w2=[]
       ·simp[q1,q2] at ih2 gN kE
        simp[hj,hw,hs,iQ,gN,kE]
        simpa using ih2
       ·simp[q1,q2] at ih2 gN
        simp[hj,hw,hs,iQ,gN,kE,q2]
        simpa using ih2
      ·simp[q1] at ih2
       simp[hj,hw,hs,iQ,gN,q1]
       simpa using ih2
  ·intro j hj cJ dK y
   simp only[aT] at cJ
   have hs:=ih a[j] (ae hj) false []
   rw[c2u _ _ _ cJ] at hs
   have dz:=Lb (s:=P) (d:=d) hj cJ (λk hk h1=>by have:=dK k hk h1; simpa using this)
   have hb:xA P d a=((x8 P d a[j]).1,[]):=by
    unfold xA
    rw[af (by simpa using dk),dz,ah cJ]
   rw[hb]
   generalize (x8 P d a[j]).1=er at *
   simp[eEN] at hs
   simp[hj,hs,cJ,eEN]
  ·intro cY y
   have dz:=La (s:=P) (d:=d) (l:=a) (λx hx=>by obtain⟨k,hk,rfl⟩:=bg.1 hx; simpa using cY k hk)
   have vd:(a.map λx=>(x8 P d x).2)=a.map R:=by rw[← hR]
   rw[vd] at dz
   have hb:xA P d a=if sm a.length then(0,F) else(8,[]):=by
    unfold xA
    rw[af (by simpa using dk),dz,iT,hF]
    simp only[ne_eq,bc,if_false,aI,List.all_map]
    rfl
   have ht:(if a.length=0 then[] else F)=F:=by
    split
    ·rename_i h0
     have:a=[]:=bb.1 h0
     rw[hF,this]; rfl
    ·rfl
   rw[hb,ht]
   generalize sm a.length=S at *
   cases S<;>simp[eEN]
  ·simp[fE]
end
theorem c2v (s:Place) (d:List Str) (x:State):x8 s d x =
  xS (xI s.vis s.tags x.locals) λvis=>
  xS (yT (s.at vis) x.eqs d) λd1=>
  xS (xw (s.at vis) d1 x.autos) λd2=>
  xS (zE s x.unl,[]) λ_=>
  xS (zE (s.at vis) x.til,[]) λ_=>
  if wX (wv x.locals) (wX d2 d)=[] then(0,wX (wX d2 d) (wv x.locals)) else(8,[]):=by
 cases x; simp only[x8,State.locals_mk,State.eqs_mk,State.autos_mk,State.unl_mk,State.til_mk]; rfl
theorem State.parts_eq (x:State):x.parts=1+wu Decl.parts x.locals+wu Eqn.parts x.eqs+wu Trn.parts x.unl+wu Trn.parts x.til+yI x.autos:=by
 cases x; simp only[State.parts,State.locals_mk,State.eqs_mk,State.autos_mk,State.unl_mk,State.til_mk]
theorem HL {l:List (List State)} {a:List State} {x:State} (ha:a∈l) (hx:x∈a):x.parts+a.length<yI l+a.length∧a.length<yI l:=by
 rw[Ej]
 have h1:=A3 (λa=>1+wu State.parts a) ha
 have h2:=A3 State.parts hx
 have h3:=EA State.parts (λs=>by rw[State.parts_eq]; omega) a
 have h1:1+wu State.parts a≤wu (λa=>1+wu State.parts a) l:=h1
 omega
theorem c0K (l:List Decl):l.length≤wu Decl.parts l:=EA _ (λd=>by unfold Decl.parts; omega) l
theorem Pd (vis tags:List Str) (l:List Decl):(if (w9 tags l vis).1=0∧zg (w9 tags l vis).2 l≠0 then(zg (w9 tags l vis).2 l,[]) else xI vis tags l).1=(xI vis tags l).1∧((xI vis tags l).1=0→(if (w9 tags l vis).1=0∧zg (w9 tags l vis).2 l≠0 then(zg (w9 tags l vis).2 l,[]) else xI vis tags l)=xI vis tags l):=by
 split
 ·rename_i h
  have:xI vis tags l=(zg (w9 tags l vis).2 l,(w9 tags l vis).2):=by
   unfold xI
   unfold xS
   rw[ah h.1]
  rw[this]
  exact⟨rfl,λh0=>absurd h0 h.2⟩
 ·exact⟨rfl,λ_=>rfl⟩
theorem FX (s:Place) (a:List State) (d:List Str):(Cp s a d).1=(xA s d a).1:=by
 unfold Cp xS
 split
 ·rename_i h; rw[h]
 ·rfl
theorem HM {s:Place} {a:List State} {d:List Str} (h:(Cp s a d).1=0):(Cp s a d).2=d++(xA s d a).2∧Defs s d (xA s d a).2:=by
 have h1:=h
 rw[FX] at h1
 have h2:Cp s a d=(0,d++(xA s d a).2):=by unfold Cp xS; rw[ah h1]
 have h3:xw s d [a]=(0,d++(xA s d a).2):=by
  rw[Fp]
  unfold xS
  rw[ah h1]; rfl
 obtain⟨h4,h5,_⟩:=DH _ _ _ _ h3
 have h6:=List.append_cancel_left h4
 rw[h2]
 exact⟨rfl,by rw[h6]; exact h5⟩
def Sub (d vis:List Str):Prop:=d.Nodup∧∀y∈d,y∈vis
theorem Sub.len {d vis:List Str} (h:Sub d vis):d.length≤vis.length:=KY _ _ h.1 h.2
theorem Sub.app {s:Place} {d xs:List Str} (h:Sub d s.vis) (hx:Defs s d xs):Sub (d++xs) s.vis:=by
 refine⟨HG.2 ⟨h.1,hx.2,λx hm=>(hx.1 x hm).2.2⟩,λy hy =>?_⟩
 rcases ax.1 hy with h1|h1
 ·exact h.2 y h1
 ·exact(hx.1 y h1).1
section
variable {L:Nat→Option PFunc} (hL:∀k f,LS k=some f→L k=some f)
include hL
theorem Pe (en:List Enum) (ns:List Node) (hl:ns.length≤1500) (i:Nat) (inp tags:List Str) (ve:inp.length≤100000) (db:tags.length≤100000) (x:State):SW x→∀(vis d:List Str),vis.length+x.parts≤100000→Sub d vis→∀(o:Bool) (h:List PObj),
  wr L 108 [ePl en ns i vis inp tags,w8 x,.list o (d.map .str)] h=some (eEN (x8 ⟨ns.take i,vis,inp,tags⟩ d x),h):=by
 induction x using State.ind with
 | h x ih=>
 intro hx vis d di hd o h
 have qi:=State.parts_eq x
 have oR:=c0K x.locals
 have gK:=hd.len
 have fA:=Pf hL vis tags (by omega) (by omega) x.locals (by have:=hx.locals; omega) (λd hd=>(hx.ls d hd).clock) false false false []
 obtain⟨de,gO⟩:=Pd vis tags x.locals
 generalize (if (w9 tags x.locals vis).1=0∧zg (w9 tags x.locals vis).2 x.locals≠0 then(zg (w9 tags x.locals vis).2 x.locals,[]) else xI vis tags x.locals)=D at *
 have fO:=Pg hL en ns hl i vis inp tags (by omega) x.unl hx.unl hx.us false []
 refine wz (hL 108 _ rfl) rfl ?_
 rw[c2v]
 simp only[eEN] at fA ⊢
 by_cases hc:(xI vis tags x.locals).1=0
 ·have qj:=gO hc
  obtain⟨v1,⟨v2,v4⟩,v3⟩:=HH.1 (yS hc)
  have nF:=yS hc
  rw[v1] at nF
  rw[nF] at qj
  rw[qj] at fA
  simp only at fA
  simp only[nF,Aw]
  obtain⟨V,hV⟩:∃V,V=vis++wv x.locals:=⟨_,rfl⟩
  rw[← hV] at fA ⊢
  have vf:V.length≤vis.length+x.locals.length:=by rw[hV]; simp[wv]
  have gH:Place.at ⟨ns.take i,vis,inp,tags⟩ V=⟨ns.take i,V,inp,tags⟩:=rfl
  rw[gH]
  have cX:Sub d V:=⟨hd.1,λy hy=>by rw[hV]; exact bW _ (hd.2 y hy)⟩
  have jB:=Pg hL en ns hl i V inp tags (by omega) x.til hx.til hx.ts false []
  rw[Pb]
  simp only[K3]
  generalize hu:zE ⟨ns.take i,vis,inp,tags⟩ x.unl=eu at *
  generalize ht:zE ⟨ns.take i,V,inp,tags⟩ x.til=et at *
  simp[Hm,fA]
  refine Lc x.eqs (xz ⟨ns.take i,V,inp,tags⟩) d (λd'=>Sub d' V) (λj d' (y:PV)=>[(10,.list false (d'.map .str)),(11,.int .i64 j),(8,y)]) (.int .i64 0) cX ?_ ?_ ?_ ?_ ?_
  ·intro j hj d' hI cJ
   obtain⟨q1,q2,_⟩:=Eh.1 (yS cJ)
   rw[q1]
   exact Sub.app (s:=⟨ns.take i,V,inp,tags⟩) hI q2
  ·intro j hj d' hI cJ y ih2
   have hw:=wC j (by have:=hx.eqs; omega)
   have jh:=hI.len
   have dm:=HN hL en ns hl i V inp tags (by omega) (by omega) x.eqs[j] (hx.es _ (ae hj)) d' (by omega) false []
   rw[yS cJ] at dm
   have ih2:=ih2 (.int .i64 0)
   generalize (xz ⟨ns.take i,V,inp,tags⟩ x.eqs[j] d').2=d'' at *
   simp[eEN] at dm
   simp[hj,hw,dm]
   simpa using ih2
  ·intro j hj d' hI cJ kF y
   have jh:=hI.len
   have dm:=HN hL en ns hl i V inp tags (by omega) (by omega) x.eqs[j] (hx.es _ (ae hj)) d' (by omega) false []
   rw[kF,xZ (by exact cJ)]
   generalize hr:xz ⟨ns.take i,V,inp,tags⟩ x.eqs[j] d'=r at *
   simp[eEN] at dm
   simp[hj,dm,cJ]
  ·intro d1 rX kF y
   rw[kF,Aw]
   simp
   refine Lc x.autos (Cp ⟨ns.take i,V,inp,tags⟩) d1 (λd'=>Sub d' V) (λj d' (z:Bool×PV×PV)=>[(10,.list z.1 (d'.map .str)),(12,.int .i64 j),(13,z.2.1),(14,z.2.2)]) (false,.dead,.dead) rX ?_ ?_ ?_ ?_ ?_
   ·intro j hj d' hI cJ
    obtain⟨q1,q2⟩:=HM cJ
    rw[q1]
    exact Sub.app (s:=⟨ns.take i,V,inp,tags⟩) hI q2
   ·intro j hj d' hI cJ z ih2
    have hw:=wC j (by have:=hx.autos; omega)
    have jh:=hI.len
    have dm:=HK hL en ns i V inp tags (by omega) d' (by omega) x.autos[j] (hx.as _ (ae hj)) (λy hy o h=>ih _ (ae hj) y hy (hx.ss _ (ae hj) y hy) V d' (by have:=(HL (ae hj) hy).1; omega) hI o h) false []
    obtain⟨q1,q2⟩:=HM cJ
    have hn:=cJ
    rw[FX] at hn
    rw[yS hn] at dm
    have ih2:=ih2 (true,.list false ((xA ⟨ns.take i,V,inp,tags⟩ d' x.autos[j]).2.map .str),.int .i64 0)
    rw[q1] at ih2
    have q2l:=q2.len
    simp only at q2l
    generalize (xA ⟨ns.take i,V,inp,tags⟩ d' x.autos[j]).2=l at *
    have cI:d'.length≤2147483648:=by omega
    have dp:d'.length+l.length≤2147483648:=by omega
    simp[eEN] at dm
    simp[hj,hw,dm,cI,dp]
    simpa using ih2
   ·intro j hj d' hI cJ ji z
    have jh:=hI.len
    have dm:=HK hL en ns i V inp tags (by omega) d' (by omega) x.autos[j] (hx.as _ (ae hj)) (λy hy o h=>ih _ (ae hj) y hy (hx.ss _ (ae hj) y hy) V d' (by have:=(HL (ae hj) hy).1; omega) hI o h) false []
    rw[ji,xZ (by exact cJ)]
    rw[FX] at cJ ⊢
    generalize xA ⟨ns.take i,V,inp,tags⟩ d' x.autos[j]=r at *
    simp[eEN] at dm
    simp[hj,dm,cJ]
   ·intro d2 rY ji z
    rw[ji,Aw]
    have rZ:=rY.len
    by_cases r5:eu=0
    ·subst r5
     by_cases r6:et=0
     ·subst r6
      simp only[Aw]
      have w1:=EC hL d2 d (by omega) (by omega) false false []
      have io:=c2U hL x.locals (by have:=hx.locals; omega) false []
      have da:(wv x.locals).length=x.locals.length:=by simp[wv]
      have hlw:(wX d2 d).length≤d2.length:=by unfold wX; exact List.length_filter_le ..
      generalize wX d2 d=ow at *
      have w2:=EC hL (wv x.locals) ow (by omega) (by omega) false false []
      have w3:=EC hL ow (wv x.locals) (by omega) (by omega) false false []
      generalize wv x.locals=dn at *
      generalize wX dn ow=wa at *
      generalize wX ow dn=wb at *
      by_cases hz:wa=[]
      ·subst hz
       simp at w2
       simp[fO,jB,w1,io,w2,w3]
      ·have j5:0<wa.length:=bC.2 hz
       have r7:(0:Int)<wa.length:=by omega
       simp[fO,jB,w1,io,w2,w3,hz,j5,r7]
     ·simp only[Aw]
      rw[xZ (by exact r6)]
      simp[fO,jB,r6]
    ·rw[xZ (by exact r5)]
     simp[fO,r5]
   ·simp
  ·simp
 ·rw[xZ hc]
  rw[← de] at hc ⊢
  simp[Hm,fA,hc]
end
def Br:Option Bad→PV
 | none => .tuple [.int .i64 0,.int .i64 0]
 | some b => .tuple [.int .i64 b.eq,.int .i64 b.err]
section
variable {L:Nat→Option PFunc} {Q:PExit→St→Prop}
theorem c2w {γ:Type} {c:PC} {V:List PV} {g:Nat} {h:List PObj} (s:Place) (l:List Eqn) (d:List Str) (Inv:List Str→Prop) (M:Nat→List Str→γ→List (Nat×PV)) (x0:γ) (h0:Inv d)
  (keep:∀i (hi:i<l.length) d',Inv d'→(xz s l[i] d').1=0→Inv (xz s l[i] d').2)
  (step:∀i (hi:i<l.length) d',Inv d'→(xz s l[i] d').1=0→∀x,(∀y,wpL L (.loop c) ⟨upd V (M (i+1) (xz s l[i] d').2 y),[],g,h⟩ Q)→wpL L c ⟨upd V (M i d' x),[],g,h⟩ (xB L c Q))
  (fail:∀i (hi:i<l.length) d',Inv d'→(xz s l[i] d').1≠0→zT s l 0 d = .inl (i,(xz s l[i] d').1)→∀x,wpL L c ⟨upd V (M i d' x),[],g,h⟩ (xB L c Q))
  (last:∀d',Inv d'→zT s l 0 d = .inr d'→∀x,wpL L c ⟨upd V (M l.length d' x),[],g,h⟩ (xB L c Q)) (hV:upd V (M 0 d x0)=V):wpL L (.loop c) ⟨V,[],g,h⟩ Q:=by
 have key:∀(n i:Nat) (d':List Str),i+n=l.length→Inv d'→zT s l 0 d=zT s (l.drop i) i d'→∀x,wpL L (.loop c) ⟨upd V (M i d' x),[],g,h⟩ Q:=by
  intro n
  induction n with
  | zero =>
    intro i d' hi hI hf x
    have:i=l.length:=by omega
    subst this
    rw[ba (aq _)] at hf
    rw[zo]
    exact last d' hI hf x
  | succ n ih =>
    intro i d' hi hI hf x
    have dC:i<l.length:=by omega
    rw[aN dC] at hf
    simp only[zT] at hf
    rw[zo]
    by_cases he:(xz s l[i] d').1=0
    ·refine step i dC d' hI he x (λy=>ih (i+1) _ (by omega) (keep i dC d' hI he) ?_ y)
     rw[hf,ah he]
    ·refine fail i dC d' hI he ?_ x
     rw[hf,af he]
 have:=key l.length 0 d (by omega) h0 (by simp) x0
 rwa [hV] at this
end
section
variable {L:Nat→Option PFunc} (hL:∀k f,LS k=some f→L k=some f)
include hL
theorem c4a (n:Node) (h1:n.ins.length≤1500) (h2:n.outs.length≤1500) (h3:n.locals.length≤1500) (h:List PObj):wr L 12 [xc n] h=some (.list true ((vars n).map wF),h):=by
 refine wz (hL 12 _ rfl) rfl ?_
 have q1:n.ins.length≤2147483648:=by omega
 have q2:n.ins.length+n.outs.length≤2147483648:=by omega
 have q3:n.ins.length+(n.outs.length+n.locals.length)≤2147483648:=by omega
 have q4:n.ins.length+n.outs.length+n.locals.length≤2147483648:=by omega
 have hh:xq 3 (n.ins.map wF++n.outs.map wF)=true:=by rw[← bk]; exact c2j _
 simp[JL,q1,q2,q3,q4,vars,hh]
theorem Ph (en:List Enum) (ns:List Node) (gh:ns.length≤1500) (i:Nat) (hi:i<ns.length) (hn:NW ns[i]) (ki:ns[i].parts≤1500) (tags:List Str) (db:tags.length≤50000):∃h',wr L 31 [.agg [.list false (en.map wJ),.list false (ns.map xc)],.int .i64 i,.list false (tags.map .str)] []=some (Br (zU (ns.take i) tags ns[i]),h'):=by
 suffices H:∃r,wr L 31 [.agg [.list false (en.map wJ),.list false (ns.map xc)],.int .i64 i,.list false (tags.map .str)] []=some r∧r.1=Br (zU (ns.take i) tags ns[i]) by
  obtain⟨⟨v,h'⟩,h1,h2⟩:=H
  exact⟨h',by rw[h1]; simp only at h2; rw[h2]⟩
 refine Bl (hL 31 _ rfl) rfl ?_
 have fG:(i:Int)<ns.length:=by omega
 generalize hN:ns[i]=n at *
 have cI:(ns.take i).length=i:=by simp; omega
 have iw:=c4a hL n hn.ins hn.outs hn.locals []
 have fe:(vars n).length≤4500:=by have:=hn.ins; have:=hn.outs; have:=hn.locals; simp[vars]; omega
 have dm:∀d∈vars n,d.clock.length≤1500:=by
  intro d hd
  simp only[vars,ax] at hd
  rcases hd with(hd|hd)|hd
  ·exact(hn.is d hd).clock
  ·exact(hn.os d hd).clock
  ·exact(hn.ls d hd).clock
 have fA:=Pf hL [] tags (by simp) (by omega) (vars n) (by omega) dm false false false []
 obtain⟨de,gO⟩:=Pd [] tags (vars n)
 generalize (if (w9 tags (vars n) []).1=0∧zg (w9 tags (vars n) []).2 (vars n)≠0 then(zg (w9 tags (vars n) []).2 (vars n),[]) else xI [] tags (vars n))=D at *
 have nB:=Ld hL n.ins (by have:=hn.ins; omega) false
 have eY:=Ld hL n.outs (by have:=hn.outs; omega) false
 have iP:=Ld hL n.locals (by have:=hn.locals; omega) false
 have dG:∀l:List Decl,(wv l).length=l.length:=λl=>by simp[wv]
 have oS:=hn.ins
 have mJ:=hn.outs
 have oR:=hn.locals
 have p7:yI n.autos≤1500:=by have:=ki; unfold Node.parts at this; omega
 unfold zU
 simp only[cI]
 generalize du:(if n.name∈(ns.take i).map (·.name) then some (⟨(i:Int),-1,7⟩:Bad) else _)=Res
 simp[JP,fG,hi,hN]
 refine AL (ns.take i) (λ_ m => !decide (m.name=n.name)) (λj (_:Unit)=>[(7,.int .i64 j)]) () ?_ ?_ ?_ rfl
 ·intro j hj cJ x ih
  have hw:=wC j (by omega)
  have j1:j<i:=by omega
  have j2:j<ns.length:=by omega
  simp only[bB,bj,aT] at cJ
  simp[j1,j2,hw,cJ]
  simpa using ih ()
 ·intro j hj cJ _ x
  have j1:j<i:=by omega
  have j2:j<ns.length:=by omega
  have hm:n.name∈(ns.take i).map (·.name):=by
   simp only[bQ,ak] at cJ
   exact a8.2 ⟨_,ae hj,cJ⟩
  simp only[bB,bQ,ak] at cJ
  rw[ah hm] at du
  subst du
  simp[j1,j2,cJ,yJ,Br]
 ·intro cY x
  have hm:n.name∉(ns.take i).map (·.name):=by
   intro hm
   obtain⟨m,hm,he⟩:=a8.1 hm
   obtain⟨k,hk,rfl⟩:=bg.1 hm
   have:=cY k hk
   simp only[he,decide_true,Bool.not_true,ay] at this
  rw[af hm] at du
  rw[cI]
  simp only[eEN] at fA
  by_cases hc:(xI [] tags (vars n)).1=0
  ·have qj:=gO hc
   obtain⟨v1,⟨v2,v4⟩,v3⟩:=HH.1 (yS hc)
   simp only[bu] at v1
   rw[hc,v1] at du
   simp only[ne_eq,bc,if_false] at du
   rw[qj,yS hc,v1] at fA
   obtain⟨V,hV⟩:∃V,V=wv (vars n):=⟨_,rfl⟩
   rw[← hV] at du fA
   have vf:V.length≤4500:=by rw[hV,dG]; exact fe
   simp at fA
   simp only[Place.at,K3] at du
   obtain⟨IN,tr⟩:∃IN,IN=wv n.ins:=⟨_,rfl⟩
   obtain⟨ON,tw⟩:∃ON,ON=wv n.outs:=⟨_,rfl⟩
   obtain⟨LN,tz⟩:∃LN,LN=wv n.locals:=⟨_,rfl⟩
   have vg:IN.length≤1500:=by rw[tr,dG]; exact oS
   have vh:ON.length≤1500:=by rw[tw,dG]; exact mJ
   have vi:LN.length≤1500:=by rw[tz,dG]; exact oR
   rw[← tr] at nB du
   rw[← tw] at eY du
   rw[← tz] at iP du
   simp[iw,fA,nB]
   refine c2w ⟨ns.take i,V,IN,tags⟩ n.eqs [] (λd'=>Sub d' V) (λj d' (y:Bool×PV)=>[(11,.list y.1 (d'.map .str)),(12,.int .i64 j),(9,y.2)]) (true,.int .i64 0) ⟨by simp,by simp⟩ ?_ ?_ ?_ ?_ rfl
   ·intro j hj d' hI cJ
    obtain⟨q1,q2,_⟩:=Eh.1 (yS cJ)
    rw[q1]
    exact Sub.app (s:=⟨ns.take i,V,IN,tags⟩) hI q2
   ·intro j hj d' hI cJ y ih2
    have hw:=wC j (by have:=hn.eqs; omega)
    have jh:=hI.len
    have dm:=HN hL en ns gh i V IN tags (by omega) (by omega) n.eqs[j] (hn.es _ (ae hj)) d' (by omega) false []
    rw[yS cJ] at dm
    have ih2:=ih2 (false,.int .i64 0)
    generalize (xz ⟨ns.take i,V,IN,tags⟩ n.eqs[j] d').2=d'' at *
    simp[eEN] at dm
    simp[hj,hw,dm]
    simpa using ih2
   ·intro j hj d' hI cJ gH y
    have jh:=hI.len
    have dm:=HN hL en ns gh i V IN tags (by omega) (by omega) n.eqs[j] (hn.es _ (ae hj)) d' (by omega) false []
    rw[gH] at du
    simp only at du
    subst du
    generalize hr:xz ⟨ns.take i,V,IN,tags⟩ n.eqs[j] d'=r at *
    simp[eEN] at dm
    simp[hj,dm,cJ,yJ,Br]
   ·intro d1 rX gH y
    rw[gH] at du
    simp only at du
    simp
    refine Lc n.autos (Cp ⟨ns.take i,V,IN,tags⟩) d1 (λd'=>Sub d' V) (λj d' (z:Bool×PV×PV)=>[(11,.list z.1 (d'.map .str)),(13,.int .i64 j),(14,z.2.1),(15,z.2.2)]) (y.1,.dead,.dead) rX ?_ ?_ ?_ ?_ ?_
    ·intro j hj d' hI cJ
     obtain⟨q1,q2⟩:=HM cJ
     rw[q1]
     exact Sub.app (s:=⟨ns.take i,V,IN,tags⟩) hI q2
    ·intro j hj d' hI cJ z ih2
     have hw:=wC j (by have:=hn.autos.len; omega)
     have jh:=hI.len
     have dm:=HK hL en ns i V IN tags (by omega) d' (by omega) n.autos[j] (hn.autos.as _ (ae hj)) (λy hy o h=>Pe hL en ns gh i IN tags (by omega) (by omega) y (hn.autos.ss _ (ae hj) y hy) V d' (by have:=(HL (ae hj) hy).1; omega) hI o h) false []
     obtain⟨q1,q2⟩:=HM cJ
     have je:=cJ
     rw[FX] at je
     rw[yS je] at dm
     have ih2:=ih2 (true,.list false ((xA ⟨ns.take i,V,IN,tags⟩ d' n.autos[j]).2.map .str),.int .i64 0)
     rw[q1] at ih2
     have q2l:=q2.len
     simp only at q2l
     generalize (xA ⟨ns.take i,V,IN,tags⟩ d' n.autos[j]).2=l at *
     have cI:d'.length≤2147483648:=by omega
     have dp:d'.length+l.length≤2147483648:=by omega
     simp[eEN] at dm
     simp[hj,hw,dm,cI,dp]
     simpa using ih2
    ·intro j hj d' hI cJ ji z
     have jh:=hI.len
     have dm:=HK hL en ns i V IN tags (by omega) d' (by omega) n.autos[j] (hn.autos.as _ (ae hj)) (λy hy o h=>Pe hL en ns gh i IN tags (by omega) (by omega) y (hn.autos.ss _ (ae hj) y hy) V d' (by have:=(HL (ae hj) hy).1; omega) hI o h) false []
     rw[ji,ah (by exact cJ)] at du
     rw[FX] at cJ du
     subst du
     generalize xA ⟨ns.take i,V,IN,tags⟩ d' n.autos[j]=r at *
     simp[eEN] at dm
     simp[hj,dm,cJ,yJ,Br]
    ·intro d2 rY ji z
     rw[ji] at du
     simp only[ne_eq,bc,if_false] at du
     have rZ:=rY.len
     have las:=hn.assume
     have lgs:=hn.ensure
     simp[nB]
     refine zy n.assume (λe=>xe ⟨ns.take i,IN,IN,tags⟩ e 1) (λj (x:PV)=>[(16,.int .i64 j),(17,x)]) .dead ?_ ?_ ?_ rfl
     ·intro j hj cJ x ih
      have hw:=wC j (by omega)
      have hc:=DK hL en ns gh i IN IN tags (by omega) n.assume[j] (hn.as _ (ae hj)).ew 1 []
      rw[cJ] at hc
      simp at hc
      simp[hj,hw,hc]
      simpa using ih _
     ·intro j hj cJ hf x
      have hc:=DK hL en ns gh i IN IN tags (by omega) n.assume[j] (hn.as _ (ae hj)).ew 1 []
      rw[hf] at du
      generalize xe ⟨ns.take i,IN,IN,tags⟩ n.assume[j] 1=er at *
      rw[ah cJ] at du
      subst du
      simp at hc
      simp[hj,hc,cJ,yJ,Br]
     ·intro h0 x
      rw[h0] at du
      simp only[ne_eq,bc,if_false] at du
      have ei:IN.length+ON.length≤2147483648:=by omega
      simp[nB,eY,ei]
      rw[← bk]
      have vj:(IN++ON).length≤3000:=by simp; omega
      generalize IN++ON=X0 at *
      refine zy n.ensure (λe=>xe ⟨ns.take i,X0,IN,tags⟩ e 1) (λj (x:PV)=>[(18,.int .i64 j),(19,x)]) .dead ?_ ?_ ?_ rfl
      ·intro j hj cJ x ih
       have hw:=wC j (by omega)
       have hc:=DK hL en ns gh i X0 IN tags (by omega) n.ensure[j] (hn.gs _ (ae hj)).ew 1 []
       rw[cJ] at hc
       simp at hc
       simp[hj,hw,hc]
       simpa using ih _
      ·intro j hj cJ hf x
       have hc:=DK hL en ns gh i X0 IN tags (by omega) n.ensure[j] (hn.gs _ (ae hj)).ew 1 []
       rw[hf] at du
       generalize xe ⟨ns.take i,X0,IN,tags⟩ n.ensure[j] 1=er at *
       rw[ah cJ] at du
       subst du
       simp at hc
       simp[hj,hc,cJ,yJ,Br]
      ·intro h1 x
       rw[h1] at du
       simp only[ne_eq,bc,if_false] at du
       have md:ON.length+LN.length≤2147483648:=by omega
       have jk:=EC hL (ON++LN) d2 (by simp; omega) (by omega) false false []
       generalize wX (ON++LN) d2=wa at *
       simp at jk
       by_cases hz:wa=[]
       ·subst hz
        simp at du
        subst du
        simp at jk
        simp[eY,iP,md,jk,yJ,Br]
       ·have j5:0<wa.length:=bC.2 hz
        have r7:(0:Int)<wa.length:=by omega
        rw[af hz] at du
        subst du
        simp[eY,iP,md,jk,hz,j5,r7,yJ,Br]
    ·simp
  ·rw[ah (by simpa using hc)] at du
   subst du
   rw[← de] at hc ⊢
   simp at fA
   simp[iw,fA,hc,yJ,Br]
end
theorem Pj (s:Place):∀(l:List Eqn) (k:Nat) (d:List Str) (i:Nat) (e:Int),zT s l k d = .inl (i,e)→e≠0
 | [],k,d,i,e,h=>by simp[zT] at h
 | q :: l, k, d, i, e, h => by
   simp only[zT] at h
   split at h
   ·exact Pj s l _ _ _ _ h
   ·rename_i c9
    simp only[Sum.inl.injEq,ac] at h
    rw[← h.2]; exact c9
theorem c0L {before:List Node} {tags:List Str} {n:Node} {b:Bad} (h:zU before tags n=some b):b.node=before.length∧b.err≠0:=by
 simp only[zU] at h
 split at h
 ·simp only[aa] at h; subst h; exact⟨rfl,by simp⟩
 ·split at h
  ·rename_i h1
   simp only[aa] at h; subst h; exact⟨rfl,h1⟩
  ·split at h
   ·rename_i k e hq
    simp only[aa] at h; subst h; exact⟨rfl,Pj _ _ _ _ _ _ hq⟩
   ·split at h
    ·rename_i h1
     simp only[aa] at h; subst h; exact⟨rfl,h1⟩
    ·split at h
     ·rename_i h1
      simp only[aa] at h; subst h; exact⟨rfl,h1⟩
     ·split at h
      ·rename_i h1
       simp only[aa] at h; subst h; exact⟨rfl,h1⟩
      ·split at h
       ·simp at h
       ·simp only[aa] at h; subst h; exact⟨rfl,by simp⟩
theorem Pk {tags:List Str}:∀{l b:List Node} {i:Nat} (hi:i<l.length) {x:Bad},zU (b++l.take i) tags l[i]=some x→(∀k (hk:k<l.length),k<i→zU (b++l.take k) tags l[k]=none)→AG tags b l=some x
 | [],b,i,hi,x,_,_=>by simp at hi
 | n :: l, b, 0, hi, x, h, _ => by
   simp only[List.take_zero,aL,bq] at h
   simp[AG,h]
 | n :: l, b, i + 1, hi, x, h, hk => by
   have h0:=hk 0 (by simp) (by omega)
   simp only[List.take_zero,aL,bq] at h0
   simp only[AG,h0]
   refine Pk (l:=l) (i:=i) (by simpa using hi) (by simpa using h) (λk dh h1=>by have:=hk (k+1) (by simpa using dh) (by omega); simpa using this)
theorem Pl {tags:List Str}:∀{l b:List Node},(∀k (hk:k<l.length),zU (b++l.take k) tags l[k]=none)→AG tags b l=none
 | [],b,_=>rfl
 | n :: l, b, h => by
   have h0:=h 0 (by simp)
   simp only[List.take_zero,aL,bq] at h0
   simp only[AG,h0]
   exact Pl (λk hk=>by have:=h (k+1) (by simpa using hk); simpa using this)
theorem GY {α:Type} {T l:List α}:(T++l).Nodup↔T.Nodup∧∀k (hk:k<l.length),l[k]∉T++l.take k:=by
 rw[HG,FW (l:=l)]
 constructor
 ·rintro⟨h1,h2,h3⟩
  refine⟨h1,λk hk hm =>?_⟩
  rcases ax.1 hm with h|h
  ·exact h3 _ (ae hk) h
  ·exact h2 k hk h
 ·rintro⟨h1,h2⟩
  refine⟨h1,λk hk hm=>h2 k hk (cg _ hm),λx hx hm =>?_⟩
  obtain⟨k,hk,rfl⟩:=bg.1 hx
  exact h2 k hk (bW _ hm)
def Bk (en:List Enum) (i:Nat) (u:Enum):Bool:=decide (u.name∉(en.take i).map (·.name)∧(yw (en.take i)++u.tags).Nodup)
theorem Du {en:List Enum} {i:Nat} (h:i<en.length):yw (en.take (i+1))=yw (en.take i)++en[i].tags:=by unfold yw; rw[zn h,List.flatMap_append]; simp
theorem GZ {en:List Enum}:BO en=true↔∀i (hi:i<en.length),Bk en i en[i]=true:=by
 unfold BO Bk
 simp only[ak]
 constructor
 ·rintro⟨h1,h2⟩ i hi
  constructor
  ·have:=(FW.1 h1) i (by simpa using hi)
   rw[← List.map_take] at this
   simpa using this
  ·rw[← Du hi]
   refine h2.sublist ?_
   unfold yw
   have:en.flatMap (·.tags)=(en.take (i+1)).flatMap (·.tags)++(en.drop (i+1)).flatMap (·.tags):=by rw[← List.flatMap_append,bO]
   rw[this]
   exact List.sublist_append_left _ _
 ·intro h
  constructor
  ·rw[FW]
   intro i hi
   have:=(h i (by simpa using hi)).1
   rw[← List.map_take]; simpa using this
  ·cases hn:en.length with
   | zero=>have:en=[]:=bb.1 hn; subst this; simp[yw]
   | succ m =>
     have:=(h m (by omega)).2
     rw[← Du (by omega),← hn,aI] at this
     exact this
theorem Nx {en:List Enum} {i:Nat} (hi:i≤en.length) (h:∀k (hk:k<en.length),k<i→Bk en k en[k]=true):(yw (en.take i)).Nodup:=by
 cases i with
 | zero=>simp[yw]
 | succ i =>
   have:=h i (by omega) (by omega)
   unfold Bk at this
   simp only[ak] at this
   rw[Du (by omega)]; exact this.2
theorem FY (en:List Enum) (i:Nat):(yw (en.take i)).length≤wu Enum.parts en:=by
 have h1:=O3 (λu:Enum=>u.tags) Enum.parts (en.take i) (λu _=>by unfold Enum.parts; omega)
 have h2:=Le Enum.parts en i
 unfold yw; omega
theorem NB {p:Prog} {b:Bad} (hs:A4 p=some b):b.err≠0:=by
 intro he
 unfold A4 at hs
 split at hs
 ·simp only[aa] at hs; rw[← hs] at he; exact absurd he (by decide)
 ·split at hs
  ·rename_i h1; simp only[aa] at hs; rw[← hs] at he; exact h1 he
  ·have key:∀(l:List Node) (j:Nat),Am p.enums l j=some b→b.err≠0:=by
    intro l
    induction l with
    | nil=>intro j hj; simp[Am] at hj
    | cons n l ih =>
      intro j hj
      simp only[Am] at hj
      cases hn:zc p.enums n j with
      | none=>rw[hn] at hj; exact ih _ hj
      | some y =>
        rw[hn] at hj
        simp only[aa] at hj
        subst hj
        unfold zc at hn
        split at hn
        ·rename_i h1; simp only[aa] at hn; rw[← hn]; exact h1
        ·split at hn
         ·rename_i k e hf
          have:∀(l:List Eqn) (m:Nat),Av (zr p.enums) l m=some (k,e)→e≠0:=by
           intro l
           induction l with
           | nil=>intro m hm; simp[Av] at hm
           | cons q l ih2 =>
             intro m hm
             simp only[Av] at hm
             split at hm
             ·exact ih2 _ hm
             ·rename_i h2; simp only[aa,ac] at hm; rw[← hm.2]; exact h2
          simp only[aa] at hn; rw[← hn]; exact this _ _ hf
         ·split at hn
          ·rename_i h1; simp only[aa] at hn; rw[← hn]; exact h1
          ·simp at hn
   exact key _ _ hs he
section
variable {L:Nat→Option PFunc} (hL:∀k f,LS k=some f→L k=some f)
include hL
theorem c2x (p:Prog) (oT:PW p) (oh:parts p≤1500) (h:List PObj):wr L 9 [yh p] h=some (zh (yy (El p)),h):=by
 refine wz (hL 9 _ rfl) rfl ?_
 have dV:=c2S hL p oT []
 have el:=oT.enums
 have lY:=oT.nodes
 unfold El
 simp only[zh] at dV ⊢
 cases hs:A4 p with
 | some b =>
   have lB:=NB hs
   rw[hs] at dV
   simp only[yy,bJ] at dV ⊢
   simp[G9,dV,lB,wM,wD]
 | none =>
   rw[hs] at dV
   simp only[yy,Option.getD_none,Dw] at dV
   simp only
   simp[G9,dV]
   have qi:wu Enum.parts p.enums≤1500:=by unfold parts at oh; omega
   refine Pc p.enums (Bk p.enums) (λi (x:PV×PV)=>[(6,.list true ((yw (p.enums.take i)).map .str)),(7,.int .i64 i),(8,x.1),(9,x.2)]) (λ_ _=>3) (λ_ _=>h) (.dead,.dead) ?_ ?_ ?_ (by simp[yw,wM]) rfl rfl
   ·intro i hi cJ dK x ih
    have hw:=wC i (by omega)
    unfold Bk at cJ
    simp only[ak] at cJ
    obtain⟨k1,k2⟩:=cJ
    obtain⟨k2,k3⟩:=GY.1 k2
    have cI:(p.enums.take i).length=i:=by simp; omega
    have jy:=FY p.enums i
    have gw:=FY p.enums (i+1)
    rw[Du hi] at gw
    have ih:=ih (.int .i64 i,.int .i64 p.enums[i].tags.length)
    rw[Du hi] at ih
    generalize yw (p.enums.take i)=T at *
    simp[hi]
    refine AL (p.enums.take i) (λ_ m => !decide (m.name=p.enums[i].name)) (λj (_:Unit)=>[(8,.int .i64 j)]) () ?_ ?_ ?_ rfl
    ·intro j hj cJ x ih
     have hw:=wC j (by omega)
     have j1:j<i:=by omega
     have j2:j<p.enums.length:=by omega
     simp only[bB,bj,aT] at cJ
     simp[j1,j2,hi,hw,cJ]
     simpa using ih ()
    ·intro j hj cJ _ x
     simp only[bQ,ak] at cJ
     exact absurd (a8.2 ⟨_,ae hj,cJ⟩) k1
    ·intro _ x
     rw[cI]
     simp
     refine C5 p.enums[i].tags.length (λj (_:Unit)=>[(6,.list true ((T++p.enums[i].tags.take j).map .str)),(9,.int .i64 j)]) (λ_ _=>h) () ?_ ?_ (by simp) rfl
     ·intro j hj _ ih2
      have hw:=wC j (by simp at gw; omega)
      have hh:=An hL (T++p.enums[i].tags.take j) (by simp at gw ⊢; omega) p.enums[i].tags[j] false []
      have dq:=k3 j hj
      have ih2:=ih2 ()
      rw[zn hj,← aC] at ih2
      have r8:(T++p.enums[i].tags.take j).length+1≤2147483648:=by simp at gw ⊢; omega
      generalize T++p.enums[i].tags.take j=z at *
      simp[dq] at hh
      simp[hi,hj,hh,hw,r8]
      simpa using ih2
     ·intro _
      simp[hi,hw]
      simpa using ih
   ·intro i hi cJ dK x
    have eY:BO p.enums=false:=by
     rw[← cn,GZ]
     intro hh
     rw[hh i hi] at cJ; simp at cJ
    rw[eY]
    simp only[ay,if_false,yy,bJ]
    unfold Bk at cJ
    simp only[aT,not_and] at cJ
    have cI:(p.enums.take i).length=i:=by simp; omega
    have jy:=FY p.enums i
    have gw:=FY p.enums (i+1)
    rw[Du hi] at gw
    have vk:=Nx (by omega) dK
    generalize yw (p.enums.take i)=T at *
    simp[hi]
    refine AL (p.enums.take i) (λ_ m => !decide (m.name=p.enums[i].name)) (λj (_:Unit)=>[(8,.int .i64 j)]) () ?_ ?_ ?_ rfl
    ·intro j hj cJ x ih
     have hw:=wC j (by omega)
     have j1:j<i:=by omega
     have j2:j<p.enums.length:=by omega
     simp only[bB,bj,aT] at cJ
     simp[j1,j2,hi,hw,cJ]
     simpa using ih ()
    ·intro j hj cJ _ x
     have j1:j<i:=by omega
     have j2:j<p.enums.length:=by omega
     simp only[bB,bQ,ak] at cJ
     simp[j1,j2,hi,cJ,wM,wD]
    ·intro cY x
     have k1:p.enums[i].name∉(p.enums.take i).map (·.name):=by
      intro hm
      obtain⟨m,hm,he⟩:=a8.1 hm
      obtain⟨k,hk,rfl⟩:=bg.1 hm
      have:=cY k hk
      simp only[he,decide_true,Bool.not_true,ay] at this
     have cJ:=cJ k1
     rw[cI]
     simp
     refine AL p.enums[i].tags (λj t=>decide (t∉T++p.enums[i].tags.take j)) (λj (_:Unit)=>[(6,.list true ((T++p.enums[i].tags.take j).map .str)),(9,.int .i64 j)]) () ?_ ?_ ?_ (by simp)
     ·intro j hj dq _ ih2
      simp only[ak] at dq
      have hw:=wC j (by simp at gw; omega)
      have hh:=An hL (T++p.enums[i].tags.take j) (by simp at gw ⊢; omega) p.enums[i].tags[j] false []
      have ih2:=ih2 ()
      rw[zn hj,← aC] at ih2
      have r8:(T++p.enums[i].tags.take j).length+1≤2147483648:=by simp at gw ⊢; omega
      generalize T++p.enums[i].tags.take j=z at *
      simp[dq] at hh
      simp[hi,hj,hh,hw,r8]
      simpa using ih2
     ·intro j hj dq _ x
      simp only[aT,Decidable.not_not] at dq
      have hh:=An hL (T++p.enums[i].tags.take j) (by simp at gw ⊢; omega) p.enums[i].tags[j] false []
      generalize T++p.enums[i].tags.take j=z at *
      simp[dq] at hh
      simp[hi,hj,hh,wM,wD]
     ·intro kG x
      exact absurd (GY.2 ⟨vk,λk hk=>by have:=kG k hk; simpa using this⟩) cJ
   ·intro cY x
    have r9:BO p.enums=true:=GZ.2 λi hi=>cY i hi
    have ek:yw (p.enums.take p.enums.length)=yw p.enums:=by rw[aI]
    have jy:=FY p.enums p.enums.length
    rw[r9,ek]
    rw[ek] at jy
    simp only[if_true]
    generalize yw p.enums=T at *
    simp
    refine AL p.nodes (λi n=>(zU (p.nodes.take i) T n).isNone) (λi (x:PV×PV)=>[(10,.int .i64 i),(11,x.1),(12,x.2)]) (.dead,.dead) ?_ ?_ ?_ rfl
    ·intro i hi cJ y ih
     have hw:=wC i (by omega)
     have ki:p.nodes[i].parts≤1500:=by have:=A3 Node.parts (ae hi); unfold parts at oh; omega
     obtain⟨h',hc⟩:=Ph hL p.enums p.nodes lY i hi (oT.ns _ (ae hi)) ki T (by omega)
     rw[bR] at cJ
     rw[cJ] at hc
     simp[Br] at hc
     simp[hi,hw,hc]
     simpa using ih (_,_)
    ·intro i hi cJ dK y
     have ki:p.nodes[i].parts≤1500:=by have:=A3 Node.parts (ae hi); unfold parts at oh; omega
     obtain⟨h',hc⟩:=Ph hL p.enums p.nodes lY i hi (oT.ns _ (ae hi)) ki T (by omega)
     obtain⟨b,hb⟩:∃b,zU (p.nodes.take i) T p.nodes[i]=some b:=by
      cases hx:zU (p.nodes.take i) T p.nodes[i] with
      | none=>rw[hx] at cJ; simp at cJ
      | some b=>exact⟨b,rfl⟩
     have dl:AG T [] p.nodes=some b:=Pk hi (by simpa using hb) (λk hk h1=>by have:=dK k hk h1; rw[bR] at this; simpa using this)
     obtain⟨eJ,dI⟩:=c0L hb
     rw[show (p.nodes.take i).length=i by simp; omega] at eJ
     rw[hb] at hc
     rw[dl]
     simp[Br] at hc
     simp only[yy,bJ,eJ]
     simp[hi,hc,dI,wM,wD]
    ·intro kG y
     have dl:AG T [] p.nodes=none:=Pl (λk hk=>by have:=kG k hk; rw[bR] at this; simpa using this)
     rw[dl]
     simp[yy,Dw,wM,wD]
end
structure DF (d:Decl):Prop where
 type:Ax d.type
 clock:d.clock.length≤140737488355328
 name:d.name.length≤9223372036854775807
 on:∀o∈d.clock,Ax o.t
structure QF (q:Eqn):Prop where
 left:q.left.length≤140737488355328
 right:EW q.right
inductive SF:State→Prop
 | mk (s:State) (locals:s.locals.length≤140737488355328) (ls:∀d∈s.locals,DF d) (eqs:s.eqs.length≤140737488355328) (es:∀q∈s.eqs,QF q) (unl:s.unl.length≤140737488355328) (us:∀t∈s.unl,EW t.cond) (til:s.til.length≤140737488355328) (ts:∀t∈s.til,EW t.cond) (autos:s.autos.length≤140737488355328) (as:∀a∈s.autos,a.length≤140737488355328) (ss:∀a∈s.autos,∀x∈a,SF x):SF s
theorem SF.locals {s:State}:SF s→s.locals.length≤140737488355328 | .mk _ h .. => h
theorem SF.ls {s:State}:SF s→∀d∈s.locals,DF d | .mk _ _ h .. => h
theorem SF.eqs {s:State}:SF s→s.eqs.length≤140737488355328 | .mk _ _ _ h .. => h
theorem SF.es {s:State}:SF s→∀q∈s.eqs,QF q | .mk _ _ _ _ h .. => h
theorem SF.unl {s:State}:SF s→s.unl.length≤140737488355328 | .mk _ _ _ _ _ h .. => h
theorem SF.us {s:State}:SF s→∀t∈s.unl,EW t.cond | .mk _ _ _ _ _ _ h .. => h
theorem SF.til {s:State}:SF s→s.til.length≤140737488355328 | .mk _ _ _ _ _ _ _ h .. => h
theorem SF.ts {s:State}:SF s→∀t∈s.til,EW t.cond | .mk _ _ _ _ _ _ _ _ h .. => h
theorem SF.autos {s:State}:SF s→s.autos.length≤140737488355328 | .mk _ _ _ _ _ _ _ _ _ h .. => h
theorem SF.as {s:State}:SF s→∀a∈s.autos,a.length≤140737488355328 | .mk _ _ _ _ _ _ _ _ _ _ h _=>h
theorem SF.ss {s:State}:SF s→∀a∈s.autos,∀x∈a,SF x | .mk _ _ _ _ _ _ _ _ _ _ _ h=>h
structure AsF (l:List (List State)):Prop where
 len:l.length≤140737488355328
 as:∀a∈l,a.length≤140737488355328
 ss:∀a∈l,∀x∈a,SF x
theorem SF.asF {s:State} (h:SF s):AsF s.autos:=⟨h.autos,h.as,h.ss⟩
structure NF (n:Node):Prop where
 ins:n.ins.length≤140737488355328
 is:∀d∈n.ins,DF d
 outs:n.outs.length≤140737488355328
 os:∀d∈n.outs,DF d
 locals:n.locals.length≤140737488355328
 ls:∀d∈n.locals,DF d
 eqs:n.eqs.length≤140737488355328
 es:∀q∈n.eqs,QF q
 autos:AsF n.autos
 assume:n.assume.length≤140737488355328
 as:∀e∈n.assume,EW e
 ensure:n.ensure.length≤140737488355328
 gs:∀e∈n.ensure,EW e
structure PF (p:Prog):Prop where
 enums:p.enums.length≤140737488355328
 tags:∀u∈p.enums,u.tags.length≤140737488355328
 nodes:p.nodes.length≤140737488355328
 ns:∀n∈p.nodes,NF n
theorem d0o (n:Nat):Int.tdiv (n:Int) 100=((n / 100:Nat):Int):=by
 rw[Int.tdiv_eq_ediv_of_nonneg (by omega)]; omega
theorem C6 {α:Type} (f:α→Nat):∀l:List α,wu (λx=>1+f x) l=l.length+wu f l
 | []=>rfl
 | x::l=>by simp only[wu,C6 f l,bi]; omega
section
variable {L:Nat→Option PFunc} {Q:PExit→St→Prop}
theorem CH {γ:Type} {c:PC} {V:List PV} {g:Nat} {h:List PObj} (len:Nat) (m:Int) (T:Nat→Int) (B:Int) (M:Nat→Int→γ→List (Nat×PV)) (G:Nat→γ→Nat) (n0:Int) (x0:γ)
  (mono:∀i,i<len→T i≤T (i+1)) (h0:Cap m n0 (T 0)∧0≤n0∧n0≤B)
  (step:∀i,i<len→∀n,n<m→n=T i→0≤n→∀x,(∀n' y,Cap m n' (T (i+1))→0≤n'→n'≤B→wpL L (.loop c) ⟨upd V (M (i+1) n' y),[],G (i+1) y,h⟩ Q)→wpL L c ⟨upd V (M i n x),[],G i x,h⟩ (xB L c Q))
  (stop:∀i,i≤len→∀n,(m≤n∨i=len)→Cap m n (T len)→0≤n→n≤B→∀x,wpL L c ⟨upd V (M i n x),[],G i x,h⟩ (xB L c Q))
  (hV:upd V (M 0 n0 x0)=V) (hG:G 0 x0=g):wpL L (.loop c) ⟨V,[],g,h⟩ Q:=by
 have mono':∀d i,i+d=len→T i≤T len:=by
  intro d
  induction d with
  | zero => intro i hi; have : i = len := by omega
            subst this; exact Int.le_refl _
  | succ d ih=>intro i hi; have h1:=mono i (by omega); have h2:=ih (i+1) (by omega); omega
 have key:∀(d i:Nat),i+d=len→∀n,Cap m n (T i)→0≤n→n≤B→∀x,wpL L (.loop c) ⟨upd V (M i n x),[],G i x,h⟩ Q:=by
  intro d
  induction d with
  | zero =>
    intro i hi n hc hn hb x
    have:i=len:=by omega
    subst this
    rw[zo]
    exact stop i (aq _) n (.inr rfl) hc hn hb x
  | succ d ih =>
    intro i hi n hc hn hb x
    rw[zo]
    by_cases hm:n<m
    ·exact step i (by omega) n hm (hc.2 hm) hn x (λn' y h1 h2 h3=>ih (i+1) (by omega) n' h1 h2 h3 y)
    ·refine stop i (by omega) n (.inl (by omega)) ?_ hn hb x
     have:=mono' (d+1) i hi
     unfold Cap at *; omega
 have:=key len 0 (by omega) n0 h0.1 h0.2.1 h0.2.2 x0
 rwa [hV,hG] at this
end
section
variable {L:Nat→Option PFunc} (hL:∀k f,LS k=some f→L k=some f)
include hL
theorem Lf (e:Expr):EW e→∀(m:Int),1≤m→m≤1500→∀h,wr L 95 [wy e,.int .i64 m] h=some (.int .i64 (if (e.parts:Int)<m then e.parts else m),h):=by
 induction e using Expr.ind with
 | h e ih=>
 intro he m il im h
 refine wz (hL 95 _ rfl) rfl ?_
 obtain⟨_,_,dt⟩:=he.self
 have qi:=parts_eq e
 simp[Kb]
 refine CH e.args.length m (λi=>1+(wu Expr.parts (e.args.take i):Nat)) 1501 (λi n (_:Unit)=>[(4,.int .i64 n),(5,.int .i64 i)]) (λ_ _=>1) 1 () ?_ ?_ ?_ ?_ rfl rfl
 ·intro i hi
  have:=zZ Expr.parts hi
  simp only[this]; omega
 ·refine⟨?_,by omega,by omega⟩
  simp[wu,Cap.refl]
 ·intro i hi n hn hT h0 x ih2
  have hw:=wC i (by omega)
  have ht:=zZ Expr.parts hi
  have hT:n=1+(wu Expr.parts (e.args.take i):Nat):=hT
  have hc:=ih e.args[i] (ae hi) (he.arg (ae hi)) (m - n) (by omega) (by omega) []
  have iO:IntKind.i64.wrap (m - n)=m - n:=xx _ (by omega) (by omega)
  have ih2:=ih2 (n+(if (e.args[i].parts:Int)<m - n then(e.args[i].parts:Int) else m - n)) ()
  rw[ht] at ih2
  generalize e.args[i].parts=q at *
  generalize wu Expr.parts (e.args.take i)=t at *
  have ih2:=ih2 (by unfold Cap; split<;>omega) (by split<;>omega) (by split<;>omega)
  have hr:0≤(if (q:Int)<m - n then(q:Int) else m - n)∧(if (q:Int)<m - n then(q:Int) else m - n)≤1500:=by split<;>omega
  generalize (if (q:Int)<m - n then(q:Int) else m - n)=r at *
  have ip:IntKind.i64.wrap (n+r)=n+r:=xx _ (by omega) (by omega)
  simp[hi,hn,hw,iO,ip,hc]
  simpa using ih2
 ·intro i hi n hx hc h0 hb x
  simp only[aI] at hc
  have hT:(1:Int)+(wu Expr.parts e.args:Nat)=e.parts:=by omega
  rw[hT] at hc
  have dl:(if m<n then m else n)=(if (e.parts:Int)<m then(e.parts:Int) else m):=by
   unfold Cap at hc
   split<;>split<;>omega
  have nG:¬(i<e.args.length∧n<m):=by omega
  by_cases h1:i<e.args.length
  ·have h2:¬n<m:=by omega
   simp[h1,h2,BC,dl]
  ·have eK:¬(i:Int)<e.args.length:=by omega
   simp[h1,eK,BC,dl]
theorem HO (l:List Decl) (hl:l.length≤140737488355328) (hd:∀d∈l,DF d) (m:Int) (il:1≤m) (im:m≤1500) (o:Bool) (h:List PObj):∃n:Int,wr L 52 [.list o (l.map wF),.int .i64 m] h=some (.int .i64 n,h)∧Cap m n (wu Decl.parts l)∧0≤n∧n≤100000000000000000:=by
 suffices H:∃r,wr L 52 [.list o (l.map wF),.int .i64 m] h=some r∧∃n:Int,r=(.int .i64 n,h)∧Cap m n (wu Decl.parts l)∧0≤n∧n≤100000000000000000 by
  obtain⟨r,h1,n,rfl,h2⟩:=H
  exact⟨n,h1,h2⟩
 refine Bl (hL 52 _ rfl) rfl ?_
 have qk:wu Decl.parts l=l.length+wu (λd:Decl=>d.clock.length+d.name.length / 100) l:=by
  rw[← C6]
  congr 1
  funext d; unfold Decl.parts; omega
 simp[JT]
 refine CH l.length m (λi=>(l.length:Int)+(wu (λd:Decl=>d.clock.length+d.name.length / 100) (l.take i):Nat)) 100000000000000000 (λi n (_:Unit)=>[(3,.int .i64 n),(4,.int .i64 i)]) (λ_ _=>0) l.length () ?_ ?_ ?_ ?_ rfl rfl
 ·intro i hi
  have:=zZ (λd:Decl=>d.clock.length+d.name.length / 100) hi
  simp only[this]; omega
 ·refine⟨?_,by omega,by omega⟩
  simp[wu,Cap.refl]
 ·intro i hi n hn hT h0 x ih2
  have hw:=wC i (by omega)
  have ht:=zZ (λd:Decl=>d.clock.length+d.name.length / 100) hi
  have ec:=hd _ (ae hi)
  have dL:=ec.clock
  have my:=ec.name
  have hT:n=(l.length:Int)+(wu (λd:Decl=>d.clock.length+d.name.length / 100) (l.take i):Nat):=hT
  have ih2:=ih2 (n+l[i].clock.length+(l[i].name.length / 100:Nat)) ()
  rw[ht] at ih2
  have ih2 := ih2 (by rw [hT]; have : (l.length : Int) + (wu (fun d : Decl => d.clock.length + d.name.length / 100) (l.take i) : Nat) + l[i].clock.length + (l[i].name.length / 100 : Nat) = (l.length : Int) + ((wu (fun d : Decl => d.clock.length + d.name.length / 100) (l.take i) + (l[i].clock.length + l[i].name.length / 100) : Nat) : Int) := by omega
                      rw[this]; exact Cap.refl _ _) (by omega) (by omega)
  have iO:IntKind.i64.wrap (n+(l[i].clock.length:Int))=n+l[i].clock.length:=xx _ (by omega) (by omega)
  have hq:=d0o l[i].name.length
  have ip:IntKind.i64.wrap ((l[i].name.length / 100:Nat):Int)=((l[i].name.length / 100:Nat):Int):=xx _ (by omega) (by omega)
  have qm:IntKind.i64.wrap (n+(l[i].clock.length:Int)+((l[i].name.length / 100:Nat):Int))=n+l[i].clock.length+(l[i].name.length / 100:Nat):=xx _ (by omega) (by omega)
  generalize l[i].name.length / 100=q at *
  simp[hi,hn,hw,iO,hq,ip,qm]
  simpa using ih2
 ·intro i hi n hx hc h0 hb x
  simp only[aI] at hc
  rw[show (l.length:Int)+(wu (λd:Decl=>d.clock.length+d.name.length / 100) l:Nat)=(wu Decl.parts l:Nat) by omega] at hc
  have dQ:yJ [.var 2] (λr=>∃n:Int,r=(.int .i64 n,h)∧Cap m n (wu Decl.parts l)∧0≤n∧n≤100000000000000000) .ret ⟨[.list false (l.map wF),.int .i64 m,.int .i64 n,.int .i64 n,.int .i64 i],[],0,h⟩:=⟨.inr rfl,.int .i64 n,rfl,n,rfl,hc,h0,hb⟩
  by_cases h1:i<l.length
  ·have h2:¬n<m:=by omega
   simp[h1,h2]
   exact dQ
  ·have eK:¬(i:Int)<l.length:=by omega
   simp[h1,eK]
   exact dQ
theorem Pm (l:List Trn) (hl:l.length≤140737488355328) (hd:∀x∈l,EW x.cond) (m:Int) (il:1≤m) (im:m≤1500) (o:Bool) (h:List PObj):∃n:Int,wr L 96 [.list o (l.map xL),.int .i64 m] h=some (.int .i64 n,h)∧Cap m n (wu Trn.parts l)∧0≤n∧n≤100000000000000000:=by
 suffices H:∃r,wr L 96 [.list o (l.map xL),.int .i64 m] h=some r∧∃n:Int,r=(.int .i64 n,h)∧Cap m n (wu Trn.parts l)∧0≤n∧n≤100000000000000000 by
  obtain⟨r,h1,n,rfl,h2⟩:=H
  exact⟨n,h1,h2⟩
 refine Bl (hL 96 _ rfl) rfl ?_
 have qk:wu Trn.parts l=l.length+wu (λt:Trn=>t.cond.parts) l:=by
  rw[← C6]; rfl
 simp[Kc]
 refine CH l.length m (λi=>(l.length:Int)+(wu (λt:Trn=>t.cond.parts) (l.take i):Nat)) 100000000000000000 (λi n (_:Unit)=>[(3,.int .i64 n),(4,.int .i64 i)]) (λ_ _=>0) l.length () ?_ ?_ ?_ ?_ rfl rfl
 ·intro i hi
  have:=zZ (λt:Trn=>t.cond.parts) hi
  simp only[this]; omega
 ·refine⟨?_,by omega,by omega⟩
  simp[wu,Cap.refl]
 ·intro i hi n hn hT h0 x ih2
  have hw:=wC i (by omega)
  have ht:=zZ (λt:Trn=>t.cond.parts) hi
  have ec:=hd _ (ae hi)
  have hT:n=(l.length:Int)+(wu (λt:Trn=>t.cond.parts) (l.take i):Nat):=hT
  have hc:=Lf hL l[i].cond ec m il im []
  have ih2:=ih2 (n+(if (l[i].cond.parts:Int)<m then(l[i].cond.parts:Int) else m)) ()
  rw[ht] at ih2
  generalize wu (λt:Trn=>t.cond.parts) (l.take i)=T at *
  generalize l[i].cond.parts=q at *
  have hr:0≤(if (q:Int)<m then(q:Int) else m)∧(if (q:Int)<m then(q:Int) else m)≤1500:=by split<;>omega
  have ih2:=ih2 (by unfold Cap; split<;>omega) (by omega) (by omega)
  generalize (if (q:Int)<m then(q:Int) else m)=r at *
  have ip:IntKind.i64.wrap (n+r)=n+r:=xx _ (by omega) (by omega)
  simp[hi,hn,hw,hc,ip]
  simpa using ih2
 ·intro i hi n hx hc h0 hb x
  simp only[aI] at hc
  rw[show (l.length:Int)+(wu (λt:Trn=>t.cond.parts) l:Nat)=(wu Trn.parts l:Nat) by omega] at hc
  have dQ:yJ [.var 2] (λr=>∃n:Int,r=(.int .i64 n,h)∧Cap m n (wu Trn.parts l)∧0≤n∧n≤100000000000000000) .ret ⟨[.list false (l.map xL),.int .i64 m,.int .i64 n,.int .i64 n,.int .i64 i],[],0,h⟩:=⟨.inr rfl,.int .i64 n,rfl,n,rfl,hc,h0,hb⟩
  by_cases h1:i<l.length
  ·have h2:¬n<m:=by omega
   simp[h1,h2]
   exact dQ
  ·have eK:¬(i:Int)<l.length:=by omega
   simp[h1,eK]
   exact dQ
theorem Pn (l:List Expr) (hl:l.length≤140737488355328) (hd:∀x∈l,EW x) (m:Int) (il:1≤m) (im:m≤1500) (o:Bool) (h:List PObj):∃n:Int,wr L 54 [.list o (l.map wy),.int .i64 m] h=some (.int .i64 n,h)∧Cap m n (wu (λe:Expr=>1+Expr.parts e) l)∧0≤n∧n≤100000000000000000:=by
 suffices H:∃r,wr L 54 [.list o (l.map wy),.int .i64 m] h=some r∧∃n:Int,r=(.int .i64 n,h)∧Cap m n (wu (λe:Expr=>1+Expr.parts e) l)∧0≤n∧n≤100000000000000000 by
  obtain⟨r,h1,n,rfl,h2⟩:=H
  exact⟨n,h1,h2⟩
 refine Bl (hL 54 _ rfl) rfl ?_
 have qk:wu (λe:Expr=>1+Expr.parts e) l=l.length+wu Expr.parts l:=by
  rw[← C6]
 simp[JV]
 refine CH l.length m (λi=>(l.length:Int)+(wu Expr.parts (l.take i):Nat)) 100000000000000000 (λi n (_:Unit)=>[(3,.int .i64 n),(4,.int .i64 i)]) (λ_ _=>0) l.length () ?_ ?_ ?_ ?_ rfl rfl
 ·intro i hi
  have:=zZ Expr.parts hi
  simp only[this]; omega
 ·refine⟨?_,by omega,by omega⟩
  simp[wu,Cap.refl]
 ·intro i hi n hn hT h0 x ih2
  have hw:=wC i (by omega)
  have ht:=zZ Expr.parts hi
  have ec:=hd _ (ae hi)
  have hT:n=(l.length:Int)+(wu Expr.parts (l.take i):Nat):=hT
  have hc:=Lf hL l[i] ec m il im []
  have ih2:=ih2 (n+(if (l[i].parts:Int)<m then(l[i].parts:Int) else m)) ()
  rw[ht] at ih2
  generalize wu Expr.parts (l.take i)=T at *
  generalize l[i].parts=q at *
  have hr:0≤(if (q:Int)<m then(q:Int) else m)∧(if (q:Int)<m then(q:Int) else m)≤1500:=by split<;>omega
  have ih2:=ih2 (by unfold Cap; split<;>omega) (by omega) (by omega)
  generalize (if (q:Int)<m then(q:Int) else m)=r at *
  have ip:IntKind.i64.wrap (n+r)=n+r:=xx _ (by omega) (by omega)
  simp[hi,hn,hw,hc,ip]
  simpa using ih2
 ·intro i hi n hx hc h0 hb x
  simp only[aI] at hc
  rw[show (l.length:Int)+(wu Expr.parts l:Nat)=(wu (λe:Expr=>1+Expr.parts e) l:Nat) by omega] at hc
  have dQ:yJ [.var 2] (λr=>∃n:Int,r=(.int .i64 n,h)∧Cap m n (wu (λe:Expr=>1+Expr.parts e) l)∧0≤n∧n≤100000000000000000) .ret ⟨[.list false (l.map wy),.int .i64 m,.int .i64 n,.int .i64 n,.int .i64 i],[],0,h⟩:=⟨.inr rfl,.int .i64 n,rfl,n,rfl,hc,h0,hb⟩
  by_cases h1:i<l.length
  ·have h2:¬n<m:=by omega
   simp[h1,h2]
   exact dQ
  ·have eK:¬(i:Int)<l.length:=by omega
   simp[h1,eK]
   exact dQ
theorem Po (l:List Eqn) (hl:l.length≤140737488355328) (hd:∀x∈l,QF x) (m:Int) (il:1≤m) (im:m≤1500) (o:Bool) (h:List PObj):∃n:Int,wr L 53 [.list o (l.map xn),.int .i64 m] h=some (.int .i64 n,h)∧Cap m n (wu Eqn.parts l)∧0≤n∧n≤100000000000000000:=by
 suffices H:∃r,wr L 53 [.list o (l.map xn),.int .i64 m] h=some r∧∃n:Int,r=(.int .i64 n,h)∧Cap m n (wu Eqn.parts l)∧0≤n∧n≤100000000000000000 by
  obtain⟨r,h1,n,rfl,h2⟩:=H
  exact⟨n,h1,h2⟩
 refine Bl (hL 53 _ rfl) rfl ?_
 have qk:wu Eqn.parts l=l.length+wu (λq:Eqn=>q.left.length+q.right.parts) l:=by
  rw[← C6]
  congr 1
  funext d; try (unfold Eqn.parts; omega)
 simp[JU]
 refine CH l.length m (λi=>(l.length:Int)+(wu (λq:Eqn=>q.left.length+q.right.parts) (l.take i):Nat)) 100000000000000000 (λi n (_:Unit)=>[(3,.int .i64 n),(4,.int .i64 i)]) (λ_ _=>0) l.length () ?_ ?_ ?_ ?_ rfl rfl
 ·intro i hi
  have:=zZ (λq:Eqn=>q.left.length+q.right.parts) hi
  simp only[this]; omega
 ·refine⟨?_,by omega,by omega⟩
  simp[wu,Cap.refl]
 ·intro i hi n hn hT h0 x ih2
  have hw:=wC i (by omega)
  have ht:=zZ (λq:Eqn=>q.left.length+q.right.parts) hi
  have ec:=hd _ (ae hi)
  have qg:=ec.left
  have hT:n=(l.length:Int)+(wu (λq:Eqn=>q.left.length+q.right.parts) (l.take i):Nat):=hT
  have hc:=Lf hL l[i].right ec.right m il im []
  have ih2:=ih2 (n+l[i].left.length+(if (l[i].right.parts:Int)<m then(l[i].right.parts:Int) else m)) ()
  rw[ht] at ih2
  generalize wu (λq:Eqn=>q.left.length+q.right.parts) (l.take i)=T at *
  generalize l[i].right.parts=q at *
  have hr:0≤(if (q:Int)<m then(q:Int) else m)∧(if (q:Int)<m then(q:Int) else m)≤1500:=by split<;>omega
  have ih2:=ih2 (by unfold Cap; split<;>omega) (by omega) (by omega)
  generalize (if (q:Int)<m then(q:Int) else m)=r at *
  have iO:IntKind.i64.wrap (n+(l[i].left.length:Int))=n+l[i].left.length:=xx _ (by omega) (by omega)
  have ip:IntKind.i64.wrap (n+(l[i].left.length:Int)+r)=n+l[i].left.length+r:=xx _ (by omega) (by omega)
  simp[hi,hn,hw,hc,iO,ip]
  simpa using ih2
 ·intro i hi n hx hc h0 hb x
  simp only[aI] at hc
  rw[show (l.length:Int)+(wu (λq:Eqn=>q.left.length+q.right.parts) l:Nat)=(wu Eqn.parts l:Nat) by omega] at hc
  have dQ:yJ [.var 2] (λr=>∃n:Int,r=(.int .i64 n,h)∧Cap m n (wu Eqn.parts l)∧0≤n∧n≤100000000000000000) .ret ⟨[.list false (l.map xn),.int .i64 m,.int .i64 n,.int .i64 n,.int .i64 i],[],0,h⟩:=⟨.inr rfl,.int .i64 n,rfl,n,rfl,hc,h0,hb⟩
  by_cases h1:i<l.length
  ·have h2:¬n<m:=by omega
   simp[h1,h2]
   exact dQ
  ·have eK:¬(i:Int)<l.length:=by omega
   simp[h1,eK]
   exact dQ
end
theorem c0M (l:List (List State)):yI l=l.length+wu (λa=>wu State.parts a) l:=by
 rw[Ej,← C6]
section
variable {L:Nat→Option PFunc} (hL:∀k f,LS k=some f→L k=some f)
include hL
def WA (L:Nat→Option PFunc) (l:List (List State)):Prop:=∀(m:Int),1≤m→m≤1500→∀(o:Bool) (h:List PObj),∃n:Int,wr L 55 [.list o (l.map xg),.int .i64 m] h=some (.int .i64 n,h)∧Cap m n (yI l)∧0≤n∧n≤m+500000000000000000
theorem Pp (l:List (List State)) (hl:AsF l) (ih:∀a∈l,∀x∈a,WA L x.autos):WA L l:=by
 intro m il im o h
 suffices H:∃r,wr L 55 [.list o (l.map xg),.int .i64 m] h=some r∧∃n:Int,r=(.int .i64 n,h)∧Cap m n (yI l)∧0≤n∧n≤m+500000000000000000 by
  obtain⟨r,h1,n,rfl,h2⟩:=H
  exact⟨n,h1,h2⟩
 refine Bl (hL 55 _ rfl) rfl ?_
 have qk:=c0M l
 have oR:=hl.len
 simp[JW]
 refine CH l.length m (λi=>(l.length:Int)+(wu (λa=>wu State.parts a) (l.take i):Nat)) (m+500000000000000000) (λi n (x:(PV×PV)×Nat)=>[(3,.int .i64 n),(4,.int .i64 i),(5,x.1.1),(6,x.1.2)]) (λ_ x=>x.2) l.length ((.dead,.dead),0) ?_ ?_ ?_ ?_ rfl rfl
 ·intro i hi
  have:=zZ (λa=>wu State.parts a) hi
  simp only[this]; omega
 ·refine⟨?_,by omega,by omega⟩
  simp[wu,Cap.refl]
 ·intro i hi n hn hT h0 x ih2
  have hw:=wC i (by omega)
  have ht:=zZ (λa=>wu State.parts a) hi
  have hT:n=(l.length:Int)+(wu (λa=>wu State.parts a) (l.take i):Nat):=hT
  have dt:=hl.as _ (ae hi)
  simp[hi,hn]
  refine CH l[i].length m (λj=>n+(wu State.parts (l[i].take j):Nat)) (m+500000000000000000) (λj n' (x:PV×Nat)=>[(3,.int .i64 n'),(5,.int .i64 j),(6,x.1)]) (λ_ x=>x.2) n (x.1.2,x.2) ?_ ?_ ?_ ?_ rfl rfl
  ·intro j hj
   have:=zZ State.parts hj
   simp only[this]; omega
  ·refine⟨?_,by omega,by omega⟩
   simp[wu,Cap.refl]
  ·intro j hj n' je tB iq y ih3
   have gq:=wC j (by omega)
   have jJ:=zZ State.parts hj
   have tB:n'=n+(wu State.parts (l[i].take j):Nat):=tB
   have kZ:=hl.ss _ (ae hi) _ (ae hj)
   have qi:=State.parts_eq l[i][j]
   obtain⟨w1,c1,q1,a1,b1⟩:=HO hL l[i][j].locals kZ.locals kZ.ls m il im false []
   obtain⟨w2,c2,q2,a2,b2⟩:=Po hL l[i][j].eqs kZ.eqs kZ.es m il im false []
   obtain⟨w3,c3,q3,a3,b3⟩:=Pm hL l[i][j].unl kZ.unl kZ.us m il im false []
   obtain⟨w4,c4,q4,a4,b4⟩:=Pm hL l[i][j].til kZ.til kZ.ts m il im false []
   have z0:IntKind.i64.wrap (n'+1)=n'+1:=xx _ (by omega) (by omega)
   have z1:IntKind.i64.wrap (n'+1+w1)=n'+1+w1:=xx _ (by omega) (by omega)
   have z2:IntKind.i64.wrap (n'+1+w1+w2)=n'+1+w1+w2:=xx _ (by omega) (by omega)
   have z3:IntKind.i64.wrap (n'+1+w1+w2+w3)=n'+1+w1+w2+w3:=xx _ (by omega) (by omega)
   have hS:∃S:Int,S=n'+1+w1+w2+w3+w4:=⟨_,rfl⟩
   obtain⟨S,hS⟩:=hS
   have z4:IntKind.i64.wrap (n'+1+w1+w2+w3+w4)=S:=by rw[hS]; exact xx _ (by omega) (by omega)
   rw[jJ] at ih3
   have hSc:Cap m S (n+(wu State.parts (l[i].take j):Nat)+(1+wu Decl.parts l[i][j].locals+wu Eqn.parts l[i][j].eqs+wu Trn.parts l[i][j].unl+wu Trn.parts l[i][j].til:Nat)):=by
    unfold Cap at *; omega
   by_cases oU:S<m
   ·have gB:IntKind.i64.wrap (m - S)=m - S:=xx _ (by omega) (by omega)
    obtain⟨w5,c5,q5,a5,b5⟩:=ih _ (ae hi) _ (ae hj) (m - S) (by omega) (by omega) false []
    have z5:IntKind.i64.wrap (S+w5)=S+w5:=xx _ (by omega) (by omega)
    have ih3:=λy=>ih3 (S+w5) y (by unfold Cap at *; omega) (by omega) (by omega)
    simp[hi,hj,je,gq,c1,c2,c3,c4,z0,z1,z2,z3,z4,oU,gB,c5,z5]
    simpa using ih3 (_,_)
   ·have ih3:=λy=>ih3 S y (by unfold Cap at *; omega) (by omega) (by omega)
    simp[hi,hj,je,gq,c1,c2,c3,c4,z0,z1,z2,z3,z4,oU]
    simpa using ih3 (_,_)
  ·intro j hj n' hx hc iq hb y
   simp only[aI] at hc
   rw[ht] at ih2
   have ih2:=λy=>ih2 n' y (by rw[show (l.length:Int)+((wu (λa=>wu State.parts a) (l.take i)+wu State.parts l[i]:Nat):Int)=n+(wu State.parts l[i]:Nat) by omega]; exact hc) iq hb
   by_cases h1:j<l[i].length
   ·have h2:¬n'<m:=by omega
    simp[hi,h1,h2,hw]
    simpa using ih2 ((_,_),_)
   ·have eK:¬(j:Int)<l[i].length:=by omega
    simp[hi,h1,eK,hw]
    simpa using ih2 ((_,_),_)
 ·intro i hi n hx hc h0 hb x
  simp only[aI] at hc
  rw[show (l.length:Int)+(wu (λa=>wu State.parts a) l:Nat)=(yI l:Nat) by omega] at hc
  have dQ:yJ [.var 2] (λr=>∃n:Int,r=(.int .i64 n,h)∧Cap m n (yI l)∧0≤n∧n≤m+500000000000000000) .ret ⟨[.list false (l.map xg),.int .i64 m,.int .i64 n,.int .i64 n,.int .i64 i,x.1.1,x.1.2],[],x.2,h⟩:=⟨.inr rfl,.int .i64 n,rfl,n,rfl,hc,h0,hb⟩
  by_cases h1:i<l.length
  ·have h2:¬n<m:=by omega
   simp[h1,h2]
   exact dQ
  ·have eK:¬(i:Int)<l.length:=by omega
   simp[h1,eK]
   exact dQ
theorem c0N (l:List (List State)) (hl:AsF l):WA L l:=by
 refine Pp hL l hl λa ha x hx =>?_
 have key:∀s:State,SF s→WA L s.autos:=by
  intro s
  induction s using State.ind with
  | h s ih=>intro hs; exact Pp hL s.autos hs.asF λa ha x hx=>ih a ha x hx (hs.ss a ha x hx)
 exact key x (hl.ss a ha x hx)
theorem c2y (p:Prog) (hp:PF p) (h:List PObj):∃n:Int,wr L 25 [yh p,.int .i64 1500] h=some (.int .i64 n,h)∧Cap 1500 n (parts p):=by
 suffices H:∃r,wr L 25 [yh p,.int .i64 1500] h=some r∧∃n:Int,r=(.int .i64 n,h)∧Cap 1500 n (parts p) by
  obtain⟨r,h1,n,rfl,h2⟩:=H
  exact⟨n,h1,h2⟩
 refine Bl (hL 25 _ rfl) rfl ?_
 have l1:=hp.enums
 have l2:=hp.nodes
 have t1:wu Enum.parts p.enums=p.enums.length+wu (λu:Enum=>u.tags.length) p.enums:=by rw[← C6]; rfl
 obtain⟨f,hf⟩:∃f:Node→Nat,∀n,f n=n.parts - 1:=⟨_,λ_=>rfl⟩
 have de:∀n:Node,n.parts=1+f n:=by
  intro n
  have:1≤n.parts:=by unfold Node.parts; omega
  rw[hf]; omega
 have t2:wu Node.parts p.nodes=p.nodes.length+wu f p.nodes:=by
  rw[← C6]
  congr 1
  funext n; exact de n
 have nH:(parts p:Int)=(p.enums.length:Int)+p.nodes.length+(wu (λu:Enum=>u.tags.length) p.enums:Nat)+(wu f p.nodes:Nat):=by unfold parts; omega
 have mc:IntKind.i64.wrap ((p.enums.length:Int)+p.nodes.length)=(p.enums.length:Int)+p.nodes.length:=xx _ (by omega) (by omega)
 simp[JO,mc]
 refine CH p.enums.length 1500 (λi=>(p.enums.length:Int)+p.nodes.length+(wu (λu:Enum=>u.tags.length) (p.enums.take i):Nat)) 1000000000000000000 (λi n (_:Unit)=>[(4,.int .i64 n),(5,.int .i64 i)]) (λ_ _=>1) ((p.enums.length:Int)+p.nodes.length) () ?_ ?_ ?_ ?_ rfl rfl
 ·intro i hi
  have:=zZ (λu:Enum=>u.tags.length) hi
  simp only[this]; omega
 ·refine⟨?_,by omega,by omega⟩
  simp[wu,Cap.refl]
 ·intro i hi n hn hT h0 x ih2
  have hw:=wC i (by omega)
  have ht:=zZ (λu:Enum=>u.tags.length) hi
  have jy:=hp.tags _ (ae hi)
  have hT:n=(p.enums.length:Int)+p.nodes.length+(wu (λu:Enum=>u.tags.length) (p.enums.take i):Nat):=hT
  have ih2:=ih2 (n+p.enums[i].tags.length) ()
  rw[ht] at ih2
  have ih2:=ih2 (by unfold Cap; omega) (by omega) (by omega)
  have iO:IntKind.i64.wrap (n+(p.enums[i].tags.length:Int))=n+p.enums[i].tags.length:=xx _ (by omega) (by omega)
  simp[hi,hn,hw,iO]
  simpa using ih2
 ·intro i hi n hx hc h0 hb x
  simp only[aI] at hc
  have nq:wpL L NU ⟨[yh p,.int .i64 1500,.loc 0 (yh p).cells,.int .i64 0,.int .i64 n,.int .i64 i,.int .i64 0,.dead],[],1,h⟩ (AQ 2 (A8 L (S (R [m v4,t 3 l0]) Y) (yJ [.var 3] λr=>∃n:Int,r=(.int .i64 n,h)∧Cap 1500 n (parts p)))):=by
   have nI:∃T0:Int,T0=(p.enums.length:Int)+p.nodes.length+(wu (λu:Enum=>u.tags.length) p.enums:Nat):=⟨_,rfl⟩
   obtain⟨T0,nI⟩:=nI
   rw[← nI] at hc nH
   have vl:0≤T0:=by omega
   refine CH p.nodes.length 1500 (λi=>T0+(wu f (p.nodes.take i):Nat)) 2000000000000000000 (λi n (x:PV×Nat)=>[(4,.int .i64 n),(6,.int .i64 i),(7,x.1)]) (λ_ x=>x.2) n (.dead,1) ?_ ?_ ?_ ?_ rfl rfl
   ·intro i hi
    have:=zZ f hi
    simp only[this]; omega
   ·refine⟨?_,by omega,by omega⟩
    simpa[wu] using hc
   ·intro i hi n hn hT h0 x ih2
    have hw:=wC i (by omega)
    have ht:=zZ f hi
    have ig:=hp.ns _ (ae hi)
    have oV:f p.nodes[i]=wu Decl.parts p.nodes[i].ins+wu Decl.parts p.nodes[i].outs+wu Decl.parts p.nodes[i].locals+wu Eqn.parts p.nodes[i].eqs+wu (λe=>1+Expr.parts e) p.nodes[i].assume+wu (λe=>1+Expr.parts e) p.nodes[i].ensure+yI p.nodes[i].autos:=by
     rw[hf]; unfold Node.parts; omega
    have hT:n=T0+(wu f (p.nodes.take i):Nat):=hT
    obtain⟨w1,c1,q1,a1,b1⟩:=HO hL p.nodes[i].ins ig.ins ig.is 1500 (by omega) (by omega) false []
    obtain⟨w2,c2,q2,a2,b2⟩:=HO hL p.nodes[i].outs ig.outs ig.os 1500 (by omega) (by omega) false []
    obtain⟨w3,c3,q3,a3,b3⟩:=HO hL p.nodes[i].locals ig.locals ig.ls 1500 (by omega) (by omega) false []
    obtain⟨w4,c4,q4,a4,b4⟩:=Po hL p.nodes[i].eqs ig.eqs ig.es 1500 (by omega) (by omega) false []
    obtain⟨w5,c5,q5,a5,b5⟩:=Pn hL p.nodes[i].assume ig.assume ig.as 1500 (by omega) (by omega) false []
    obtain⟨w6,c6,q6,a6,b6⟩:=Pn hL p.nodes[i].ensure ig.ensure ig.gs 1500 (by omega) (by omega) false []
    have z1:IntKind.i64.wrap (n+w1)=n+w1:=xx _ (by omega) (by omega)
    have z2:IntKind.i64.wrap (n+w1+w2)=n+w1+w2:=xx _ (by omega) (by omega)
    have z3:IntKind.i64.wrap (n+w1+w2+w3)=n+w1+w2+w3:=xx _ (by omega) (by omega)
    have z4:IntKind.i64.wrap (n+w1+w2+w3+w4)=n+w1+w2+w3+w4:=xx _ (by omega) (by omega)
    have z5:IntKind.i64.wrap (n+w1+w2+w3+w4+w5)=n+w1+w2+w3+w4+w5:=xx _ (by omega) (by omega)
    obtain⟨S,hS⟩:∃S:Int,S=n+w1+w2+w3+w4+w5+w6:=⟨_,rfl⟩
    have z6:IntKind.i64.wrap (n+w1+w2+w3+w4+w5+w6)=S:=by rw[hS]; exact xx _ (by omega) (by omega)
    have k1:=Cap.add (Cap.refl 1500 n) q1 h0 a1 h0 (by omega)
    have k2:=Cap.add k1 q2 (by omega) a2 (by omega) (by omega)
    have k3:=Cap.add k2 q3 (by omega) a3 (by omega) (by omega)
    have k4:=Cap.add k3 q4 (by omega) a4 (by omega) (by omega)
    have k5:=Cap.add k4 q5 (by omega) a5 (by omega) (by omega)
    have k6:=Cap.add k5 q6 (by omega) a6 (by omega) (by omega)
    rw[← hS] at k6
    have hSn:0≤S:=by omega
    have hSb:S≤1000000000000000000:=by omega
    clear k1 k2 k3 k4 k5 q1 q2 q3 q4 q5 q6
    rw[ht,oV] at ih2
    obtain⟨U,hU⟩:∃U:Int,U=n+(wu Decl.parts p.nodes[i].ins:Nat)+(wu Decl.parts p.nodes[i].outs:Nat)+(wu Decl.parts p.nodes[i].locals:Nat)+(wu Eqn.parts p.nodes[i].eqs:Nat)+(wu (λe=>1+Expr.parts e) p.nodes[i].assume:Nat)+(wu (λe=>1+Expr.parts e) p.nodes[i].ensure:Nat):=⟨_,rfl⟩
    rw[← hU] at k6
    have tC:T0+((wu f (p.nodes.take i)+(wu Decl.parts p.nodes[i].ins+wu Decl.parts p.nodes[i].outs+wu Decl.parts p.nodes[i].locals+wu Eqn.parts p.nodes[i].eqs+wu (λe=>1+Expr.parts e) p.nodes[i].assume+wu (λe=>1+Expr.parts e) p.nodes[i].ensure+yI p.nodes[i].autos):Nat):Int)=U+(yI p.nodes[i].autos:Nat):=by omega
    have hUn:0≤U:=by omega
    rw[tC] at ih2
    clear tC hU hT oV
    by_cases oU:S<1500
    ·have gB:IntKind.i64.wrap (1500 - S)=1500 - S:=xx _ (by omega) (by omega)
     obtain⟨w7,c7,q7,a7,b7⟩:=c0N hL p.nodes[i].autos ig.autos (1500 - S) (by omega) (by omega) false []
     have z7:IntKind.i64.wrap (S+w7)=S+w7:=xx _ (by omega) (by omega)
     have cT:Cap 1500 (S+w7) (U+(yI p.nodes[i].autos:Nat)):=by
      clear ih2 c1 c2 c3 c4 c5 c6 c7 z1 z2 z3 z4 z5 z6 z7 hS
      unfold Cap at *; omega
     have ih2:=λy=>ih2 (S+w7) y cT (by omega) (by omega)
     simp[hi,hn,hw,c1,c2,c3,c4,c5,c6,z1,z2,z3,z4,z5,z6,oU,gB,c7,z7]
     simpa using ih2 (_,_)
    ·have cT:Cap 1500 S (U+(yI p.nodes[i].autos:Nat)):=by
      clear ih2 c1 c2 c3 c4 c5 c6 z1 z2 z3 z4 z5 z6 hS
      unfold Cap at *; omega
     have ih2:=λy=>ih2 S y cT (by omega) (by omega)
     simp[hi,hn,hw,c1,c2,c3,c4,c5,c6,z1,z2,z3,z4,z5,z6,oU]
     simpa using ih2 (_,_)
   ·intro i hi n hx hc h0 hb x
    simp only[aI] at hc
    rw[← nH] at hc
    by_cases h1:i<p.nodes.length
    ·have h2:¬n<1500:=by omega
     simp[h1,h2]
     exact⟨.inr rfl,.int .i64 n,rfl,n,rfl,hc⟩
    ·have eK:¬(i:Int)<p.nodes.length:=by omega
     simp[h1,eK]
     exact⟨.inr rfl,.int .i64 n,rfl,n,rfl,hc⟩
  by_cases h1:i<p.enums.length
  ·have h2:¬n<1500:=by omega
   simp[h1,h2]
   simpa using nq
  ·have eK:¬(i:Int)<p.enums.length:=by omega
   simp[h1,eK]
   simpa using nq
end
theorem DF.dw {d:Decl} (h:DF d) (hp:d.parts≤1500):DW d:=⟨h.type,by unfold Decl.parts at hp; omega,h.on⟩
theorem QF.qw {q:Eqn} (h:QF q) (hp:q.parts≤1500):QW q:=⟨by unfold Eqn.parts at hp; omega,⟨by unfold Eqn.parts at hp; omega,h.right⟩⟩
theorem A6 {α:Type} (f:α→Nat) (h1:∀x,1≤f x) {l:List α} (h:wu f l≤1500):l.length≤1500∧∀x∈l,f x≤1500:=
 ⟨aR (EA f h1 l) h,λx hx=>aR (A3 f hx) h⟩
theorem HF (d:Decl):1≤d.parts:=by unfold Decl.parts; omega
theorem OW (q:Eqn):1≤q.parts:=by unfold Eqn.parts; omega
theorem OX (t:Trn):1≤t.parts:=by unfold Trn.parts; omega
theorem d0n (s:State):1≤s.parts:=by cases s; simp only[State.parts]; omega
theorem OY {l:List (List State)} (h:yI l≤1500):l.length≤1500∧(∀a∈l,a.length≤1500)∧∀a∈l,∀x∈a,x.parts≤1500:=by
 rw[Ej] at h
 obtain⟨h1,h2⟩:=A6 (λa:List State=>1+wu State.parts a) (λa=>by omega) h
 refine⟨h1,λa ha =>?_,λa ha x hx =>?_⟩
 ·have:1+wu State.parts a≤1500:=h2 a ha
  have h3:=EA State.parts d0n a
  omega
 ·have:1+wu State.parts a≤1500:=h2 a ha
  have h3:=A3 State.parts hx
  omega
theorem SF.sw {s:State} (h:SF s) (hp:s.parts≤1500):SW s:=by
 induction s using State.ind with
 | h s ih =>
   have e:=State.parts_eq s
   obtain⟨a1,a2⟩:=A6 Decl.parts HF (l:=s.locals) (by omega)
   obtain⟨b1,b2⟩:=A6 Eqn.parts OW (l:=s.eqs) (by omega)
   obtain⟨c1,c2⟩:=A6 Trn.parts OX (l:=s.unl) (by omega)
   obtain⟨d1,d2⟩:=A6 Trn.parts OX (l:=s.til) (by omega)
   obtain⟨e1,e2,e3⟩:=OY (l:=s.autos) (by omega)
   exact .mk s a1 (λd hd=>(h.ls d hd).dw (a2 d hd)) b1 (λq hq=>(h.es q hq).qw (b2 q hq)) c1 (λt ht=>⟨by have:=c2 t ht; unfold Trn.parts at this; omega,h.us t ht⟩) d1 (λt ht=>⟨by have:=d2 t ht; unfold Trn.parts at this; omega,h.ts t ht⟩) e1 e2 (λa ha x hx=>ih a ha x hx (h.ss a ha x hx) (e3 a ha x hx))
theorem NF.nw {n:Node} (h:NF n) (hp:n.parts≤1500):NW n:=by
 have e:n.parts=1+wu Decl.parts n.ins+wu Decl.parts n.outs+wu Decl.parts n.locals+wu Eqn.parts n.eqs+wu (λe=>1+Expr.parts e) n.assume+wu (λe=>1+Expr.parts e) n.ensure+yI n.autos:=rfl
 obtain⟨a1,a2⟩:=A6 Decl.parts HF (l:=n.ins) (by omega)
 obtain⟨b1,b2⟩:=A6 Decl.parts HF (l:=n.outs) (by omega)
 obtain⟨c1,c2⟩:=A6 Decl.parts HF (l:=n.locals) (by omega)
 obtain⟨d1,d2⟩:=A6 Eqn.parts OW (l:=n.eqs) (by omega)
 obtain⟨f1,f2⟩:=A6 (λe=>1+Expr.parts e) (λx=>by omega) (l:=n.assume) (by omega)
 obtain⟨g1,g2⟩:=A6 (λe=>1+Expr.parts e) (λx=>by omega) (l:=n.ensure) (by omega)
 obtain⟨e1,e2,e3⟩:=OY (l:=n.autos) (by omega)
 exact⟨a1,λd hd=>(h.is d hd).dw (a2 d hd),b1,λd hd=>(h.os d hd).dw (b2 d hd),c1,λd hd=>(h.ls d hd).dw (c2 d hd),d1,λq hq=>(h.es q hq).qw (d2 q hq),⟨e1,e2,λa ha x hx=>(h.autos.ss a ha x hx).sw (e3 a ha x hx)⟩,
  f1,λx hx=>⟨by have:1+x.parts≤1500:=f2 x hx; omega,h.as x hx⟩,g1,λx hx=>⟨by have:1+x.parts≤1500:=g2 x hx; omega,h.gs x hx⟩⟩
theorem PF.pw {p:Prog} (h:PF p) (hs:parts p≤1500):PW p:=by
 have jC:=hs
 unfold parts at hs
 obtain⟨a1,a2⟩:=A6 Enum.parts (λu=>by unfold Enum.parts; omega) (l:=p.enums) (by omega)
 obtain⟨b1,b2⟩:=A6 Node.parts (λu=>by unfold Node.parts; omega) (l:=p.nodes) (by omega)
 exact⟨a1,λu hu=>by have:=a2 u hu; unfold Enum.parts at this; omega,b1,λn hn=>(h.ns n hn).nw (b2 n hn)⟩
def isT:Option (PV×List PObj)→Bool
 | some (.bool true,[])=>true
 | _=>false
theorem c6F {r:Option (PV×List PObj)} (h:isT r=true):r=some (.bool true,[]):=by
 unfold isT at h
 split at h
 ·rfl
 ·simp at h
theorem c0I:isT (call LS 200 7 [] [])=true:=by decide +kernel
theorem c2p:wr LS 7 [] []=some (.bool true,[]):=BL.2 ⟨200,c6F c0I⟩
section
variable {L:Nat→Option PFunc} (hL:∀k f,LS k=some f→L k=some f)
include hL
theorem c2q (p:Prog) (hp:PF p) (h:List PObj):wr L 6 [yh p] h=some (.bool (FR p),h):=by
 obtain⟨n,h1,h2⟩:=c2y hL p hp []
 have e:decide (1500≤n)=FR p:=by unfold FR; rw[aF,ak,ak]; unfold Cap at h2; omega
 refine wz (hL 6 _ rfl) rfl ?_
 simp[JF,h1,e]
end
theorem Pq (c:UInt8):∀s:Str,c∉s→Go.Lib.indexByte s c = -1
 | [],_=>rfl
 | b :: s, h => by
   simp only[aA,not_or] at h
   have:(b==c)=false:=by simpa using λe=>h.1 e.symm
   simp[Go.Lib.indexByte,this,Pq c s h.2]
theorem Pr (c:UInt8):∀(a r:Str),c∉a→Go.Lib.indexByte (a++c::r) c=a.length
 | [],r,_=>by simp[Go.Lib.indexByte]
 | b :: a, r, h => by
   simp only[aA,not_or] at h
   have h1:(b==c)=false:=by simpa using λe=>h.1 e.symm
   have h2:=Pr c a r h.2
   simp only[aW,Go.Lib.indexByte,h1,ay,if_false,h2]
   have:((a.length:Int) == -1)=false:=by simp
   rw[this]; rfl
theorem c2z (c:UInt8) (s:Str):c∉s∨∃a r,s=a++c::r∧c∉a:=by
 induction s with
 | nil=>left; simp
 | cons b s ih =>
   by_cases hb:b=c
   ·exact .inr ⟨[],s,by simp[hb],by simp⟩
   ·rcases ih with h|⟨a,r,e,hn⟩
    ·exact .inl (by simp[Ne.symm hb,h])
    ·exact .inr ⟨b::a,r,by simp[e],by simp[Ne.symm hb,hn]⟩
theorem Pt {c:UInt8}:∀{a a' r r':Str},c∉a→c∉a'→a++c::r=a'++c::r'→a=a'∧r=r'
 | [],[],r,r',_,_,h=>by simpa using h
 | [],x::a',r,r',_,h2,h=>by simp only[bu,aW,bx] at h; exact absurd (by simp[h.1]) h2
 | x::a,[],r,r',h1,_,h=>by simp only[bu,aW,bx] at h; exact absurd (by simp[h.1]) h1
 | x :: a, y :: a', r, r', h1, h2, h => by
   simp only[aW,bx] at h
   simp only[aA,not_or] at h1 h2
   obtain⟨e1,e2⟩:=Pt h1.2 h2.2 h.2
   exact⟨by rw[h.1,e1],e2⟩
theorem Pu (s:Str):A9 s=true↔∃a b:Str,s=a++40::(b++[41])∧a.all yz=true∧b.all yz=true∧b≠[]∧a.length+b.length≤64:=by
 unfold A9
 simp only[ak]
 constructor
 ·rintro⟨h1,h2,h3,h4,h5,h6⟩
  obtain⟨t,ht⟩:=List.takeWhile_prefix (p:=yz) (l:=s)
  have ha:xm s 0=s.takeWhile yz:=by simp[xm]
  have cY:(xm s 0).all yz=true:=by rw[ha]; exact List.all_takeWhile
  rw[← ha] at ht
  generalize xm s 0=a at *
  have lc:t.head? = some 40:=by
   rw[← ht] at h2
   rw[ap (aq _),Nat.sub_self] at h2
   rw[List.head?_eq_getElem?]; exact h2
  obtain⟨r,rfl⟩:∃r,t=40::r:=by cases t with | nil=>simp at lc | cons x r=>simp at lc; exact⟨r,by rw[lc]⟩
  have hb:xm s (a.length+1)=r.takeWhile yz:=by
   unfold xm
   rw[← ht]
   have:(a++40::r).drop (a.length+1)=r:=by
    rw[List.drop_append,ba (by omega)]; simp
   rw[this]
  obtain⟨u,hu⟩:=List.takeWhile_prefix (p:=yz) (l:=r)
  have oW:(xm s (a.length+1)).all yz=true:=by rw[hb]; exact List.all_takeWhile
  rw[← hb] at hu
  generalize xm s (a.length+1)=b at *
  have cI:u.length=1:=by
   have:=aH List.length ht
   rw[← hu] at this
   simp at this; omega
  obtain⟨x,rfl⟩:=List.length_eq_one_iff.1 cI
  have hx:x=41:=by
   rw[← ht,← hu] at h4
   have:(a++40::(b++[x]))[a.length+b.length+1]? = some x:=by
    rw[ap (by omega),show a.length+b.length+1 - a.length=b.length+1 by omega,cD,ap (aq _)]; simp
   rw[this] at h4; simpa using h4
  subst hx
  exact⟨a,b,by rw[← ht,← hu],cY,oW,λe=>h5 (by rw[e]; rfl),h6⟩
 ·rintro⟨a,b,rfl,h1,h2,h3,h4⟩
  have ha:xm (a++40::(b++[41])) 0=a:=by
   unfold xm
   rw[List.drop_zero,List.takeWhile_append_of_pos (by simpa using h1)]
   have:yz 40=false:=rfl
   simp[List.takeWhile_cons,this]
  have hb:xm (a++40::(b++[41])) (a.length+1)=b:=by
   unfold xm
   have:(a++40::(b++[41])).drop (a.length+1)=b++[41]:=by
    rw[List.drop_append,ba (by omega)]; simp
   rw[this,List.takeWhile_append_of_pos (by simpa using h2)]
   have:yz 41=false:=rfl
   simp[List.takeWhile_cons,this]
  rw[ha,hb]
  have iB:b.length≠0:=λe=>h3 (bb.1 e)
  refine⟨by simp; omega,?_,by simp; omega,?_,iB,h4⟩
  ·rw[ap (aq _),Nat.sub_self]; rfl
  ·rw[ap (by omega),show a.length+b.length+1 - a.length=b.length+1 by omega,cD,ap (aq _)]; simp
def Ay (r:Str):Bool:=decide (r.drop (r.length - 1)=[41])
theorem Lg {r:Str}:Ay r=true↔∃b,r=b++[41]:=by
 unfold Ay
 rw[ak]
 constructor
 ·intro e
  refine⟨r.take (r.length - 1),?_⟩
  rw[← e,bO]
 ·rintro⟨b,rfl⟩
  simp
section
variable {L:Nat→Option PFunc} (hL:∀k f,LS k=some f→L k=some f)
include hL
theorem c0O (s:Str) (h:List PObj):wr L 183 [.str s,.int .u8 40] h=some (.int .i64 (Go.Lib.indexByte s 40),h):=by
 rw[c1e (hL 183 _ rfl) rfl rfl]; rfl
theorem Pv (s:Str) (h:List PObj):wr L 181 [.str s,.str [40]] h=some (.int .i64 (Go.Lib.indexByte s 40),h):=by
 refine wz (hL 181 _ rfl) rfl ?_
 by_cases h1:s=[40]
 ·subst h1; simp[Hy]; rfl
 ·have h2:¬[40]=s:=λe=>h1 e.symm
  simp[Hy,h1,h2,c0O hL]
theorem d0p (s:Str) (hs:s.length≤1000) (hn:(40:UInt8)∉s) (h:List PObj):wr L 172 [.str s,.str [40]] h=some (.tuple [.str s,.str [],.bool false],h):=by
 have h1:wr L 179 [.str s,.str [40]] []=some (.tuple [.str s,.str [],.bool false],[]):=by
  refine wz (hL 179 _ rfl) rfl ?_
  have:=Pv hL s []
  rw[Pq 40 s hn] at this
  simp[Hw,this]
 refine wz (hL 172 _ rfl) rfl ?_
 simp[Hv,h1]
theorem c6H (a r:Str) (hs:(a++40::r).length≤1000) (hn:(40:UInt8)∉a) (h:List PObj):wr L 172 [.str (a++40::r),.str [40]] h=some (.tuple [.str a,.str r,.bool true],h):=by
 have h1:wr L 179 [.str (a++40::r),.str [40]] []=some (.tuple [.str a,.str r,.bool true],[]):=by
  refine wz (hL 179 _ rfl) rfl ?_
  have:=Pv hL (a++40::r) []
  rw[Pr 40 a r hn] at this
  have hl:(a++40::r).length=a.length+(r.length+1):=by simp
  obtain⟨p,hp⟩:∃p,p=a.length+1:=⟨_,rfl⟩
  have hw:IntKind.i64.wrap ((a.length:Int)+1)=(p:Int):=by rw[xx]<;>omega
  have ht:(a++40::r).take a.length=a:=by simp
  have hd:(a++40::r).drop p=r:=by rw[hp,List.drop_append,ba (by omega)]; simp
  generalize a++40::r=s at *
  have q1:a.length≤s.length:=by omega
  have q2:p≤s.length:=by omega
  have q2i:(p:Int)≤s.length:=by omega
  simp[Hw,this,hw,q1,q2,q2i,ht,hd]
 refine wz (hL 172 _ rfl) rfl ?_
 generalize a++40::r=s at *
 simp[Hv,h1]
theorem c0P (r:Str) (hr:r.length≤1000) (h:List PObj):wr L 182 [.str r,.str [41]] h=some (.bool (Ay r),h):=by
 refine wz (hL 182 _ rfl) rfl ?_
 unfold Ay
 by_cases h0:r=[]
 ·subst h0
  simp[FQ]
 ·have hp:0<r.length:=bC.2 h0
  have p8:(1:Int)≤r.length:=by omega
  have hw:IntKind.i64.wrap ((r.length:Int) - 1)=((r.length - 1:Nat):Int):=by rw[xx]<;>omega
  have el:r.length - 1≤r.length:=by omega
  have gC:1≤r.length:=by omega
  by_cases hx:r.drop (r.length - 1)=[41]
  ·simp[FQ,p8,gC,hw,el,hx]
  ·simp[FQ,p8,gC,hw,el,hx]
theorem Pw (r:Str) (hr:r.length≤1000) (h:List PObj):wr L 173 [.str r,.str [41]] h=some (.tuple [.str (if Ay r then r.take (r.length - 1) else r),.bool (Ay r)],h):=by
 have h1:wr L 180 [.str r,.str [41]] []=some (.tuple [.str (if Ay r then r.take (r.length - 1) else r),.bool (Ay r)],[]):=by
  refine wz (hL 180 _ rfl) rfl ?_
  have jl:=c0P hL r hr []
  cases hc:Ay r with
  | false=>rw[hc] at jl; simp[Hx,jl]
  | true =>
    rw[hc] at jl
    obtain⟨b,rfl⟩:=Lg.1 hc
    obtain⟨q,hq⟩:∃q,q=(b++[41]).length - 1:=⟨_,rfl⟩
    have tD:(b++[41]).length=b.length+1:=by simp
    have hw:IntKind.i64.wrap (((b++[41]).length:Int) - 1)=(q:Int):=by rw[xx]<;>omega
    have el:q≤(b++[41]).length:=by omega
    rw[← hq]
    generalize b++[41]=r at *
    simp[Hx,jl,hw,el]
 refine wz (hL 173 _ rfl) rfl ?_
 simp[KJ,h1]
theorem HP (s:Str) (hs:s.length≤1000) (h:List PObj):∃o:Bool,wr L 174 [.str s] h=some (.tuple [.list o (if s.all yz then xM s else[]),.bool (s.all yz)],h):=by
 refine⟨false,?_⟩
 refine wz (hL 174 _ rfl) rfl ?_
 generalize hA:s.all yz=A
 simp[KK]
 refine AL s (λ_ b=>yz b) (λi (x:PV)=>[(3,.list true (xM (s.take i))),(4,x),(6,.int .i64 i)]) .dead ?_ ?_ ?_ (by simp[xM])
 ·intro i hi cJ x ih
  have hw:=wC i (by omega)
  have hb:=(Lh s[i]).1 cJ
  have sa:=Px s[i]
  have ih:=ih (.int .i64 i)
  have happ:xM (s.take (i+1))=xM (s.take i)++[.bool (s[i]==49)]:=by unfold xM; rw[zn hi,bk]; rfl
  rw[happ,sa] at ih
  have cI:(xM (s.take i)).length+1≤2147483648:=by simp[xM]; omega
  have gb:xq 1 (xM (s.take i))=true:=by cases s.take i<;>simp[xM]
  generalize xM (s.take i)=z at *
  rcases hb with hb|hb
  ·simp[hi,hb,hw,cI,gb]
   simpa[hb] using ih
  ·simp[hi,hb,hw,cI,gb]
   simpa[hb] using ih
 ·intro i hi cJ _ x
  have hb:=Lh s[i]
  rw[cJ] at hb
  simp only[ay,false_iff,not_or] at hb
  have b1:¬(s[i].toNat:Int)=48:=by omega
  have b2:¬(s[i].toNat:Int)=49:=by omega
  have cY:s.all yz=false:=K2 hi cJ
  rw[cY] at hA; subst hA
  simp[hi,b1,b2]
 ·intro cJ x
  have cY:s.all yz=true:=K1 cJ
  rw[cY] at hA; subst hA
  simp
theorem c4b (a b:List PV) (ha:a.length≤1000) (hb:b.length≤1000) (o1 o2:Bool) (h:List PObj):wr L 175 [.agg [.list o1 a,.list o2 b]] h=some (.int .i64 (if b.length=0 then 5 else if 64<a.length+b.length then 3 else 0),h):=by
 refine wz (hL 175 _ rfl) rfl ?_
 have hw:IntKind.i64.wrap ((a.length:Int)+(b.length:Int))=((a.length+b.length:Nat):Int):=by rw[xx]<;>omega
 by_cases h1:b.length=0
 ·have:b=[]:=bb.1 h1
  subst this
  simp[FN]
 ·have oX:¬b=[]:=λe=>h1 (by rw[e]; rfl)
  generalize hm:a.length+b.length=m at *
  by_cases h2:64<m
  ·have:(64:Int)<m:=by omega
   simp[FN,h1,oX,hw,h2,this]
  ·have:¬(64:Int)<m:=by omega
   simp[FN,h1,oX,hw,h2,this]
theorem c4c (s:Str) (h:List PObj):∃(o1 o2:Bool) (a b:List PV) (e:Int),wP a=true∧wP b=true∧(e=0↔A9 s=true)∧wr L 164 [.str s] h=some (.tuple [.agg [.list o1 a,.list o2 b],.int .i64 e],h):=by
 by_cases h0:66<s.length
 ·refine⟨false,false,[],[],3,rfl,rfl,?_,wz (hL 164 _ rfl) rfl ?_⟩
  ·unfold A9; simp; omega
  ·have:(66:Int)<s.length:=by omega
   simp[CE,this]
 have iq:¬(66:Int)<s.length:=by omega
 rcases c2z 40 s with hn|⟨a,r,rfl,hn⟩
 ·have gx:=d0p hL s (by omega) hn []
  have jl:=Pw hL [] (by simp) []
  obtain⟨o1,eb⟩:=HP hL s (by omega) []
  obtain⟨o2,ei⟩:=HP hL [] (by simp) []
  have dm:Ay []=false:=rfl
  rw[dm] at jl
  simp at jl
  refine⟨false,false,[],[],5,rfl,rfl,?_,wz (hL 164 _ rfl) rfl ?_⟩
  ·rw[Pu]
   constructor
   ·intro e; exact absurd e (by decide)
   ·rintro⟨a,b,e,_⟩; exact absurd (by rw[e]; simp) hn
  ·have f1:wP (if s.all yz then xM s else[])=true:=by split; exact FZ s; rfl
   generalize (if s.all yz then xM s else[])=za at *
   simp[xM] at ei
   simp[CE,iq,gx,jl,eb,ei,f1]
 ·have gx:=c6H hL a r (by omega) hn []
  have cI:(a++40::r).length=a.length+(r.length+1):=by simp
  have jl:=Pw hL r (by omega) []
  obtain⟨o1,eb⟩:=HP hL a (by omega) []
  have tD:(if Ay r then r.take (r.length - 1) else r).length≤r.length:=by split<;>simp<;>omega
  obtain⟨o2,ei⟩:=HP hL (if Ay r then r.take (r.length - 1) else r) (by omega) []
  obtain⟨B,hB⟩:∃B,B=(if Ay r then r.take (r.length - 1) else r):=⟨_,rfl⟩
  rw[← hB] at jl ei tD
  have fF:A9 (a++40::r)=true↔Ay r=true∧a.all yz=true∧B.all yz=true∧B≠[]∧a.length+B.length≤64:=by
   rw[Pu]
   constructor
   ·rintro⟨a',b',e,h1,h2,h3,h4⟩
    have je:(40:UInt8)∉a':=λhm=>by have:=aD.1 h1 _ hm; revert this; decide
    obtain⟨rfl,rfl⟩:=Pt hn je e
    have hc:Ay (b'++[41])=true:=Lg.2 ⟨b',rfl⟩
    have sb:B=b':=by rw[hB,ah hc]; simp
    rw[sb]
    exact⟨hc,h1,h2,h3,h4⟩
   ·rintro⟨hc,h1,h2,h3,h4⟩
    obtain⟨b,rfl⟩:=Lg.1 hc
    have sb:B=b:=by rw[hB,ah hc]; simp
    rw[sb] at h2 h3 h4
    exact⟨a,b,rfl,h1,h2,h3,h4⟩
  have la:(xM a).length=a.length:=HQ a
  have lb:(xM B).length=B.length:=HQ B
  have fa:=FZ a
  have fb:=FZ B
  have kY:=c4b hL (xM a) (xM B) (by omega) (by omega) false false []
  rw[la,lb] at kY
  have j4:(if B.length=0 then(5:Int) else if a.length+B.length>64 then 3 else 0)=0↔B≠[]∧a.length+B.length≤64:=by
   split
   ·rename_i h1; have:B=[]:=bb.1 h1
    simp[this]
   ·rename_i h1; have:B≠[]:=λe=>h1 (by rw[e]; rfl)
    split
    ·simp; intro _; omega
    ·simp[this]; omega
  simp only[gt_iff_lt] at j4
  generalize vm:(if B.length=0 then(5:Int) else if 64<a.length+B.length then 3 else 0)=ce at *
  generalize xM a=za at *
  generalize xM B=zb at *
  generalize hAl:a.all yz=qa at *
  generalize hBl:B.all yz=qb at *
  generalize a++40::r=s at *
  generalize Ay r=cl at *
  cases cl with
  | false =>
    refine⟨false,false,[],[],5,rfl,rfl,by rw[fF]; simp,wz (hL 164 _ rfl) rfl ?_⟩
    have f1:wP (if qa=true then za else[])=true:=by split; exact fa; rfl
    have f2:wP (if qb=true then zb else[])=true:=by split; exact fb; rfl
    generalize (if qa=true then za else[])=ya at *
    generalize (if qb=true then zb else[])=yb at *
    simp[CE,iq,gx,jl,eb,ei,f1,f2]
  | true =>
    cases qa with
    | false =>
      refine⟨false,false,[],[],5,rfl,rfl,by rw[fF]; simp,wz (hL 164 _ rfl) rfl ?_⟩
      have f2:wP (if qb=true then zb else[])=true:=by split; exact fb; rfl
      generalize (if qb=true then zb else[])=yb at *
      simp at eb
      simp[CE,iq,gx,jl,eb,ei,f2]
    | true =>
      cases qb with
      | false =>
        refine⟨false,false,[],[],5,rfl,rfl,by rw[fF]; simp,wz (hL 164 _ rfl) rfl ?_⟩
        simp at eb ei
        simp[CE,iq,gx,jl,eb,ei,fa]
      | true =>
        simp at eb ei
        by_cases hz:ce=0
        ·refine⟨false,false,za,zb,0,fa,fb,by rw[fF,← j4]; simp[hz],wz (hL 164 _ rfl) rfl ?_⟩
         subst hz
         simp[CE,iq,gx,jl,eb,ei,fa,fb,kY]
        ·refine⟨false,false,[],[],5,rfl,rfl,by rw[fF,← j4]; simp[hz],wz (hL 164 _ rfl) rfl ?_⟩
         simp[CE,iq,gx,jl,eb,ei,fa,fb,kY,hz]
end
def ED (t n:Int):Bool:=decide (t=1∧n=2∨3≤t∧1≤n∧n≤16)
def ofA (e:Expr):Bool:=
 let n:Int:=e.args.length
 if e.kind=1∨e.kind=2∨e.kind=11 then decide (n=0)
 else if e.kind=3 then decide (n=if e.op=1∨e.op=2 then 1 else 2)
 else if e.kind=4 then decide (n=3)
 else if e.kind=5∨e.kind=8 then decide (n=1)
 else if e.kind=6∨e.kind=7 then decide (n=2)
 else if e.kind=9 then decide (e.t≠2)&&ED e.t n
 else if e.kind=10 then decide (e.v≤n) else false
def ofT (e:Expr):Bool:=
 if e.kind=1 then decide (e.t=2∧-32768≤e.v∧e.v≤32767)||decide (e.t≠2)&&AM e.t e.v
 else if e.kind=8 then decide (e.t≠2)&&AM e.t e.v
 else if e.kind=9 then decide (e.v=0)
 else if e.kind=10 then decide (e.t=0∧(e.v=0∨e.v=1))
 else if 1≤e.kind∧e.kind≤11 then decide (e.t=0∧e.v=0) else false
theorem c2A (e:Expr):wO e=(ofA e&&ofT e&&xy e&&xC e):=by
 have key:(decide (1≤e.kind∧e.kind≤11)&&yN e&&xD e)=(ofA e&&ofT e):=by
  unfold yN xD ofA ofT ED AM
  rcases HS e.kind with hk|hk|hk|hk|hk|hk|hk|hk|hk|hk|hk|hk|hk
  ·have n1:¬e.kind=1:=by omega
   have n2:¬e.kind=2:=by omega
   have n3:¬e.kind=3:=by omega
   have n4:¬e.kind=4:=by omega
   have n5:¬e.kind=5:=by omega
   have n6:¬e.kind=6:=by omega
   have n7:¬e.kind=7:=by omega
   have n8:¬e.kind=8:=by omega
   have n9:¬e.kind=9:=by omega
   have n10:¬e.kind=10:=by omega
   have n11:¬e.kind=11:=by omega
   have:¬1≤e.kind:=by omega
   simp[n1,n2,n3,n4,n5,n6,n7,n8,n9,n10,n11,this]
  ·simp only[hk]
   rw[aF]
   simp
   intro _; split<;>omega
  ·simp only[hk]
   rw[aF]
   simp
   try omega
  ·simp only[hk]
   rw[aF]
   simp
   try omega
  ·simp only[hk]
   rw[aF]
   simp
   try omega
  ·simp only[hk]
   rw[aF]
   simp
   try omega
  ·simp only[hk]
   rw[aF]
   simp
   try omega
  ·simp only[hk]
   rw[aF]
   simp
   try omega
  ·simp only[hk]
   rw[aF]
   simp
   try omega
  ·simp only[hk]
   rw[aF]
   simp
   split<;>omega
  ·simp only[hk]
   rw[aF]
   simp
   try omega
  ·simp only[hk]
   rw[aF]
   simp
   try omega
  ·have n1:¬e.kind=1:=by omega
   have n2:¬e.kind=2:=by omega
   have n3:¬e.kind=3:=by omega
   have n4:¬e.kind=4:=by omega
   have n5:¬e.kind=5:=by omega
   have n6:¬e.kind=6:=by omega
   have n7:¬e.kind=7:=by omega
   have n8:¬e.kind=8:=by omega
   have n9:¬e.kind=9:=by omega
   have n10:¬e.kind=10:=by omega
   have n11:¬e.kind=11:=by omega
   have:¬e.kind≤11:=by omega
   simp[n1,n2,n3,n4,n5,n6,n7,n8,n9,n10,n11,this]
 unfold wO
 rw[key]
section
variable {L:Nat→Option PFunc} (hL:∀k f,LS k=some f→L k=some f)
include hL
theorem BS (t v:Int) (h:List PObj):wr L 169 [.int .i64 t,.int .i64 v] h=some (.bool (AM t v),h):=by
 refine wz (hL 169 _ rfl) rfl ?_
 by_cases h1:t=1
 ·subst h1
  by_cases h2:v=0
  ·simp[Ew,AM,h2]
  ·by_cases h3:v=1<;>simp[Ew,AM,h2,h3]
 ·by_cases h2:3≤t
  ·by_cases h3:0≤v<;>by_cases h4:v<16<;>simp[Ew,AM,h1,h2,h3,h4]
  ·simp[Ew,AM,h1,h2]
theorem BT (o:Int) (h:List PObj):wr L 170 [.int .i64 o] h=some (.int .i64 (if o=1∨o=2 then 1 else 2),h):=by
 refine wz (hL 170 _ rfl) rfl ?_
 by_cases h1:o=1
 ·simp[Hu,h1]
 ·by_cases h2:o=2<;>simp[Hu,h1,h2]
theorem BU (t n:Int) (h:List PObj):wr L 171 [.int .i64 t,.int .i64 n] h=some (.bool (ED t n),h):=by
 refine wz (hL 171 _ rfl) rfl ?_
 by_cases h1:t=1
 ·subst h1
  by_cases h2:n=2<;>simp[FM,ED,h2]
 ·by_cases h2:3≤t
  ·by_cases h3:1≤n<;>by_cases h4:n≤16<;>simp[FM,ED,h1,h2,h3,h4]
  ·simp[FM,ED,h1,h2]
def xW (e:Expr):PV := .agg [.bool (ofA e),.bool (decide (e.kind=3)),.bool (ofT e),.bool (xr e.kind),.bool (decide (e.kind=11))]
theorem c6I (e:Expr) (hk:e.kind=1) (h:List PObj):wr L 163 [wy e] h=some (xW e,h):=by
 refine wz (hL 163 _ rfl) rfl ?_
 have cK:=BT hL e.op []
 have db:=BS hL e.t e.v []
 have ff:=BU hL e.t e.args.length []
 obtain⟨n,hn⟩:∃n:Int,n=e.args.length:=⟨_,rfl⟩
 have kf:=kfs hk
 by_cases t0:e.t=0
 ·have t2:¬e.t=2:=by omega
  by_cases v0:e.v=0
  ·simp[zl,xW,ofA,ofT,xr,cK,db,ff,wM,wD,kf,tf t0,tf t2,tf v0]
  ·simp[zl,xW,ofA,ofT,xr,cK,db,ff,wM,wD,kf,tf t0,tf t2,tf v0]
 ·skip
  by_cases t2:e.t=2
  ·by_cases a1 : -32768≤e.v<;>by_cases a2:e.v≤32767<;>simp[zl,xW,ofA,ofT,xr,cK,db,ff,wM,wD,kf,tf t0,tf t2,tf a1,tf a2]
  ·simp[zl,xW,ofA,ofT,xr,cK,db,ff,wM,wD,kf,tf t0,tf t2]
theorem c6J (e:Expr) (hk:e.kind=2) (h:List PObj):wr L 163 [wy e] h=some (xW e,h):=by
 refine wz (hL 163 _ rfl) rfl ?_
 have cK:=BT hL e.op []
 have db:=BS hL e.t e.v []
 have ff:=BU hL e.t e.args.length []
 obtain⟨n,hn⟩:∃n:Int,n=e.args.length:=⟨_,rfl⟩
 have kf:=kfs hk
 by_cases t0:e.t=0<;>by_cases v0:e.v=0<;>simp[zl,xW,ofA,ofT,xr,cK,db,ff,wM,wD,kf,tf t0,tf v0]
theorem c6K (e:Expr) (hk:e.kind=3) (h:List PObj):wr L 163 [wy e] h=some (xW e,h):=by
 refine wz (hL 163 _ rfl) rfl ?_
 have cK:=BT hL e.op []
 have db:=BS hL e.t e.v []
 have ff:=BU hL e.t e.args.length []
 obtain⟨n,hn⟩:∃n:Int,n=e.args.length:=⟨_,rfl⟩
 have kf:=kfs hk
 by_cases t0:e.t=0<;>by_cases v0:e.v=0<;>simp[zl,xW,ofA,ofT,xr,cK,db,ff,wM,wD,kf,tf t0,tf v0]
theorem c6L (e:Expr) (hk:e.kind=4) (h:List PObj):wr L 163 [wy e] h=some (xW e,h):=by
 refine wz (hL 163 _ rfl) rfl ?_
 have cK:=BT hL e.op []
 have db:=BS hL e.t e.v []
 have ff:=BU hL e.t e.args.length []
 obtain⟨n,hn⟩:∃n:Int,n=e.args.length:=⟨_,rfl⟩
 have kf:=kfs hk
 by_cases t0:e.t=0<;>by_cases v0:e.v=0<;>simp[zl,xW,ofA,ofT,xr,cK,db,ff,wM,wD,kf,tf t0,tf v0]
theorem c6M (e:Expr) (hk:e.kind=5) (h:List PObj):wr L 163 [wy e] h=some (xW e,h):=by
 refine wz (hL 163 _ rfl) rfl ?_
 have cK:=BT hL e.op []
 have db:=BS hL e.t e.v []
 have ff:=BU hL e.t e.args.length []
 obtain⟨n,hn⟩:∃n:Int,n=e.args.length:=⟨_,rfl⟩
 have kf:=kfs hk
 by_cases t0:e.t=0<;>by_cases v0:e.v=0<;>simp[zl,xW,ofA,ofT,xr,cK,db,ff,wM,wD,kf,tf t0,tf v0]
theorem c6N (e:Expr) (hk:e.kind=6) (h:List PObj):wr L 163 [wy e] h=some (xW e,h):=by
 refine wz (hL 163 _ rfl) rfl ?_
 have cK:=BT hL e.op []
 have db:=BS hL e.t e.v []
 have ff:=BU hL e.t e.args.length []
 obtain⟨n,hn⟩:∃n:Int,n=e.args.length:=⟨_,rfl⟩
 have kf:=kfs hk
 by_cases t0:e.t=0<;>by_cases v0:e.v=0<;>simp[zl,xW,ofA,ofT,xr,cK,db,ff,wM,wD,kf,tf t0,tf v0]
theorem c6O (e:Expr) (hk:e.kind=7) (h:List PObj):wr L 163 [wy e] h=some (xW e,h):=by
 refine wz (hL 163 _ rfl) rfl ?_
 have cK:=BT hL e.op []
 have db:=BS hL e.t e.v []
 have ff:=BU hL e.t e.args.length []
 obtain⟨n,hn⟩:∃n:Int,n=e.args.length:=⟨_,rfl⟩
 have kf:=kfs hk
 by_cases t0:e.t=0<;>by_cases v0:e.v=0<;>simp[zl,xW,ofA,ofT,xr,cK,db,ff,wM,wD,kf,tf t0,tf v0]
theorem c6P (e:Expr) (hk:e.kind=8) (h:List PObj):wr L 163 [wy e] h=some (xW e,h):=by
 refine wz (hL 163 _ rfl) rfl ?_
 have cK:=BT hL e.op []
 have db:=BS hL e.t e.v []
 have ff:=BU hL e.t e.args.length []
 obtain⟨n,hn⟩:∃n:Int,n=e.args.length:=⟨_,rfl⟩
 have kf:=kfs hk
 by_cases t0:e.t=0
 ·have t2:¬e.t=2:=by omega
  by_cases v0:e.v=0
  ·simp[zl,xW,ofA,ofT,xr,cK,db,ff,wM,wD,kf,tf t0,tf t2,tf v0]
  ·simp[zl,xW,ofA,ofT,xr,cK,db,ff,wM,wD,kf,tf t0,tf t2,tf v0]
 ·skip
  by_cases t2:e.t=2<;>simp[zl,xW,ofA,ofT,xr,cK,db,ff,wM,wD,kf,tf t0,tf t2]
theorem c6Q (e:Expr) (hk:e.kind=9) (h:List PObj):wr L 163 [wy e] h=some (xW e,h):=by
 refine wz (hL 163 _ rfl) rfl ?_
 have cK:=BT hL e.op []
 have db:=BS hL e.t e.v []
 have ff:=BU hL e.t e.args.length []
 obtain⟨n,hn⟩:∃n:Int,n=e.args.length:=⟨_,rfl⟩
 have kf:=kfs hk
 by_cases t0:e.t=0
 ·have t2:¬e.t=2:=by omega
  by_cases v0:e.v=0
  ·simp[zl,xW,ofA,ofT,xr,cK,db,ff,wM,wD,kf,tf t0,tf t2,tf v0]
  ·simp[zl,xW,ofA,ofT,xr,cK,db,ff,wM,wD,kf,tf t0,tf t2,tf v0]
 ·skip
  by_cases t2:e.t=2<;>simp[zl,xW,ofA,ofT,xr,cK,db,ff,wM,wD,kf,tf t0,tf t2]
theorem c4d (e:Expr) (hk:e.kind=10) (h:List PObj):wr L 163 [wy e] h=some (xW e,h):=by
 refine wz (hL 163 _ rfl) rfl ?_
 have cK:=BT hL e.op []
 have db:=BS hL e.t e.v []
 have ff:=BU hL e.t e.args.length []
 obtain⟨n,hn⟩:∃n:Int,n=e.args.length:=⟨_,rfl⟩
 have kf:=kfs hk
 by_cases t0:e.t=0
 ·have t2:¬e.t=2:=by omega
  by_cases v0:e.v=0
  ·simp[zl,xW,ofA,ofT,xr,cK,db,ff,wM,wD,kf,tf t0,tf t2,tf v0]
  ·by_cases v1:e.v=1<;>simp[zl,xW,ofA,ofT,xr,cK,db,ff,wM,wD,kf,tf t0,tf t2,tf v0,tf v1]
 ·skip
  by_cases v1:e.v=1<;>simp[zl,xW,ofA,ofT,xr,cK,db,ff,wM,wD,kf,tf t0,tf v1]
theorem c4e (e:Expr) (hk:e.kind=11) (h:List PObj):wr L 163 [wy e] h=some (xW e,h):=by
 refine wz (hL 163 _ rfl) rfl ?_
 have cK:=BT hL e.op []
 have db:=BS hL e.t e.v []
 have ff:=BU hL e.t e.args.length []
 obtain⟨n,hn⟩:∃n:Int,n=e.args.length:=⟨_,rfl⟩
 have kf:=kfs hk
 by_cases t0:e.t=0<;>by_cases v0:e.v=0<;>simp[zl,xW,ofA,ofT,xr,cK,db,ff,wM,wD,kf,tf t0,tf v0]
theorem d3D (e:Expr) (h:List PObj):wr L 163 [wy e] h=some (xW e,h):=by
 rcases HS e.kind with hk|hk|hk|hk|hk|hk|hk|hk|hk|hk|hk|hk|hk
 ·refine wz (hL 163 _ rfl) rfl ?_
  have k1:¬e.kind=1:=by omega
  have k2:¬e.kind=2:=by omega
  have k3:¬e.kind=3:=by omega
  have k4:¬e.kind=4:=by omega
  have k5:¬e.kind=5:=by omega
  have k6:¬e.kind=6:=by omega
  have k7:¬e.kind=7:=by omega
  have k8:¬e.kind=8:=by omega
  have k9:¬e.kind=9:=by omega
  have k10:¬e.kind=10:=by omega
  have k11:¬e.kind=11:=by omega
  have kr:¬(1≤e.kind∧e.kind≤11):=by omega
  have ht:ofT e=false:=by unfold ofT; simp only[k1,k8,k9,k10,kr,if_false]
  have ha:ofA e=false:=by unfold ofA; simp only[k1,k2,k3,k4,k5,k6,k7,k8,k9,k10,k11,or_self,if_false]
  by_cases t0:e.t=0<;>by_cases v0:e.v=0<;>simp[zl,xW,ha,ht,xr,wM,wD,k1,k2,k3,k4,k5,k6,k7,k8,k9,k10,k11,tf t0,tf v0]
 ·exact c6I hL e hk h
 ·exact c6J hL e hk h
 ·exact c6K hL e hk h
 ·exact c6L hL e hk h
 ·exact c6M hL e hk h
 ·exact c6N hL e hk h
 ·exact c6O hL e hk h
 ·exact c6P hL e hk h
 ·exact c6Q hL e hk h
 ·exact c4d hL e hk h
 ·exact c4e hL e hk h
 ·refine wz (hL 163 _ rfl) rfl ?_
  have k1:¬e.kind=1:=by omega
  have k2:¬e.kind=2:=by omega
  have k3:¬e.kind=3:=by omega
  have k4:¬e.kind=4:=by omega
  have k5:¬e.kind=5:=by omega
  have k6:¬e.kind=6:=by omega
  have k7:¬e.kind=7:=by omega
  have k8:¬e.kind=8:=by omega
  have k9:¬e.kind=9:=by omega
  have k10:¬e.kind=10:=by omega
  have k11:¬e.kind=11:=by omega
  have kr:¬(1≤e.kind∧e.kind≤11):=by omega
  have ht:ofT e=false:=by unfold ofT; simp only[k1,k8,k9,k10,kr,if_false]
  have ha:ofA e=false:=by unfold ofA; simp only[k1,k2,k3,k4,k5,k6,k7,k8,k9,k10,k11,or_self,if_false]
  by_cases t0:e.t=0<;>by_cases v0:e.v=0<;>simp[zl,xW,ha,ht,xr,wM,wD,k1,k2,k3,k4,k5,k6,k7,k8,k9,k10,k11,tf t0,tf v0]
theorem d0q (e:Expr) (h:List PObj):wr L 150 [wy e] h=some (.int .i64 (Az e),h):=by
 refine wz (hL 150 _ rfl) rfl ?_
 have iU:=d3D hL e []
 have dr:=Pa hL e.name []
 obtain⟨b1,b2,wa,wb,er,f1,f2,jk,mZ⟩:=c4c hL e.name []
 have dg:=c2A e
 unfold Az
 by_cases cI:64<e.args.length
 ·have eb:(64:Int)<e.args.length:=by omega
  have ei:¬e.args.length≤64:=by omega
  simp[Al,cI,eb,ei,need,ww]
 have eb:¬(64:Int)<e.args.length:=by omega
 have ei:e.args.length≤64:=by omega
 unfold xW at iU
 generalize ofA e=A at *
 generalize ofT e=T at *
 cases A with
 | false=>simp[Al,cI,eb,ei,iU,wM,dg,need,ww]
 | true=>
 cases T with
 | false=>simp[Al,cI,eb,ei,iU,wM,dg,need,ww]
 | true=>
 simp only[ck] at dg
 have sc:(xy e=true∧(e.kind=3→e.op≠0∧1≤e.op∧e.op≤16)∧(e.kind≠3→e.op=0))∨(xy e=false∧(e.kind=3→e.op<1∨16<e.op)∧(e.kind≠3→e.op≠0)):=by
  unfold xy
  by_cases hk:e.kind=3
  ·by_cases ho:1≤e.op∧e.op≤16
   ·left; simp[hk,ho]; omega
   ·right; simp[hk]; omega
  ·by_cases ho:e.op=0
   ·left; simp[hk,ho]
   ·right; simp[hk,ho]
 rcases sc with⟨q1,q2,q3⟩|⟨q1,q2,q3⟩
 ·rw[q1,ck] at dg
  have f0:∀(O:Bool),(decide (e.kind=3))=O→wpL L Al.code ⟨[wy e,.dead,.dead,.dead,.dead,.dead],[],0,h⟩ (Bs [.var 2] (.int .i64 (ww (need (decide (e.args.length≤64)) 3) (ww (need (wO e) 5) (need (!xr e.kind||yo e.name) 6))),h)):=by
   intro O hO
   have oY:(O=true→¬e.op=0∧¬e.op<1∧¬16<e.op)∧(O=false→e.op=0):=by
    constructor
    ·intro ho; rw[ho,ak] at hO; have:=q2 hO; omega
    ·intro ho; rw[ho,aT] at hO; exact q3 hO
   rw[hO] at iU
   unfold xC at dg
   generalize xr e.kind=N at *
   cases O with
   | true =>
     have hk:e.kind=3:=by simpa using hO
     have gQ:¬e.kind=11:=by omega
     obtain⟨o1,o2,o3⟩:=oY.1 rfl
     cases N with
     | true =>
       cases hi:yo e.name<;>rw[hi] at dr<;>simp[Al,cI,eb,ei,iU,wM,dg,dr,o1,o2,o3,need,ww]
     | false =>
       by_cases dq:e.name=[]
       ·simp[Al,cI,eb,ei,iU,wM,dg,tf dq,o1,o2,o3,tf gQ,need,ww]
       ·simp[Al,cI,eb,ei,iU,wM,dg,tf dq,o1,o2,o3,tf gQ,need,ww]
   | false =>
     have o1:=oY.2 rfl
     cases N with
     | true =>
       cases hi:yo e.name<;>rw[hi] at dr<;>simp[Al,cI,eb,ei,iU,wM,dg,dr,tf o1,need,ww]
     | false =>
       by_cases gQ:e.kind=11
       ·by_cases he:er=0
        ·have hw:=jk.1 he
         simp[Al,cI,eb,ei,iU,wM,dg,mZ,f1,f2,tf gQ,he,hw,tf o1,need,ww]
        ·have hw:A9 e.name=false:=by
          rw[← cn]; exact λhh=>he (jk.2 hh)
         by_cases dq:e.name=[]<;>simp[Al,cI,eb,ei,iU,wM,dg,mZ,f1,f2,tf gQ,he,hw,tf o1,tf dq,need,ww]
       ·by_cases dq:e.name=[]
        ·simp[Al,cI,eb,ei,iU,wM,dg,tf dq,tf o1,tf gQ,need,ww]
        ·simp[Al,cI,eb,ei,iU,wM,dg,tf dq,tf o1,tf gQ,need,ww]
  have hq:=f0 _ rfl
  rw[← c2k e] at hq
  exact hq
 ·rw[q1,bK] at dg
  by_cases hk:e.kind=3
  ·by_cases o0:e.op=0
   ·simp[Al,cI,eb,ei,iU,wM,dg,tf hk,tf o0,need,ww]
   ·rcases q2 hk with o1|o1
    ·simp[Al,cI,eb,ei,iU,wM,dg,tf hk,tf o0,o1,need,ww]
    ·have o2:¬e.op<1:=by omega
     simp[Al,cI,eb,ei,iU,wM,dg,tf hk,tf o0,o1,o2,need,ww]
  ·have o0:=q3 hk
   simp[Al,cI,eb,ei,iU,wM,dg,tf hk,tf o0,need,ww]
theorem c2B (e:Expr):e.parts≤1500→∀h,wr L 149 [wy e] h=some (.int .i64 e.depth,h):=by
 induction e using Expr.ind with
 | h e ih=>
 intro hp h
 have dt:=HT e
 refine wz (hL 149 _ rfl) rfl ?_
 simp[Kz]
 refine c39 e.args.length (λi (x:PV×Nat)=>[(3,.int .i64 ((e.args.take i).foldl (λm x=>if x.depth>m then x.depth else m) 0)),(4,x.1),(7,.int .i64 i)]) (λ_ x=>x.2) (λ_ _=>h) (.dead,1) ?_ ?_ (by simp) rfl rfl
 ·intro i hi x ih2
  have hw:=wC i (by omega)
  have nC:=Li (ae hi)
  have hc:=ih e.args[i] (ae hi) (by omega) []
  have ih2:=λy=>ih2 y
  rw[zn hi,List.foldl_append] at ih2
  generalize (e.args.take i).foldl (λm x=>if x.depth>m then x.depth else m) 0=a at *
  simp[hi,hw,hc,BC]
  simpa using ih2 (_,_)
 ·intro _
  have:=Expr.depth_eq e
  unfold wrap at this
  simp[this]
end
end PI.Sc
