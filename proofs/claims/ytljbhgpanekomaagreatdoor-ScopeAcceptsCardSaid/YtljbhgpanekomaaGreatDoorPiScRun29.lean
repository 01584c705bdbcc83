import Derived.Test.YtljbhgpanekomaaGreatDoorPiScRun18
set_option maxRecDepth 100000
set_option linter.unusedSimpArgs false
set_option linter.unusedVariables false
set_option linter.unusedSectionVars false
namespace PI.Sc
open Go (IntKind BinOp UnOp)
open Short
theorem c0p (tags:List Str) (d:Decl) (l:List Decl) (v:List Str):xq tags (d::l) v=xY (xq tags [d] v) (xq tags l):=by
 simp only[xq]
 split
 ·rw[zF (by decide)]
 ·rfl
theorem c0q (s:Place) {l:List Eqn} {d r:List Str} (h:yy s l d=(0,r)):r.length=d.length+(xe l).length:=by
 rw[((A7 s l d r).1 h).1,ax]
section
variable {L:Nat→Option PFunc} (hL:∀k f,LS k=some f→L k=some f) (en:List Enum) (ns:List Node) (a b:Int) (ents:xu)
include hL
theorem b61 (tags:List Str) (dR:A6 ents tags) (l:List Decl) (hl:l.length≤1500) (h:List PObj) (h2:h[2]? = some (wl ents)) (h3:h[3]? = some (wi en ns a b)) (q' n o d:Nat) (i dv up:PV) (f:Fr) (fs:List Fr) (t:TopAt h h.length q' n o d i dv up f fs) (vis:List Str) (di:∀x,wZ (f::fs) x=true↔x∈vis)
  (V0 V1 V2 V3 V4 V5 V7 V8 V9 V10 V14 V15 V16 V17 V18 V19 V20 V21 V22:PV) (gi g:Nat) {Q:PExit→St→Prop} (jy:V0 = .ptr 3 0)
  (ok:(xq tags l vis).1=0→∀h' O y7 g',Kp q' h h'→h'.length=h.length→TopAt h' h'.length q' n o d i dv up { f with O:=O } fs→(∀x,wZ ({ f with O:=O }::fs) x=true↔x∈(xq tags l vis).2)→(∀x,x∈O↔x∈f.O∨x∈vV l)→Q (.exit 0) ⟨[V0,V1,V2,V3,V4,V5,.loc gi [.ptr n 0],y7,V8,V9,V10,.list false (l.map wc),.int .i64 l.length,.int .i64 l.length,V14,V15,V16,V17,V18,V19,V20,V21,V22],[],g',h'⟩)
  (no:(xq tags l vis).1≠0→∀h' y7 y13 g',Kp q' h h'→Q (.boom (xk 1 a b (xq tags l vis).1)) ⟨[V0,V1,V2,V3,V4,V5,.loc gi [.ptr n 0],y7,V8,V9,V10,.list false (l.map wc),.int .i64 l.length,y13,V14,V15,V16,V17,V18,V19,V20,V21,V22],[],g',h'⟩):
  wpL L Jd ⟨[V0,V1,V2,V3,V4,V5,.loc gi [.ptr n 0],V7,V8,V9,V10,.list false (l.map wc),.int .i64 l.length,.int .i64 0,V14,V15,V16,V17,V18,V19,V20,V21,V22],[],g,h⟩ Q:=by
 subst jy
 rw[Jd]
 refine wS l.length (λj st=>∃y7 g' h' O vis',st=⟨[.ptr 3 0,V1,V2,V3,V4,V5,.loc gi [.ptr n 0],y7,V8,V9,V10,.list false (l.map wc),.int .i64 l.length,.int .i64 j,V14,V15,V16,V17,V18,V19,V20,V21,V22],[],g',h'⟩∧Kp q' h h'∧h'.length=h.length∧TopAt h' h'.length q' n o d i dv up { f with O:=O } fs∧xq tags l vis=xq tags (l.drop j) vis'∧(∀x,wZ ({ f with O:=O }::fs) x=true↔x∈vis')∧∀x,x∈O↔x∈f.O∨x∈vV (l.take j)) ?_ ?_ ⟨_,_,h,f.O,vis,rfl,Kp.refl _ _,rfl,t,rfl,di,λx=>by simp[vV]⟩
 ·rintro j hj st ⟨y7,g',h',O,vis',rfl,cY,cK,ht,da,hv,hO⟩ ih
  have hw:=wk j (by omega)
  have fR:h'[2]? = some (wl ents):=(cY.2 2 (by have:=ht.four; omega)).trans h2
  have eG:h'[3]? = some (wi en ns a b):=(cY.2 3 (by have:=ht.four; omega)).trans h3
  obtain⟨h'',O'',hx,eZ,rC,f0,kC⟩:=LZ hL en ns a b ents tags dR [l[j]] (by simp) false h' fR eG _ q' n o d i dv up _ fs ht vis' hv
  simp only[aF,bA] at hx
  have rN:TopAt h'' h''.length q' n o d i dv up { f with O:=O'' } fs:=by rw[rC]; exact f0
  rw[aQ hj,c0p] at da
  have fX:vV (l.take (j+1))=vV (l.take j)++[l[j].name]:=by simp only[vV,bR,aq hj,Option.toList,bj,aF,bA]
  by_cases hz:(xq tags [l[j]] vis').1=0
  ·obtain⟨eo,gq⟩:=kC hz
   have gT:xq tags l vis=xq tags (l.drop (j+1)) (xq tags [l[j]] vis').2:=by rw[da]; exact ah hz
   rw[hz] at hx
   simp[we] at hx
   simp[hj,hx,hw]
   refine ih _ ⟨_,_,h'',O'',_,rfl,cY.trans eZ,by rw[rC,cK],rN,gT,eo,λx =>?_⟩
   rw[gq,hO,fX]
   simp[vV,or_assoc]
  ·rw[zF hz] at da
   simp[we,hz] at hx
   simp[hj,hx]
   have:=no (by rw[da]; exact hz) h'' (.loc g' (wc l[j]).cells) (.int .i64 j) (g'+1) (cY.trans eZ)
   rw[da] at this
   simpa using this
 ·rintro st ⟨y7,g',h',O,vis',rfl,cY,cK,ht,da,hv,hO⟩
  rw[aU (ao _)] at da
  rw[aB] at hO
  simp
  exact ok (by rw[da]; rfl) h' O y7 g' cY cK ht (by rw[da]; exact hv) hO
theorem b62 (k:Nat) (dj:NodesIn ents ns k) (s:Place) (eN:s.before=ns.take k) (l:List Eqn) (hl:l.length≤1500) (hq:∀x∈l,QW x) (h:List PObj) (h2:h[2]? = some (wl ents)) (h3:h[3]? = some (wi en ns a b)) (q' n o d:Nat) (i dv up:PV) (f:Fr) (fs:List Fr) (t:TopAt h h.length q' n o d i dv up f fs) (di:∀x,wZ (f::fs) x=true↔x∈s.vis)
  (d0:List Str) (hD:f.D=f.df) (dn:∀x,(x∈f.I∨yu fs x=true)↔(x∈s.inputs∨x∈d0)) (iI:f.df.length+(xe l).length≤1000000)
  (V0 V1 V2 V3 V4 V5 V7 V8 V9 V10 V11 V12 V13 V17 V18 V19 V20 V21 V22:PV) (gi g:Nat) {Q:PExit→St→Prop} (jy:V0 = .ptr 3 0) (mG:V1 = .int .i64 k)
  (ok:(yy s l (d0++f.df)).1=0→∀h' dv' df' y8 g',Kp q' h h'→(yy s l (d0++f.df)).2=d0++df'→TopAt h' h'.length q' n o d i dv' up { f with D:=df',df:=df' } fs→Q (.exit 2) ⟨[V0,V1,V2,V3,V4,V5,.loc gi [.ptr n 0],V7,y8,V9,V10,V11,V12,V13,.list false (l.map ww),.int .i64 l.length,.int .i64 l.length,V17,V18,V19,V20,V21,V22],[],g',h'⟩)
  (no:(yy s l (d0++f.df)).1≠0→∀h' y8 y16 g',Kp q' h h'→Q (.boom (xk 1 a b (yy s l (d0++f.df)).1)) ⟨[V0,V1,V2,V3,V4,V5,.loc gi [.ptr n 0],V7,y8,V9,V10,V11,V12,V13,.list false (l.map ww),.int .i64 l.length,y16,V17,V18,V19,V20,V21,V22],[],g',h'⟩):
  wpL L Je ⟨[V0,V1,V2,V3,V4,V5,.loc gi [.ptr n 0],V7,V8,V9,V10,V11,V12,V13,.list false (l.map ww),.int .i64 l.length,.int .i64 0,V17,V18,V19,V20,V21,V22],[],g,h⟩ Q:=by
 subst jy
 subst mG
 rw[Je]
 refine wS l.length (λj st=>∃y8 g' h' dv' df',st=⟨[.ptr 3 0,.int .i64 k,V2,V3,V4,V5,.loc gi [.ptr n 0],V7,y8,V9,V10,V11,V12,V13,.list false (l.map ww),.int .i64 l.length,.int .i64 j,V17,V18,V19,V20,V21,V22],[],g',h'⟩∧Kp q' h h'∧TopAt h' h'.length q' n o d i dv' up { f with D:=df',df:=df' } fs∧yy s l (d0++f.df)=yy s (l.drop j) (d0++df')∧df'.length+(xe (l.drop j)).length=f.df.length+(xe l).length) ?_ ?_ ⟨_,_,h,dv,f.df,rfl,Kp.refl _ _,by rw[Fr.same hD]; exact t,rfl,rfl⟩
 ·rintro j hj st ⟨y8,g',h',dv',df',rfl,cY,ht,da,cK⟩ ih
  have hw:=wk j (by omega)
  have fR:h'[2]? = some (wl ents):=(cY.2 2 (by have:=ht.four; omega)).trans h2
  have eG:h'[3]? = some (wi en ns a b):=(cY.2 3 (by have:=ht.four; omega)).trans h3
  have q9:(xe (l.drop j)).length=l[j].left.length+(xe (l.drop (j+1))).length:=by
   rw[aQ hj]; simp only[xe,bl,ax]
  obtain⟨h'',hx,eZ,kC⟩:=LX hL en ns a b ents k dj s eN l[j] (hq _ (ai hj)) h' fR eG q' n o d i dv' up _ fs ht (by intro x; exact di x) d0 rfl dn (by simp only; omega)
  simp only at hx kC
  rw[aQ hj] at da
  simp only[yy] at da
  by_cases hz:(ym s l[j] (d0++df')).1=0
  ·obtain⟨dv'',df'',eo,gq⟩:=kC hz
   have gT:yy s l (d0++f.df)=yy s (l.drop (j+1)) (d0++df''):=by
    rw[da]
    unfold xY
    rw[ah hz,eo]
   have dN:df''.length=df'.length+l[j].left.length:=by
    have h5:=(FY.1 (zW hz)).1
    rw[eo] at h5
    have:=aD List.length h5
    simp at this
    omega
   rw[hz] at hx
   simp[we] at hx
   simp[hj,hx,hw]
   exact ih _ ⟨_,_,h'',dv'',df'',rfl,cY.trans eZ,gq,gT,by omega⟩
  ·rw[zF hz] at da
   simp[we,hz] at hx
   simp[hj,hx]
   have:=no (by rw[da]; exact hz) h'' (.loc g' (ww l[j]).cells) (.int .i64 j) (g'+1) (cY.trans eZ)
   rw[da] at this
   simpa using this
 ·rintro st ⟨y8,g',h',dv',df',rfl,cY,ht,da,cK⟩
  rw[aU (ao _)] at da
  simp
  exact ok (by rw[da]; rfl) h' dv' df' y8 g' cY (by rw[da]; rfl) ht
end
def Ev (L:Nat→Option PFunc) (en:List Enum) (ns:List Node) (a b:Int) (ents:xu) (x:List State):Prop:=
 ∀ (k : Nat), NodesIn ents ns k → ∀ (s : Place), s.before = ns.take k → A6 ents s.tags → ∀ (h : List PObj), h[2]? = some (wl ents) → h[3]? = some (wi en ns a b) → ∀ (q' n o d : Nat) (i dv up : PV) (f : Fr) (fs : List Fr), TopAt h h.length q' n o d i dv up f fs → (∀ x, wZ (f :: fs) x = true ↔ x ∈ s.vis) →
   ∀(d0:List Str),f.D=f.df→(∀x,(x∈f.I∨yu fs x=true)↔(x∈s.inputs∨x∈d0))→f.df.length+(wX [x]).length≤1000000 →
   ∃h',wm L 62 [.ptr 3 0,.int .i64 k,.ptr n 0,wq x] h=some (we 1 a b (yn s (d0++f.df) x).1,h')∧Kp q' h h'∧((yn s (d0++f.df) x).1=0→∃dv' df',(d0++f.df)++(yn s (d0++f.df) x).2=d0++df'∧TopAt h' h'.length q' n o d i dv' up { f with D:=df',df:=df' } fs)
theorem LY {s:Place} {d:List Str} {x:List State} (h:(yn s d x).1=0):(yn s d x).2=wX [x]:=by
 have h1:wV s d [x]=(0,d++(yn s d x).2):=by
  rw[Ir,zV]
  exact⟨h,by simp[wV]⟩
 have h2:=(CV [x] s d _ h1).1
 exact List.append_cancel_left h2
section
variable {L:Nat→Option PFunc} (hL:∀k f,LS k=some f→L k=some f) (en:List Enum) (ns:List Node) (a b:Int) (ents:xu)
include hL
theorem b63 (k:Nat) (dj:NodesIn ents ns k) (s:Place) (eN:s.before=ns.take k) (dR:A6 ents s.tags) (l:List (List State)) (hl:l.length≤1500) (hq:∀x∈l,Ev L en ns a b ents x) (h:List PObj) (h2:h[2]? = some (wl ents)) (h3:h[3]? = some (wi en ns a b)) (q' n o d:Nat) (i dv up:PV) (f:Fr) (fs:List Fr) (t:TopAt h h.length q' n o d i dv up f fs) (di:∀x,wZ (f::fs) x=true↔x∈s.vis)
  (d0:List Str) (hD:f.D=f.df) (dn:∀x,(x∈f.I∨yu fs x=true)↔(x∈s.inputs∨x∈d0)) (iI:f.df.length+(wX l).length≤1000000)
  (V0 V1 V2 V3 V4 V5 V7 V8 V9 V10 V11 V12 V13 V14 V15 V16 V20 V21 V22:PV) (gi g:Nat) {Q:PExit→St→Prop} (jy:V0 = .ptr 3 0) (mG:V1 = .int .i64 k)
  (ok:(wV s (d0++f.df) l).1=0→∀h' dv' df' y9 g',Kp q' h h'→(wV s (d0++f.df) l).2=d0++df'→TopAt h' h'.length q' n o d i dv' up { f with D:=df',df:=df' } fs→Q (.exit 4) ⟨[V0,V1,V2,V3,V4,V5,.loc gi [.ptr n 0],V7,V8,y9,V10,V11,V12,V13,V14,V15,V16,.list false (l.map wq),.int .i64 l.length,.int .i64 l.length,V20,V21,V22],[],g',h'⟩)
  (no:(wV s (d0++f.df) l).1≠0→∀h' y9 y19 g',Kp q' h h'→Q (.boom (xk 1 a b (wV s (d0++f.df) l).1)) ⟨[V0,V1,V2,V3,V4,V5,.loc gi [.ptr n 0],V7,V8,y9,V10,V11,V12,V13,V14,V15,V16,.list false (l.map wq),.int .i64 l.length,y19,V20,V21,V22],[],g',h'⟩):
  wpL L Jf ⟨[V0,V1,V2,V3,V4,V5,.loc gi [.ptr n 0],V7,V8,V9,V10,V11,V12,V13,V14,V15,V16,.list false (l.map wq),.int .i64 l.length,.int .i64 0,V20,V21,V22],[],g,h⟩ Q:=by
 subst jy
 subst mG
 rw[Jf]
 refine wS l.length (λj st=>∃y9 g' h' dv' df',st=⟨[.ptr 3 0,.int .i64 k,V2,V3,V4,V5,.loc gi [.ptr n 0],V7,V8,y9,V10,V11,V12,V13,V14,V15,V16,.list false (l.map wq),.int .i64 l.length,.int .i64 j,V20,V21,V22],[],g',h'⟩∧Kp q' h h'∧TopAt h' h'.length q' n o d i dv' up { f with D:=df',df:=df' } fs∧wV s (d0++f.df) l=wV s (d0++df') (l.drop j)∧df'.length+(wX (l.drop j)).length=f.df.length+(wX l).length) ?_ ?_ ⟨_,_,h,dv,f.df,rfl,Kp.refl _ _,by rw[Fr.same hD]; exact t,rfl,rfl⟩
 ·rintro j hj st ⟨y9,g',h',dv',df',rfl,cY,ht,da,cK⟩ ih
  have hw:=wk j (by omega)
  have fR:h'[2]? = some (wl ents):=(cY.2 2 (by have:=ht.four; omega)).trans h2
  have eG:h'[3]? = some (wi en ns a b):=(cY.2 3 (by have:=ht.four; omega)).trans h3
  have q9:(wX (l.drop j)).length=(wX [l[j]]).length+(wX (l.drop (j+1))).length:=by
   rw[aQ hj,CK,CK]; simp[wX]
  obtain⟨h'',hx,eZ,kC⟩:=hq _ (ai hj) k dj s eN dR h' fR eG q' n o d i dv' up _ fs ht (by intro x; exact di x) d0 rfl dn (by simp only; omega)
  simp only at hx kC
  rw[aQ hj,Ir] at da
  by_cases hz:(yn s (d0++df') l[j]).1=0
  ·obtain⟨dv'',df'',eo,gq⟩:=kC hz
   have gT:wV s (d0++f.df) l=wV s (d0++df'') (l.drop (j+1)):=by
    rw[da]
    unfold xY
    rw[ah hz]
    exact aD (λz=>wV s z (l.drop (j+1))) eo
   have dN:df''.length=df'.length+(wX [l[j]]).length:=by
    rw[LY hz] at eo
    have:=aD List.length eo
    simp at this
    omega
   rw[hz] at hx
   simp[we] at hx
   simp[hj,hx,hw]
   exact ih _ ⟨_,_,h'',dv'',df'',rfl,cY.trans eZ,gq,gT,by omega⟩
  ·rw[zF hz] at da
   simp[we,hz] at hx
   simp[hj,hx]
   have:=no (by rw[da]; exact hz) h'' (.loc g' (wq l[j]).cells) (.int .i64 j) (g'+1) (cY.trans eZ)
   rw[da] at this
   simpa using this
 ·rintro st ⟨y9,g',h',dv',df',rfl,cY,ht,da,cK⟩
  rw[aU (ao _)] at da
  simp
  exact ok (by rw[da]; simp[wV]) h' dv' df' y9 g' cY (by rw[da]; simp[wV]) ht
theorem b64 (l:List Decl) (hl:l.length≤1500) (h:List PObj) (h3:h[3]? = some (wi en ns a b)) (q' n o d:Nat) (i dv up:PV) (f:Fr) (fs:List Fr) (t:TopAt h h.length q' n o d i dv up f fs)
  (V0 V1 V2 V3 V4 V5 V7 V8 V9 V10 V11 V12 V13 V14 V15 V16 V17 V18 V19:PV) (gi g:Nat) {Q:PExit→St→Prop} (jy:V0 = .ptr 3 0)
  (ok:(∀x∈vV l,x∈f.D)→∀y10 g',Q (.exit 6) ⟨[V0,V1,V2,V3,V4,V5,.loc gi [.ptr n 0],V7,V8,V9,y10,V11,V12,V13,V14,V15,V16,V17,V18,V19,.list false (l.map wc),.int .i64 l.length,.int .i64 l.length],[],g',h⟩)
  (no:¬(∀x∈vV l,x∈f.D)→∀y10 y22 g',Q (.boom (xk 1 a b 8)) ⟨[V0,V1,V2,V3,V4,V5,.loc gi [.ptr n 0],V7,V8,V9,y10,V11,V12,V13,V14,V15,V16,V17,V18,V19,.list false (l.map wc),.int .i64 l.length,y22],[],g',h⟩):
  wpL L Jg ⟨[V0,V1,V2,V3,V4,V5,.loc gi [.ptr n 0],V7,V8,V9,V10,V11,V12,V13,V14,V15,V16,V17,V18,V19,.list false (l.map wc),.int .i64 l.length,.int .i64 0],[],g,h⟩ Q:=by
 subst jy
 have hT:=Bq hL en ns a b h h3 8
 have hF:=Br hL en ns a b h h3 8
 have hn:=t.hn
 have hd:=t.hd
 rw[Jg]
 refine wS l.length (λj st=>∃y10 g',st=⟨[.ptr 3 0,V1,V2,V3,V4,V5,.loc gi [.ptr n 0],V7,V8,V9,y10,V11,V12,V13,V14,V15,V16,V17,V18,V19,.list false (l.map wc),.int .i64 l.length,.int .i64 j],[],g',h⟩∧∀x∈vV (l.take j),x∈f.D) ?_ ?_ ⟨_,_,rfl,by simp[vV]⟩
 ·rintro j hj st ⟨y10,g',rfl,dr⟩ ih
  have hw:=wk j (by omega)
  obtain⟨r,hr,eY,_⟩:=A4 l[j].name f.D
  have fX:vV (l.take (j+1))=vV (l.take j)++[l[j].name]:=by simp only[vV,bR,aq hj,Option.toList,bj,aF,bA]
  by_cases hx:l[j].name∈f.D
  ·simp[hx] at eY
   obtain⟨c,rfl⟩:=eY
   simp[hj,hn,hd,hr,wP,hT,hw]
   refine ih _ ⟨_,_,rfl,?_⟩
   rw[fX]
   intro x hm
   rcases aw.1 hm with h1|h1
   ·exact dr x h1
   ·rw[bg.1 h1]; exact hx
  ·simp[hx] at eY
   subst eY
   simp[hj,hn,hd,hr,wP,hF]
   have:=no (λdq=>hx (dq _ (aM.2 ⟨_,ai hj,rfl⟩))) (.loc g' (wc l[j]).cells) (.int .i64 j) (g'+1)
   simpa using this
 ·rintro st ⟨y10,g',rfl,dr⟩
  rw[aB] at dr
  simp
  exact ok dr _ _
end
theorem NC (l:List Str):yk 1 false (l.map PV.str) l.length 0=some (l.map PV.str):=by
 suffices H:∀(n off:Nat),off+n=l.length→yk 1 false (l.map PV.str) n off=some ((l.drop off).map PV.str) by simpa using H l.length 0 (by omega)
 intro n
 induction n with
 | zero=>intro off h; rw[aU (by omega)]; rfl
 | succ n ih =>
   intro off h
   have ho:off<l.length:=by omega
   simp only[yk,ih (off+1) (by omega)]
   simp[wh,ho]
   rw[aQ (i:=off) (l:=l.map PV.str) (by simpa using ho)]
   simp
theorem c0t (s:Place) (d:List Str) (x:State):yD s d x =
  xY (ye s.vis s.tags x.locals) λvis=>xY (yy (s.at vis) x.eqs d) λd1=>xY (wV (s.at vis) d1 x.autos) λd2=>
  xY (Ah s x.unl,[]) λ_=>xY (Ah (s.at vis) x.til,[]) λ_=>if wM (vV x.locals) (wM d2 d)=[] then(0,wM (wM d2 d) (vV x.locals)) else(8,[]):=by
 cases x; simp only[yD]; rfl
theorem c42 (x:State):Ag x=xe x.eqs++wX x.autos:=by cases x; rfl
section
variable {L:Nat→Option PFunc} (hL:∀k f,LS k=some f→L k=some f) (en:List Enum) (ns:List Node) (a b:Int) (ents:xu)
include hL
theorem c0u (h:List PObj) (hb:4≤h.length) (n:Nat) (fs:List Fr) (hv:Holds h h.length (.ptr n 0) fs):∃h',wm L 58 [.ptr n 0] h=some (.val (.ptr (h.length+2) 0),h')∧vU L 58 [.ptr n 0] h=some (.ptr (h.length+2) 0,h')∧Kp h.length h h'∧TopAt h' h'.length h.length (h.length+2) h.length (h.length+1) (.map none) (.list true []) (.ptr n 0) ⟨[],[],[],[]⟩ fs:=by
 have hK:∀n',n'<h.length→(h++[PObj.map [],.map [],.cells [.ptr n 0,.map (some h.length),.map (some (h.length+1)),.map none,.list true []]])[n']? = h[n']? := λn hn=>by rw[al (by omega)]
 refine⟨h++[.map [],.map [],.cells [.ptr n 0,.map (some h.length),.map (some (h.length+1)),.map none,.list true []]],?_,?_,Kp.app (ao _),?_⟩
 ·refine yF (hL 58 _ rfl) rfl ?_
  simp[Eu,PV.cells]
 ·refine wj (hL 58 _ rfl) rfl ?_
  simp[Eu,PV.cells]
 ·exact⟨by omega,by omega,by omega,by simp,by simp,by simp,by omega,by omega,by omega,hb,by simp,by simp[bmE],by simp[bmE],.inl ⟨rfl,rfl⟩,.inl ⟨rfl,rfl⟩,λ_ _ _ _ e=>by simp at e,hv.keep hK⟩
def StOut (a b:Int) (e:EN) (r:Out):Prop:=if e.1=0 then ∃o,r = .val (.list o (e.2.map PV.str)) else r = .boom (xk 1 a b e.1)
omit hL in
theorem StOut.no {e:EN} {z:Int} (hz:z≠0) (he:e=(z,[])):StOut a b e (.boom (xk 1 a b z)):=by
 unfold StOut; rw[he,ae hz]
theorem c2b (x:State) (hx:SW x) (hA:∀y∈x.autos,Ev L en ns a b ents y) (hp:(Ag x).length≤1000000) (k:Nat) (dj:NodesIn ents ns k) (s:Place) (eN:s.before=ns.take k) (dR:A6 ents s.tags) (h:List PObj) (h2:h[2]? = some (wl ents)) (h3:h[3]? = some (wi en ns a b)) (q' n o d:Nat) (i dv up:PV) (f:Fr) (fs:List Fr) (t:TopAt h h.length q' n o d i dv up f fs) (di:∀x,wZ (f::fs) x=true↔x∈s.vis)
  (d0:List Str) (hD:f.D=f.df) (dn:∀x,(x∈f.I∨yu fs x=true)↔(x∈s.inputs∨x∈d0)):
  ∃h' r,wm L 102 [.ptr 3 0,.int .i64 k,.ptr n 0,wF x] h=some (r,h')∧Kp h.length h h'∧StOut a b (yD s (d0++f.df) x) r:=by
 suffices H:∃res,wm L 102 [.ptr 3 0,.int .i64 k,.ptr n 0,wF x] h=some res∧∃h' r,res=(r,h')∧Kp h.length h h'∧StOut a b (yD s (d0++f.df) x) r by
  obtain⟨res,e1,h',r,e2,e3⟩:=H
  exact⟨h',r,by rw[e1,e2],e3⟩
 have h4:4≤h.length:=by have:=t.four; have:=t.ln; have:=t.un; omega
 obtain⟨h1,e1,e1',k1,t1⟩:=c0u hL h h4 n (f::fs) t.holds
 have s6:h1[2]? = some (wl ents):=(k1.2 2 (by omega)).trans h2
 have s7:h1[3]? = some (wi en ns a b):=(k1.2 3 (by omega)).trans h3
 have iA:∀x,wZ (⟨[],[],[],[]⟩::f::fs) x=true↔x∈s.vis:=λx=>by rw[← di]; simp[wZ]
 have hN:=c0t s (d0++f.df) x
 refine Bp (hL 102 _ rfl) rfl ?_
 simp[Jh,e1',e1]
 refine b61 hL en ns a b ents s.tags dR x.locals hx.locals h1 s6 s7 h.length _ _ _ _ _ _ _ _ t1 s.vis iA _ _ _ _ _ _ _ _ _ _ _ _ _ _ _ _ _ _ _ _ _ rfl ?_ ?_
 ·intro ve h5 O y7 g5 k5 gK t5 oQ vf
  have s8:h5[2]? = some (wl ents):=(k5.2 2 (by omega)).trans s6
  have rO:h5[3]? = some (wi en ns a b):=(k5.2 3 (by omega)).trans s7
  obtain⟨vis,kG⟩:∃vis,vis=(xq s.tags x.locals s.vis).2:=⟨_,rfl⟩
  rw[← kG] at oQ
  have hs:=L1 hL en ns a b x.locals (by have:=hx.locals; omega) hx.ls false h5 rO _ _ _ t5.holds vis oQ
  have pO:ye s.vis s.tags x.locals=(AI vis x.locals,vis):=by
   unfold ye xY
   rw[ah ve,kG]
  by_cases eI:AI vis x.locals=0
  ·rw[eI] at hs
   simp[we] at hs
   simp[hs]
   obtain⟨D,oR⟩:∃D,D=d0++f.df:=⟨_,rfl⟩
   rw[← oR] at hN ⊢
   have oS:∀y,(y∈([]:List Str)∨yu (f::fs) y=true)↔(y∈(s.at vis).inputs∨y∈D):=by
    intro y
    have:=dn y
    rw[oR]
    simp only[yu,List.any_cons,bu,an,aw,List.not_mem_nil,false_or,Place.at,hD] at this ⊢
    constructor
    ·rintro((h1|h1)|h1)
     ·exact .inr (.inr h1)
     ·rcases this.1 (.inl h1) with h|h
      ·exact .inl h
      ·exact .inr (.inl h)
     ·rcases this.1 (.inr h1) with h|h
      ·exact .inl h
      ·exact .inr (.inl h)
    ·rintro(h1|h1|h1)
     ·rcases this.2 (.inl h1) with h|h
      ·exact .inl (.inr h)
      ·exact .inr h
     ·rcases this.2 (.inr h1) with h|h
      ·exact .inl (.inr h)
      ·exact .inr h
     ·exact .inl (.inl h1)
   rw[c42,ax] at hp
   have rP:ye s.vis s.tags x.locals=(0,vis):=by rw[pO,eI]
   rw[rP,Fd] at hN
   refine b62 hL en ns a b ents k dj (s.at vis) eN x.eqs hx.eqs hx.es h5 s8 rO h.length _ _ _ _ _ _ _ _ t5 oQ D rfl oS (by simp only[bO]; omega) _ _ _ _ _ _ _ _ _ _ _ _ _ _ _ _ _ _ _ _ _ rfl rfl ?_ ?_
   ·intro eA h6 dv6 df6 y8 g6 k6 s9 t6
    simp only[aW] at eA s9
    have ta:h6[2]? = some (wl ents):=(k6.2 2 (by omega)).trans s8
    have tc:h6[3]? = some (wi en ns a b):=(k6.2 3 (by omega)).trans rO
    have rQ:yy (s.at vis) x.eqs D=(0,D++df6):=by rw[← s9,← eA]
    have vg:=c0q _ rQ
    simp only[ax] at vg
    rw[rQ,Fd] at hN
    simp
    refine b63 hL en ns a b ents k dj (s.at vis) eN dR x.autos hx.autos hA h6 ta tc h.length _ _ _ _ _ _ _ _ t6 oQ D rfl oS (by simp only; omega) _ _ _ _ _ _ _ _ _ _ _ _ _ _ _ _ _ _ _ _ _ rfl rfl ?_ ?_
    ·intro lj h7 dv7 df7 y9 g7 k7 td t7
     simp only at lj td
     have h27:h7[2]? = some (wl ents):=(k7.2 2 (by omega)).trans ta
     have te:h7[3]? = some (wi en ns a b):=(k7.2 3 (by omega)).trans tc
     have tg:wV (s.at vis) (D++df6) x.autos=(0,D++df7):=by rw[← td,← lj]
     rw[tg,Fd] at hN
     have k07:Kp h.length h h7:=((k1.trans k5).trans k6).trans k7
     obtain⟨h8,e8,k8⟩:=Oo hL en ns a b ents k dj s eN x.unl hx.unl hx.us false h7 h27 te h.length k07.1 _ _ (t.holds.keep k07.2) di
     by_cases oT:Ah s x.unl=0
     ·rw[oT] at e8
      simp[we] at e8
      have vh:h8[2]? = some (wl ents):=(k8.2 2 (by have:=k07.1; omega)).trans h27
      have th:h8[3]? = some (wi en ns a b):=(k8.2 3 (by have:=k07.1; omega)).trans te
      have t8:=(t7.keep k8.2).upTo k8.1
      obtain⟨h9,e9,k9⟩:=Oo hL en ns a b ents k dj (s.at vis) eN x.til hx.til hx.ts false h8 vh th h8.length (ao _) _ _ t8.holds oQ
      rw[oT,Fd] at hN
      by_cases oU:Ah (s.at vis) x.til=0
      ·rw[oU] at e9
       simp[we] at e9
       rw[oU,Fd] at hN
       have h39:h9[3]? = some (wi en ns a b):=(k9.2 3 (by have:=k07.1; have:=k8.1; omega)).trans th
       have t9:=(t8.keep k9.2).upTo k9.1
       have k09:Kp h.length h h9:=(k07.trans (k8.le k07.1)).trans (k9.le (aL k07.1 k8.1))
       have oz:=(A7 (s.at vis) x.eqs D _).1 rQ
       have nb:=CV x.autos (s.at vis) (D++df6) _ tg
       have d9:df7=xe x.eqs++wX x.autos:=by
        have e1:=nb.1
        rw[oz.1,aJ] at e1
        exact List.append_cancel_left e1
       have rR:∀y∈df7,y∉D:=by
        intro y hy
        rw[d9] at hy
        rcases aw.1 hy with h|h
        ·exact(oz.2.1.1 y h).2.2
        ·exact λhm=>(nb.2.1.1 y h).2.2 (cd _ hm)
       rw[Nl rR] at hN
       simp[e8,e9]
       refine b64 hL en ns a b x.locals hx.locals h9 h39 h.length _ _ _ _ _ _ _ _ t9 _ _ _ _ _ _ _ _ _ _ _ _ _ _ _ _ _ _ _ _ _ rfl ?_ ?_
       ·intro dq y10 g9
        simp only at dq
        have rS:wM (vV x.locals) df7=[]:=Ci.2 dq
        rw[ah rS] at hN
        have n9:=t9.hn
        have o9:=t9.ho
        rcases t9.row with⟨rfl,fW⟩|⟨kr,gn,ez,rfl,im⟩
        ·simp only at fW
         have hd:=b4d hL false 128 [.ptr (h.length+2) 0] h9
         simp[n9,hd]
         refine⟨h9,_,⟨rfl,rfl⟩,k09,?_⟩
         unfold StOut
         rw[hN,ah rfl]
         exact⟨false,by simp[fW,wM]⟩
        ·have nf:=t9.rne _ _ _ _ rfl
         have hd:=c0o hL df7 (by rw[d9,ax]; omega) h9 kr im 128 [.ptr (h.length+2) 0] (λy=>decide (y∈vV x.locals)) (by
          intro w y _
          have n9':=(ak (l:=h9) (a:=w) nf.1).trans n9
          have o9':=(ak (l:=h9) (a:=w) nf.2.1).trans o9
          obtain⟨r,hr,eY,_⟩:=A4 y O
          have tj:y∈O↔y∈vV x.locals:=by rw[vf]; simp
          refine wj (hL 128 _ rfl) rfl ?_
          by_cases hy:y∈O
          ·simp[hy] at eY
           obtain⟨c,rfl⟩:=eY
           simp[Gs,n9',o9',hr,wP,tj.1 hy]
          ·simp[hy] at eY
           subst eY
           have fK:¬y∈vV x.locals:=λh=>hy (tj.2 h)
           simp[Gs,n9',o9',hr,wP,fK])
         have oE:df7.filter (λy => !decide (y∈vV x.locals))=wM df7 (vV x.locals):=rfl
         rw[oE] at hd
         obtain⟨R,hR⟩:∃R,R=wM df7 (vV x.locals):=⟨_,rfl⟩
         rw[← hR] at hd hN
         have kh:kr<h9.length:=(aj.1 im).1
         have gL:(h9.set kr (.cells (R.map PV.str)))[kr]? = some (.cells (R.map PV.str)):=by rw[a8 kh]
         have m8:=NC R
         simp[n9,hd,gL,m8,Fe]
         refine⟨_,_,⟨rfl,rfl⟩,k09.trans (Kp.set gn),?_⟩
         unfold StOut
         rw[hN,ah rfl]
         exact⟨false,rfl⟩
       ·intro fy y10 y22 g9
        have rS:¬wM (vV x.locals) df7=[]:=λe=>fy (Ci.1 e)
        rw[ae rS] at hN
        simp
        exact⟨h9,_,⟨rfl,rfl⟩,k09,StOut.no a b (by decide) hN⟩
      ·simp[we,oU] at e9
       simp[e8,e9]
       exact⟨h9,_,⟨rfl,rfl⟩,(k07.trans (k8.le k07.1)).trans (k9.le (aL k07.1 k8.1)),StOut.no a b oU (by rw[hN]; exact zF (a:=(_,[])) oU _)⟩
     ·simp[we,oT] at e8
      simp[e8]
      exact⟨h8,_,⟨rfl,rfl⟩,k07.trans (k8.le k07.1),StOut.no a b oT (by rw[hN]; exact zF (a:=(_,[])) oT _)⟩
    ·intro lj h7 y9 y19 g7 k7
     simp only at lj
     simp
     exact⟨h7,_,⟨rfl,rfl⟩,((k1.trans k5).trans k6).trans k7,StOut.no a b lj (by rw[hN]; exact zF lj _)⟩
   ·intro eA h6 y8 y16 g6 k6
    simp only[aW] at eA ⊢
    simp
    exact⟨h6,_,⟨rfl,rfl⟩,(k1.trans k5).trans k6,StOut.no a b eA (by rw[hN]; exact zF eA _)⟩
  ·simp[we,eI] at hs
   simp[hs]
   exact⟨h5,_,⟨rfl,rfl⟩,k1.trans k5,StOut.no a b eI (by rw[hN,pO,zF eI])⟩
 ·intro hz h5 y7 y13 g5 k5
  simp
  refine⟨h5,_,⟨rfl,rfl⟩,k1.trans k5,StOut.no a b hz ?_⟩
  have:ye s.vis s.tags x.locals=((xq s.tags x.locals s.vis).1,[]):=by
   unfold ye; exact zF hz _
  rw[hN,this]
  exact zF (a:=(_,[])) hz _
end
section
variable {L:Nat→Option PFunc} (hL:∀k f,LS k=some f→L k=some f) (en:List Enum) (ns:List Node) (a b:Int) (ents:xu)
include hL
theorem b83 (l:List State) (hl:l.length≤1500) (h:List PObj) (h3:h[3]? = some (wi en ns a b)) (V0 V1 V2 V3 V5 V6 V7 V8 V9 V10 V11 V12 V16 V17 V18 V19 V20 V21:PV) (gi g:Nat) {Q:PExit→St→Prop} (jy:V0 = .ptr 3 0)
  (ok:(l.map (·.name)).Nodup→∀y5 y6 g',Q (.exit 0) ⟨[V0,V1,V2,V3,.loc gi [.list false (l.map wF)],y5,y6,V7,V8,V9,V10,V11,V12,.list false (l.map wF),.int .i64 l.length,.int .i64 l.length,V16,V17,V18,V19,V20,V21],[],g',h⟩)
  (no:¬(l.map (·.name)).Nodup→∀y5 y6 y15 g',Q (.boom (xk 1 a b 7)) ⟨[V0,V1,V2,V3,.loc gi [.list false (l.map wF)],y5,y6,V7,V8,V9,V10,V11,V12,.list false (l.map wF),.int .i64 l.length,y15,V16,V17,V18,V19,V20,V21],[],g',h⟩):
  wpL L IY ⟨[V0,V1,V2,V3,.loc gi [.list false (l.map wF)],V5,V6,V7,V8,V9,V10,V11,V12,.list false (l.map wF),.int .i64 l.length,.int .i64 0,V16,V17,V18,V19,V20,V21],[],g,h⟩ Q:=by
 subst jy
 have hT:=Bq hL en ns a b h h3 7
 have hF:=Br hL en ns a b h h3 7
 rw[IY]
 refine wS l.length (λj st=>∃y5 y6 g',st=⟨[.ptr 3 0,V1,V2,V3,.loc gi [.list false (l.map wF)],y5,y6,V7,V8,V9,V10,V11,V12,.list false (l.map wF),.int .i64 l.length,.int .i64 j,V16,V17,V18,V19,V20,V21],[],g',h⟩∧((l.take j).map (·.name)).Nodup) ?_ ?_ ⟨_,_,_,rfl,by simp⟩
 ·rintro j hj st ⟨y5,y6,g',rfl,dj⟩ ih
  have hw:=wk j (by omega)
  have qH:j≤l.length:=by omega
  have hc:=c0n hL (l.take j) (by simp; omega) false [] l[j]
  simp only[JB] at hc
  have ec:(l.map wF).take j=(l.take j).map wF:=by rw[List.map_take]
  have fX:(l.take (j+1)).map (·.name)=(l.take j).map (·.name)++[l[j].name]:=by simp only[bR,aq hj,Option.toList,bj,aF,bA]
  obtain⟨T,tn⟩:∃T,T=(l.take j).map wF:=⟨_,rfl⟩
  have tp:wu T=true:=by rw[tn]; exact b8J _
  rw[← tn] at hc ec
  have oV:wL 6 (l.map wF)=true:=by
   cases l with
   | nil=>rfl
   | cons z l=>simp[wL]
  cases gu:(l.take j).any λs=>decide (s.name=l[j].name) with
  | false =>
    rw[gu] at hc
    simp[hj,hw,hc,hT,ec,oV,qH,bound,tp]
    refine ih _ ⟨_,_,_,rfl,?_⟩
    rw[fX,cj]
    refine⟨dj,by simp,?_⟩
    intro x hx y hy e
    rw[bg.1 hy] at e
    subst e
    obtain⟨z,hz,rT⟩:=aM.1 hx
    have:=List.any_eq_false.1 gu z hz
    simp[rT] at this
  | true =>
    rw[gu] at hc
    simp[hj,hw,hc,hF,ec,oV,qH,bound,tp]
    refine no ?_ _ _ _ _
    intro hn
    obtain⟨z,hz,rT⟩:=cC.1 gu
    have hs:l.map (·.name)=((l.take j).map (·.name)++[l[j].name])++(l.drop (j+1)).map (·.name):=by rw[← fX,← bj,bM]
    rw[hs,cj,cj] at hn
    exact hn.1.2.2 l[j].name (aM.2 ⟨z,hz,by simpa using rT⟩) _ (bg.2 rfl) rfl
 ·rintro st ⟨y5,y6,g',rfl,dj⟩
  rw[aB] at dj
  simp
  exact ok dj _ _ _
theorem b84 (l:List Str) (hl:l.length≤1000000) (h:List PObj) (q' n o d:Nat) (i dv up:PV) (f:Fr) (fs:List Fr) (t:TopAt h h.length q' n o d i dv up f fs) (fc:∀x∈l,x∉f.D) (dj:l.Nodup)
  (V0 V1 V3 V4 V5 V6 V7 V8 V9 V10 V11 V12 V13 V14 V15 V16 V17 V18:PV) (g:Nat) {Q:PExit→St→Prop}
  (ok:∀h' y12,Kp q' h h'→h'.length=h.length→TopAt h' h'.length q' n o d i dv up { f with D:=f.D++l } fs→Q (.exit 4) ⟨[V0,V1,.ptr n 0,V3,V4,V5,V6,V7,V8,V9,V10,V11,y12,V13,V14,V15,V16,V17,V18,.list false (l.map PV.str),.int .i64 l.length,.int .i64 l.length],[],g,h'⟩):
  wpL L I0 ⟨[V0,V1,.ptr n 0,V3,V4,V5,V6,V7,V8,V9,V10,V11,V12,V13,V14,V15,V16,V17,V18,.list false (l.map PV.str),.int .i64 l.length,.int .i64 0],[],g,h⟩ Q:=by
 rw[I0]
 refine wS l.length (λj st=>∃y12 h',st=⟨[V0,V1,.ptr n 0,V3,V4,V5,V6,V7,V8,V9,V10,V11,y12,V13,V14,V15,V16,V17,V18,.list false (l.map PV.str),.int .i64 l.length,.int .i64 j],[],g,h'⟩∧Kp q' h h'∧h'.length=h.length∧TopAt h' h'.length q' n o d i dv up { f with D:=f.D++l.take j } fs) ?_ ?_ ⟨_,h,rfl,Kp.refl _ _,rfl,by simpa using t⟩
 ·rintro j hj st ⟨y12,h',rfl,cY,cK,ht⟩ ih
  have hw:=wk j (by omega)
  have hn:=ht.hn
  have hd:=ht.hd
  obtain⟨r',hr,_,gJ⟩:=A4 l[j] (f.D++l.take j)
  have fL:zn (f.D++l.take j) l[j]=f.D++l.take (j+1):=by
   unfold zn
   rw[ae]
   ·rw[bR,aq hj]; simp
   ·intro hm
    rcases aw.1 hm with h1|h1
    ·exact fc _ (ai hj) h1
    ·obtain⟨c,hc,kB⟩:=bz.1 h1
     simp only[bB] at hc
     rw[List.getElem_take] at kB
     have:=(List.getElem_inj (h₀:=by omega) (h₁:=hj) dj).1 kB
     omega
  rw[fL] at gJ
  simp[hj,hn,hd,hr,gJ,hw]
  have jf:=ht.setD (f.D++l.take (j+1))
  refine ih _ ⟨_,_,rfl,cY.trans (Kp.set ht.ld),by simp[cK],by simpa using jf⟩
 ·rintro st ⟨y12,h',rfl,cY,cK,ht⟩
  rw[aB] at ht
  simp
  exact ok h' _ cY cK ht
end
def J4 (L:Nat→Option PFunc) (en:List Enum) (ns:List Node) (a b:Int) (ents:xu) (x:State):Prop:=
 ∀ (k : Nat), NodesIn ents ns k → ∀ (s : Place), s.before = ns.take k → A6 ents s.tags → ∀ (h : List PObj), h[2]? = some (wl ents) → h[3]? = some (wi en ns a b) → ∀ (q' n o d : Nat) (i dv up : PV) (f : Fr) (fs : List Fr), TopAt h h.length q' n o d i dv up f fs → (∀ x, wZ (f :: fs) x = true ↔ x ∈ s.vis) →
   ∀(d0:List Str),f.D=f.df→(∀x,(x∈f.I∨yu fs x=true)↔(x∈s.inputs∨x∈d0)) →
   ∃h' r,wm L 102 [.ptr 3 0,.int .i64 k,.ptr n 0,wF x] h=some (r,h')∧Kp h.length h h'∧StOut a b (yD s (d0++f.df) x) r
theorem Ot {l m:List Str} (hl:l.Nodup) (hm:m.Nodup):By l m=(decide (l.length=m.length)&&l.all λx=>decide (x∈m)):=by
 rw[aC]
 simp only[By,am,an,aG,Ci]
 constructor
 ·rintro⟨h1,h2⟩
  have p1:=List.Nodup.length_le_of_subset hl h1
  have p2:=List.Nodup.length_le_of_subset hm h2
  exact⟨by omega,h1⟩
 ·rintro⟨h1,h2⟩
  refine⟨h2,λx hx=>cH λhn =>?_⟩
  have hc:(x::l).Nodup:=cw.2 ⟨hn,hl⟩
  have:=List.Nodup.length_le_of_subset hc (by
   intro y hy
   rcases az.1 hy with rfl|hy
   ·exact hx
   ·exact h2 y hy)
  simp at this
  omega
section
variable {L:Nat→Option PFunc} (hL:∀k f,LS k=some f→L k=some f) (en:List Enum) (ns:List Node) (a b:Int) (ents:xu)
include hL
theorem b85 (l:List State) (hl:l.length≤1500) (hS:∀y∈l,J4 L en ns a b ents y) (k:Nat) (dj:NodesIn ents ns k) (s:Place) (eN:s.before=ns.take k) (dR:A6 ents s.tags) (h:List PObj) (h2:h[2]? = some (wl ents)) (h3:h[3]? = some (wi en ns a b)) (q' n o d:Nat) (i dv up:PV) (f:Fr) (fs:List Fr) (t:TopAt h h.length q' n o d i dv up f fs) (di:∀x,wZ (f::fs) x=true↔x∈s.vis)
  (d0:List Str) (hD:f.D=f.df) (dn:∀x,(x∈f.I∨yu fs x=true)↔(x∈s.inputs∨x∈d0)) (lZ:∀y∈l,(xT y).length≤1000000)
  (V0 V1 V2 V3 V4 V5 V6 V9 V10 V11 V12 V13 V14 V15 V19 V20 V21:PV) (g:Nat) {Q:PExit→St→Prop} (jy:V0 = .ptr 3 0) (mG:V1 = .int .i64 k) (vi:V2 = .ptr n 0)
  (ok:(xr s (d0++f.df) l).1=0→∀h' y9 y10 y11 g' F,Kp h.length h h'→((l=[]∧F = .list true [])∨F = .list false (((l.map xT).headD []).map PV.str))→Q (.exit 2) ⟨[V0,V1,V2,V3,V4,V5,V6,F,.bool (l.all λy=>By (xT y) ((l.map xT).headD [])),y9,y10,y11,V12,V13,V14,V15,.list false (l.map wF),.int .i64 l.length,.int .i64 l.length,V19,V20,V21],[],g',h'⟩)
  (no:(xr s (d0++f.df) l).1≠0→∀h' W g',Kp h.length h h'→Q (.boom (xk 1 a b (xr s (d0++f.df) l).1)) ⟨W,[],g',h'⟩):
  wpL L IZ ⟨[V0,V1,V2,V3,V4,V5,V6,.list true [],.bool true,V9,V10,V11,V12,V13,V14,V15,.list false (l.map wF),.int .i64 l.length,.int .i64 0,V19,V20,V21],[],g,h⟩ Q:=by
 subst jy
 subst mG
 subst vi
 have h4:4≤h.length:=by have:=t.four; have:=t.ln; have:=t.un; omega
 obtain⟨D,oR⟩:∃D,D=d0++f.df:=⟨_,rfl⟩
 obtain⟨T,hT⟩:∃T,T=(l.map xT).headD []:=⟨_,rfl⟩
 rw[← oR] at ok no
 rw[← hT] at ok
 obtain⟨sm,j5⟩:∃sm:Nat→Bool,∀j,sm j=(l.take j).all (λx=>By (xT x) T):=⟨_,λ_=>rfl⟩
 rw[IZ]
 refine wS l.length (λj st=>∃F y9 y10 y11 g' h',st=⟨[.ptr 3 0,.int .i64 k,.ptr n 0,V3,V4,V5,V6,F,.bool (sm j),y9,y10,y11,V12,V13,V14,V15,.list false (l.map wF),.int .i64 l.length,.int .i64 j,V19,V20,V21],[],g',h'⟩∧Kp h.length h h'∧(∀c (hc:c<l.length),c<j→(yD s D l[c]).1=0)∧((j=0∧F = .list true [])∨F = .list false (T.map PV.str))) ?_ ?_ ⟨_,_,_,_,_,h,by rw[j5]; rfl,Kp.refl _ _,λc _ hc=>by omega,.inl ⟨rfl,rfl⟩⟩
 ·rintro j hj st ⟨F,y9,y10,y11,g',h',rfl,cY,hz,hF⟩ ih
  have hw:=wk j (by omega)
  have fR:h'[2]? = some (wl ents):=(cY.2 2 (by omega)).trans h2
  have eG:h'[3]? = some (wi en ns a b):=(cY.2 3 (by omega)).trans h3
  obtain⟨h'',r,hx,eZ,hr⟩:=hS _ (ai hj) k dj s eN dR h' fR eG q' n o d i dv up f fs ((t.keep cY.2).upTo cY.1) di d0 hD dn
  rw[← oR] at hr
  have fp:Kp h.length h h'':=cY.trans (eZ.le cY.1)
  unfold StOut at hr
  by_cases eI:(yD s D l[j]).1=0
  ·rw[ah eI] at hr
   obtain⟨ow,rfl⟩:=hr
   have tq:=JG l[j] s D _ (zW eI)
   rw[tq.1] at hx
   obtain⟨R,hR⟩:∃R,R=xT l[j]:=⟨_,rfl⟩
   have rU:R.Nodup:=by rw[hR]; exact tq.2.1.2
   have hRl:R.length≤1000000:=by rw[hR]; exact lZ _ (ai hj)
   have iK:sm (j+1)=(sm j&&By R T):=by
    have e:l.take (j+1)=l.take j++[l[j]]:=by rw[bR,aq hj]; rfl
    rw[j5,j5,e,b9,hR]
    simp only[List.all_cons,List.all_nil,b8]
   rw[← hR] at hx
   have gV:∀c (hc:c<l.length),c<j+1→(yD s D l[c]).1=0:=by
    intro c hc mX
    by_cases e:c=j
    ·subst e; exact eI
    ·exact hz c hc (by omega)
   by_cases mW:j=0
   ·subst mW
    have vj:R=T:=by
     rw[hR,hT]
     cases l with
     | nil=>simp at hj
     | cons y l=>rfl
    rw[← vj] at iK ih hF
    have dr:=Oq hL R R (by omega) (by omega) false false []
    rw[← Ot rU rU] at dr
    have fD:sm 0=true:=by rw[j5]; rfl
    rw[fD,cn] at iK
    simp[hj,hx,hw,fD,dr]
    exact ih _ ⟨_,_,_,_,_,h'',by rw[iK]; rfl,fp,gV,.inr rfl⟩
   ·have vk:F = .list false (T.map PV.str):=by
     rcases hF with⟨e,_⟩|e
     ·exact absurd e mW
     ·exact e
    subst vk
    have mP:T=xT (l[0]'(by omega)):=by
     rw[hT]
     cases l with
     | nil=>simp at hj
     | cons y l=>rfl
    have vl:T.Nodup:=by
     rw[mP]
     exact(JG _ s D _ (zW (hz 0 (by omega) (by omega)))).2.1.2
    have vm:T.length≤1000000:=by rw[mP]; exact lZ _ (ai _)
    have dr:=Oq hL R T (by omega) (by omega) false false []
    rw[← Ot rU vl] at dr
    have pQ:¬(j:Int)=0:=by omega
    cases tr:sm j with
    | true =>
      rw[tr,cn] at iK
      simp[hj,hx,hw,mW,pQ,dr]
      exact ih _ ⟨_,_,_,_,_,h'',by rw[iK]; rfl,fp,gV,.inr rfl⟩
    | false =>
      rw[tr,bI] at iK
      simp[hj,hx,hw,mW,pQ,dr]
      exact ih _ ⟨_,_,_,_,_,h'',by rw[iK]; rfl,fp,gV,.inr rfl⟩
  ·rw[ae eI] at hr
   subst hr
   have hb:=NT hj eI (λc hc mX=>hz c hc mX)
   simp[hj,hx]
   have kX:(xr s D l).1=(yD s D l[j]).1:=by rw[hb]
   rw[← kX]
   exact no (by rw[kX]; exact eI) h'' _ _ fp
 ·rintro st ⟨F,y9,y10,y11,g',h',rfl,cY,hz,hF⟩
  have dq:=NS (s:=s) (d:=D) (l:=l) (λy hy=>by
   obtain⟨c,hc,rfl⟩:=bz.1 hy
   exact hz c hc hc)
  have rE:sm l.length=l.all (λx=>By (xT x) T):=by rw[j5,aB]
  rw[rE]
  simp
  refine ok (by rw[dq]) h' _ _ _ _ F cY ?_
  rcases hF with⟨e,e2⟩|e
  ·exact .inl ⟨br.1 e,e2⟩
  ·exact .inr e
end
theorem cells_str:∀l:List Str,(l.map PV.str).flatMap PV.cells=l.map PV.str
 | []=>rfl
 | x::l=>by rw[aF,bl,cells_str l]; rfl
section
variable {L:Nat→Option PFunc} (hL:∀k f,LS k=some f→L k=some f) (en:List Enum) (ns:List Node) (a b:Int) (ents:xu)
include hL
theorem Ou (l:List State) (hl:l.length≤1500) (hS:∀y∈l,J4 L en ns a b ents y) (lZ:∀y∈l,(xT y).length≤1000000):Ev L en ns a b ents l:=by
 intro k dj s eN dR h h2 h3 q' n o d i dv up f fs t di d0 hD dn iI
 suffices H:∃res,wm L 62 [.ptr 3 0,.int .i64 k,.ptr n 0,wq l] h=some res∧∃h',res=(we 1 a b (yn s (d0++f.df) l).1,h')∧Kp q' h h'∧((yn s (d0++f.df) l).1=0→∃dv' df',(d0++f.df)++(yn s (d0++f.df) l).2=d0++df'∧TopAt h' h'.length q' n o d i dv' up { f with D:=df',df:=df' } fs) by
  obtain⟨res,e1,h',e2,e3⟩:=H
  exact⟨h',by rw[e1,e2],e3⟩
 have lu:q'≤h.length:=aL t.ln (Nat.le_of_lt t.un)
 have h4:4≤h.length:=by have:=t.four; omega
 refine Bp (hL 62 _ rfl) rfl ?_
 simp[I1]
 refine b83 hL en ns a b l hl h h3 _ _ _ _ _ _ _ _ _ _ _ _ _ _ _ _ _ _ _ _ rfl ?_ ?_
 ·intro hn y5 y6 g1
  simp
  refine b85 hL en ns a b ents l hl hS k dj s eN dR h h2 h3 q' n o d i dv up f fs t di d0 hD dn lZ _ _ _ _ _ _ _ _ _ _ _ _ _ _ _ _ _ _ rfl rfl rfl ?_ ?_
  ·intro hz h' y9 y10 y11 g2 F cY hF
   obtain⟨T,hT⟩:∃T,T=(l.map xT).headD []:=⟨_,rfl⟩
   rw[← hT] at hF ⊢
   obtain⟨b1,b2⟩:=JH l s (d0++f.df) (xr s (d0++f.df) l).2 (by rw[← hz])
   have dx:xr s (d0++f.df) l=(0,l.map xT):=by rw[← b1,← hz]
   have ip:yn s (d0++f.df) l=if l.all (λy=>By (xT y) T) then(0,T) else(8,[]):=by
    unfold yn
    rw[ae (by simpa using hn),dx,ae (by simp),List.all_map,← hT]
    rfl
   have eG:h'[3]? = some (wi en ns a b):=(cY.2 3 (by omega)).trans h3
   have vn:=Bq hL en ns a b h' eG 8
   have vp:=Br hL en ns a b h' eG 8
   have t1:=(t.keep cY.2).upTo cY.1
   cases dr:l.all (λy=>By (xT y) T) with
   | false =>
     rw[dr] at ip
     simp[vp]
     exact⟨h',by rw[ip]; exact⟨rfl,rfl⟩,cY.le lu,by rw[ip]; simp⟩
   | true =>
     rw[dr] at ip
     simp only[if_true] at ip
     have tw:Defs s (d0++f.df) T:=by
      rw[hT]
      cases l with
      | nil=>exact Defs.nil _ _
      | cons y l=>exact(b2 y (by simp)).1
     have vm:T.length≤1000000:=by
      rw[hT]
      cases l with
      | nil=>simp
      | cons y l=>exact lZ y (by simp)
     have hTs:T.length+f.df.length≤1000000:=by
      have:wX [l]=T:=by rw[CK,← hT]; simp[wX]
      rw[this] at iI; omega
     have fc:∀x∈T,x∉f.D:=λx hx hm=>(tw.1 x hx).2.2 (cg _ (hD▸hm))
     have mo:∃ow,F = .list ow (T.map PV.str):=by
      rcases hF with⟨iU,e⟩|e
      ·subst iU; exact⟨true,by rw[e,hT]; rfl⟩
      ·exact⟨false,e⟩
     obtain⟨ow,rfl⟩:=mo
     simp[vn]
     refine b84 hL T (by omega) h' q' n o d i dv up f fs t1 fc tw.2 _ _ _ _ _ _ _ _ _ _ _ _ _ _ _ _ _ _ _ ?_
     intro iq y12 kg ke t4
     have n4:=t4.hn
     have gX:=t4.un
     have pL:=t4.ln
     have rV:Kp q' h iq:=(cY.le lu).trans kg
     have fF:f.D++T=f.df++T:=by rw[hD]
     have fin:∀(hh:List PObj) (dv':PV),Kp q' h hh→TopAt hh hh.length q' n o d i dv' up { f with D:=f.D++T,df:=f.df++T } fs→∃h'',((Out.val (PV.tuple [])=we 1 a b (yn s (d0++f.df) l).1∧hh=h''))∧Kp q' h h''∧((yn s (d0++f.df) l).1=0→∃dv',TopAt h'' h''.length q' n o d i dv' up { O:=f.O,D:=f.df++(yn s (d0++f.df) l).2,I:=f.I,df:=f.df++(yn s (d0++f.df) l).2 } fs):=by
      intro hh dv' hk ht
      refine⟨hh,by rw[ip]; exact⟨rfl,rfl⟩,hk,λ_=>⟨dv',?_⟩⟩
      rw[fF] at ht
      rw[ip]
      exact ht
     have dY:(T.map PV.str).flatMap PV.cells=T.map PV.str:=cells_str T
     have kz:(dem∘PV.str)=PV.str:=rfl
     have oV:wL 1 (T.map PV.str)=true:=by cases T<;>rfl
     rcases t4.row with⟨rfl,fW⟩|⟨kr,gn,ez,rfl,im⟩
     ·simp only at fW
      by_cases na:T=[]
      ·subst na
       have ic:iq.set n (.cells [up,.map (some o),.map (some d),i,.list true []])=iq:=Dy n4
       obtain⟨h5,e5⟩:∃h5,iq.set n (.cells [up,.map (some o),.map (some d),i,.list false []])=h5:=⟨_,rfl⟩
       have n5:h5[n]? = some (.cells [up,.map (some o),.map (some d),i,.list false []]):=by rw[← e5,a8 gX]
       have vq:h5.set n (.cells [up,.map (some o),.map (some d),i,.list true []])=iq:=by rw[← e5,List.set_set]; exact ic
       simp[n4,Ae,xG,e5,n5,vq]
       exact fin iq _ rV (by simpa using t4)
      ·obtain⟨h5,e5⟩:∃h5,iq.set n (.cells [up,.map (some o),.map (some d),i,.list false []])=h5:=⟨_,rfl⟩
       have gK:h5.length=iq.length:=by rw[← e5]; simp
       have n5:(h5++[PObj.cells (T.map PV.str)])[n]? = some (.cells [up,.map (some o),.map (some d),i,.list false []]):=by
        rw[al (by omega),← e5,a8 gX]
       have kH:=t4.push T h5 gK (λc hc=>by rw[← e5,ak (by omega)]) (λc _ _ lg=>by rw[← e5,ak (Ne.symm lg)])
       have eH:T.length≤2147483648:=by omega
       simp[n4,e5,n5,Ae,dY,oV,na,eH,kz,xG]
       rw[gK]
       refine fin _ (.rowp iq.length 1 false T.length) ?_ ?_
       ·refine Kp.trans rV ⟨by simp[gK],λc hc =>?_⟩
        rw[ak (by omega),al (by omega),← e5,ak (by omega)]
       ·have:((h5++[PObj.cells (T.map PV.str)]).set n (.cells [up,.map (some o),.map (some d),i,.rowp iq.length 1 false T.length])).length=iq.length+1:=by simp[gK]
        rw[this,fW,be]
        exact kH
     ·obtain⟨h5,e5⟩:∃h5,iq.set kr .gone=h5:=⟨_,rfl⟩
      have gK:h5.length=iq.length:=by rw[← e5]; simp
      have nf:=(t4.rne _ _ _ _ rfl).1
      simp only at im
      have n5:(h5++[PObj.cells (f.df.map PV.str++T.map PV.str)])[n]? = some (.cells [up,.map (some o),.map (some d),i,.rowp kr 1 false f.df.length]):=by
       rw[al (by omega),← e5,ak nf]; exact n4
      have kH:=t4.push (f.df++T) h5 gK (λc hc=>by rw[← e5,ak (by omega)]) (λc hc fy lg=>by
       have:kr≠c:=by
        intro rK
        exact absurd rfl (fy 1 false f.df.length |> λh=>by subst rK; exact h)
       rw[← e5,ak this])
      simp only[bj,ax] at kH
      have eH:f.df.length+T.length≤2147483648:=by omega
      have dB:(f.df.map PV.str).take f.df.length=f.df.map PV.str:=bP (by simp)
      have rL:List.map PV.str (f.df.take f.df.length)=List.map PV.str f.df:=by rw[aB]
      simp[n4,Ae,im,dY,oV,eH,dB,kz,rL,e5,n5,xG]
      refine fin _ (.rowp iq.length 1 false (f.df.length+T.length)) ?_ ?_
      ·refine Kp.trans rV ⟨by simp[gK],λc hc =>?_⟩
       rw[ak (by omega),al (by omega),← e5,ak (by omega)]
      ·have:((h5++[PObj.cells (f.df.map PV.str++T.map PV.str)]).set n (.cells [up,.map (some o),.map (some d),i,.rowp iq.length 1 false (f.df.length+T.length)])).length=iq.length+1:=by simp[gK]
       rw[this]
       exact kH
  ·intro hz h' W g2 cY
   simp
   have ip:yn s (d0++f.df) l=((xr s (d0++f.df) l).1,[]):=by
    unfold yn
    rw[ae (by simpa using hn),ah hz]
   exact⟨h',by rw[ip]; simp[we,hz],cY.le lu,λh0=>absurd (by rw[ip] at h0; exact h0) hz⟩
 ·intro hn y5 y6 y15 g1
  simp
  have ip:yn s (d0++f.df) l=(7,[]):=by unfold yn; rw[ah hn]
  exact⟨h,by rw[ip]; exact⟨rfl,rfl⟩,Kp.refl _ _,by rw[ip]; simp⟩
end
theorem Iv:∀l:List Eqn,(xe l).length≤vT Eqn.parts l
 | []=>by simp[xe,vT]
 | q :: l => by
   have:=Iv l
   have e:xe (q::l)=q.left++xe l:=by simp[xe]
   rw[e]
   simp only[ax,vT,Eqn.parts]
   omega
theorem J5 (x:State):(xT x).length≤(Ag x).length:=by unfold xT wM; exact List.length_filter_le _ _
theorem Iw:∀l:List (List State),(∀a∈l,∀x∈a,(Ag x).length≤x.parts)→(wX l).length≤xh l
 | [],_=>by simp[wX,xh]
 | a :: l, h => by
   have:=Iw l (λb hb=>h b (by simp[hb]))
   rw[CK]
   cases a with
   | nil=>simp[xh,zB]; omega
   | cons y a =>
     have h1:=h (y::a) (by simp) y (by simp)
     have h2:=J5 y
     simp only[aF,List.headD_cons,ax,xh,zB]
     omega
theorem F0 (x:State):(Ag x).length≤x.parts:=by
 induction x using State.ind with
 | h s ih =>
   cases s with
   | mk n l e a u w =>
     have h1:=Iv e
     have h2:=Iw a ih
     simp only[Ag,ax,State.parts]
     omega
section
variable {L:Nat→Option PFunc} (hL:∀k f,LS k=some f→L k=some f) (en:List Enum) (ns:List Node) (a b:Int) (ents:xu)
include hL
theorem c0w (x:State):SW x→x.parts≤1000000→J4 L en ns a b ents x:=by
 induction x using State.ind with
 | h x ih =>
   intro hx hp
   have cO:∀y∈x.autos,∀z∈y,z.parts≤x.parts:=by
    intro y hy z hz
    cases x with
    | mk n l e au u w =>
      have hy:y∈au:=hy
      have h1:zB y≤xh au:=by
       rw[CL,Bs]
       have:=zR (λa=>1+vT State.parts a) hy
       omega
      have h2:z.parts≤zB y:=by rw[Bs]; exact zR _ hz
      simp only[State.parts]
      omega
   intro k dj s eN dR h h2 h3 q' n o d i dv up f fs t di d0 hD dn
   refine c2b hL en ns a b ents x hx ?_ (aL (F0 x) hp) k dj s eN dR h h2 h3 q' n o d i dv up f fs t di d0 hD dn
   intro y hy
   refine Ou hL en ns a b ents y (hx.as y hy) (λz hz=>ih y hy z hz (hx.ss y hy z hz) (aL (cO y hy z hz) hp)) (λz hz =>?_)
   exact aL (J5 z) (aL (F0 z) (aL (cO y hy z hz) hp))
theorem c2c (x:List State) (hl:x.length≤1500) (hx:∀y∈x,SW y) (hp:∀y∈x,y.parts≤1000000):Ev L en ns a b ents x:=
 Ou hL en ns a b ents x hl (λz hz=>c0w hL en ns a b ents z (hx z hz) (hp z hz)) (λz hz=>aL (J5 z) (aL (F0 z) (hp z hz)))
end
section
variable {L:Nat→Option PFunc} (hL:∀k f,LS k=some f→L k=some f) (en:List Enum) (ns:List Node) (a b:Int) (ents:xu)
include hL
theorem b5J (k:Nat) (hn:NodesIn ents ns k) (s:Place) (eN:s.before=ns.take k) (l:List Expr) (hl:l.length≤1500) (hw:∀x∈l,XW x) (h:List PObj) (h2:h[2]? = some (wl ents)) (h3:h[3]? = some (wi en ns a b)) (v:PV) (fs:List Fr) (hv:Holds h h.length v fs) (di:∀x,wZ fs x=true↔x∈s.vis)
  (V0 V1 V2 V3 V4 V5 V6 V7 V8 V9:PV) (g:Nat) {Q:PExit→St→Prop} (jy:V0 = .ptr 3 0) (mG:V1 = .int .i64 k) (ru:V4=v)
  (ok:wg (λe=>wR s e 1) l=0→∀h' y6 g',Kp h.length h h'→Q (.exit 2) ⟨[V0,V1,V2,V3,V4,V5,y6,V7,V8,V9,.list false (l.map vX),.int .i64 l.length,.int .i64 l.length],[],g',h'⟩)
  (no:wg (λe=>wR s e 1) l≠0→∀h' W g',Kp h.length h h'→Q (.boom (xk 1 a b (wg (λe=>wR s e 1) l))) ⟨W,[],g',h'⟩):
  wpL L FX ⟨[V0,V1,V2,V3,V4,V5,V6,V7,V8,V9,.list false (l.map vX),.int .i64 l.length,.int .i64 0],[],g,h⟩ Q:=by
 subst jy
 subst mG
 subst ru
 have hZ:=hv.cp
 have ia:=hv.tkv
 have kG:=hv.dem
 rw[FX]
 refine wS l.length (λj st=>∃y6 g' h',st=⟨[.ptr 3 0,.int .i64 k,V2,V3,V4,V5,y6,V7,V8,V9,.list false (l.map vX),.int .i64 l.length,.int .i64 j],[],g',h'⟩∧Kp h.length h h'∧wg (λe=>wR s e 1) l=wg (λe=>wR s e 1) (l.drop j)) ?_ ?_ ⟨_,_,h,rfl,Kp.refl _ _,rfl⟩
 ·rintro j hj st ⟨y6,g',h',rfl,cY,da⟩ ih
  have iX:=wk j (by omega)
  have oN:3<h.length:=(aj.1 h3).1
  have fR:h'[2]? = some (wl ents):=(cY.2 2 (by omega)).trans h2
  have eG:h'[3]? = some (wi en ns a b):=(cY.2 3 oN).trans h3
  obtain⟨h'',hx,eZ⟩:=J2 hL en ns a b ents k hn s eN l[j] (hw _ (ai hj)).ew 1 h' fR eG h.length cY.1 V4 fs (hv.keep cY.2) di
  have fp:Kp h.length h h'':=cY.trans (eZ.le cY.1)
  rw[aQ hj] at da
  have gT:wg (λe=>wR s e 1) (l[j]::l.drop (j+1))=if wR s l[j] 1=0 then wg (λe=>wR s e 1) (l.drop (j+1)) else wR s l[j] 1:=rfl
  rw[gT] at da
  by_cases hz:wR s l[j] 1=0
  ·rw[ah hz] at da
   rw[hz] at hx
   simp[we] at hx
   simp[hj,hZ,ia,hx,iX]
   exact ih _ ⟨_,_,_,rfl,fp,da⟩
  ·rw[ae hz] at da
   simp[we,hz] at hx
   simp[hj,hZ,ia,hx]
   rw[← da]
   exact no (by rw[da]; exact hz) h'' _ _ fp
 ·rintro st ⟨y6,g',h',rfl,cY,da⟩
  rw[aU (ao _)] at da
  simp
  exact ok da h' _ _ cY
end
def Dz (sz by':Nat) (z:List PV):PFunc:=⟨2,3,(S (R [t 2 (.c (.list true []))]) (S (B [m v1,b .lss l0 (k 0)] l1 (R [m (.c .dead),r (.mov (.c .dead))]) Z) (S (S (R [m v1,m v0,p (.cap l1),m v0,n l3,b .sub l2 l4,b .sub l0 l5,t 1 l6]) (B [m v1,b .gtr l0 (k 0)] l1 (R [m v0,m v0,p (.cap l1),p (.slice false sz l0 none (some l2)),m v1,p (.h (.happz sz true by' z l3 l4)),m v0,n l6,p (.slice false sz l5 none (some l7)),t 0 l8]) Z)) (S (R [m v0,t 2 l0]) Y)))),[.keep 2],false,none,none⟩
def IA:PC:=(.loop (S (B [b .lss v8 v7] l0 Z (X 0)) (S (K 1 (S (R [i 1 v6 v8,c l0,t 3 l1]) (S (R [m v2,m v3,n l1,b .add l0 l2,t 2 l3]) (B [m v2,b .lss l0 (k 0)] l1 (R [m (.c .dead),r (.mov (.c .dead))]) Z)))) (R [b .add v8 (k 1),q 8 (.mov l0)]))))
def IB (sz by':Nat):PC:=(.loop (S (B [b .lss w8 xf] l0 Z (X 2)) (S (K 3 (S (R [i 1 v9 w8,c l0,t 5 l1]) (R [p (.take v4),m v5,p (.h (.happ sz true by' l0 l1)),t 4 l2]))) (R [b .add w8 (k 1),q 11 (.mov l0)]))))
def F4 (sz by' gr:Nat) (res:PRes):PFunc:=⟨1,12,(S (R [t 1 (.c .nils)]) (S (R [t 2 (k 0)]) (S (S (R [q 6 (.mov v0),q 7 (.len false v6),q 8 (.mov (k 0))]) (K 0 IA)) (S (R [m v2,fh gr [(.c .nils),l0],t 4 l1]) (S (S (R [q 9 (.mov v0),q 10 (.len false v9),q 11 (.mov (k 0))]) (K 2 (IB sz by'))) (S (R [m v4,t 1 l0]) Y)))))),[res],false,none,none⟩
structure Enc {α:Type} (e:α→PV) (sz:Nat):Prop where
 agg:∀x,e x = .agg (e x).cells
 len:∀x,(e x).cells.length=sz
 dem:∀x,(e x).cells.map dem=(e x).cells
 pos:0<sz
section
variable {α:Type} {e:α→PV} {sz:Nat} (he:Enc e sz)
def RowOf (e:α→PV) (sz:Nat) (h:List PObj) (b:Nat) (v:PV) (l:List α):Prop:=(v = .nils∧l=[])∨∃k cs,b≤k∧v = .rowp k sz true l.length∧h[k]? = some (.cells cs)∧l.length*sz≤cs.length∧cs.take (l.length*sz)=(l.map e).flatMap PV.cells
def xy (e:α→PV) (gs:List (List α)):List PV:=gs.map λg => .list false (g.map e)
def xj (gs:List (List α)):Nat:=vT List.length gs
theorem IC:∀(a b:List (List α)),xj (a++b)=xj a+xj b
 | [],b=>by simp[xj,vT]
 | x :: a, b => by
   have:=IC a b
   simp only[xj] at this
   simp only[xj,ba,vT,this]; omega
theorem Mb (gs:List (List α)) (j:Nat) (hj:j<gs.length):xj (gs.take (j+1))=xj (gs.take j)+gs[j].length:=by
 rw[yO hj,IC]
 simp[xj,vT]
theorem Mc (gs:List (List α)) (j:Nat):xj (gs.take j)≤xj gs:=by
 have:=IC (gs.take j) (gs.drop j)
 rw[bM] at this; omega
theorem LW (gs:List (List α)):gs.flatten.length=xj gs:=by
 induction gs with
 | nil=>rfl
 | cons x gs ih=>rw[List.flatten_cons,ax,ih]; simp[xj,vT]
include he
theorem Enc.cellsDem:∀l:List α,((l.map e).flatMap PV.cells).map PI.dem=(l.map e).flatMap PV.cells
 | []=>rfl
 | x :: l => by
   rw[aF,bl,bj,Enc.cellsDem l,he.dem]
theorem Enc.cellsLen:∀l:List α,((l.map e).flatMap PV.cells).length=l.length*sz
 | []=>by simp
 | x :: l => by
   rw[aF,bl,ax,Enc.cellsLen l,he.len,bc,Nat.succ_mul]; omega
theorem Enc.head (l:List α):wL sz (l.map e)=true:=by
 cases l with
 | nil=>rfl
 | cons x l=>simp[wL,he.len]
theorem Enc.els (l:List α) (cs:List PV) (hc:cs.take (l.length*sz)=(l.map e).flatMap PV.cells):yk sz true cs l.length 0=some (l.map e):=by
 have key:∀(l:List α) (pre post:List PV),yk sz true (pre++((l.map e).flatMap PV.cells++post)) l.length pre.length=some (l.map e):=by
  intro l
  induction l with
  | nil=>intro pre post; rfl
  | cons x l ih =>
    intro pre post
    have h1:=ih (pre++(e x).cells) post
    rw[ax,he.len] at h1
    have h2:pre++(e x).cells++((l.map e).flatMap PV.cells++post)=pre++(((x::l).map e).flatMap PV.cells++post):=by simp
    rw[h2] at h1
    have h3:wh sz true (pre++(((x::l).map e).flatMap PV.cells++post)) pre.length=some (e x):=by
     have hl:=he.len x
     have h4:pre.length+sz≤(pre++(((x::l).map e).flatMap PV.cells++post)).length:=by
      rw[ax,ax,aF,bl,ax]; omega
     simp only[wh,if_true,h4,List.drop_left']
     rw[aF,bl,aJ,List.take_left' hl,he.dem,← he.agg]
    rw[bc,yk,h3,ar,h1]
    rfl
 have:=key l [] (cs.drop (l.length*sz))
 rw[← hc,bM] at this
 exact this
theorem Enc.happ {by':Nat} (fY:by'≤16384) (h:List PObj) (b:Nat) (hb:b≤h.length) (v:PV) (l m:List α) (hv:RowOf e sz h b v l) (hl:l.length+m.length≤4500):∃v' h',(∀st:St,st.heap=h→Ae h sz true by' (m.map e) v st=some (v',{ st with heap:=h' }))∧Kp b h h'∧RowOf e sz h' b v' (l++m):=by
 have sQ:=he.head m
 rcases hv with⟨rfl,rfl⟩|⟨k,cs,hk,rfl,hc,dS,qZ⟩
 ·by_cases hm:m=[]
  ·subst hm
   refine⟨.nils,h,?_,Kp.refl _ _,.inl ⟨rfl,rfl⟩⟩
   intro st dx
   simp[Ae,← dx]
  ·refine⟨.rowp h.length sz true m.length,h++[.cells ((m.map e).flatMap PV.cells)],?_,Kp.app hb,.inr ⟨h.length,(m.map e).flatMap PV.cells,hb,by simp,by simp,?_,?_⟩⟩
   ·intro st dx
    have h1:m.length≤2147483648:=by simp at hl; omega
    have uC:¬m.map e=[]:=by simpa using hm
    simp only[Ae,uC,if_false,sQ,aS,h1,he.cellsDem,fY]
    simp[dx]
   ·rw[he.cellsLen]; simp
   ·rw[be,bP (by rw[he.cellsLen]; omega)]
 ·have kL:k<h.length:=(aj.1 hc).1
  refine⟨.rowp h.length sz true (l.length+m.length),h.set k .gone++[.cells ((l.map e).flatMap PV.cells++(m.map e).flatMap PV.cells)],?_,⟨by simp,λn hn =>?_⟩,.inr ⟨h.length,(l.map e).flatMap PV.cells++(m.map e).flatMap PV.cells,hb,by simp,?_,?_,?_⟩⟩
  ·intro st dx
   have h1:l.length+m.length≤2147483648:=by omega
   simp only[Ae,hc,sQ,aS,h1,dS,qZ,he.cellsDem,fY]
   simp
  ·rw[al (by simp; omega),ak (by omega)]
  ·have:(h.set k .gone).length=h.length:=by simp
   rw[← this,ap (ao _)]
   simp
  ·rw[ax,ax,he.cellsLen,he.cellsLen,aO]; omega
  ·rw[bj,List.flatMap_append,bP (by rw[ax,ax,he.cellsLen,he.cellsLen,aO]; omega)]
end
theorem RowOf.cp {α:Type} {e:α→PV} {sz:Nat} {h:List PObj} {b:Nat} {v:PV} {l:List α} (hv:RowOf e sz h b v l):cp v=some v∧tkv v=some (v,false)∧dem v=v:=by
 rcases hv with⟨rfl,_⟩|⟨k,cs,_,rfl,_⟩<;>exact⟨rfl,rfl,rfl⟩
section
variable {L:Nat→Option PFunc} {α:Type} {e:α→PV} {sz by' gr:Nat} {z:List PV} (he:Enc e sz) (fY:by'≤16384)
theorem Md {sz by':Nat} {z:List PV} (hf:L gr=some (Dz sz by' z)) (h:List PObj):vU L gr [.nils,.int .i64 0] h=some (.nils,h):=by
 refine wj hf rfl ?_
 have lI:IntKind.i64.wrap (-IntKind.i64.wrap 0)=0:=by decide
 simp[Dz,lI]
theorem Me {sz by':Nat} {z:List PV} (fY:by'≤16384) (hf:L gr=some (Dz sz by' z)) (n:Nat) (h0:0<n) (hn:n≤4500) (h:List PObj):∃cs,vU L gr [.nils,.int .i64 n] h=some (.rowp h.length sz true 0,h++[.cells cs]):=by
 have oe:(0:Int)<n:=by omega
 have uD:(n:Int)≤2147483648:=by omega
 have rq:¬(n:Int)<0:=by omega
 have rr:IntKind.i64.wrap 0=0:=by decide
 have hw:IntKind.i64.wrap (n:Int)=n:=by
  have:=wk (n - 1) (by omega)
  have e:((n - 1:Nat):Int)+1=n:=by omega
  rw[e] at this
  rw[this]
  omega
 refine⟨(List.replicate n (z.map dem)).flatten,?_⟩
 refine wj hf rfl ?_
 simp[Dz,oe,uD,rq,h0,hw,rr,fY]
theorem Mf (gs:List (List α)) (hg:gs.length≤1500) (hn:xj gs≤4500) (h:List PObj) (V0 V1 V3 V4 V5 V9 V10 V11:PV) (g:Nat) {Q:PExit→St→Prop}
  (ok:∀y3,Q (.exit 0) ⟨[V0,V1,.int .i64 (xj gs),y3,V4,V5,.list false (xy e gs),.int .i64 gs.length,.int .i64 gs.length,V9,V10,V11],[],g,h⟩):
  wpL L IA ⟨[V0,V1,.int .i64 0,V3,V4,V5,.list false (xy e gs),.int .i64 gs.length,.int .i64 0,V9,V10,V11],[],g,h⟩ Q:=by
 rw[IA]
 refine wS gs.length (λj st=>∃y3,st=⟨[V0,V1,.int .i64 (xj (gs.take j)),y3,V4,V5,.list false (xy e gs),.int .i64 gs.length,.int .i64 j,V9,V10,V11],[],g,h⟩) ?_ ?_ ⟨_,by simp[xj,vT]; rfl⟩
 ·rintro j hj st ⟨y3,rfl⟩ ih
  have hw:=wk j (by omega)
  have ht:=Mb gs j hj
  have eg:=Mc gs (j+1)
  obtain⟨A,hA⟩:∃A,A=xj (gs.take j):=⟨_,rfl⟩
  obtain⟨B,hB⟩:∃B,B=xj (gs.take (j+1)):=⟨_,rfl⟩
  rw[← hA,← hB] at ht
  rw[← hB] at eg
  have uE:IntKind.i64.wrap ((A:Int)+gs[j].length)=B:=by
   have:=Mg (A+gs[j].length) (by omega)
   rw[show (A:Int)+gs[j].length=((A+gs[j].length:Nat):Int) by omega,this,ht]
  have oh:j<(xy e gs).length:=by simpa[xy] using hj
  have mz:(xy e gs)[j]? = some (.list false (gs[j].map e)):=by simp[xy,hj]
  rw[← hA]
  rw[← hB] at ih
  obtain⟨GS,rt⟩:∃GS,GS=xy e gs:=⟨_,rfl⟩
  rw[← rt] at ih oh mz ⊢
  have kY:GS[j] = .list false (gs[j].map e):=(aj.1 mz).2
  have dS:∀es,(PV.list false es).cells=[.list false es]:=λ_=>rfl
  have uF:¬(B:Int)<0:=by omega
  simp[hj,oh,mz,hw,uE,kY,dS,uF]
  exact ih _ ⟨_,rfl⟩
 ·rintro st ⟨y3,rfl⟩
  rw[aB]
  simp
  exact ok _
include he fY
theorem F5 (gs:List (List α)) (hg:gs.length≤1500) (hn:xj gs≤4500) (h:List PObj) (b:Nat) (hb:b≤h.length) (V4:PV) (ru:RowOf e sz h b V4 []) (V0 V1 V2 V3 V5 V6 V7 V8:PV) (g:Nat) {Q:PExit→St→Prop}
  (ok:∀h' v y5,Kp b h h'→RowOf e sz h' b v gs.flatten→Q (.exit 2) ⟨[V0,V1,V2,V3,v,y5,V6,V7,V8,.list false (xy e gs),.int .i64 gs.length,.int .i64 gs.length],[],g,h'⟩):
  wpL L (IB sz by') ⟨[V0,V1,V2,V3,V4,V5,V6,V7,V8,.list false (xy e gs),.int .i64 gs.length,.int .i64 0],[],g,h⟩ Q:=by
 rw[IB]
 refine wS gs.length (λj st=>∃v y5 h',st=⟨[V0,V1,V2,V3,v,y5,V6,V7,V8,.list false (xy e gs),.int .i64 gs.length,.int .i64 j],[],g,h'⟩∧Kp b h h'∧RowOf e sz h' b v (gs.take j).flatten) ?_ ?_ ⟨_,_,h,rfl,Kp.refl _ _,ru⟩
 ·rintro j hj st ⟨v,y5,h',rfl,cY,hv⟩ ih
  have hw:=wk j (by omega)
  have ht:=Mb gs j hj
  have eg:=Mc gs (j+1)
  have fP:(gs.take (j+1)).flatten=(gs.take j).flatten++gs[j]:=by
   rw[yO hj,List.flatten_append]; simp
  obtain⟨v',h'',pN,eZ,dJ⟩:=he.happ fY h' b (aL hb cY.1) v _ gs[j] hv (by rw[LW]; omega)
  have mz:(xy e gs)[j]? = some (.list false (gs[j].map e)):=by simp[xy,hj]
  have oh:j<(xy e gs).length:=by simpa[xy] using hj
  obtain⟨GS,rt⟩:∃GS,GS=xy e gs:=⟨_,rfl⟩
  rw[← rt] at ih oh mz ⊢
  have kY:GS[j] = .list false (gs[j].map e):=(aj.1 mz).2
  have dS:∀es,(PV.list false es).cells=[.list false es]:=λ_=>rfl
  have hc:=hv.cp
  have kR:=dJ.cp
  rw[← fP] at dJ
  simp[hj,oh,mz,hw,kY,dS,hc.1,hc.2.1,hc.2.2,pN,kR.1,kR.2.1,kR.2.2]
  exact ih _ ⟨v',_,h'',rfl,cY.trans eZ,dJ⟩
 ·rintro st ⟨v,y5,h',rfl,cY,hv⟩
  rw[aB] at hv
  simp
  exact ok h' v y5 cY hv
theorem c1F {k:Nat} (hf:L k=some (F4 sz by' gr (.keep 1))) (jt:L gr=some (Dz sz by' z)) (gs:List (List α)) (hg:gs.length≤1500) (hn:xj gs≤4500) (o:Bool) (h:List PObj):∃v h',vU L k [.list o (xy e gs)] h=some (v,h')∧Kp h.length h h'∧RowOf e sz h' h.length v gs.flatten:=by
 suffices H:∃r,vU L k [.list o (xy e gs)] h=some r∧Kp h.length h r.2∧RowOf e sz r.2 h.length r.1 gs.flatten from by
  obtain⟨⟨v,h'⟩,h1,h2,h3⟩:=H
  exact⟨v,h',h1,h2,h3⟩
 refine zq hf rfl ?_
 have mA:(xy e gs).length=gs.length:=by simp[xy]
 simp[F4,mA]
 refine Mf gs hg hn h _ _ _ _ _ _ _ _ _ ?_
 intro y3
 by_cases h0:xj gs=0
 ·have jt:=Md jt h
  have oe:(xj gs:Int)=0:=by omega
  simp[oe,jt,mA]
  refine F5 he fY gs hg hn h h.length (ao _) .nils (.inl ⟨rfl,rfl⟩) _ _ _ _ _ _ _ _ _ ?_
  intro h' v y5 hk hv
  have hc:=hv.cp
  simp[hc.1,hc.2.1,hc.2.2,xi]
  exact⟨hk,hv⟩
 ·obtain⟨cs,jt⟩:=Me fY jt (xj gs) (by omega) hn h
  simp[jt,mA]
  refine F5 he fY gs hg hn _ h.length (by simp) (.rowp h.length sz true 0) (.inr ⟨h.length,cs,ao _,rfl,by simp,by simp,by simp⟩) _ _ _ _ _ _ _ _ _ ?_
  intro h' v y5 hk hv
  have hc:=hv.cp
  simp[hc.1,hc.2.1,hc.2.2,xi]
  exact⟨(Kp.app (ao _)).trans hk,hv⟩
theorem Mh {k:Nat} (hf:L k=some (F4 sz by' gr (.var 1))) (jt:L gr=some (Dz sz by' z)) (gs:List (List α)) (hg:gs.length≤1500) (hn:xj gs≤4500) (o:Bool) (h:List PObj):∃h',vU L k [.list o (xy e gs)] h=some (.list false (gs.flatten.map e),h'):=by
 suffices H:∃r,vU L k [.list o (xy e gs)] h=some r∧r.1 = .list false (gs.flatten.map e) from by
  obtain⟨⟨v,h'⟩,h1,h2⟩:=H
  simp only at h2; subst h2
  exact⟨h',h1⟩
 refine zq hf rfl ?_
 have mA:(xy e gs).length=gs.length:=by simp[xy]
 obtain⟨F,hF⟩:∃F,F=gs.flatten:=⟨_,rfl⟩
 rw[← hF]
 simp[F4,mA]
 refine Mf gs hg hn h _ _ _ _ _ _ _ _ _ ?_
 intro y3
 by_cases h0:xj gs=0
 ·have jt:=Md jt h
  have oe:(xj gs:Int)=0:=by omega
  simp[oe,jt,mA]
  refine F5 he fY gs hg hn h h.length (ao _) .nils (.inl ⟨rfl,rfl⟩) _ _ _ _ _ _ _ _ _ ?_
  intro h' v y5 hk hv
  rw[← hF] at hv
  rcases hv with⟨rfl,hn⟩|⟨k,cs,_,rfl,hc,hl,ht⟩
  ·simp[xi,hn]
  ·simp[xi,hc,he.els _ _ ht]
 ·obtain⟨cs,jt⟩:=Me fY jt (xj gs) (by omega) hn h
  simp[jt,mA]
  refine F5 he fY gs hg hn _ h.length (by simp) (.rowp h.length sz true 0) (.inr ⟨h.length,cs,ao _,rfl,by simp,by simp,by simp⟩) _ _ _ _ _ _ _ _ _ ?_
  intro h' v y5 hk hv
  rw[← hF] at hv
  rcases hv with⟨rfl,hn⟩|⟨k,cs,_,rfl,hc,hl,ht⟩
  ·simp[xi,hn]
  ·simp[xi,hc,he.els _ _ ht]
end
theorem ID:Enc wc 3:=⟨λ_=>rfl,λ_=>rfl,λ_=>rfl,by decide⟩
theorem c4m:Enc vX 6:=⟨λx=>by rw[A8]; rfl,λx=>by simp,λx=>by simp,by decide⟩
theorem c7M:Enc wJ 8:=⟨λ_=>rfl,λ_=>rfl,λx=>by simp,by decide⟩
section
variable {L:Nat→Option PFunc} (hL:∀k f,LS k=some f→L k=some f)
include hL
theorem c2d (l:List On) (hl:l.length≤1500) (o:Bool) (h:List PObj):∃r,vU L 34 [.list o (l.map eOn)] h=some (.list r (l.map eOn),h):=by
 refine⟨true,?_⟩
 refine b7b (hL 34 _ rfl) rfl rfl ?_ ?_
 ·intro hv
  cases l with
  | nil=>simp at hv
  | cons x l =>
    rw[bc] at hl
    have h1:l.length+1≤9223372036854775807:=by omega
    have h2:(l.length+1)*32≤140737488355328:=by omega
    have h3:l.length+1≤2147483648:=by omega
    simp[Gb,h1,h2,h3]
 ·intro hv
  cases l with
  | nil=>simp[Gb]
  | cons x l=>simp at hv
end
section
variable {L:Nat→Option PFunc} (hL:∀k f,LS k=some f→L k=some f)
include hL
theorem LV (gs:List (List Decl)) (hg:gs.length≤1500) (hn:xj gs≤4500) (o:Bool) (h:List PObj):∃v h',vU L 33 [.list o (xy wc gs)] h=some (v,h')∧Kp h.length h h'∧RowOf wc 3 h' h.length v gs.flatten:=
 c1F ID (by decide) (k:=33) (by':=48) (gr:=74) (hL 33 _ rfl) (hL 74 _ rfl) gs hg hn o h
theorem LT (l:List Decl) (cs:List PV) (hc:cs.take (l.length*3)=(l.map wc).flatMap PV.cells) (hl:l.length*3≤cs.length) (j:Nat) (hj:j<l.length):
  j*3+3≤cs.length∧List.map dem (List.take 3 (List.drop (j*3) cs))=[.str l[j].name,.int .i64 l[j].type,.list false (l[j].clock.map eOn)]∧cs.set (j*3+2) (.list false (l[j].clock.map eOn))=cs:=by
 have _:=hL
 have he:=ID.els l cs hc
 obtain⟨_,hg⟩:=FG he
 have h1:=hg j (wc l[j]) (by simp[hj])
 simp only[aR,wh,if_true] at h1
 have hb:j*3+3≤cs.length:=by omega
 rw[ah hb,GD] at h1
 simp only[aa,PV.agg.injEq] at h1
 refine⟨hb,h1,?_⟩
 have cO:j*3+2<cs.length:=by omega
 have hx:cs[j*3+2]? = some (.list false (l[j].clock.map eOn)):=by
  have cS:∀(l:List Decl) (j:Nat) (hj:j<l.length),((l.map wc).flatMap PV.cells)[j*3+2]? = some (.list false (l[j].clock.map eOn)):=by
   intro l
   induction l with
   | nil=>intro j hj; simp at hj
   | cons x l ih =>
     intro j hj
     rw[aF,bl]
     cases j with
     | zero=>rfl
     | succ j =>
       have:=ih j (by simpa using hj)
       have e:(j+1)*3+2=(wc x).cells.length+(j*3+2):=by show _=3+_; omega
       rw[e,ap (by omega),Nat.add_sub_cancel_left]
       simpa using this
  have:=cS l j hj
  rw[← hc,List.getElem?_take_of_lt (by omega)] at this
  exact this
 obtain⟨h2,h3⟩:=aj.1 hx
 rw[← h3]; exact List.set_getElem_self h2
theorem c4H (n:Node) (h1:n.ins.length≤1500) (h2:n.outs.length≤1500) (h3:n.locals.length≤1500) (hd:∀d∈vars n,d.clock.length≤1500):∃h',vU L 11 [wE n] []=some (.list false ((vars n).map wc),h'):=by
 suffices H:∃r,vU L 11 [wE n] []=some r∧r.1 = .list false ((vars n).map wc) by
  obtain⟨⟨v,h'⟩,h1,h2⟩:=H
  simp only at h2; subst h2
  exact⟨h',h1⟩
 obtain⟨v,h',hc,_,hr⟩:=LV hL [n.ins,n.outs,n.locals] (by simp) (by simp[xj,vT]; omega) false []
 have hf:[n.ins,n.outs,n.locals].flatten=vars n:=by simp[vars]
 rw[hf] at hr
 have hx:xy wc [n.ins,n.outs,n.locals]=[.list false (n.ins.map wc),.list false (n.outs.map wc),.list false (n.locals.map wc)]:=rfl
 rw[hx] at hc
 have nY:(vars n).length≤4500:=by simp[vars]; omega
 obtain⟨D,hD⟩:∃D,D=vars n:=⟨_,rfl⟩
 rw[← hD] at hr hd nY ⊢
 refine zq (hL 11 _ rfl) rfl ?_
 rcases hr with⟨rfl,rfl⟩|⟨k,cs,_,rfl,hk,hl,ht⟩
 ·simp[F9,hc]
  rw[IH,zE]
  simp[xi]
 ·simp[F9,hc]
  rw[IH]
  refine wS D.length (λj st=>∃y4 y5 g,st=⟨[wE n,.loc 0 (wE n).cells,.list true [],.rowp k 3 true D.length,y4,y5,.rowp k 3 true D.length,.int .i64 D.length,.int .i64 j],[],g,h'⟩) ?_ ?_ ⟨_,_,_,rfl⟩
  ·rintro j hj st ⟨y4,y5,g,rfl⟩ ih
   have hw:=wk j (by omega)
   obtain⟨r1,r2,r3⟩:=LT hL D cs ht hl j hj
   obtain⟨o,dS⟩:=c2d hL D[j].clock (hd _ (ai hj)) false []
   have wA:h'.set k (.cells cs)=h':=Dy hk
   have r4:j*3+2<cs.length:=by omega
   simp[hj,hw,hk,r1,r2,r3,r4,dS,wA]
   exact ih _ ⟨_,_,_,rfl⟩
  ·rintro st ⟨y4,y5,g,rfl⟩
   simp[xi,hk,ID.els _ _ ht]
end
section
variable {L:Nat→Option PFunc} (hL:∀k f,LS k=some f→L k=some f) (en:List Enum) (ns:List Node) (a b:Int) (ents:xu)
include hL
theorem LR (h:List PObj) (hb:4≤h.length):∃h',vU L 58 [.nilptr] h=some (.ptr (h.length+2) 0,h')∧h'.length=h.length+3∧Kp h.length h h'∧TopAt h' h'.length h.length (h.length+2) h.length (h.length+1) (.map none) (.list true []) .nilptr ⟨[],[],[],[]⟩ []:=by
 refine⟨h++[.map [],.map [],.cells [.nilptr,.map (some h.length),.map (some (h.length+1)),.map none,.list true []]],?_,by simp,Kp.app (ao _),?_⟩
 ·refine wj (hL 58 _ rfl) rfl ?_
  simp[Eu,PV.cells]
 ·exact⟨by omega,by omega,by omega,by simp,by simp,by simp,by omega,by omega,by omega,hb,by simp,by simp[bmE],by simp[bmE],.inl ⟨rfl,rfl⟩,.inl ⟨rfl,rfl⟩,λ_ _ _ _ e=>by simp at e,rfl⟩
theorem FU (l m:List Decl):vV (l++m)=vV l++vV m:=by have _:=hL; simp[vV]
theorem b5j (F:List Decl) (hF:F.length≤4500) (h:List PObj) (q q' n o d:Nat) (i dv up:PV) (fs:List Fr) (t:TopAt h q q' n o d i dv up ⟨[],[],[],[]⟩ fs) (kr:Nat) (sO:q≤kr) (cs:List PV) (hk:h[kr]? = some (.cells cs)) (hl:F.length*3≤cs.length) (ht:cs.take (F.length*3)=(F.map wc).flatMap PV.cells)
  (V0 V1 V2 V3 V5 V6 V10 V11 V12:PV) (g:Nat) {Q:PExit→St→Prop}
  (ok:∀y5 g' h' O,h'.length=h.length→Kp q' h h'→TopAt h' q q' n o d i dv up ⟨O,[],[],[]⟩ fs→(∀x,x∈O↔x∈vV F)→Q (.exit 0) ⟨[V0,V1,V2,V3,.ptr n 0,y5,V6,.rowp kr 3 true F.length,.int .i64 F.length,.int .i64 F.length,V10,V11,V12],[],g',h'⟩):
  wpL L FV ⟨[V0,V1,V2,V3,.ptr n 0,V5,V6,.rowp kr 3 true F.length,.int .i64 F.length,.int .i64 0,V10,V11,V12],[],g,h⟩ Q:=by
 rw[FV]
 refine wS F.length (λj st=>∃y5 g' h' O,st=⟨[V0,V1,V2,V3,.ptr n 0,y5,V6,.rowp kr 3 true F.length,.int .i64 F.length,.int .i64 j,V10,V11,V12],[],g',h'⟩∧h'.length=h.length∧Kp q' h h'∧h'[kr]? = some (.cells cs)∧TopAt h' q q' n o d i dv up ⟨O,[],[],[]⟩ fs∧∀x,x∈O↔x∈vV (F.take j)) ?_ ?_ ⟨_,_,h,[],rfl,rfl,Kp.refl _ _,hk,t,by simp[vV]⟩
 ·rintro j hj st ⟨y5,g',h',O,rfl,cK,cY,hk,t,hO⟩ ih
  have hw:=wk j (by omega)
  obtain⟨r1,r2,r3⟩:=LT hL F cs ht hl j hj
  obtain⟨r,hr,_,gJ⟩:=A4 F[j].name O
  have e1:=t.hn
  have e2:=t.ho
  have c9:t.uo=t.uo:=rfl
  have sP:=t.uo
  simp only[] at e1 e2
  simp[hj,hw,hk,r1,r2,e1,e2,hr,wP]
  refine ih _ ⟨_,_,_,zn O F[j].name,rfl,by simpa using cK,cY.trans (Kp.set t.lo),by rw[ak (by omega)]; exact hk,?_,λx =>?_⟩
  ·rw[gJ]
   exact t.setO _
  ·rw[FW,hO,yO hj,FU hL,aw]
   simp[vV]
 ·rintro st ⟨y5,g',h',O,rfl,cK,cY,hk,t,hO⟩
  rw[aB] at hO
  simp
  exact ok _ _ _ _ cK cY t hO
theorem LU (k:Nat) (dj:NodesIn ents ns k) (s:Place) (eN:s.before=ns.take k) (l:List Expr) (hl:l.length≤1500) (hw:∀x∈l,XW x) (gs:List (List Decl)) (hg:gs.length≤1500) (hn:xj gs≤4500) (di:∀x,x∈vV gs.flatten↔x∈s.vis) (o1 o2:Bool)
  (h:List PObj) (h4:4≤h.length) (h2:h[2]? = some (wl ents)) (h3:h[3]? = some (wi en ns a b)):
  ∃h',wm L 63 [.ptr 3 0,.int .i64 k,.list o1 (l.map vX),.list o2 (xy wc gs)] h=some (we 1 a b (wg (λe=>wR s e 1) l),h')∧Kp h.length h h':=by
 suffices H:∃res,wm L 63 [.ptr 3 0,.int .i64 k,.list o1 (l.map vX),.list o2 (xy wc gs)] h=some res∧∃h',res=(we 1 a b (wg (λe=>wR s e 1) l),h')∧Kp h.length h h' by
  obtain⟨res,e1,h',e2,e3⟩:=H
  exact⟨h',by rw[e1,e2],e3⟩
 obtain⟨h1,c1,d8,k1,t1⟩:=LR hL h h4
 obtain⟨v,hx,c2,k2,hr⟩:=LV hL gs hg hn false h1
 have eZ:Kp h.length h hx:=k1.trans (k2.le k1.1)
 have tx:TopAt hx h1.length h.length (h.length+2) h.length (h.length+1) (.map none) (.list true []) .nilptr ⟨[],[],[],[]⟩ []:=t1.keep k2.2
 obtain⟨F,hF⟩:∃F,F=gs.flatten:=⟨_,rfl⟩
 have mo:F.length≤4500:=by rw[hF,LW]; exact hn
 rw[← hF] at hr di
 have dL:∀(V3 V5 V6 V7 V8 V9:PV) (g:Nat) (h':List PObj) (O:List Str),h1.length≤h'.length→Kp h.length hx h'→TopAt h' h1.length h.length (h.length+2) h.length (h.length+1) (.map none) (.list true []) .nilptr ⟨O,[],[],[]⟩ []→(∀x,x∈O↔x∈vV F) →
   wpL L FX ⟨[.ptr 3 0,.int .i64 k,.list false (l.map vX),V3,.ptr (h.length+2) 0,V5,V6,V7,V8,V9,.list false (l.map vX),.int .i64 l.length,.int .i64 0],[],g,h'⟩ (A5 2 (CJ L Dw λres=>∃h',res=(we 1 a b (wg (λe=>wR s e 1) l),h')∧Kp h.length h h')):=by
  intro V3 V5 V6 V7 V8 V9 g h' O eg cY t hO
  have dg:=eZ.trans cY
  refine b5J hL en ns a b ents k dj s eN l hl hw h' ((dg.2 2 (by omega)).trans h2) ((dg.2 3 (by omega)).trans h3) (.ptr (h.length+2) 0) [⟨O,[],[],[]⟩] (t.holds.up eg) (λx=>by simp[wZ,hO,di]) _ _ _ _ _ _ _ _ _ _ _ rfl rfl rfl ?_ ?_
  ·intro hz h'' y6 g' hk''
   rw[hz]
   simp[we,Dw]
   exact dg.trans (hk''.le dg.1)
  ·intro hz h'' W g' hk''
   simp[we,hz]
   exact dg.trans (hk''.le dg.1)
 refine Bp (hL 63 _ rfl) rfl ?_
 rcases hr with⟨rfl,rfl⟩|⟨kr,cs,sO,rfl,hk,dS,qZ⟩
 ·simp[Dw,c1,c2]
  rw[FV,zE]
  simp
  exact dL _ _ _ _ _ _ _ hx [] (by have:=k2.1; omega) (Kp.refl _ _) tx (by simp[vV])
 ·simp[Dw,c1,c2]
  refine b5j hL F mo hx h1.length h.length _ _ _ _ _ _ [] tx kr sO cs hk dS qZ _ _ _ _ _ _ _ _ _ _ ?_
  intro y5 g' h' O cK cY t hO
  simp
  exact dL _ _ _ _ _ _ _ h' O (by have:=k2.1; omega) cY t hO
end
section
variable {h:List PObj} {b b' n o d:Nat} {dv up:PV} {f:Fr} {fs:List Fr}
theorem TopAt.newI (t:TopAt h h.length b' n o d (.map none) dv up f fs) (hd:dv = .list true []) (hI:f.I=[]):
  TopAt ((h++[PObj.map []]).set n (PObj.cells [up,.map (some o),.map (some d),.map (some h.length),dv])) (h.length+1) b' n o d (.map (some h.length)) dv up f fs:=by
 have gX:=t.un
 have sP:=t.uo
 have uq:=t.ud
 have pL:=t.ln
 have key:∀k,k<h.length→k≠n→((h++[PObj.map []]).set n (PObj.cells [up,.map (some o),.map (some d),.map (some h.length),dv]))[k]? = h[k]? := λk h1 h2=>by
  rw[ak (Ne.symm h2),al h1]
 refine⟨t.ln,t.lo,t.ld,by omega,by omega,by omega,t.no,t.nd,t.od,t.four,?_,?_,?_,.inr ⟨h.length,rfl,by omega,by omega,by omega,by omega,by omega,?_⟩,?_,?_,?_⟩
 ·rw[a8 (by simp; omega)]
 ·rw[key o sP (Ne.symm t.no)]; exact t.ho
 ·rw[key d uq (Ne.symm t.nd)]; exact t.hd
 ·rw[hI,ak (by omega)]; simp[bmE]
 ·rcases t.row with h1|⟨k,e1,e2,e3,e4⟩
  ·exact .inl h1
  ·rw[hd] at e3; simp at e3
 ·intro k s a len e; rw[hd] at e; simp at e
 ·exact t.hup.keep λk hk=>key k (by omega) (by omega)
theorem TopAt.setI {m:Nat} (t:TopAt h b b' n o d (.map (some m)) dv up f fs) (I:List Str):h[m]? = some (.map (bmE f.I))∧b'≤m∧TopAt (h.set m (.map (bmE I))) b b' n o d (.map (some m)) dv up { f with I:=I } fs:=by
 have hi:=t.hi
 rcases hi with⟨h1,_⟩|⟨m',e1,e2,e3,e4,e5,e6,e7⟩
 ·simp at h1
 ·simp only[PV.map.injEq,aa] at e1
  subst e1
  have hl:=(aj.1 e7).1
  refine⟨e7,e2,t.ln,t.lo,t.ld,t.un,t.uo,t.ud,t.no,t.nd,t.od,t.four,?_,?_,?_,.inr ⟨m,rfl,e2,e3,e4,e5,e6,by rw[a8 hl]⟩,?_,t.rne,t.hup.keep λk dg=>ak (by omega)⟩
  ·rw[ak e4]; exact t.hn
  ·rw[ak e5]; exact t.ho
  ·rw[ak e6]; exact t.hd
  ·rcases t.row with h1|⟨k,e1,e2,e3,e4⟩
   ·exact .inl h1
   ·exact .inr ⟨k,e1,e2,e3,by rw[ak (λe=>(t.rne _ _ _ _ e3).2.2.2 (by rw[e]))]; exact e4⟩
end
section
variable {L:Nat→Option PFunc} (hL:∀k f,LS k=some f→L k=some f)
include hL
theorem b8A (l:List Decl) (hl:l.length≤1500) (h:List PObj) (q q' n o d m:Nat) (dv up:PV) (f:Fr) (fs:List Fr) (t:TopAt h q q' n o d (.map (some m)) dv up f fs) (hI:f.I=[])
  (V0 V1 V2 V4 V5 V6 V7 V8 V12 V13 V14 V15 V16 V17 V18 V19 V20:PV) (g:Nat) {Q:PExit→St→Prop}
  (ok:∀y4 g' h' I,h'.length=h.length→Kp q' h h'→TopAt h' q q' n o d (.map (some m)) dv up { f with I:=I } fs→(∀x,x∈I↔x∈vV l)→Q (.exit 0) ⟨[V0,V1,V2,.ptr n 0,y4,V5,V6,V7,V8,.list false (l.map wc),.int .i64 l.length,.int .i64 l.length,V12,V13,V14,V15,V16,V17,V18,V19,V20],[],g',h'⟩):
  wpL L Io ⟨[V0,V1,V2,.ptr n 0,V4,V5,V6,V7,V8,.list false (l.map wc),.int .i64 l.length,.int .i64 0,V12,V13,V14,V15,V16,V17,V18,V19,V20],[],g,h⟩ Q:=by
 rw[Io]
 refine wS l.length (λj st=>∃y4 g' h' I,st=⟨[V0,V1,V2,.ptr n 0,y4,V5,V6,V7,V8,.list false (l.map wc),.int .i64 l.length,.int .i64 j,V12,V13,V14,V15,V16,V17,V18,V19,V20],[],g',h'⟩∧h'.length=h.length∧Kp q' h h'∧TopAt h' q q' n o d (.map (some m)) dv up { f with I:=I } fs∧∀x,x∈I↔x∈vV (l.take j)) ?_ ?_ ⟨_,_,h,[],rfl,rfl,Kp.refl _ _,by rw[← hI]; exact t,by simp[vV]⟩
 ·rintro j hj st ⟨y4,g',h',I,rfl,cK,cY,t,hI⟩ ih
  have hw:=wk j (by omega)
  obtain⟨r,hr,_,gJ⟩:=A4 l[j].name I
  have e1:=t.hn
  obtain⟨e2,e3,t2⟩:=t.setI (zn I l[j].name)
  simp only[] at e1 e2
  simp[hj,hw,e1,e2,hr,wP]
  refine ih _ ⟨_,_,_,zn I l[j].name,rfl,by simpa using cK,cY.trans (Kp.set e3),by rw[gJ]; exact t2,λx =>?_⟩
  rw[FW,hI,yO hj,FU hL,aw]
  simp[vV]
 ·rintro st ⟨y4,g',h',I,rfl,cK,cY,t,hI⟩
  rw[aB] at hI
  simp
  exact ok _ _ _ _ cK cY t hI
theorem b6I (s:Place) (q:Eqn) (qs:List Eqn) (k:Nat) (d:List Str):zQ s (q::qs) k d=if (ym s q d).1=0 then zQ s qs (k+1) (ym s q d).2 else .inl (k,(ym s q d).1):=by have _:=hL; rfl
variable (en:List Enum) (ns:List Node) (ents:xu)
theorem b8B (i:Nat) (dj:NodesIn ents ns i) (s:Place) (eN:s.before=ns.take i) (l:List Eqn) (hl:l.length≤1500) (hq:∀q∈l,QW q) (h:List PObj) (h2:h[2]? = some (wl ents)) (c:Int) (h3:h[3]? = some (wi en ns i c)) (q' n o d:Nat) (iv dv up:PV) (f:Fr) (t:TopAt h h.length q' n o d iv dv up f []) (di:∀x,wZ [f] x=true↔x∈s.vis)
  (hD:f.D=f.df) (dn:∀x,x∈f.I↔x∈s.inputs) (iI:f.df.length+(xe l).length≤1000000) (h0:f.df=[])
  (V2 V4 V5 V6 V7 V8 V9 V10 V11 V15 V16 V17 V18 V19 V20:PV) (g:Nat) {Q:PExit→St→Prop}
  (ok:∀df,zQ s l 0 [] = .inr df→∀y5 y6 g' h' c' dv',Kp q' h (h'.set 3 (wi en ns i c))→h'[3]? = some (wi en ns i c')→TopAt h' h'.length q' n o d iv dv' up { f with D:=df,df:=df } []→Q (.exit 2) ⟨[.ptr 3 0,.int .i64 i,V2,.ptr n 0,V4,y5,y6,V7,V8,V9,V10,V11,.list false (l.map ww),.int .i64 l.length,.int .i64 l.length,V15,V16,V17,V18,V19,V20],[],g',h'⟩)
  (no:∀k e,zQ s l 0 [] = .inl (k,e)→∀W g' h',Kp q' h (h'.set 3 (wi en ns i c))→Q (.boom (xk 1 i k e)) ⟨W,[],g',h'⟩):
  wpL L Ip ⟨[.ptr 3 0,.int .i64 i,V2,.ptr n 0,V4,V5,V6,V7,V8,V9,V10,V11,.list false (l.map ww),.int .i64 l.length,.int .i64 0,V15,V16,V17,V18,V19,V20],[],g,h⟩ Q:=by
 rw[Ip]
 have ur:∀{h':List PObj},Kp q' h (h'.set 3 (wi en ns i c))→h'[2]? = some (wl ents):=λ{h'} hk=>by
  have:=hk.2 2 (by have:=t.four; omega)
  rw[ak (by decide)] at this
  exact this.trans h2
 have h4q:=t.four
 refine wS l.length (λj st=>∃y5 y6 g' h' c' dv' df,st=⟨[.ptr 3 0,.int .i64 i,V2,.ptr n 0,V4,y5,y6,V7,V8,V9,V10,V11,.list false (l.map ww),.int .i64 l.length,.int .i64 j,V15,V16,V17,V18,V19,V20],[],g',h'⟩∧Kp q' h (h'.set 3 (wi en ns i c))∧h'[3]? = some (wi en ns i c')∧TopAt h' h'.length q' n o d iv dv' up { f with D:=df,df:=df } []∧zQ s l 0 []=zQ s (l.drop j) j df∧df.length+(xe (l.drop j)).length≤1000000) ?_ ?_ ⟨_,_,_,h,c,dv,[],rfl,⟨by simp,λk hk=>by
   by_cases im:k=3
   ·subst im; rw[a8 (aj.1 h3).1]; exact h3.symm
   ·rw[ak (Ne.symm im)]⟩,h3,by
   have:({ f with D:=[],df:=[] }:Fr)=f:=by cases f; simp only at hD h0; subst h0; subst hD; rfl
   rw[this]; exact t,rfl,by rw[h0] at iI; simpa using iI⟩
 ·rintro j hj st ⟨y5,y6,g',h',c',dv',df,rfl,cY,eG,t,hd,eg⟩ ih
  have hw:=wk j (by omega)
  have q8:=(aj.1 eG).1
  rw[aQ hj] at hd eg
  rw[b6I hL] at hd
  have lA:xe (l[j]::l.drop (j+1))=l[j].left++xe (l.drop (j+1)):=by unfold xe; rw[bl]
  rw[lA,ax] at eg
  have mr:(h'.set 3 (wi en ns i j))[3]? = some (wi en ns i j):=by rw[a8 q8]
  have kS:(h'.set 3 (wi en ns i j))[2]? = some (wl ents):=by rw[ak (by decide)]; exact ur cY
  have tH:TopAt (h'.set 3 (wi en ns i j)) (h'.set 3 (wi en ns i j)).length q' n o d iv dv' up { f with D:=df,df:=df } []:=by
   rw[bJ]
   have key:∀k,4≤k→(h'.set 3 (wi en ns i j))[k]? = h'[k]? := λk hk=>ak (by omega)
   exact⟨t.ln,t.lo,t.ld,t.un,t.uo,t.ud,t.no,t.nd,t.od,t.four,(key _ (by have:=t.ln; omega)).trans t.hn,(key _ (by have:=t.lo; omega)).trans t.ho,(key _ (by have:=t.ld; omega)).trans t.hd,t.hi.imp id (fun⟨m,e1,e2,e3,e4,e5,e6,e7⟩=>⟨m,e1,e2,e3,e4,e5,e6,(key _ (by omega)).trans e7⟩),t.row.imp id (fun⟨k,e1,e2,e3,e4⟩=>⟨k,e1,e2,e3,(key _ (by omega)).trans e4⟩),t.rne,t.hup⟩
  obtain⟨h'',hx,eZ,dp⟩:=LX hL en ns i j ents i dj s eN l[j] (hq _ (ai hj)) _ kS mr q' n o d iv dv' up { f with D:=df,df:=df } [] tH (λx=>by have:=di x; simpa[wZ] using this) [] rfl (λx=>by simp[yu,dn]) (by simp only; omega)
  simp only[be] at hx dp
  have fp:Kp q' h (h''.set 3 (wi en ns i c)):=by
   refine⟨by have:=cY.1; have:=eZ.1; simp at *; omega,λk hk =>?_⟩
   by_cases im:k=3
   ·subst im
    have:=eZ.1
    rw[a8 (by simp at this; omega)]; exact h3.symm
   ·rw[ak (Ne.symm im),eZ.2 k hk,ak (Ne.symm im)]
    have:=cY.2 k hk
    rwa [ak (Ne.symm im)] at this
  have h3'':h''[3]? = some (wi en ns i j):=(eZ.2 3 (by omega)).trans mr
  have dx:h'.set 3 (.cells [.list false (en.map wo),.list false (ns.map wE),.int .i64 i,.int .i64 j,.map (some 2)])=h'.set 3 (wi en ns i j):=rfl
  have lF:h'[3]? = some (.cells [.list false (en.map wo),.list false (ns.map wE),.int .i64 i,.int .i64 c',.map (some 2)]):=eG
  by_cases hz:(ym s l[j] df).1=0
  ·rw[ah hz] at hd
   obtain⟨dv2,df2,e1,t2⟩:=dp hz
   rw[hz] at hx
   simp[we] at hx
   simp[hj,lF,dx,hx,hw]
   have ut:df2.length=df.length+l[j].left.length:=by
    have h1:=(FY.1 (Prod.ext hz e1:ym s l[j] df=(0,df2))).1
    rw[h1,ax]
   exact ih _ ⟨_,_,_,h'',j,dv2,df2,rfl,fp,h3'',t2,by rw[hd,e1],by omega⟩
  ·rw[ae hz] at hd
   simp[we,hz] at hx
   simp[hj,lF,dx,hx]
   exact no _ _ hd _ _ _ fp
 ·rintro st ⟨y5,y6,g',h',c',dv',df,rfl,cY,eG,t,hd,eg⟩
  rw[aU (ao _)] at hd
  simp
  exact ok df hd _ _ _ _ _ _ cY eG t
end
section
variable {L:Nat→Option PFunc} (hL:∀k f,LS k=some f→L k=some f) (en:List Enum) (ns:List Node) (a b:Int) (ents:xu)
include hL
theorem b8C (k:Nat) (dj:NodesIn ents ns k) (s:Place) (eN:s.before=ns.take k) (dR:A6 ents s.tags) (l:List (List State)) (hl:l.length≤1500) (hq:∀x∈l,Ev L en ns a b ents x) (h:List PObj) (h2:h[2]? = some (wl ents)) (h3:h[3]? = some (wi en ns a b)) (q' n o d:Nat) (i dv up:PV) (f:Fr) (fs:List Fr) (t:TopAt h h.length q' n o d i dv up f fs) (di:∀x,wZ (f::fs) x=true↔x∈s.vis)
  (d0:List Str) (hD:f.D=f.df) (dn:∀x,(x∈f.I∨yu fs x=true)↔(x∈s.inputs∨x∈d0)) (iI:f.df.length+(wX l).length≤1000000)
  (V2 V4 V5 V6 V7 V8 V9 V10 V11 V12 V13 V14 V18 V19 V20:PV) (g:Nat) {Q:PExit→St→Prop}
  (ok:(wV s (d0++f.df) l).1=0→∀h' dv' df' y7 g',Kp q' h h'→(wV s (d0++f.df) l).2=d0++df'→TopAt h' h'.length q' n o d i dv' up { f with D:=df',df:=df' } fs→Q (.exit 4) ⟨[.ptr 3 0,.int .i64 k,V2,.ptr n 0,V4,V5,V6,y7,V8,V9,V10,V11,V12,V13,V14,.list false (l.map wq),.int .i64 l.length,.int .i64 l.length,V18,V19,V20],[],g',h'⟩)
  (no:(wV s (d0++f.df) l).1≠0→∀h' W g',Kp q' h h'→Q (.boom (xk 1 a b (wV s (d0++f.df) l).1)) ⟨W,[],g',h'⟩):
  wpL L Iq ⟨[.ptr 3 0,.int .i64 k,V2,.ptr n 0,V4,V5,V6,V7,V8,V9,V10,V11,V12,V13,V14,.list false (l.map wq),.int .i64 l.length,.int .i64 0,V18,V19,V20],[],g,h⟩ Q:=by
 rw[Iq]
 refine wS l.length (λj st=>∃y7 g' h' dv' df',st=⟨[.ptr 3 0,.int .i64 k,V2,.ptr n 0,V4,V5,V6,y7,V8,V9,V10,V11,V12,V13,V14,.list false (l.map wq),.int .i64 l.length,.int .i64 j,V18,V19,V20],[],g',h'⟩∧Kp q' h h'∧TopAt h' h'.length q' n o d i dv' up { f with D:=df',df:=df' } fs∧wV s (d0++f.df) l=wV s (d0++df') (l.drop j)∧df'.length+(wX (l.drop j)).length=f.df.length+(wX l).length) ?_ ?_ ⟨_,_,h,dv,f.df,rfl,Kp.refl _ _,by rw[Fr.same hD]; exact t,rfl,rfl⟩
 ·rintro j hj st ⟨y7,g',h',dv',df',rfl,cY,ht,da,cK⟩ ih
  have hw:=wk j (by omega)
  have fR:h'[2]? = some (wl ents):=(cY.2 2 (by have:=ht.four; omega)).trans h2
  have eG:h'[3]? = some (wi en ns a b):=(cY.2 3 (by have:=ht.four; omega)).trans h3
  have q9:(wX (l.drop j)).length=(wX [l[j]]).length+(wX (l.drop (j+1))).length:=by
   rw[aQ hj,CK,CK]; simp[wX]
  obtain⟨h'',hx,eZ,kC⟩:=hq _ (ai hj) k dj s eN dR h' fR eG q' n o d i dv' up _ fs ht (by intro x; exact di x) d0 rfl dn (by simp only; omega)
  simp only at hx kC
  rw[aQ hj,Ir] at da
  by_cases hz:(yn s (d0++df') l[j]).1=0
  ·obtain⟨dv'',df'',eo,gq⟩:=kC hz
   have gT:wV s (d0++f.df) l=wV s (d0++df'') (l.drop (j+1)):=by
    rw[da]
    unfold xY
    rw[ah hz]
    exact aD (λz=>wV s z (l.drop (j+1))) eo
   have dN:df''.length=df'.length+(wX [l[j]]).length:=by
    rw[LY hz] at eo
    have:=aD List.length eo
    simp at this
    omega
   rw[hz] at hx
   simp[we] at hx
   simp[hj,hx,hw]
   exact ih _ ⟨_,_,h'',dv'',df'',rfl,cY.trans eZ,gq,gT,by omega⟩
  ·rw[zF hz] at da
   simp[we,hz] at hx
   simp[hj,hx]
   have:=no (by rw[da]; exact hz) h''
   rw[da] at this
   exact this _ _ (cY.trans eZ)
 ·rintro st ⟨y7,g',h',dv',df',rfl,cY,ht,da,cK⟩
  rw[aU (ao _)] at da
  simp
  exact ok (by rw[da]; simp[wV]) h' dv' df' y7 g' cY (by rw[da]; simp[wV]) ht
theorem b8D (l:List Decl) (hl:l.length≤4500) (h:List PObj) (h3:h[3]? = some (wi en ns a b)) (q q' n o d:Nat) (i dv up:PV) (f:Fr) (fs:List Fr) (t:TopAt h q q' n o d i dv up f fs)
  (V1 V2 V4 V5 V6 V7 V8 V9 V10 V11 V12 V13 V14 V15 V16 V17:PV) (g:Nat) {Q:PExit→St→Prop}
  (ok:(∀x∈vV l,x∈f.D)→∀y8 g',Q (.exit 6) ⟨[.ptr 3 0,V1,V2,.ptr n 0,V4,V5,V6,V7,y8,V9,V10,V11,V12,V13,V14,V15,V16,V17,.list false (l.map wc),.int .i64 l.length,.int .i64 l.length],[],g',h⟩)
  (no:¬(∀x∈vV l,x∈f.D)→∀W g',Q (.boom (xk 1 a b 8)) ⟨W,[],g',h⟩):
  wpL L Is ⟨[.ptr 3 0,V1,V2,.ptr n 0,V4,V5,V6,V7,V8,V9,V10,V11,V12,V13,V14,V15,V16,V17,.list false (l.map wc),.int .i64 l.length,.int .i64 0],[],g,h⟩ Q:=by
 have hT:=Bq hL en ns a b h h3 8
 have hF:=Br hL en ns a b h h3 8
 have hn:=t.hn
 have hd:=t.hd
 rw[Is]
 refine wS l.length (λj st=>∃y8 g',st=⟨[.ptr 3 0,V1,V2,.ptr n 0,V4,V5,V6,V7,y8,V9,V10,V11,V12,V13,V14,V15,V16,V17,.list false (l.map wc),.int .i64 l.length,.int .i64 j],[],g',h⟩∧∀x∈vV (l.take j),x∈f.D) ?_ ?_ ⟨_,_,rfl,by simp[vV]⟩
 ·rintro j hj st ⟨y8,g',rfl,dr⟩ ih
  have hw:=wk j (by omega)
  obtain⟨r,hr,eY,_⟩:=A4 l[j].name f.D
  have fX:vV (l.take (j+1))=vV (l.take j)++[l[j].name]:=by rw[yO hj,FU hL]; rfl
  by_cases hx:l[j].name∈f.D
  ·simp[hx] at eY
   obtain⟨c,rfl⟩:=eY
   simp[hj,hn,hd,hr,wP,hT,hw]
   refine ih _ ⟨_,_,rfl,?_⟩
   rw[fX]
   intro x hm
   rcases aw.1 hm with h1|h1
   ·exact dr x h1
   ·rw[bg.1 h1]; exact hx
  ·simp[hx] at eY
   subst eY
   simp[hj,hn,hd,hr,wP,hF]
   exact no (λdq=>hx (dq _ (by unfold vV; exact aM.2 ⟨_,ai hj,rfl⟩))) _ _
 ·rintro st ⟨y8,g',rfl,dr⟩
  rw[aB] at dr
  simp
  exact ok dr _ _
end
theorem TopAt.low {h:List PObj} {b b' n o d:Nat} {i dv up:PV} {f:Fr} (t:TopAt h b b' n o d i dv up f []) (k:Nat) (hk:k<4) (ob:PObj):TopAt (h.set k ob) b b' n o d i dv up f []:=by
 have key:∀j,4≤j→(h.set k ob)[j]? = h[j]? := λj hj=>ak (by omega)
 have h4:=t.four
 exact⟨t.ln,t.lo,t.ld,t.un,t.uo,t.ud,t.no,t.nd,t.od,t.four,(key _ (by have:=t.ln; omega)).trans t.hn,(key _ (by have:=t.lo; omega)).trans t.ho,(key _ (by have:=t.ld; omega)).trans t.hd,t.hi.imp id (fun⟨m,e1,e2,e3,e4,e5,e6,e7⟩=>⟨m,e1,e2,e3,e4,e5,e6,(key _ (by omega)).trans e7⟩),t.row.imp id (fun⟨k,e1,e2,e3,e4⟩=>⟨k,e1,e2,e3,(key _ (by omega)).trans e4⟩),t.rne,t.hup⟩
def FZ (ents:xu) (ns:List Node) (i:Nat):Prop:=∀x,((1:Int),x)∈yo ents↔x∈(ns.take i).map (·.name)
section
variable {L:Nat→Option PFunc} (hL:∀k f,LS k=some f→L k=some f) (en:List Enum) (ns:List Node) (a b:Int) (ents:xu)
include hL
theorem c4j (i:Nat) (hi:i<ns.length) (jk:ns.length≤1500) (hn:NW ns[i]) (ma:ns[i].parts≤1500) (eR:∀d∈ns[i].ins++ns[i].outs,d.clock=[]) (tags:List Str) (dR:A6 ents tags) (dj:NodesIn ents ns i) (iT:FZ ents ns i) (h:List PObj) (h4:4≤h.length) (h2:h[2]? = some (wl ents)) (h3:h[3]? = some (wi en ns a b)):
  ∃h',wm L 29 [.ptr 3 0,.int .i64 i] h=some (xz 1 (zG (ns.take i) tags ns[i]),h')∧h'[0]? = h[0]?∧h'[1]? = h[1]?∧4≤h'.length∧(zG (ns.take i) tags ns[i]=none→h'[2]? = some (wl (ents++[((1,ns[i].name),(i:Int))]))∧h'[3]? = some (wi en ns i (-1))):=by
 obtain⟨N,hN⟩:∃N,N=ns[i]:=⟨_,rfl⟩
 rw[← hN] at hn ma eR ⊢
 have cK:(ns.take i).length=i:=by simp; omega
 obtain⟨R,hR⟩:∃R,R=zG (ns.take i) tags N:=⟨_,rfl⟩
 rw[← hR]
 suffices H:∃res,wm L 29 [.ptr 3 0,.int .i64 i] h=some res∧∃h',res=(xz 1 R,h')∧h'[0]? = h[0]?∧h'[1]? = h[1]?∧4≤h'.length∧(R=none→h'[2]? = some (wl (ents++[((1,N.name),(i:Int))]))∧h'[3]? = some (wi en ns i (-1))) by
  obtain⟨res,e1,h',e2,e3⟩:=H
  exact⟨h',by rw[e1,e2],e3⟩
 have lF:h[3]? = some (.cells [.list false (en.map wo),.list false (ns.map wE),.int .i64 a,.int .i64 b,.map (some 2)]):=h3
 have hA:∀X:PObj,(h++[X])[3]? = some (.cells [.list false (en.map wo),.list false (ns.map wE),.int .i64 a,.int .i64 b,.map (some 2)]):=λX=>by rw[al (by omega)]; exact lF
 obtain⟨H1,lG⟩:∃H1,(h++[PObj.cells [.str N.name,.list false (N.ins.map wc),.list false (N.outs.map wc),.list false (N.locals.map wc),.list false (N.eqs.map ww),.list false (N.autos.map wq),.list false (N.assume.map vX),.list false (N.ensure.map vX)]]).set 3 (PObj.cells [.list false (en.map wo),.list false (ns.map wE),.int .i64 i,.int .i64 (-1),.map (some 2)])=H1:=⟨_,rfl⟩
 have H1l:H1.length=h.length+1:=by rw[← lG]; simp
 have H1k:∀k,k<h.length→k≠3→H1[k]? = h[k]? := λk h1 h2=>by rw[← lG,ak (Ne.symm h2),al h1]
 have H13:H1[3]? = some (wi en ns i (-1)):=by rw[← lG,a8 (by simp; omega)]; rfl
 have H12:H1[2]? = some (wl ents):=(H1k 2 (by omega) (by decide)).trans h2
 have H1n:H1[h.length]? = some (.cells [.str N.name,.list false (N.ins.map wc),.list false (N.outs.map wc),.list false (N.locals.map wc),.list false (N.eqs.map ww),.list false (N.autos.map wq),.list false (N.assume.map vX),.list false (N.ensure.map vX)]):=by rw[← lG,ak (by omega)]; simp
 have nX:∀d∈vars N,DW d:=by
  intro d hd
  unfold vars at hd
  rcases aw.1 hd with hd|hd
  ·rcases aw.1 hd with hd|hd
   ·exact hn.is d hd
   ·exact hn.os d hd
  ·exact hn.ls d hd
 have nY:(vars N).length≤4500:=by have:=hn.ins; have:=hn.outs; have:=hn.locals; simp[vars]; omega
 by_cases kT:N.name∈(ns.take i).map (·.name)
 ·have uu:R=some ⟨i,-1,7⟩:=by rw[hR]; unfold zG; rw[ah kT,cK]
  have dA:=It hL en ns i (-1) H1 H13 ents H12 (1,N.name) i ((iT _).2 kT)
  have eO:yP (1,N.name) = .agg [.int .i64 1,.str N.name]:=rfl
  rw[eO] at dA
  refine Bp (hL 29 _ rfl) rfl ?_
  simp[Dx,lF,hi,← hN,hA,lG,H1n,dA,uu,xz]
  exact⟨H1k 0 (by omega) (by decide),H1k 1 (by omega) (by decide),by omega⟩
 have dA:=Iu hL en ns i (-1) H1 H13 ents H12 (1,N.name) i (λhh=>kT ((iT _).1 hh))
 have eO:yP (1,N.name) = .agg [.int .i64 1,.str N.name]:=rfl
 rw[eO] at dA
 obtain⟨ents',j4⟩:∃e,e=ents++[((1,N.name),(i:Int))]:=⟨_,rfl⟩
 rw[← j4] at dA ⊢
 obtain⟨H3,mr⟩:∃H3,H3=H1.set 2 (wl ents'):=⟨_,rfl⟩
 rw[← mr] at dA
 have H3l:H3.length=h.length+1:=by rw[mr]; simpa using H1l
 have H3k:∀k,k<H1.length→k≠2→H3[k]? = H1[k]? := λk h1 h2=>by rw[mr,ak (Ne.symm h2)]
 have H32:H3[2]? = some (wl ents'):=by rw[mr,a8 (by omega)]
 have H33:H3[3]? = some (wi en ns i (-1)):=(H3k 3 (by omega) (by decide)).trans H13
 have H3n:=(H3k h.length (by omega) (by omega)).trans H1n
 have H30:H3[0]? = h[0]? := (H3k 0 (by omega) (by decide)).trans (H1k 0 (by omega) (by decide))
 have H31:H3[1]? = h[1]? := (H3k 1 (by omega) (by decide)).trans (H1k 1 (by omega) (by decide))
 have nZ:A6 ents' tags:=by
  intro x
  rw[j4,← dR x]
  simp[yo]
 have gt:NodesIn ents' ns i:=by
  have jr:∀x:Str,xZ (1,x) ents'=(xZ (1,x) ents).or (if x=N.name then some (i:Int) else none):=by
   intro x
   rw[j4]
   generalize ents=l
   induction l with
   | nil=>by_cases hx:x=N.name<;>simp[xZ,hx]
   | cons y l ih =>
     simp only[ba,xZ]
     by_cases hy:((1:Int),x)=y.1
     ·rw[ah hy,ah hy]; rfl
     ·rw[ae hy,ae hy]; exact ih
  intro x
  have hx:=dj x
  cases hc:callee (ns.take i) x with
  | none =>
    rw[hc] at hx
    simp only at hx ⊢
    intro c eB
    rw[jr] at eB
    cases he:xZ (1,x) ents with
    | some z =>
      rw[he] at eB
      have eB:z=c:=by simpa using eB
      subst eB
      exact hx z he
    | none =>
      rw[he] at eB
      rw[Option.none_or] at eB
      split at eB
      ·have:(i:Int)=c:=by simpa using eB
       omega
      ·simp at eB
  | some m =>
    rw[hc] at hx
    obtain⟨j,e1,e2,e3⟩:=hx
    exact⟨j,by rw[jr,e1]; rfl,e2,e3⟩
 obtain⟨H4,dn,H4l,K4,t4⟩:=LR hL H3 (by omega)
 obtain⟨H5,mZ⟩:∃H5,(H4++[PObj.map []]).set (H3.length+2) (PObj.cells [.nilptr,.map (some H3.length),.map (some (H3.length+1)),.map (some H4.length),.list true []])=H5:=⟨_,rfl⟩
 have e5:(H4++[PObj.map []])[H3.length+2]? = some (.cells [.nilptr,.map (some H3.length),.map (some (H3.length+1)),.map none,.list true []]):=by rw[al (by omega)]; exact t4.hn
 have t5:=t4.newI rfl rfl
 rw[mZ] at t5
 have H5l:H5.length=H4.length+1:=by rw[← mZ]; simp
 rw[← H5l] at t5
 have K5:Kp H3.length H3 H5:=by
  refine⟨by omega,λk hk =>?_⟩
  rw[← mZ,ak (by omega),al (by omega)]
  exact K4.2 k hk
 have at5:∀{H:List PObj},Kp H3.length H3 H→H[2]? = some (wl ents')∧H[3]? = some (wi en ns i (-1))∧H[0]? = h[0]?∧H[1]? = h[1]?∧4≤H.length∧H[h.length]? = some (.cells [.str N.name,.list false (N.ins.map wc),.list false (N.outs.map wc),.list false (N.locals.map wc),.list false (N.eqs.map ww),.list false (N.autos.map wq),.list false (N.assume.map vX),.list false (N.ensure.map vX)]):=λ{H} hk=>
  ⟨(hk.2 2 (by omega)).trans H32,(hk.2 3 (by omega)).trans H33,(hk.2 0 (by omega)).trans H30,(hk.2 1 (by omega)).trans H31,by have:=hk.1; omega,(hk.2 _ (by omega)).trans H3n⟩
 obtain⟨a52,a53,a50,a51,a54,a5n⟩:=at5 K5
 obtain⟨hv,v1⟩:=c4H hL N hn.ins hn.outs hn.locals (λd hd=>(nX d hd).clock)
 obtain⟨H6,O,gl,K6,H6l,t6,rc⟩:=LZ hL en ns i (-1) ents' tags nZ (vars N) nY false H5 a52 a53 _ _ _ _ _ _ _ _ _ _ t5 [] (λx=>by simp[wZ])
 have K6':=K5.trans K6
 obtain⟨a62,a63,a60,a61,a64,a6n⟩:=at5 K6'
 have hE:zG (ns.take i) tags N=if (ye [] tags (vars N)).1≠0 then some ⟨i,-1,(ye [] tags (vars N)).1⟩ else match zQ ⟨ns.take i,(ye [] tags (vars N)).2,vV N.ins,tags⟩ N.eqs 0 [] with
   | .inl (k,e)=>some ⟨i,k,e⟩
   | .inr d =>
     if (wV ⟨ns.take i,(ye [] tags (vars N)).2,vV N.ins,tags⟩ d N.autos).1≠0 then some ⟨i,-1,(wV ⟨ns.take i,(ye [] tags (vars N)).2,vV N.ins,tags⟩ d N.autos).1⟩
     else if wg (λe=>wR ⟨ns.take i,vV N.ins,vV N.ins,tags⟩ e 1) N.assume≠0 then some ⟨i,-1,wg (λe=>wR ⟨ns.take i,vV N.ins,vV N.ins,tags⟩ e 1) N.assume⟩
     else if wg (λe=>wR ⟨ns.take i,vV N.ins++vV N.outs,vV N.ins,tags⟩ e 1) N.ensure≠0 then some ⟨i,-1,wg (λe=>wR ⟨ns.take i,vV N.ins++vV N.outs,vV N.ins,tags⟩ e 1) N.ensure⟩
     else if wM (vV N.outs++vV N.locals) (wV ⟨ns.take i,(ye [] tags (vars N)).2,vV N.ins,tags⟩ d N.autos).2=[] then none else some ⟨i,-1,8⟩:=by
  unfold zG
  rw[ae kT,cK]
  rfl
 rw[hE] at hR
 refine Bp (hL 29 _ rfl) rfl ?_
 by_cases m2:(xq tags (vars N) []).1=0
 ·obtain⟨re,hO6⟩:=rc m2
  obtain⟨vis,di⟩:∃vis,vis=(xq tags (vars N) []).2:=⟨_,rfl⟩
  rw[← di] at re
  have j5:=L1 hL en ns i (-1) N.locals (by have:=hn.locals; omega) hn.ls false H6 a63 _ _ _ t6.holds vis re
  have mt:AI vis (vars N)=AI vis N.locals:=by
   unfold AI vars
   rw[L2]
   have:wg (λd:Decl=>wg (λo:On=>need (decide (o.name∈vis)) 6) d.clock) (N.ins++N.outs)=0:=ze.2 λd hd=>by rw[eR d hd]; rfl
   rw[this]; rfl
  have rg:ye [] tags (vars N)=(AI vis N.locals,vis):=by
   unfold ye xY
   rw[ah m2,← di]
   exact aD (λz=>(z,vis)) mt
  rw[rg] at hR
  rw[m2] at gl
  simp[we] at gl
  by_cases rh:AI vis N.locals=0
  ·rw[rh] at hR j5
   simp only[ne_eq,bh,if_false] at hR
   simp[we] at j5
   obtain⟨S,hS⟩:∃S:Place,S=⟨ns.take i,vis,vV N.ins,tags⟩:=⟨_,rfl⟩
   rw[← hS] at hR
   simp[Dx,lF,hi,← hN,hA,lG,H1n,dA,dn,e5,mZ,a5n,v1,gl,a6n,j5]
   have t6':TopAt H6 H5.length H3.length (H3.length+2) H3.length (H3.length+1) (.map (some H4.length)) (.list true []) .nilptr ⟨O,[],[],[]⟩ []:=t6
   have ri:N.parts=1+vT Decl.parts N.ins+vT Decl.parts N.outs+vT Decl.parts N.locals+vT Eqn.parts N.eqs+vT (λe=>1+Expr.parts e) N.assume+vT (λe=>1+Expr.parts e) N.ensure+xh N.autos:=rfl
   have js:=Iv N.eqs
   have hdp:=Iw N.autos (λa ha x hx=>F0 x)
   refine b8A hL N.ins hn.ins H6 H5.length H3.length _ _ _ H4.length _ _ _ [] t6' rfl _ _ _ _ _ _ _ _ _ _ _ _ _ _ _ _ _ _ ?_
   intro y4 g7 H7 I H7l K7 t7 hI
   obtain⟨a72,a73,a70,a71,a74,a7n⟩:=at5 (K6'.trans K7)
   have H7l':H5.length=H7.length:=by omega
   rw[H7l'] at t7
   have t7':TopAt H7 H7.length H3.length (H3.length+2) H3.length (H3.length+1) (.map (some H4.length)) (.list true []) .nilptr ⟨O,[],I,[]⟩ []:=t7
   have jG:∀D df x,wZ [(⟨O,D,I,df⟩:Fr)] x=true↔x∈S.vis:=λD df x=>by have:=re x; rw[hS]; simpa[wZ] using this
   simp[a7n]
   refine b8B hL en ns ents' i gt S (by rw[hS]) N.eqs hn.eqs hn.es H7 a72 (-1) a73 H3.length _ _ _ _ _ _ _ t7' (jG _ _) rfl (λx=>by rw[hS]; exact hI x) (by simp only[bO]; omega) rfl _ _ _ _ _ _ _ _ _ _ _ _ _ _ _ _ ?_ ?_
   ·intro df d9 y5 y6 g8 H8 c8 dv8 K8 uv t8
    rw[d9] at hR
    simp only at hR
    have uw:df.length≤1500:=by
     have h1:=((A7 S N.eqs [] df).1 ((F1 S N.eqs 0 [] df).1 d9)).1
     rw[h1,be]; omega
    have rj:H8[3]? = some (.cells [.list false (en.map wo),.list false (ns.map wE),.int .i64 i,.int .i64 c8,.map (some 2)]):=uv
    obtain⟨H9,pM⟩:∃H9,H8.set 3 (PObj.cells [.list false (en.map wo),.list false (ns.map wE),.int .i64 i,.int .i64 (-1),.map (some 2)])=H9:=⟨_,rfl⟩
    have K9:Kp H3.length H7 H9:=by rw[← pM]; exact K8
    have t9:TopAt H9 H9.length H3.length (H3.length+2) H3.length (H3.length+1) (.map (some H4.length)) dv8 .nilptr ⟨O,df,I,df⟩ []:=by
     have:=t8.low 3 (by decide) (PObj.cells [.list false (en.map wo),.list false (ns.map wE),.int .i64 i,.int .i64 (-1),.map (some 2)])
     rw[pM] at this
     have hl:H8.length=H9.length:=by rw[← pM]; simp
     rw[hl] at this
     exact this
    obtain⟨a92,a93,a90,a91,a94,a9n⟩:=at5 ((K6'.trans K7).trans K9)
    simp[rj,pM,a9n]
    refine b8C hL en ns i (-1) ents' i gt S (by rw[hS]) (by rw[hS]; exact nZ) N.autos hn.autos.len (λx hx=>c2c hL en ns i (-1) ents' x (hn.autos.as x hx) (hn.autos.ss x hx) (λy hy=>by
     have h1:zB x≤xh N.autos:=by
      rw[CL,Bs]
      have:=zR (λa=>1+vT State.parts a) hx
      omega
     have h2:y.parts≤zB x:=by rw[Bs]; exact zR _ hy
     omega)) H9 a92 a93 H3.length _ _ _ _ _ _ _ [] t9 (jG _ _) [] rfl (λx=>by rw[hS]; simp[yu,hI]) (by simp only; omega) _ _ _ _ _ _ _ _ _ _ _ _ _ _ _ _ ?_ ?_
    ·intro hz kU dv10 df10 y7 g10 K10 lH t10
     simp only[be] at hz lH
     have t10':TopAt kU kU.length H3.length (H3.length+2) H3.length (H3.length+1) (.map (some H4.length)) dv10 .nilptr ⟨O,df10,I,df10⟩ []:=t10
     rw[hz,lH] at hR
     simp only[ne_eq,bh,if_false] at hR
     have K10':=((K6'.trans K7).trans K9).trans K10
     obtain⟨a102,a103,a100,a101,a104,a10n⟩:=at5 K10'
     obtain⟨H11,c11,K11⟩:=LU hL en ns i (-1) ents' i gt ⟨ns.take i,vV N.ins,vV N.ins,tags⟩ rfl N.assume hn.assume hn.as [N.ins] (by simp) (by simp[xj,vT]; have:=hn.ins; omega) (λx=>by simp) false false kU a104 a102 a103
     have kA:xy wc [N.ins]=[.list false (N.ins.map wc)]:=rfl
     rw[kA] at c11
     have K11':=K10'.trans (K11.le K10'.1)
     by_cases mu:wg (λe=>wR ⟨ns.take i,vV N.ins,vV N.ins,tags⟩ e 1) N.assume=0
     ·rw[mu] at hR c11
      simp only[bh,if_false] at hR
      simp[we] at c11
      obtain⟨a112,a113,a110,a111,a114,a11n⟩:=at5 K11'
      obtain⟨H12,c12,K12⟩:=LU hL en ns i (-1) ents' i gt ⟨ns.take i,vV N.ins++vV N.outs,vV N.ins,tags⟩ rfl N.ensure hn.ensure hn.gs [N.ins,N.outs] (by simp) (by simp[xj,vT]; have:=hn.ins; have:=hn.outs; omega) (λx=>by simp[vV]) false false H11 a114 a112 a113
      have gb:xy wc [N.ins,N.outs]=[.list false (N.ins.map wc),.list false (N.outs.map wc)]:=rfl
      rw[gb] at c12
      have K12':=K11'.trans (K12.le K11'.1)
      by_cases mw:wg (λe=>wR ⟨ns.take i,vV N.ins++vV N.outs,vV N.ins,tags⟩ e 1) N.ensure=0
      ·rw[mw] at hR c12
       simp only[bh,if_false] at hR
       simp[we] at c12
       obtain⟨a122,a123,a120,a121,a124,a12n⟩:=at5 K12'
       have t12:=t10'.keep (K11.trans (K12.le K11.1)).2
       have rk:N.ins.length≤(vars N).length:=by simp[vars]
       have oa:List.drop N.ins.length (List.take (vars N).length (List.map wc (vars N)))=(N.outs++N.locals).map wc:=by
        rw[bP (by simp),← List.map_drop]
        congr 1
        simp[vars]
       obtain⟨G,hG⟩:∃G,G=N.outs++N.locals:=⟨_,rfl⟩
       have ux:vV G=vV N.outs++vV N.locals:=by rw[hG,FU hL]
       have uy:G.length≤4500:=by rw[hG]; have:=hn.outs; have:=hn.locals; simp; omega
       rw[← hG] at oa
       rw[← ux] at hR
       simp[a10n,c11,a11n,c12,a12n,v1,rk,oa]
       refine b8D hL en ns i (-1) G uy H12 a123 _ _ _ _ _ _ _ _ _ _ t12 _ _ _ _ _ _ _ _ _ _ _ _ _ _ _ _ _ ?_ ?_
       ·intro dq y8 g'
        rw[ah (Ci.2 dq)] at hR
        simp[hR,xz]
        exact⟨a120,a121,a124,a122,a123⟩
       ·intro dq W g'
        rw[ae (λhh=>dq (Ci.1 hh))] at hR
        simp[hR,xz]
        exact⟨a120,a121,a124⟩
      ·rw[ah mw] at hR
       simp[we,mw] at c12
       simp[a10n,c11,a11n,c12,hR,xz]
       obtain⟨_,_,b0,b1,b4,_⟩:=at5 K12'
       exact⟨b0,b1,b4⟩
     ·rw[ah mu] at hR
      simp[we,mu] at c11
      simp[a10n,c11,hR,xz]
      obtain⟨_,_,b0,b1,b4,_⟩:=at5 K11'
      exact⟨b0,b1,b4⟩
    ·intro hz h' W g' K'
     simp only[be] at hz
     rw[ah hz] at hR
     obtain⟨b2,b3,b0,b1,b4,bn⟩:=at5 (((K6'.trans K7).trans K9).trans K')
     simp[hR,xz]
     exact⟨b0,b1,b4⟩
   ·intro k e rm W g' H' K'
    rw[rm] at hR
    simp only at hR
    obtain⟨b2,b3,b0,b1,b4,bn⟩:=at5 ((K6'.trans K7).trans K')
    rw[ak (by decide)] at b0 b1
    simp[hR,xz]
    exact⟨b0,b1,by simpa using b4⟩
  ·simp only[ne_eq,rh,cm,if_true] at hR
   simp[we,rh] at j5
   simp[Dx,lF,hi,← hN,hA,lG,H1n,dA,dn,e5,mZ,a5n,v1,gl,a6n,j5,hR,xz]
   exact⟨a60,a61,a64⟩
 ·have rg:(ye [] tags (vars N)).1=(xq tags (vars N) []).1:=by unfold ye xY; rw[ae m2]
  rw[rg,ah m2] at hR
  simp[we,m2] at gl
  simp[Dx,lF,hi,← hN,hA,lG,H1n,dA,dn,e5,mZ,a5n,v1,gl,hR,xz]
  exact⟨a60,a61,a64⟩
end
structure EnumKeys (ents:xu) (T Nm:List Str):Prop where
 tags:∀x,((0:Int),x)∈yo ents↔x∈T
 nodes:∀x,((1:Int),x)∉yo ents
 types:∀x,((2:Int),x)∈yo ents↔x∈Nm
theorem EnumKeys.tag {ents:xu} {T Nm:List Str} (h:EnumKeys ents T Nm) (s:Str) (i:Int):EnumKeys (ents++[((0,s),i)]) (T++[s]) Nm:=by
 have hk:∀k,k∈yo (ents++[(((0:Int),s),i)])↔k∈yo ents∨k=(0,s):=by simp[yo]
 refine⟨λx =>?_,λx =>?_,λx =>?_⟩
 ·rw[hk,h.tags]; simp
 ·rw[hk]; simp[h.nodes x]
 ·rw[hk,h.types]; simp
theorem EnumKeys.type {ents:xu} {T Nm:List Str} (h:EnumKeys ents T Nm) (s:Str) (i:Int):EnumKeys (ents++[((2,s),i)]) T (Nm++[s]):=by
 have hk:∀k,k∈yo (ents++[(((2:Int),s),i)])↔k∈yo ents∨k=(2,s):=by simp[yo]
 refine⟨λx =>?_,λx =>?_,λx =>?_⟩
 ·rw[hk,h.tags]; simp
 ·rw[hk]; simp[h.nodes x]
 ·rw[hk,h.types]; simp
section
variable {L:Nat→Option PFunc} (hL:∀k f,LS k=some f→L k=some f) (en:List Enum) (ns:List Node)
include hL
theorem b6J (i:Nat) (l:List Str) (hl:l.length≤1500) (T Nm:List Str) (hT:T.Nodup) (ents:xu) (hk:EnumKeys ents T Nm) (c0 c1:PObj) (V0 V1 V2 V3 V4 V5 V8 V9 V10 V11 V12 V13 V14 V18 V19:PV) (g:Nat) {Q:PExit→St→Prop}
  (ok:(T++l).Nodup→∀y9 ents',EnumKeys ents' (T++l) Nm→Q (.exit 2) ⟨[V0,V1,V2,V3,V4,V5,.ptr 3 0,.int .i64 i,V8,y9,V10,V11,V12,V13,V14,.list false (l.map .str),.int .i64 l.length,.int .i64 l.length,V18,V19],[],g,[c0,c1,wl ents',wi en ns (-1) (-1)]⟩)
  (no:¬(T++l).Nodup→∀W o2 o3,W[2]? = some V2→W[3]? = some V3→Q (.boom (xk 1 (-1) (-1) 7)) ⟨W,[],g,[c0,c1,o2,o3]⟩):
  wpL L Ix ⟨[V0,V1,V2,V3,V4,V5,.ptr 3 0,.int .i64 i,V8,V9,V10,V11,V12,V13,V14,.list false (l.map .str),.int .i64 l.length,.int .i64 0,V18,V19],[],g,[c0,c1,wl ents,wi en ns (-1) (-1)]⟩ Q:=by
 rw[Ix]
 refine wS l.length (λj st=>∃y9 ents',st=⟨[V0,V1,V2,V3,V4,V5,.ptr 3 0,.int .i64 i,V8,y9,V10,V11,V12,V13,V14,.list false (l.map .str),.int .i64 l.length,.int .i64 j,V18,V19],[],g,[c0,c1,wl ents',wi en ns (-1) (-1)]⟩∧EnumKeys ents' (T++l.take j) Nm∧∀k (hk:k<l.length),k<j→l[k]∉T++l.take k) ?_ ?_ ⟨_,ents,rfl,by simpa using hk,λk _ h=>by omega⟩
 ·rintro j hj st ⟨y9,ents',rfl,hk,dr⟩ ih
  have hw:=wk j (by omega)
  by_cases hd:l[j]∈T++l.take j
  ·have dA:=It hL en ns (-1) (-1) [c0,c1,wl ents',wi en ns (-1) (-1)] rfl ents' rfl (0,l[j]) i ((hk.tags _).2 hd)
   have eO:yP (0,l[j]) = .agg [.int .i64 0,.str l[j]]:=rfl
   rw[eO] at dA
   simp[hj,dA]
   exact no (λhn=>(L3.1 hn).2 j hj hd) _ _ _ rfl rfl
  ·have dA:=Iu hL en ns (-1) (-1) [c0,c1,wl ents',wi en ns (-1) (-1)] rfl ents' rfl (0,l[j]) i (λhh=>hd ((hk.tags _).1 hh))
   have eO:yP (0,l[j]) = .agg [.int .i64 0,.str l[j]]:=rfl
   have dx:[c0,c1,wl ents',wi en ns (-1) (-1)].set 2 (wl (ents'++[((0,l[j]),(i:Int))]))=[c0,c1,wl (ents'++[((0,l[j]),(i:Int))]),wi en ns (-1) (-1)]:=rfl
   rw[eO,dx] at dA
   simp[hj,dA,hw]
   refine ih _ ⟨_,_,rfl,?_,λk kL uz =>?_⟩
   ·rw[yO hj,← aJ]; exact hk.tag _ _
   ·by_cases he:k=j
    ·subst he; exact hd
    ·exact dr k kL (by omega)
 ·rintro st ⟨y9,ents',rfl,hk,dr⟩
  rw[aB] at hk
  simp
  exact ok (L3.2 ⟨hT,λk hk=>dr k hk hk⟩) _ _ hk
theorem b6K (he:en.length≤1500) (nE:∀u∈en,u.tags.length≤1500) (c0 c1:PObj) (V0 V1 V2 V3 V4 V5 V7 V8 V9 V10 V11 V15 V16 V17 V18 V19:PV) (g:Nat) {Q:PExit→St→Prop}
  (ok:Bt en=true→∀y7 y8 y9 y15 y16 y17 g' ents',EnumKeys ents' (yQ en) (en.map (·.name))→Q (.exit 0) ⟨[V0,V1,V2,V3,V4,V5,.ptr 3 0,y7,y8,y9,V10,V11,.list false (en.map wo),.int .i64 en.length,.int .i64 en.length,y15,y16,y17,V18,V19],[],g',[c0,c1,wl ents',wi en ns (-1) (-1)]⟩)
  (no:Bt en=false→∀W g' o2 o3,W[2]? = some V2→W[3]? = some V3→Q (.boom (xk 1 (-1) (-1) 7)) ⟨W,[],g',[c0,c1,o2,o3]⟩):
  wpL L Iy ⟨[V0,V1,V2,V3,V4,V5,.ptr 3 0,V7,V8,V9,V10,V11,.list false (en.map wo),.int .i64 en.length,.int .i64 0,V15,V16,V17,V18,V19],[],g,[c0,c1,wl [],wi en ns (-1) (-1)]⟩ Q:=by
 have oc:∀j (hj:j<en.length),BR en j en[j]=false→Bt en=false:=by
  intro j hj h1
  cases h:Bt en with
  | false=>rfl
  | true=>rw[L4.1 h j hj] at h1; simp at h1
 rw[Iy]
 refine wS en.length (λj st=>∃y7 y8 y9 y15 y16 y17 g' ents',st=⟨[V0,V1,V2,V3,V4,V5,.ptr 3 0,y7,y8,y9,V10,V11,.list false (en.map wo),.int .i64 en.length,.int .i64 j,y15,y16,y17,V18,V19],[],g',[c0,c1,wl ents',wi en ns (-1) (-1)]⟩∧EnumKeys ents' (yQ (en.take j)) ((en.take j).map (·.name))∧∀k (hk:k<en.length),k<j→BR en k en[k]=true) ?_ ?_ ⟨_,_,_,_,_,_,_,[],rfl,⟨by simp[yo,yQ],by simp[yo],by simp[yo]⟩,λk _ h=>by omega⟩
 ·rintro j hj st ⟨y7,y8,y9,y15,y16,y17,g',ents',rfl,hk,dr⟩ ih
  have hw:=wk j (by omega)
  have uA:=nE _ (ai hj)
  by_cases hd:en[j].name∈(en.take j).map (·.name)
  ·have dA:=It hL en ns (-1) (-1) [c0,c1,wl ents',wi en ns (-1) (-1)] rfl ents' rfl (2,en[j].name) j ((hk.types _).2 hd)
   have eO:yP (2,en[j].name) = .agg [.int .i64 2,.str en[j].name]:=rfl
   rw[eO] at dA
   simp[hj,dA]
   exact no (oc j hj (by unfold BR; simp only[bZ]; exact λh=>h.1 hd)) _ _ _ _ rfl rfl
  ·have dA:=Iu hL en ns (-1) (-1) [c0,c1,wl ents',wi en ns (-1) (-1)] rfl ents' rfl (2,en[j].name) j (λhh=>hd ((hk.types _).1 hh))
   have eO:yP (2,en[j].name) = .agg [.int .i64 2,.str en[j].name]:=rfl
   have dx:[c0,c1,wl ents',wi en ns (-1) (-1)].set 2 (wl (ents'++[((2,en[j].name),(j:Int))]))=[c0,c1,wl (ents'++[((2,en[j].name),(j:Int))]),wi en ns (-1) (-1)]:=rfl
   rw[eO,dx] at dA
   simp[hj,dA]
   refine b6J hL en ns j en[j].tags uA (yQ (en.take j)) ((en.take j).map (·.name)++[en[j].name]) (b8U (by omega) dr) _ (hk.type _ _) c0 c1 _ _ _ _ _ _ _ _ _ _ _ _ _ _ _ _ ?_ ?_
   ·intro dj y9' ents'' dg
    simp[hw]
    refine ih _ ⟨_,_,_,_,_,_,_,_,rfl,?_,λk kL uz =>?_⟩
    ·rw[F2 hj,yO hj,bj]; exact dg
    ·by_cases rm:k=j
     ·subst rm
      unfold BR
      simp only[an]
      exact⟨hd,dj⟩
     ·exact dr k kL (by omega)
   ·intro dj W o2 o3 rn ro
    simp
    exact no (oc j hj (by unfold BR; simp only[bZ]; exact λh=>dj h.2)) _ _ _ _ rn ro
 ·rintro st ⟨y7,y8,y9,y15,y16,y17,g',ents',rfl,hk,dr⟩
  rw[aB] at hk
  simp
  exact ok (L4.2 λk hk=>dr k hk hk) _ _ _ _ _ _ _ _ hk
end
theorem b34 {en:List Enum} {n:Node} (h:zo en n=0):∀d∈n.ins++n.outs,d.clock=[]:=by
 unfold zo at h
 simp only[zp] at h
 obtain⟨_,_,_,h1,h2,_⟩:=h
 have key:∀d,yR en true d=0→d.clock=[]:=by
  intro d hd
  unfold yR at hd
  simp only[zp] at hd
  obtain⟨_,_,h3,_⟩:=hd
  refine cH λhn =>?_
  simp[need,hn] at h3
 intro d hd
 rcases aw.1 hd with hd|hd
 ·exact key d (ze.1 h1 d hd)
 ·exact key d (ze.1 h2 d hd)
theorem b6L {p:Prog} (h:AJ p=none):∀n∈p.nodes,∀d∈n.ins++n.outs,d.clock=[]:=by
 unfold AJ at h
 split at h
 ·simp at h
 ·split at h
  ·simp at h
  ·intro n hn
   exact b34 (b5t.1 ((L5 p.enums p.nodes 0).1 h n hn 0)).1
theorem NodesIn.step {ents:xu} {ns:List Node} {i:Nat} (hi:i<ns.length) (h:NodesIn ents ns i) (hk:FZ ents ns i) (hd:ns[i].name∉(ns.take i).map (·.name)):
  NodesIn (ents++[((1,ns[i].name),(i:Int))]) ns (i+1)∧FZ (ents++[((1,ns[i].name),(i:Int))]) ns (i+1):=by
 have jr:∀x:Str,xZ (1,x) (ents++[((1,ns[i].name),(i:Int))])=(xZ (1,x) ents).or (if x=ns[i].name then some (i:Int) else none):=by
  intro x
  generalize ents=l
  induction l with
  | nil=>by_cases hx:x=ns[i].name<;>simp[xZ,hx]
  | cons y l ih =>
    simp only[ba,xZ]
    by_cases hy:((1:Int),x)=y.1
    ·rw[ah hy,ah hy]; rfl
    ·rw[ae hy,ae hy]; exact ih
 have kV:∀x,callee (ns.take (i+1)) x=(callee (ns.take i) x).or (if ns[i].name=x then some ns[i] else none):=by
  intro x
  unfold callee
  rw[yO hi,List.find?_append]
  congr 1
  by_cases hx:ns[i].name=x<;>simp[hx]
 constructor
 ·intro x
  have hx:=h x
  rw[kV]
  cases hc:callee (ns.take i) x with
  | some m =>
    rw[hc] at hx
    obtain⟨j,e1,e2,e3⟩:=hx
    exact⟨j,by rw[jr,e1]; rfl,by omega,e3⟩
  | none =>
    have gp:((1:Int),x)∉yo ents:=by
     rw[hk]
     unfold callee at hc
     rw[List.find?_eq_none] at hc
     intro hm
     obtain⟨n,h1,h2⟩:=aM.1 hm
     exact hc n h1 (by simpa using h2)
    have kW:=CM.2 gp
    by_cases m5:ns[i].name=x
    ·rw[ah m5]
     exact⟨i,by rw[jr,kW,ah m5.symm]; rfl,by omega,aq hi⟩
    ·rw[ae m5]
     intro c eB
     rw[jr,kW,ae (λe=>m5 e.symm)] at eB
     simp at eB
 ·intro x
  rw[yO hi,bj,aw,← hk x]
  simp[yo]
section
variable {L:Nat→Option PFunc} (hL:∀k f,LS k=some f→L k=some f)
include hL
theorem rec27 (a b e:Int) (h:List PObj) (w1 w2 c:Int) (h0:h[0]? = some (.cells [.int .i64 w1,.int .i64 w2])) (h1:h[1]? = some (.cells [.int .i64 c])):xW L 27 [xk 1 a b e,.ptr 0 0,.ptr 1 0] h=some ((h.set 0 (.cells [.int .i64 a,.int .i64 b])).set 1 (.cells [.int .i64 e])):=by
 unfold xW
 rw[hL 27 _ rfl]
 simp[Iz,Aq,xk,h0,h1]
theorem c7J (h:List PObj):xW L 27 [.nilIface,.ptr 0 0,.ptr 1 0] h=some h:=by
 unfold xW
 rw[hL 27 _ rfl]
 simp[Iz,Aq]
theorem c1E (p:Prog) (hp:PW p) (hs:parts p≤1500):∃h',vU L 8 [wT p] []=some (zS (zH (BS p)),h'):=by
 suffices H:∃r,vU L 8 [wT p] []=some r∧r.1=zS (zH (BS p)) by
  obtain⟨⟨v,h'⟩,h1,h2⟩:=H
  exact⟨h',by rw[h1]; simp only at h2; rw[h2]⟩
 refine L6 (hL 8 _ rfl) rfl ?_
 obtain⟨uB,dX⟩:=L7 hL p hp
 unfold BS
 cases hS:AJ p with
 | some b =>
   have kX:=L8 hS
   rw[hS] at dX
   simp only[zH,bL,zS] at dX ⊢
   simp[F3,dX,kX,wz,wh]
 | none =>
   have eR:=b6L hS
   rw[hS] at dX
   simp only[zH,Option.getD_none,Ew,zS] at dX
   simp only
   obtain⟨RES,eh⟩:∃RES,RES=(if Bt p.enums then Ad (yQ p.enums) [] p.nodes else some (⟨-1,-1,7⟩:Bad)):=⟨_,rfl⟩
   rw[← eh]
   simp[F3,dX]
   rw[L9 (cs:=[.ptr 0 0,.ptr 1 0]) _ _ _ rfl (by simp)]
   have ey:PObj.cells [PV.list false (p.enums.map wo),PV.list false (p.nodes.map wE),.int .i64 (-1),.int .i64 (-1),.map (some 2)]=wi p.enums p.nodes (-1) (-1):=rfl
   have my:PObj.map []=wl []:=rfl
   have gm:(PV.map (some 2)).cells=[.map (some 2)]:=rfl
   have jE:=hp.nodes
   simp[gm,ey,my]
   refine b6K hL p.enums p.nodes hp.enums hp.tags _ _ _ _ _ _ _ _ _ _ _ _ _ _ _ _ _ _ _ ?_ ?_
   ·intro cV y7 y8 y9 y15 y16 y17 g' ents' hk
    rw[ah cV] at eh
    simp
    rw[Ma]
    refine wS p.nodes.length (λj st=>∃y10 h' ents a b,st=⟨[wT p,.loc 0 [.list false (p.enums.map wo),.list false (p.nodes.map wE)],.ptr 0 0,.ptr 1 0,.loc 1 [.int .i64 0,.int .i64 0],.int .i64 0,.ptr 3 0,y7,y8,y9,y10,.ptr 3 0,.list false (p.enums.map wo),.int .i64 p.enums.length,.int .i64 p.enums.length,y15,y16,y17,.int .i64 p.nodes.length,.int .i64 j],[],g',h'⟩ ∧
     h'[0]? = some (.cells [.int .i64 0,.int .i64 0])∧h'[1]? = some (.cells [.int .i64 0])∧4≤h'.length∧h'[2]? = some (wl ents)∧h'[3]? = some (wi p.enums p.nodes a b)∧A6 ents (yQ p.enums)∧NodesIn ents p.nodes j∧FZ ents p.nodes j∧RES=Ad (yQ p.enums) (p.nodes.take j) (p.nodes.drop j)) ?_ ?_
     ⟨_,_,ents',-1,-1,rfl,rfl,rfl,by simp,rfl,rfl,hk.tags,λx=>by
      have:xZ (1,x) ents'=none:=CM.2 (hk.nodes x)
      simp[callee,this],λx=>by simp[hk.nodes x],by simpa using eh⟩
    ·rintro j hj st ⟨y10,h',ents,a,b,rfl,e0,e1,e4,e2,e3,dR,dj,iT,hR⟩ ih
     have hw:=wk j (by omega)
     rw[aQ hj] at hR
     have ma:p.nodes[j].parts≤1500:=by
      have:=zR Node.parts (ai hj)
      unfold parts at hs; omega
     obtain⟨h2,hx,k0,k1,k4,kn⟩:=c4j hL p.enums p.nodes a b ents j hj hp.nodes (hp.ns _ (ai hj)) ma (eR _ (ai hj)) (yQ p.enums) dR dj iT h' e4 e2 e3
     cases hN:zG (p.nodes.take j) (yQ p.enums) p.nodes[j] with
     | none =>
       have hd:p.nodes[j].name∉(p.nodes.take j).map (·.name):=by
        intro hm
        unfold zG at hN
        rw[ah hm] at hN
        simp at hN
       obtain⟨n2,n3⟩:=NodesIn.step hj dj iT hd
       obtain⟨q2,q3⟩:=kn hN
       rw[hN] at hx
       simp only[Ad,hN] at hR
       rw[← yO hj] at hR
       simp[xz] at hx
       simp[hj,hx,hw]
       refine ih _ ⟨_,h2,_,_,_,rfl,k0.trans e0,k1.trans e1,k4,q2,q3,λx =>?_,n2,n3,hR⟩
       rw[← dR x]
       simp[yo]
     | some bd =>
       rw[hN] at hx
       simp only[Ad,hN] at hR
       have dO:=rec27 hL bd.node bd.eq bd.err h2 0 0 0 (k0.trans e0) (k1.trans e1)
       have iU:0<h2.length:=by omega
       have d8:1<h2.length:=by omega
       simp[xz] at hx
       simp[hj,hx,dO,hR,zH,zS,wh,iU,d8]
       rfl
    ·rintro st ⟨y10,h',ents,a,b,rfl,e0,e1,e4,e2,e3,dR,dj,iT,hR⟩
     rw[aU (ao _)] at hR
     simp only[Ad] at hR
     have dO:=c7J hL h'
     have iU:0<h'.length:=by omega
     have d8:1<h'.length:=by omega
     have rp:h'.set 0 (.cells [.int .i64 0,.int .i64 0])=h':=Dy e0
     have jS:h'.set 1 (.cells [.int .i64 0])=h':=Dy e1
     simp[e0,e1,rp,jS,dO,hR,zH,Ew,zS,wh]
     rfl
   ·intro cV W g' o2 o3 rn ro
    rw[cV] at eh
    simp only[aH,if_false] at eh
    have dO:=rec27 hL (-1) (-1) 7 [.cells [.int .i64 0,.int .i64 0],.cells [.int .i64 0],o2,o3] 0 0 0 rfl rfl
    simp[dO,eh,zH,zS,wh,rn,ro]
    rfl
end
end PI.Sc
