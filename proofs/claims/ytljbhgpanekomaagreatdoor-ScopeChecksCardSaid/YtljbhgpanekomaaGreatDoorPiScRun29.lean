import Derived.Test.YtljbhgpanekomaaGreatDoorPiScRun18
import Derived.Test.YtljbhgpanekomaaGreatDoorPiScRun10
set_option maxRecDepth 100000
set_option linter.unusedSimpArgs false
set_option linter.unusedVariables false
set_option linter.unusedSectionVars false
namespace PI.Sc
open Go (IntKind BinOp UnOp)
open Short
theorem c2J (tags:List Str) (d:Decl) (l:List Decl) (v:List Str):w9 tags (d::l) v=xS (w9 tags [d] v) (w9 tags l):=by
 simp only[w9]
 split
 ·rw[xZ (by decide)]
 ·rfl
theorem c2K (s:Place) {l:List Eqn} {d r:List Str} (h:yT s l d=(0,r)):r.length=d.length+(xR l).length:=by
 rw[((Ds s l d r).1 h).1,av]
section
variable {L:Nat→Option PFunc} (hL:∀k f,LS k=some f→L k=some f) (en:List Enum) (ns:List Node) (a b:Int) (ents:ye)
include hL
theorem b83 (tags:List Str) (db:BN ents tags) (l:List Decl) (hl:l.length≤1500) (h:List PObj) (h2:h[2]? = some (wK ents)) (h3:h[3]? = some (wI en ns a b)) (q' n o d:Nat) (i dv up:PV) (f:Fr) (fs:List Fr) (t:TopAt h h.length q' n o d i dv up f fs) (vis:List Str) (di:∀x,xK (f::fs) x=true↔x∈vis)
  (V0 V1 V2 V3 V4 V5 V7 V8 V9 V10 V14 V15 V16 V17 V18 V19 V20 V21 V22:PV) (gi g:Nat) {Q:PExit→St→Prop} (jS:V0 = .ptr 3 0)
  (ok:(w9 tags l vis).1=0→∀h' O y7 g',Kp q' h h'→h'.length=h.length→TopAt h' h'.length q' n o d i dv up { f with O:=O } fs→(∀x,xK ({ f with O:=O }::fs) x=true↔x∈(w9 tags l vis).2)→(∀x,x∈O↔x∈f.O∨x∈wv l)→Q (.exit 0) ⟨[V0,V1,V2,V3,V4,V5,.loc gi [.ptr n 0],y7,V8,V9,V10,.list false (l.map wF),.int .i64 l.length,.int .i64 l.length,V14,V15,V16,V17,V18,V19,V20,V21,V22],[],g',h'⟩)
  (no:(w9 tags l vis).1≠0→∀h' y7 y13 g',Kp q' h h'→Q (.boom (xV 1 a b (w9 tags l vis).1)) ⟨[V0,V1,V2,V3,V4,V5,.loc gi [.ptr n 0],y7,V8,V9,V10,.list false (l.map wF),.int .i64 l.length,y13,V14,V15,V16,V17,V18,V19,V20,V21,V22],[],g',h'⟩):
  wpL L Kf ⟨[V0,V1,V2,V3,V4,V5,.loc gi [.ptr n 0],V7,V8,V9,V10,.list false (l.map wF),.int .i64 l.length,.int .i64 0,V14,V15,V16,V17,V18,V19,V20,V21,V22],[],g,h⟩ Q:=by
 subst jS
 rw[Kf]
 refine yQ l.length (λj st=>∃y7 g' h' O vis',st=⟨[.ptr 3 0,V1,V2,V3,V4,V5,.loc gi [.ptr n 0],y7,V8,V9,V10,.list false (l.map wF),.int .i64 l.length,.int .i64 j,V14,V15,V16,V17,V18,V19,V20,V21,V22],[],g',h'⟩∧Kp q' h h'∧h'.length=h.length∧TopAt h' h'.length q' n o d i dv up { f with O:=O } fs∧w9 tags l vis=w9 tags (l.drop j) vis'∧(∀x,xK ({ f with O:=O }::fs) x=true↔x∈vis')∧∀x,x∈O↔x∈f.O∨x∈wv (l.take j)) ?_ ?_ ⟨_,_,h,f.O,vis,rfl,Kp.refl _ _,rfl,t,rfl,di,λx=>by simp[wv]⟩
 ·rintro j hj st ⟨y7,g',h',O,vis',rfl,cZ,cI,ht,da,hv,hO⟩ ih
  have hw:=wC j (by omega)
  have fM:h'[2]? = some (wK ents):=(cZ.2 2 (by have:=ht.four; omega)).trans h2
  have eF:h'[3]? = some (wI en ns a b):=(cZ.2 3 (by have:=ht.four; omega)).trans h3
  obtain⟨h'',O'',hx,fq,tI,gy,kX⟩:=Nu hL en ns a b ents tags db [l[j]] (by simp) false h' fM eF _ q' n o d i dv up _ fs ht vis' hv
  simp only[aG,bA] at hx
  have si:TopAt h'' h''.length q' n o d i dv up { f with O:=O'' } fs:=by rw[tI]; exact gy
  rw[aN hj,c2J] at da
  have gu:wv (l.take (j+1))=wv (l.take j)++[l[j].name]:=by simp only[wv,bS,an hj,Option.toList,bk,aG,bA]
  by_cases hz:(w9 tags [l[j]] vis').1=0
  ·obtain⟨ev,gL⟩:=kX hz
   have iC:w9 tags l vis=w9 tags (l.drop (j+1)) (w9 tags [l[j]] vis').2:=by rw[da]; exact ah hz
   rw[hz] at hx
   simp[wG] at hx
   simp[hj,hx,hw]
   refine ih _ ⟨_,_,h'',O'',_,rfl,cZ.trans fq,by rw[tI,cI],si,iC,ev,λx =>?_⟩
   rw[gL,hO,gu]
   simp[wv,or_assoc]
  ·rw[xZ hz] at da
   simp[wG,hz] at hx
   simp[hj,hx]
   have:=no (by rw[da]; exact hz) h'' (.loc g' (wF l[j]).cells) (.int .i64 j) (g'+1) (cZ.trans fq)
   rw[da] at this
   simpa using this
 ·rintro st ⟨y7,g',h',O,vis',rfl,cZ,cI,ht,da,hv,hO⟩
  rw[ba (aq _)] at da
  rw[aI] at hO
  simp
  exact ok (by rw[da]; rfl) h' O y7 g' cZ cI ht (by rw[da]; exact hv) hO
theorem b84 (k:Nat) (dk:NodesIn ents ns k) (s:Place) (eV:s.before=ns.take k) (l:List Eqn) (hl:l.length≤1500) (hq:∀x∈l,QW x) (h:List PObj) (h2:h[2]? = some (wK ents)) (h3:h[3]? = some (wI en ns a b)) (q' n o d:Nat) (i dv up:PV) (f:Fr) (fs:List Fr) (t:TopAt h h.length q' n o d i dv up f fs) (di:∀x,xK (f::fs) x=true↔x∈s.vis)
  (d0:List Str) (hD:f.D=f.df) (dO:∀x,(x∈f.I∨zw fs x=true)↔(x∈s.inputs∨x∈d0)) (gK:f.df.length+(xR l).length≤1000000)
  (V0 V1 V2 V3 V4 V5 V7 V8 V9 V10 V11 V12 V13 V17 V18 V19 V20 V21 V22:PV) (gi g:Nat) {Q:PExit→St→Prop} (jS:V0 = .ptr 3 0) (m9:V1 = .int .i64 k)
  (ok:(yT s l (d0++f.df)).1=0→∀h' dv' df' y8 g',Kp q' h h'→(yT s l (d0++f.df)).2=d0++df'→TopAt h' h'.length q' n o d i dv' up { f with D:=df',df:=df' } fs→Q (.exit 2) ⟨[V0,V1,V2,V3,V4,V5,.loc gi [.ptr n 0],V7,y8,V9,V10,V11,V12,V13,.list false (l.map xn),.int .i64 l.length,.int .i64 l.length,V17,V18,V19,V20,V21,V22],[],g',h'⟩)
  (no:(yT s l (d0++f.df)).1≠0→∀h' y8 y16 g',Kp q' h h'→Q (.boom (xV 1 a b (yT s l (d0++f.df)).1)) ⟨[V0,V1,V2,V3,V4,V5,.loc gi [.ptr n 0],V7,y8,V9,V10,V11,V12,V13,.list false (l.map xn),.int .i64 l.length,y16,V17,V18,V19,V20,V21,V22],[],g',h'⟩):
  wpL L Kg ⟨[V0,V1,V2,V3,V4,V5,.loc gi [.ptr n 0],V7,V8,V9,V10,V11,V12,V13,.list false (l.map xn),.int .i64 l.length,.int .i64 0,V17,V18,V19,V20,V21,V22],[],g,h⟩ Q:=by
 subst jS
 subst m9
 rw[Kg]
 refine yQ l.length (λj st=>∃y8 g' h' dv' df',st=⟨[.ptr 3 0,.int .i64 k,V2,V3,V4,V5,.loc gi [.ptr n 0],V7,y8,V9,V10,V11,V12,V13,.list false (l.map xn),.int .i64 l.length,.int .i64 j,V17,V18,V19,V20,V21,V22],[],g',h'⟩∧Kp q' h h'∧TopAt h' h'.length q' n o d i dv' up { f with D:=df',df:=df' } fs∧yT s l (d0++f.df)=yT s (l.drop j) (d0++df')∧df'.length+(xR (l.drop j)).length=f.df.length+(xR l).length) ?_ ?_ ⟨_,_,h,dv,f.df,rfl,Kp.refl _ _,by rw[Fr.same hD]; exact t,rfl,rfl⟩
 ·rintro j hj st ⟨y8,g',h',dv',df',rfl,cZ,ht,da,cI⟩ ih
  have hw:=wC j (by omega)
  have fM:h'[2]? = some (wK ents):=(cZ.2 2 (by have:=ht.four; omega)).trans h2
  have eF:h'[3]? = some (wI en ns a b):=(cZ.2 3 (by have:=ht.four; omega)).trans h3
  have qg:(xR (l.drop j)).length=l[j].left.length+(xR (l.drop (j+1))).length:=by
   rw[aN hj]; simp only[xR,bh,av]
  obtain⟨h'',hx,fq,kX⟩:=Ns hL en ns a b ents k dk s eV l[j] (hq _ (ae hj)) h' fM eF q' n o d i dv' up _ fs ht (by intro x; exact di x) d0 rfl dO (by simp only; omega)
  simp only at hx kX
  rw[aN hj] at da
  simp only[yT] at da
  by_cases hz:(xz s l[j] (d0++df')).1=0
  ·obtain⟨dv'',df'',ev,gL⟩:=kX hz
   have iC:yT s l (d0++f.df)=yT s (l.drop (j+1)) (d0++df''):=by
    rw[da]
    unfold xS
    rw[ah hz,ev]
   have dp:df''.length=df'.length+l[j].left.length:=by
    have h5:=(Eh.1 (yS hz)).1
    rw[ev] at h5
    have:=aH List.length h5
    simp at this
    omega
   rw[hz] at hx
   simp[wG] at hx
   simp[hj,hx,hw]
   exact ih _ ⟨_,_,h'',dv'',df'',rfl,cZ.trans fq,gL,iC,by omega⟩
  ·rw[xZ hz] at da
   simp[wG,hz] at hx
   simp[hj,hx]
   have:=no (by rw[da]; exact hz) h'' (.loc g' (xn l[j]).cells) (.int .i64 j) (g'+1) (cZ.trans fq)
   rw[da] at this
   simpa using this
 ·rintro st ⟨y8,g',h',dv',df',rfl,cZ,ht,da,cI⟩
  rw[ba (aq _)] at da
  simp
  exact ok (by rw[da]; rfl) h' dv' df' y8 g' cZ (by rw[da]; rfl) ht
end
def Fo (L:Nat→Option PFunc) (en:List Enum) (ns:List Node) (a b:Int) (ents:ye) (x:List State):Prop:=
 ∀ (k : Nat), NodesIn ents ns k → ∀ (s : Place), s.before = ns.take k → BN ents s.tags → ∀ (h : List PObj), h[2]? = some (wK ents) → h[3]? = some (wI en ns a b) → ∀ (q' n o d : Nat) (i dv up : PV) (f : Fr) (fs : List Fr), TopAt h h.length q' n o d i dv up f fs → (∀ x, xK (f :: fs) x = true ↔ x ∈ s.vis) →
   ∀(d0:List Str),f.D=f.df→(∀x,(x∈f.I∨zw fs x=true)↔(x∈s.inputs∨x∈d0))→f.df.length+(xH [x]).length≤1000000 →
   ∃h',wQ L 62 [.ptr 3 0,.int .i64 k,.ptr n 0,xg x] h=some (wG 1 a b (xA s (d0++f.df) x).1,h')∧Kp q' h h'∧((xA s (d0++f.df) x).1=0→∃dv' df',(d0++f.df)++(xA s (d0++f.df) x).2=d0++df'∧TopAt h' h'.length q' n o d i dv' up { f with D:=df',df:=df' } fs)
theorem Nt {s:Place} {d:List Str} {x:List State} (h:(xA s d x).1=0):(xA s d x).2=xH [x]:=by
 have h1:xw s d [x]=(0,d++(xA s d x).2):=by
  rw[Fp,Cn]
  exact⟨h,by simp[xw]⟩
 have h2:=(DH [x] s d _ h1).1
 exact List.append_cancel_left h2
section
variable {L:Nat→Option PFunc} (hL:∀k f,LS k=some f→L k=some f) (en:List Enum) (ns:List Node) (a b:Int) (ents:ye)
include hL
theorem b85 (k:Nat) (dk:NodesIn ents ns k) (s:Place) (eV:s.before=ns.take k) (db:BN ents s.tags) (l:List (List State)) (hl:l.length≤1500) (hq:∀x∈l,Fo L en ns a b ents x) (h:List PObj) (h2:h[2]? = some (wK ents)) (h3:h[3]? = some (wI en ns a b)) (q' n o d:Nat) (i dv up:PV) (f:Fr) (fs:List Fr) (t:TopAt h h.length q' n o d i dv up f fs) (di:∀x,xK (f::fs) x=true↔x∈s.vis)
  (d0:List Str) (hD:f.D=f.df) (dO:∀x,(x∈f.I∨zw fs x=true)↔(x∈s.inputs∨x∈d0)) (gK:f.df.length+(xH l).length≤1000000)
  (V0 V1 V2 V3 V4 V5 V7 V8 V9 V10 V11 V12 V13 V14 V15 V16 V20 V21 V22:PV) (gi g:Nat) {Q:PExit→St→Prop} (jS:V0 = .ptr 3 0) (m9:V1 = .int .i64 k)
  (ok:(xw s (d0++f.df) l).1=0→∀h' dv' df' y9 g',Kp q' h h'→(xw s (d0++f.df) l).2=d0++df'→TopAt h' h'.length q' n o d i dv' up { f with D:=df',df:=df' } fs→Q (.exit 4) ⟨[V0,V1,V2,V3,V4,V5,.loc gi [.ptr n 0],V7,V8,y9,V10,V11,V12,V13,V14,V15,V16,.list false (l.map xg),.int .i64 l.length,.int .i64 l.length,V20,V21,V22],[],g',h'⟩)
  (no:(xw s (d0++f.df) l).1≠0→∀h' y9 y19 g',Kp q' h h'→Q (.boom (xV 1 a b (xw s (d0++f.df) l).1)) ⟨[V0,V1,V2,V3,V4,V5,.loc gi [.ptr n 0],V7,V8,y9,V10,V11,V12,V13,V14,V15,V16,.list false (l.map xg),.int .i64 l.length,y19,V20,V21,V22],[],g',h'⟩):
  wpL L Kh ⟨[V0,V1,V2,V3,V4,V5,.loc gi [.ptr n 0],V7,V8,V9,V10,V11,V12,V13,V14,V15,V16,.list false (l.map xg),.int .i64 l.length,.int .i64 0,V20,V21,V22],[],g,h⟩ Q:=by
 subst jS
 subst m9
 rw[Kh]
 refine yQ l.length (λj st=>∃y9 g' h' dv' df',st=⟨[.ptr 3 0,.int .i64 k,V2,V3,V4,V5,.loc gi [.ptr n 0],V7,V8,y9,V10,V11,V12,V13,V14,V15,V16,.list false (l.map xg),.int .i64 l.length,.int .i64 j,V20,V21,V22],[],g',h'⟩∧Kp q' h h'∧TopAt h' h'.length q' n o d i dv' up { f with D:=df',df:=df' } fs∧xw s (d0++f.df) l=xw s (d0++df') (l.drop j)∧df'.length+(xH (l.drop j)).length=f.df.length+(xH l).length) ?_ ?_ ⟨_,_,h,dv,f.df,rfl,Kp.refl _ _,by rw[Fr.same hD]; exact t,rfl,rfl⟩
 ·rintro j hj st ⟨y9,g',h',dv',df',rfl,cZ,ht,da,cI⟩ ih
  have hw:=wC j (by omega)
  have fM:h'[2]? = some (wK ents):=(cZ.2 2 (by have:=ht.four; omega)).trans h2
  have eF:h'[3]? = some (wI en ns a b):=(cZ.2 3 (by have:=ht.four; omega)).trans h3
  have qg:(xH (l.drop j)).length=(xH [l[j]]).length+(xH (l.drop (j+1))).length:=by
   rw[aN hj,Dr,Dr]; simp[xH]
  obtain⟨h'',hx,fq,kX⟩:=hq _ (ae hj) k dk s eV db h' fM eF q' n o d i dv' up _ fs ht (by intro x; exact di x) d0 rfl dO (by simp only; omega)
  simp only at hx kX
  rw[aN hj,Fp] at da
  by_cases hz:(xA s (d0++df') l[j]).1=0
  ·obtain⟨dv'',df'',ev,gL⟩:=kX hz
   have iC:xw s (d0++f.df) l=xw s (d0++df'') (l.drop (j+1)):=by
    rw[da]
    unfold xS
    rw[ah hz]
    exact aH (λz=>xw s z (l.drop (j+1))) ev
   have dp:df''.length=df'.length+(xH [l[j]]).length:=by
    rw[Nt hz] at ev
    have:=aH List.length ev
    simp at this
    omega
   rw[hz] at hx
   simp[wG] at hx
   simp[hj,hx,hw]
   exact ih _ ⟨_,_,h'',dv'',df'',rfl,cZ.trans fq,gL,iC,by omega⟩
  ·rw[xZ hz] at da
   simp[wG,hz] at hx
   simp[hj,hx]
   have:=no (by rw[da]; exact hz) h'' (.loc g' (xg l[j]).cells) (.int .i64 j) (g'+1) (cZ.trans fq)
   rw[da] at this
   simpa using this
 ·rintro st ⟨y9,g',h',dv',df',rfl,cZ,ht,da,cI⟩
  rw[ba (aq _)] at da
  simp
  exact ok (by rw[da]; simp[xw]) h' dv' df' y9 g' cZ (by rw[da]; simp[xw]) ht
theorem b86 (l:List Decl) (hl:l.length≤1500) (h:List PObj) (h3:h[3]? = some (wI en ns a b)) (q' n o d:Nat) (i dv up:PV) (f:Fr) (fs:List Fr) (t:TopAt h h.length q' n o d i dv up f fs)
  (V0 V1 V2 V3 V4 V5 V7 V8 V9 V10 V11 V12 V13 V14 V15 V16 V17 V18 V19:PV) (gi g:Nat) {Q:PExit→St→Prop} (jS:V0 = .ptr 3 0)
  (ok:(∀x∈wv l,x∈f.D)→∀y10 g',Q (.exit 6) ⟨[V0,V1,V2,V3,V4,V5,.loc gi [.ptr n 0],V7,V8,V9,y10,V11,V12,V13,V14,V15,V16,V17,V18,V19,.list false (l.map wF),.int .i64 l.length,.int .i64 l.length],[],g',h⟩)
  (no:¬(∀x∈wv l,x∈f.D)→∀y10 y22 g',Q (.boom (xV 1 a b 8)) ⟨[V0,V1,V2,V3,V4,V5,.loc gi [.ptr n 0],V7,V8,V9,y10,V11,V12,V13,V14,V15,V16,V17,V18,V19,.list false (l.map wF),.int .i64 l.length,y22],[],g',h⟩):
  wpL L Ki ⟨[V0,V1,V2,V3,V4,V5,.loc gi [.ptr n 0],V7,V8,V9,V10,V11,V12,V13,V14,V15,V16,V17,V18,V19,.list false (l.map wF),.int .i64 l.length,.int .i64 0],[],g,h⟩ Q:=by
 subst jS
 have hT:=Cc hL en ns a b h h3 8
 have hF:=Cd hL en ns a b h h3 8
 have hn:=t.hn
 have hd:=t.hd
 rw[Ki]
 refine yQ l.length (λj st=>∃y10 g',st=⟨[.ptr 3 0,V1,V2,V3,V4,V5,.loc gi [.ptr n 0],V7,V8,V9,y10,V11,V12,V13,V14,V15,V16,V17,V18,V19,.list false (l.map wF),.int .i64 l.length,.int .i64 j],[],g',h⟩∧∀x∈wv (l.take j),x∈f.D) ?_ ?_ ⟨_,_,rfl,by simp[wv]⟩
 ·rintro j hj st ⟨y10,g',rfl,dt⟩ ih
  have hw:=wC j (by omega)
  obtain⟨r,hr,eG,_⟩:=BM l[j].name f.D
  have gu:wv (l.take (j+1))=wv (l.take j)++[l[j].name]:=by simp only[wv,bS,an hj,Option.toList,bk,aG,bA]
  by_cases hx:l[j].name∈f.D
  ·simp[hx] at eG
   obtain⟨c,rfl⟩:=eG
   simp[hj,hn,hd,hr,xt,hT,hw]
   refine ih _ ⟨_,_,rfl,?_⟩
   rw[gu]
   intro x hm
   rcases ax.1 hm with h1|h1
   ·exact dt x h1
   ·rw[bH.1 h1]; exact hx
  ·simp[hx] at eG
   subst eG
   simp[hj,hn,hd,hr,xt,hF]
   have:=no (λcY=>hx (cY _ (a8.2 ⟨_,ae hj,rfl⟩))) (.loc g' (wF l[j]).cells) (.int .i64 j) (g'+1)
   simpa using this
 ·rintro st ⟨y10,g',rfl,dt⟩
  rw[aI] at dt
  simp
  exact ok dt _ _
end
theorem c0V (l:List Str):zM 1 false (l.map PV.str) l.length 0=some (l.map PV.str):=by
 suffices H:∀(n off:Nat),off+n=l.length→zM 1 false (l.map PV.str) n off=some ((l.drop off).map PV.str) by simpa using H l.length 0 (by omega)
 intro n
 induction n with
 | zero=>intro off h; rw[ba (by omega)]; rfl
 | succ n ih =>
   intro off h
   have ho:off<l.length:=by omega
   simp only[zM,ih (off+1) (by omega)]
   simp[wD,ho]
   rw[aN (i:=off) (l:=l.map PV.str) (by simpa using ho)]
   simp
theorem c2N (s:Place) (d:List Str) (x:State):x8 s d x =
  xS (xI s.vis s.tags x.locals) λvis=>xS (yT (s.at vis) x.eqs d) λd1=>xS (xw (s.at vis) d1 x.autos) λd2=>
  xS (zE s x.unl,[]) λ_=>xS (zE (s.at vis) x.til,[]) λ_=>if wX (wv x.locals) (wX d2 d)=[] then(0,wX (wX d2 d) (wv x.locals)) else(8,[]):=by
 cases x; simp only[x8]; rfl
theorem c61 (x:State):AU x=xR x.eqs++xH x.autos:=by cases x; rfl
section
variable {L:Nat→Option PFunc} (hL:∀k f,LS k=some f→L k=some f) (en:List Enum) (ns:List Node) (a b:Int) (ents:ye)
include hL
theorem c2O (h:List PObj) (hb:4≤h.length) (n:Nat) (fs:List Fr) (hv:Holds h h.length (.ptr n 0) fs):∃h',wQ L 58 [.ptr n 0] h=some (.val (.ptr (h.length+2) 0),h')∧wr L 58 [.ptr n 0] h=some (.ptr (h.length+2) 0,h')∧Kp h.length h h'∧TopAt h' h'.length h.length (h.length+2) h.length (h.length+1) (.map none) (.list true []) (.ptr n 0) ⟨[],[],[],[]⟩ fs:=by
 have hK:∀n',n'<h.length→(h++[PObj.map [],.map [],.cells [.ptr n 0,.map (some h.length),.map (some (h.length+1)),.map none,.list true []]])[n']? = h[n']? := λn hn=>by rw[am (by omega)]
 refine⟨h++[.map [],.map [],.cells [.ptr n 0,.map (some h.length),.map (some (h.length+1)),.map none,.list true []]],?_,?_,Kp.app (aq _),?_⟩
 ·refine zF (hL 58 _ rfl) rfl ?_
  simp[Fm,PV.cells]
 ·refine wz (hL 58 _ rfl) rfl ?_
  simp[Fm,PV.cells]
 ·exact⟨by omega,by omega,by omega,by simp,by simp,by simp,by omega,by omega,by omega,hb,by simp,by simp[bmE],by simp[bmE],.inl ⟨rfl,rfl⟩,.inl ⟨rfl,rfl⟩,λ_ _ _ _ e=>by simp at e,hv.keep hK⟩
def StOut (a b:Int) (e:EN) (r:Out):Prop:=if e.1=0 then ∃o,r = .val (.list o (e.2.map PV.str)) else r = .boom (xV 1 a b e.1)
omit hL in
theorem StOut.no {e:EN} {z:Int} (hz:z≠0) (he:e=(z,[])):StOut a b e (.boom (xV 1 a b z)):=by
 unfold StOut; rw[he,af hz]
theorem c4k (x:State) (hx:SW x) (hA:∀y∈x.autos,Fo L en ns a b ents y) (hp:(AU x).length≤1000000) (k:Nat) (dk:NodesIn ents ns k) (s:Place) (eV:s.before=ns.take k) (db:BN ents s.tags) (h:List PObj) (h2:h[2]? = some (wK ents)) (h3:h[3]? = some (wI en ns a b)) (q' n o d:Nat) (i dv up:PV) (f:Fr) (fs:List Fr) (t:TopAt h h.length q' n o d i dv up f fs) (di:∀x,xK (f::fs) x=true↔x∈s.vis)
  (d0:List Str) (hD:f.D=f.df) (dO:∀x,(x∈f.I∨zw fs x=true)↔(x∈s.inputs∨x∈d0)):
  ∃h' r,wQ L 102 [.ptr 3 0,.int .i64 k,.ptr n 0,w8 x] h=some (r,h')∧Kp h.length h h'∧StOut a b (x8 s (d0++f.df) x) r:=by
 suffices H:∃res,wQ L 102 [.ptr 3 0,.int .i64 k,.ptr n 0,w8 x] h=some res∧∃h' r,res=(r,h')∧Kp h.length h h'∧StOut a b (x8 s (d0++f.df) x) r by
  obtain⟨res,e1,h',r,e2,e3⟩:=H
  exact⟨h',r,by rw[e1,e2],e3⟩
 have h4:4≤h.length:=by have:=t.four; have:=t.ln; have:=t.un; omega
 obtain⟨h1,e1,e1',k1,t1⟩:=c2O hL h h4 n (f::fs) t.holds
 have tJ:h1[2]? = some (wK ents):=(k1.2 2 (by omega)).trans h2
 have tK:h1[3]? = some (wI en ns a b):=(k1.2 3 (by omega)).trans h3
 have jb:∀x,xK (⟨[],[],[],[]⟩::f::fs) x=true↔x∈s.vis:=λx=>by rw[← di]; simp[xK]
 have hN:=c2N s (d0++f.df) x
 refine Cb (hL 102 _ rfl) rfl ?_
 simp[Kj,e1',e1]
 refine b83 hL en ns a b ents s.tags db x.locals hx.locals h1 tJ tK h.length _ _ _ _ _ _ _ _ t1 s.vis jb _ _ _ _ _ _ _ _ _ _ _ _ _ _ _ _ _ _ _ _ _ rfl ?_ ?_
 ·intro vC h5 O y7 g5 k5 ir t5 pA vD
  have tL:h5[2]? = some (wK ents):=(k5.2 2 (by omega)).trans tJ
  have sj:h5[3]? = some (wI en ns a b):=(k5.2 3 (by omega)).trans tK
  obtain⟨vis,lg⟩:∃vis,vis=(w9 s.tags x.locals s.vis).2:=⟨_,rfl⟩
  rw[← lg] at pA
  have hs:=Nv hL en ns a b x.locals (by have:=hx.locals; omega) hx.ls false h5 sj _ _ _ t5.holds vis pA
  have nF:xI s.vis s.tags x.locals=(zg vis x.locals,vis):=by
   unfold xI xS
   rw[ah vC,lg]
  by_cases eQ:zg vis x.locals=0
  ·rw[eQ] at hs
   simp[wG] at hs
   simp[hs]
   obtain⟨D,pB⟩:∃D,D=d0++f.df:=⟨_,rfl⟩
   rw[← pB] at hN ⊢
   have pC:∀y,(y∈([]:List Str)∨zw (f::fs) y=true)↔(y∈(s.at vis).inputs∨y∈D):=by
    intro y
    have:=dO y
    rw[pB]
    simp only[zw,List.any_cons,bF,ak,ax,List.not_mem_nil,false_or,Place.at,hD] at this ⊢
    constructor
    ·rintro((h1|h1)|h1)
     ·exact .inr (.inr h1)
     ·rcases this.1 (.inl h1) with h|h
      ·exact .inl h
      ·exact .inr (.inl h)
     ·rcases this.1 (.inr h1) with h|h
      ·exact .inl h
      ·exact .inr (.inl h)
    ·rintro(h1|h1|h1)
     ·rcases this.2 (.inl h1) with h|h
      ·exact .inl (.inr h)
      ·exact .inr h
     ·rcases this.2 (.inr h1) with h|h
      ·exact .inl (.inr h)
      ·exact .inr h
     ·exact .inl (.inl h1)
   rw[c61,av] at hp
   have sk:xI s.vis s.tags x.locals=(0,vis):=by rw[nF,eQ]
   rw[sk,Aw] at hN
   refine b84 hL en ns a b ents k dk (s.at vis) eV x.eqs hx.eqs hx.es h5 tL sj h.length _ _ _ _ _ _ _ _ t5 pA D rfl pC (by simp only[cj]; omega) _ _ _ _ _ _ _ _ _ _ _ _ _ _ _ _ _ _ _ _ _ rfl rfl ?_ ?_
   ·intro eE h6 dv6 df6 y8 g6 k6 tM t6
    simp only[aL] at eE tM
    have tN:h6[2]? = some (wK ents):=(k6.2 2 (by omega)).trans tL
    have tO:h6[3]? = some (wI en ns a b):=(k6.2 3 (by omega)).trans sj
    have sl:yT (s.at vis) x.eqs D=(0,D++df6):=by rw[← tM,← eE]
    have vE:=c2K _ sl
    simp only[av] at vE
    rw[sl,Aw] at hN
    simp
    refine b85 hL en ns a b ents k dk (s.at vis) eV db x.autos hx.autos hA h6 tN tO h.length _ _ _ _ _ _ _ _ t6 pA D rfl pC (by simp only; omega) _ _ _ _ _ _ _ _ _ _ _ _ _ _ _ _ _ _ _ _ _ rfl rfl ?_ ?_
    ·intro lI h7 dv7 df7 y9 g7 k7 tP t7
     simp only at lI tP
     have h27:h7[2]? = some (wK ents):=(k7.2 2 (by omega)).trans tN
     have tQ:h7[3]? = some (wI en ns a b):=(k7.2 3 (by omega)).trans tO
     have tR:xw (s.at vis) (D++df6) x.autos=(0,D++df7):=by rw[← tP,← lI]
     rw[tR,Aw] at hN
     have k07:Kp h.length h h7:=((k1.trans k5).trans k6).trans k7
     obtain⟨h8,e8,k8⟩:=PR hL en ns a b ents k dk s eV x.unl hx.unl hx.us false h7 h27 tQ h.length k07.1 _ _ (t.holds.keep k07.2) di
     by_cases pD:zE s x.unl=0
     ·rw[pD] at e8
      simp[wG] at e8
      have vF:h8[2]? = some (wK ents):=(k8.2 2 (by have:=k07.1; omega)).trans h27
      have tS:h8[3]? = some (wI en ns a b):=(k8.2 3 (by have:=k07.1; omega)).trans tQ
      have t8:=(t7.keep k8.2).upTo k8.1
      obtain⟨h9,e9,k9⟩:=PR hL en ns a b ents k dk (s.at vis) eV x.til hx.til hx.ts false h8 vF tS h8.length (aq _) _ _ t8.holds pA
      rw[pD,Aw] at hN
      by_cases pE:zE (s.at vis) x.til=0
      ·rw[pE] at e9
       simp[wG] at e9
       rw[pE,Aw] at hN
       have h39:h9[3]? = some (wI en ns a b):=(k9.2 3 (by have:=k07.1; have:=k8.1; omega)).trans tS
       have t9:=(t8.keep k9.2).upTo k9.1
       have k09:Kp h.length h h9:=(k07.trans (k8.le k07.1)).trans (k9.le (aR k07.1 k8.1))
       have oV:=(Ds (s.at vis) x.eqs D _).1 sl
       have lf:=DH x.autos (s.at vis) (D++df6) _ tR
       have ec:df7=xR x.eqs++xH x.autos:=by
        have e1:=lf.1
        rw[oV.1,aC] at e1
        exact List.append_cancel_left e1
       have sn:∀y∈df7,y∉D:=by
        intro y hy
        rw[ec] at hy
        rcases ax.1 hy with h|h
        ·exact(oV.2.1.1 y h).2.2
        ·exact λhm=>(lf.2.1.1 y h).2.2 (bW _ hm)
       rw[O0 sn] at hN
       simp[e8,e9]
       refine b86 hL en ns a b x.locals hx.locals h9 h39 h.length _ _ _ _ _ _ _ _ t9 _ _ _ _ _ _ _ _ _ _ _ _ _ _ _ _ _ _ _ _ _ rfl ?_ ?_
       ·intro cY y10 g9
        simp only at cY
        have oQ:wX (wv x.locals) df7=[]:=Dt.2 cY
        rw[ah oQ] at hN
        have n9:=t9.hn
        have o9:=t9.ho
        rcases t9.row with⟨rfl,gt⟩|⟨kr,ic,eD,rfl,iS⟩
        ·simp only at gt
         have hd:=b6f hL false 128 [.ptr (h.length+2) 0] h9
         simp[n9,hd]
         refine⟨h9,_,⟨rfl,rfl⟩,k09,?_⟩
         unfold StOut
         rw[hN,ah rfl]
         exact⟨false,by simp[gt,wX]⟩
        ·have nK:=t9.rne _ _ _ _ rfl
         have hd:=c2I hL df7 (by rw[ec,av]; omega) h9 kr iS 128 [.ptr (h.length+2) 0] (λy=>decide (y∈wv x.locals)) (by
          intro w y _
          have n9':=(ao (l:=h9) (a:=w) nK.1).trans n9
          have o9':=(ao (l:=h9) (a:=w) nK.2.1).trans o9
          obtain⟨r,hr,eG,_⟩:=BM y O
          have tT:y∈O↔y∈wv x.locals:=by rw[vD]; simp
          refine wz (hL 128 _ rfl) rfl ?_
          by_cases hy:y∈O
          ·simp[hy] at eG
           obtain⟨c,rfl⟩:=eG
           simp[Hq,n9',o9',hr,xt,tT.1 hy]
          ·simp[hy] at eG
           subst eG
           have ga:¬y∈wv x.locals:=λh=>hy (tT.2 h)
           simp[Hq,n9',o9',hr,xt,ga])
         have me:df7.filter (λy => !decide (y∈wv x.locals))=wX df7 (wv x.locals):=rfl
         rw[me] at hd
         obtain⟨R,hR⟩:∃R,R=wX df7 (wv x.locals):=⟨_,rfl⟩
         rw[← hR] at hd hN
         have kL:kr<h9.length:=(aj.1 iS).1
         have it:(h9.set kr (.cells (R.map PV.str)))[kr]? = some (.cells (R.map PV.str)):=by rw[bp kL]
         have vG:=c0V R
         simp[n9,hd,it,vG,Gb]
         refine⟨_,_,⟨rfl,rfl⟩,k09.trans (Kp.set ic),?_⟩
         unfold StOut
         rw[hN,ah rfl]
         exact⟨false,rfl⟩
       ·intro eY y10 y22 g9
        have oQ:¬wX (wv x.locals) df7=[]:=λe=>eY (Dt.1 e)
        rw[af oQ] at hN
        simp
        exact⟨h9,_,⟨rfl,rfl⟩,k09,StOut.no a b (by decide) hN⟩
      ·simp[wG,pE] at e9
       simp[e8,e9]
       exact⟨h9,_,⟨rfl,rfl⟩,(k07.trans (k8.le k07.1)).trans (k9.le (aR k07.1 k8.1)),StOut.no a b pE (by rw[hN]; exact xZ (a:=(_,[])) pE _)⟩
     ·simp[wG,pD] at e8
      simp[e8]
      exact⟨h8,_,⟨rfl,rfl⟩,k07.trans (k8.le k07.1),StOut.no a b pD (by rw[hN]; exact xZ (a:=(_,[])) pD _)⟩
    ·intro lI h7 y9 y19 g7 k7
     simp only at lI
     simp
     exact⟨h7,_,⟨rfl,rfl⟩,((k1.trans k5).trans k6).trans k7,StOut.no a b lI (by rw[hN]; exact xZ lI _)⟩
   ·intro eE h6 y8 y16 g6 k6
    simp only[aL] at eE ⊢
    simp
    exact⟨h6,_,⟨rfl,rfl⟩,(k1.trans k5).trans k6,StOut.no a b eE (by rw[hN]; exact xZ eE _)⟩
  ·simp[wG,eQ] at hs
   simp[hs]
   exact⟨h5,_,⟨rfl,rfl⟩,k1.trans k5,StOut.no a b eQ (by rw[hN,nF,xZ eQ])⟩
 ·intro hz h5 y7 y13 g5 k5
  simp
  refine⟨h5,_,⟨rfl,rfl⟩,k1.trans k5,StOut.no a b hz ?_⟩
  have:xI s.vis s.tags x.locals=((w9 s.tags x.locals s.vis).1,[]):=by
   unfold xI; exact xZ hz _
  rw[hN,this]
  exact xZ (a:=(_,[])) hz _
end
section
variable {L:Nat→Option PFunc} (hL:∀k f,LS k=some f→L k=some f) (en:List Enum) (ns:List Node) (a b:Int) (ents:ye)
include hL
theorem c0W (l:List State) (hl:l.length≤1500) (h:List PObj) (h3:h[3]? = some (wI en ns a b)) (V0 V1 V2 V3 V5 V6 V7 V8 V9 V10 V11 V12 V16 V17 V18 V19 V20 V21:PV) (gi g:Nat) {Q:PExit→St→Prop} (jS:V0 = .ptr 3 0)
  (ok:(l.map (·.name)).Nodup→∀y5 y6 g',Q (.exit 0) ⟨[V0,V1,V2,V3,.loc gi [.list false (l.map w8)],y5,y6,V7,V8,V9,V10,V11,V12,.list false (l.map w8),.int .i64 l.length,.int .i64 l.length,V16,V17,V18,V19,V20,V21],[],g',h⟩)
  (no:¬(l.map (·.name)).Nodup→∀y5 y6 y15 g',Q (.boom (xV 1 a b 7)) ⟨[V0,V1,V2,V3,.loc gi [.list false (l.map w8)],y5,y6,V7,V8,V9,V10,V11,V12,.list false (l.map w8),.int .i64 l.length,y15,V16,V17,V18,V19,V20,V21],[],g',h⟩):
  wpL L JY ⟨[V0,V1,V2,V3,.loc gi [.list false (l.map w8)],V5,V6,V7,V8,V9,V10,V11,V12,.list false (l.map w8),.int .i64 l.length,.int .i64 0,V16,V17,V18,V19,V20,V21],[],g,h⟩ Q:=by
 subst jS
 have hT:=Cc hL en ns a b h h3 7
 have hF:=Cd hL en ns a b h h3 7
 rw[JY]
 refine yQ l.length (λj st=>∃y5 y6 g',st=⟨[.ptr 3 0,V1,V2,V3,.loc gi [.list false (l.map w8)],y5,y6,V7,V8,V9,V10,V11,V12,.list false (l.map w8),.int .i64 l.length,.int .i64 j,V16,V17,V18,V19,V20,V21],[],g',h⟩∧((l.take j).map (·.name)).Nodup) ?_ ?_ ⟨_,_,_,rfl,by simp⟩
 ·rintro j hj st ⟨y5,y6,g',rfl,dk⟩ ih
  have hw:=wC j (by omega)
  have rg:j≤l.length:=by omega
  have hc:=c2H hL (l.take j) (by simp; omega) false [] l[j]
  simp only[KS] at hc
  have ek:(l.map w8).take j=(l.take j).map w8:=by rw[List.map_take]
  have gu:(l.take (j+1)).map (·.name)=(l.take j).map (·.name)++[l[j].name]:=by simp only[bS,an hj,Option.toList,bk,aG,bA]
  obtain⟨T,tU⟩:∃T,T=(l.take j).map w8:=⟨_,rfl⟩
  have tV:wP T=true:=by rw[tU]; exact c0F _
  rw[← tU] at hc ek
  have pF:xq 6 (l.map w8)=true:=by
   cases l with
   | nil=>rfl
   | cons z l=>simp[xq]
  cases lJ:(l.take j).any λs=>decide (s.name=l[j].name) with
  | false =>
    rw[lJ] at hc
    simp[hj,hw,hc,hT,ek,pF,rg,bound,tV]
    refine ih _ ⟨_,_,_,rfl,?_⟩
    rw[gu,cy]
    refine⟨dk,by simp,?_⟩
    intro x hx y hy e
    rw[bH.1 hy] at e
    subst e
    obtain⟨z,hz,so⟩:=a8.1 hx
    have:=List.any_eq_false.1 lJ z hz
    simp[so] at this
  | true =>
    rw[lJ] at hc
    simp[hj,hw,hc,hF,ek,pF,rg,bound,tV]
    refine no ?_ _ _ _ _
    intro hn
    obtain⟨z,hz,so⟩:=List.any_eq_true.1 lJ
    have hs:l.map (·.name)=((l.take j).map (·.name)++[l[j].name])++(l.drop (j+1)).map (·.name):=by rw[← gu,← bk,bO]
    rw[hs,cy,cy] at hn
    exact hn.1.2.2 l[j].name (a8.2 ⟨z,hz,by simpa using so⟩) _ (bH.2 rfl) rfl
 ·rintro st ⟨y5,y6,g',rfl,dk⟩
  rw[aI] at dk
  simp
  exact ok dk _ _ _
theorem c0X (l:List Str) (hl:l.length≤1000000) (h:List PObj) (q' n o d:Nat) (i dv up:PV) (f:Fr) (fs:List Fr) (t:TopAt h h.length q' n o d i dv up f fs) (ft:∀x∈l,x∉f.D) (dk:l.Nodup)
  (V0 V1 V3 V4 V5 V6 V7 V8 V9 V10 V11 V12 V13 V14 V15 V16 V17 V18:PV) (g:Nat) {Q:PExit→St→Prop}
  (ok:∀h' y12,Kp q' h h'→h'.length=h.length→TopAt h' h'.length q' n o d i dv up { f with D:=f.D++l } fs→Q (.exit 4) ⟨[V0,V1,.ptr n 0,V3,V4,V5,V6,V7,V8,V9,V10,V11,y12,V13,V14,V15,V16,V17,V18,.list false (l.map PV.str),.int .i64 l.length,.int .i64 l.length],[],g,h'⟩):
  wpL L J0 ⟨[V0,V1,.ptr n 0,V3,V4,V5,V6,V7,V8,V9,V10,V11,V12,V13,V14,V15,V16,V17,V18,.list false (l.map PV.str),.int .i64 l.length,.int .i64 0],[],g,h⟩ Q:=by
 rw[J0]
 refine yQ l.length (λj st=>∃y12 h',st=⟨[V0,V1,.ptr n 0,V3,V4,V5,V6,V7,V8,V9,V10,V11,y12,V13,V14,V15,V16,V17,V18,.list false (l.map PV.str),.int .i64 l.length,.int .i64 j],[],g,h'⟩∧Kp q' h h'∧h'.length=h.length∧TopAt h' h'.length q' n o d i dv up { f with D:=f.D++l.take j } fs) ?_ ?_ ⟨_,h,rfl,Kp.refl _ _,rfl,by simpa using t⟩
 ·rintro j hj st ⟨y12,h',rfl,cZ,cI,ht⟩ ih
  have hw:=wC j (by omega)
  have hn:=ht.hn
  have hd:=ht.hd
  obtain⟨r',hr,_,ii⟩:=BM l[j] (f.D++l.take j)
  have gc:A1 (f.D++l.take j) l[j]=f.D++l.take (j+1):=by
   unfold A1
   rw[af]
   ·rw[bS,an hj]; simp
   ·intro hm
    rcases ax.1 hm with h1|h1
    ·exact ft _ (ae hj) h1
    ·obtain⟨c,hc,j4⟩:=bg.1 h1
     simp only[bG] at hc
     rw[bB] at j4
     have:=(List.getElem_inj (h₀:=by omega) (h₁:=hj) dk).1 j4
     omega
  rw[gc] at ii
  simp[hj,hn,hd,hr,ii,hw]
  have jJ:=ht.setD (f.D++l.take (j+1))
  refine ih _ ⟨_,_,rfl,cZ.trans (Kp.set ht.ld),by simp[cI],by simpa using jJ⟩
 ·rintro st ⟨y12,h',rfl,cZ,cI,ht⟩
  rw[aI] at ht
  simp
  exact ok h' _ cZ cI ht
end
def Lt (L:Nat→Option PFunc) (en:List Enum) (ns:List Node) (a b:Int) (ents:ye) (x:State):Prop:=
 ∀ (k : Nat), NodesIn ents ns k → ∀ (s : Place), s.before = ns.take k → BN ents s.tags → ∀ (h : List PObj), h[2]? = some (wK ents) → h[3]? = some (wI en ns a b) → ∀ (q' n o d : Nat) (i dv up : PV) (f : Fr) (fs : List Fr), TopAt h h.length q' n o d i dv up f fs → (∀ x, xK (f :: fs) x = true ↔ x ∈ s.vis) →
   ∀(d0:List Str),f.D=f.df→(∀x,(x∈f.I∨zw fs x=true)↔(x∈s.inputs∨x∈d0)) →
   ∃h' r,wQ L 102 [.ptr 3 0,.int .i64 k,.ptr n 0,w8 x] h=some (r,h')∧Kp h.length h h'∧StOut a b (x8 s (d0++f.df) x) r
theorem PZ {l m:List Str} (hl:l.Nodup) (hm:m.Nodup):A7 l m=(decide (l.length=m.length)&&l.all λx=>decide (x∈m)):=by
 rw[aF]
 simp only[A7,al,ak,aD,Dt]
 constructor
 ·rintro⟨h1,h2⟩
  have p1:=List.Nodup.length_le_of_subset hl h1
  have p2:=List.Nodup.length_le_of_subset hm h2
  exact⟨by omega,h1⟩
 ·rintro⟨h1,h2⟩
  refine⟨h2,λx hx=>cG λhn =>?_⟩
  have hc:(x::l).Nodup:=cu.2 ⟨hn,hl⟩
  have:=List.Nodup.length_le_of_subset hc (by
   intro y hy
   rcases aA.1 hy with rfl|hy
   ·exact hx
   ·exact h2 y hy)
  simp at this
  omega
section
variable {L:Nat→Option PFunc} (hL:∀k f,LS k=some f→L k=some f) (en:List Enum) (ns:List Node) (a b:Int) (ents:ye)
include hL
theorem c0Y (l:List State) (hl:l.length≤1500) (hS:∀y∈l,Lt L en ns a b ents y) (k:Nat) (dk:NodesIn ents ns k) (s:Place) (eV:s.before=ns.take k) (db:BN ents s.tags) (h:List PObj) (h2:h[2]? = some (wK ents)) (h3:h[3]? = some (wI en ns a b)) (q' n o d:Nat) (i dv up:PV) (f:Fr) (fs:List Fr) (t:TopAt h h.length q' n o d i dv up f fs) (di:∀x,xK (f::fs) x=true↔x∈s.vis)
  (d0:List Str) (hD:f.D=f.df) (dO:∀x,(x∈f.I∨zw fs x=true)↔(x∈s.inputs∨x∈d0)) (mD:∀y∈l,(yL y).length≤1000000)
  (V0 V1 V2 V3 V4 V5 V6 V9 V10 V11 V12 V13 V14 V15 V19 V20 V21:PV) (g:Nat) {Q:PExit→St→Prop} (jS:V0 = .ptr 3 0) (m9:V1 = .int .i64 k) (vH:V2 = .ptr n 0)
  (ok:(yM s (d0++f.df) l).1=0→∀h' y9 y10 y11 g' F,Kp h.length h h'→((l=[]∧F = .list true [])∨F = .list false (((l.map yL).headD []).map PV.str))→Q (.exit 2) ⟨[V0,V1,V2,V3,V4,V5,V6,F,.bool (l.all λy=>A7 (yL y) ((l.map yL).headD [])),y9,y10,y11,V12,V13,V14,V15,.list false (l.map w8),.int .i64 l.length,.int .i64 l.length,V19,V20,V21],[],g',h'⟩)
  (no:(yM s (d0++f.df) l).1≠0→∀h' W g',Kp h.length h h'→Q (.boom (xV 1 a b (yM s (d0++f.df) l).1)) ⟨W,[],g',h'⟩):
  wpL L JZ ⟨[V0,V1,V2,V3,V4,V5,V6,.list true [],.bool true,V9,V10,V11,V12,V13,V14,V15,.list false (l.map w8),.int .i64 l.length,.int .i64 0,V19,V20,V21],[],g,h⟩ Q:=by
 subst jS
 subst m9
 subst vH
 have h4:4≤h.length:=by have:=t.four; have:=t.ln; have:=t.un; omega
 obtain⟨D,pB⟩:∃D,D=d0++f.df:=⟨_,rfl⟩
 obtain⟨T,hT⟩:∃T,T=(l.map yL).headD []:=⟨_,rfl⟩
 rw[← pB] at ok no
 rw[← hT] at ok
 obtain⟨sm,iT⟩:∃sm:Nat→Bool,∀j,sm j=(l.take j).all (λx=>A7 (yL x) T):=⟨_,λ_=>rfl⟩
 rw[JZ]
 refine yQ l.length (λj st=>∃F y9 y10 y11 g' h',st=⟨[.ptr 3 0,.int .i64 k,.ptr n 0,V3,V4,V5,V6,F,.bool (sm j),y9,y10,y11,V12,V13,V14,V15,.list false (l.map w8),.int .i64 l.length,.int .i64 j,V19,V20,V21],[],g',h'⟩∧Kp h.length h h'∧(∀c (hc:c<l.length),c<j→(x8 s D l[c]).1=0)∧((j=0∧F = .list true [])∨F = .list false (T.map PV.str))) ?_ ?_ ⟨_,_,_,_,_,h,by rw[iT]; rfl,Kp.refl _ _,λc _ hc=>by omega,.inl ⟨rfl,rfl⟩⟩
 ·rintro j hj st ⟨F,y9,y10,y11,g',h',rfl,cZ,hz,hF⟩ ih
  have hw:=wC j (by omega)
  have fM:h'[2]? = some (wK ents):=(cZ.2 2 (by omega)).trans h2
  have eF:h'[3]? = some (wI en ns a b):=(cZ.2 3 (by omega)).trans h3
  obtain⟨h'',r,hx,fq,hr⟩:=hS _ (ae hj) k dk s eV db h' fM eF q' n o d i dv up f fs ((t.keep cZ.2).upTo cZ.1) di d0 hD dO
  rw[← pB] at hr
  have fH:Kp h.length h h'':=cZ.trans (fq.le cZ.1)
  unfold StOut at hr
  by_cases eQ:(x8 s D l[j]).1=0
  ·rw[ah eQ] at hr
   obtain⟨ow,rfl⟩:=hr
   have tW:=FS l[j] s D _ (yS eQ)
   rw[tW.1] at hx
   obtain⟨R,hR⟩:∃R,R=yL l[j]:=⟨_,rfl⟩
   have su:R.Nodup:=by rw[hR]; exact tW.2.1.2
   have hRl:R.length≤1000000:=by rw[hR]; exact mD _ (ae hj)
   have jm:sm (j+1)=(sm j&&A7 R T):=by
    have e:l.take (j+1)=l.take j++[l[j]]:=by rw[bS,an hj]; rfl
    rw[iT,iT,e,bU,hR]
    simp only[List.all_cons,List.all_nil,cd]
   rw[← hR] at hx
   have iD:∀c (hc:c<l.length),c<j+1→(x8 s D l[c]).1=0:=by
    intro c hc nx
    by_cases e:c=j
    ·subst e; exact eQ
    ·exact hz c hc (by omega)
   by_cases iQ:j=0
   ·subst iQ
    have vI:R=T:=by
     rw[hR,hT]
     cases l with
     | nil=>simp at hj
     | cons y l=>rfl
    rw[← vI] at jm ih hF
    have dt:=PS hL R R (by omega) (by omega) false false []
    rw[← PZ su su] at dt
    have fE:sm 0=true:=by rw[iT]; rfl
    rw[fE,ck] at jm
    simp[hj,hx,hw,fE,dt]
    exact ih _ ⟨_,_,_,_,_,h'',by rw[jm]; rfl,fH,iD,.inr rfl⟩
   ·have vJ:F = .list false (T.map PV.str):=by
     rcases hF with⟨e,_⟩|e
     ·exact absurd e iQ
     ·exact e
    subst vJ
    have nk:T=yL (l[0]'(by omega)):=by
     rw[hT]
     cases l with
     | nil=>simp at hj
     | cons y l=>rfl
    have vK:T.Nodup:=by
     rw[nk]
     exact(FS _ s D _ (yS (hz 0 (by omega) (by omega)))).2.1.2
    have vL:T.length≤1000000:=by rw[nk]; exact mD _ (ae _)
    have dt:=PS hL R T (by omega) (by omega) false false []
    rw[← PZ su vK] at dt
    have oO:¬(j:Int)=0:=by omega
    cases oP:sm j with
    | true =>
      rw[oP,ck] at jm
      simp[hj,hx,hw,iQ,oO,dt]
      exact ih _ ⟨_,_,_,_,_,h'',by rw[jm]; rfl,fH,iD,.inr rfl⟩
    | false =>
      rw[oP,bK] at jm
      simp[hj,hx,hw,iQ,oO,dt]
      exact ih _ ⟨_,_,_,_,_,h'',by rw[jm]; rfl,fH,iD,.inr rfl⟩
  ·rw[af eQ] at hr
   subst hr
   have hb:=Lb hj eQ (λc hc nx=>hz c hc nx)
   simp[hj,hx]
   have lB:(yM s D l).1=(x8 s D l[j]).1:=by rw[hb]
   rw[← lB]
   exact no (by rw[lB]; exact eQ) h'' _ _ fH
 ·rintro st ⟨F,y9,y10,y11,g',h',rfl,cZ,hz,hF⟩
  have cY:=La (s:=s) (d:=D) (l:=l) (λy hy=>by
   obtain⟨c,hc,rfl⟩:=bg.1 hy
   exact hz c hc hc)
  have rW:sm l.length=l.all (λx=>A7 (yL x) T):=by rw[iT,aI]
  rw[rW]
  simp
  refine ok (by rw[cY]) h' _ _ _ _ F cZ ?_
  rcases hF with⟨e,e2⟩|e
  ·exact .inl ⟨bb.1 e,e2⟩
  ·exact .inr e
end
theorem cells_str:∀l:List Str,(l.map PV.str).flatMap PV.cells=l.map PV.str
 | []=>rfl
 | x::l=>by rw[aG,bh,cells_str l]; rfl
section
variable {L:Nat→Option PFunc} (hL:∀k f,LS k=some f→L k=some f) (en:List Enum) (ns:List Node) (a b:Int) (ents:ye)
include hL
theorem P0 (l:List State) (hl:l.length≤1500) (hS:∀y∈l,Lt L en ns a b ents y) (mD:∀y∈l,(yL y).length≤1000000):Fo L en ns a b ents l:=by
 intro k dk s eV db h h2 h3 q' n o d i dv up f fs t di d0 hD dO gK
 suffices H:∃res,wQ L 62 [.ptr 3 0,.int .i64 k,.ptr n 0,xg l] h=some res∧∃h',res=(wG 1 a b (xA s (d0++f.df) l).1,h')∧Kp q' h h'∧((xA s (d0++f.df) l).1=0→∃dv' df',(d0++f.df)++(xA s (d0++f.df) l).2=d0++df'∧TopAt h' h'.length q' n o d i dv' up { f with D:=df',df:=df' } fs) by
  obtain⟨res,e1,h',e2,e3⟩:=H
  exact⟨h',by rw[e1,e2],e3⟩
 have lQ:q'≤h.length:=aR t.ln (Nat.le_of_lt t.un)
 have h4:4≤h.length:=by have:=t.four; omega
 refine Cb (hL 62 _ rfl) rfl ?_
 simp[J1]
 refine c0W hL en ns a b l hl h h3 _ _ _ _ _ _ _ _ _ _ _ _ _ _ _ _ _ _ _ _ rfl ?_ ?_
 ·intro hn y5 y6 g1
  simp
  refine c0Y hL en ns a b ents l hl hS k dk s eV db h h2 h3 q' n o d i dv up f fs t di d0 hD dO mD _ _ _ _ _ _ _ _ _ _ _ _ _ _ _ _ _ _ rfl rfl rfl ?_ ?_
  ·intro hz h' y9 y10 y11 g2 F cZ hF
   obtain⟨T,hT⟩:∃T,T=(l.map yL).headD []:=⟨_,rfl⟩
   rw[← hT] at hF ⊢
   obtain⟨b1,b2⟩:=KX l s (d0++f.df) (yM s (d0++f.df) l).2 (by rw[← hz])
   have dz:yM s (d0++f.df) l=(0,l.map yL):=by rw[← b1,← hz]
   have gS:xA s (d0++f.df) l=if l.all (λy=>A7 (yL y) T) then(0,T) else(8,[]):=by
    unfold xA
    rw[af (by simpa using hn),dz,af (by simp),List.all_map,← hT]
    rfl
   have eF:h'[3]? = some (wI en ns a b):=(cZ.2 3 (by omega)).trans h3
   have vM:=Cc hL en ns a b h' eF 8
   have vN:=Cd hL en ns a b h' eF 8
   have t1:=(t.keep cZ.2).upTo cZ.1
   cases dt:l.all (λy=>A7 (yL y) T) with
   | false =>
     rw[dt] at gS
     simp[vN]
     exact⟨h',by rw[gS]; exact⟨rfl,rfl⟩,cZ.le lQ,by rw[gS]; simp⟩
   | true =>
     rw[dt] at gS
     simp only[if_true] at gS
     have tX:Defs s (d0++f.df) T:=by
      rw[hT]
      cases l with
      | nil=>exact Defs.nil _ _
      | cons y l=>exact(b2 y (by simp)).1
     have vL:T.length≤1000000:=by
      rw[hT]
      cases l with
      | nil=>simp
      | cons y l=>exact mD y (by simp)
     have hTs:T.length+f.df.length≤1000000:=by
      have:xH [l]=T:=by rw[Dr,← hT]; simp[xH]
      rw[this] at gK; omega
     have ft:∀x∈T,x∉f.D:=λx hx hm=>(tX.1 x hx).2.2 (cg _ (hD▸hm))
     have mR:∃ow,F = .list ow (T.map PV.str):=by
      rcases hF with⟨jz,e⟩|e
      ·subst jz; exact⟨true,by rw[e,hT]; rfl⟩
      ·exact⟨false,e⟩
     obtain⟨ow,rfl⟩:=mR
     simp[vM]
     refine c0X hL T (by omega) h' q' n o d i dv up f fs t1 ft tX.2 _ _ _ _ _ _ _ _ _ _ _ _ _ _ _ _ _ _ _ ?_
     intro fR y12 kK kJ t4
     have n4:=t4.hn
     have fO:=t4.un
     have lY:=t4.ln
     have sx:Kp q' h fR:=(cZ.le lQ).trans kK
     have iW:f.D++T=f.df++T:=by rw[hD]
     have fin:∀(hh:List PObj) (dv':PV),Kp q' h hh→TopAt hh hh.length q' n o d i dv' up { f with D:=f.D++T,df:=f.df++T } fs→∃h'',((Out.val (PV.tuple [])=wG 1 a b (xA s (d0++f.df) l).1∧hh=h''))∧Kp q' h h''∧((xA s (d0++f.df) l).1=0→∃dv',TopAt h'' h''.length q' n o d i dv' up { O:=f.O,D:=f.df++(xA s (d0++f.df) l).2,I:=f.I,df:=f.df++(xA s (d0++f.df) l).2 } fs):=by
      intro hh dv' hk ht
      refine⟨hh,by rw[gS]; exact⟨rfl,rfl⟩,hk,λ_=>⟨dv',?_⟩⟩
      rw[iW] at ht
      rw[gS]
      exact ht
     have ea:(T.map PV.str).flatMap PV.cells=T.map PV.str:=cells_str T
     have jY:(dem∘PV.str)=PV.str:=rfl
     have pF:xq 1 (T.map PV.str)=true:=by cases T<;>rfl
     rcases t4.row with⟨rfl,gt⟩|⟨kr,ic,eD,rfl,iS⟩
     ·simp only at gt
      by_cases nI:T=[]
      ·subst nI
       have iJ:fR.set n (.cells [up,.map (some o),.map (some d),i,.list true []])=fR:=Fq n4
       obtain⟨h5,e5⟩:∃h5,fR.set n (.cells [up,.map (some o),.map (some d),i,.list false []])=h5:=⟨_,rfl⟩
       have n5:h5[n]? = some (.cells [up,.map (some o),.map (some d),i,.list false []]):=by rw[← e5,bp fO]
       have vO:h5.set n (.cells [up,.map (some o),.map (some d),i,.list true []])=fR:=by rw[← e5,List.set_set]; exact iJ
       simp[n4,Cf,yO,e5,n5,vO]
       exact fin fR _ sx (by simpa using t4)
      ·obtain⟨h5,e5⟩:∃h5,fR.set n (.cells [up,.map (some o),.map (some d),i,.list false []])=h5:=⟨_,rfl⟩
       have ir:h5.length=fR.length:=by rw[← e5]; simp
       have n5:(h5++[PObj.cells (T.map PV.str)])[n]? = some (.cells [up,.map (some o),.map (some d),i,.list false []]):=by
        rw[am (by omega),← e5,bp fO]
       have lh:=t4.push T h5 ir (λc hc=>by rw[← e5,ao (by omega)]) (λc _ _ lE=>by rw[← e5,ao (Ne.symm lE)])
       have eJ:T.length≤2147483648:=by omega
       simp[n4,e5,n5,Cf,ea,pF,nI,eJ,jY,yO]
       rw[ir]
       refine fin _ (.rowp fR.length 1 false T.length) ?_ ?_
       ·refine Kp.trans sx ⟨by simp[ir],λc hc =>?_⟩
        rw[ao (by omega),am (by omega),← e5,ao (by omega)]
       ·have:((h5++[PObj.cells (T.map PV.str)]).set n (.cells [up,.map (some o),.map (some d),i,.rowp fR.length 1 false T.length])).length=fR.length+1:=by simp[ir]
        rw[this,gt,bu]
        exact lh
     ·obtain⟨h5,e5⟩:∃h5,fR.set kr .gone=h5:=⟨_,rfl⟩
      have ir:h5.length=fR.length:=by rw[← e5]; simp
      have nK:=(t4.rne _ _ _ _ rfl).1
      simp only at iS
      have n5:(h5++[PObj.cells (f.df.map PV.str++T.map PV.str)])[n]? = some (.cells [up,.map (some o),.map (some d),i,.rowp kr 1 false f.df.length]):=by
       rw[am (by omega),← e5,ao nK]; exact n4
      have lh:=t4.push (f.df++T) h5 ir (λc hc=>by rw[← e5,ao (by omega)]) (λc hc eY lE=>by
       have:kr≠c:=by
        intro sf
        exact absurd rfl (eY 1 false f.df.length |> λh=>by subst sf; exact h)
       rw[← e5,ao this])
      simp only[bk,av] at lh
      have eJ:f.df.length+T.length≤2147483648:=by omega
      have dI:(f.df.map PV.str).take f.df.length=f.df.map PV.str:=cA (by simp)
      have sg:List.map PV.str (f.df.take f.df.length)=List.map PV.str f.df:=by rw[aI]
      simp[n4,Cf,iS,ea,pF,eJ,dI,jY,sg,e5,n5,yO]
      refine fin _ (.rowp fR.length 1 false (f.df.length+T.length)) ?_ ?_
      ·refine Kp.trans sx ⟨by simp[ir],λc hc =>?_⟩
       rw[ao (by omega),am (by omega),← e5,ao (by omega)]
      ·have:((h5++[PObj.cells (f.df.map PV.str++T.map PV.str)]).set n (.cells [up,.map (some o),.map (some d),i,.rowp fR.length 1 false (f.df.length+T.length)])).length=fR.length+1:=by simp[ir]
       rw[this]
       exact lh
  ·intro hz h' W g2 cZ
   simp
   have gS:xA s (d0++f.df) l=((yM s (d0++f.df) l).1,[]):=by
    unfold xA
    rw[af (by simpa using hn),ah hz]
   exact⟨h',by rw[gS]; simp[wG,hz],cZ.le lQ,λh0=>absurd (by rw[gS] at h0; exact h0) hz⟩
 ·intro hn y5 y6 y15 g1
  simp
  have gS:xA s (d0++f.df) l=(7,[]):=by unfold xA; rw[ah hn]
  exact⟨h,by rw[gS]; exact⟨rfl,rfl⟩,Kp.refl _ _,by rw[gS]; simp⟩
end
theorem Jv:∀l:List Eqn,(xR l).length≤wu Eqn.parts l
 | []=>by simp[xR,wu]
 | q :: l => by
   have:=Jv l
   have e:xR (q::l)=q.left++xR l:=by simp[xR]
   rw[e]
   simp only[av,wu,Eqn.parts]
   omega
theorem Lu (x:State):(yL x).length≤(AU x).length:=by unfold yL wX; exact List.length_filter_le _ _
theorem Jw:∀l:List (List State),(∀a∈l,∀x∈a,(AU x).length≤x.parts)→(xH l).length≤yI l
 | [],_=>by simp[xH,yI]
 | a :: l, h => by
   have:=Jw l (λb hb=>h b (by simp[hb]))
   rw[Dr]
   cases a with
   | nil=>simp[yI,Ce]; omega
   | cons y a =>
     have h1:=h (y::a) (by simp) y (by simp)
     have h2:=Lu y
     simp only[aG,List.headD_cons,av,yI,Ce]
     omega
theorem GX (x:State):(AU x).length≤x.parts:=by
 induction x using State.ind with
 | h s ih =>
   cases s with
   | mk n l e a u w =>
     have h1:=Jv e
     have h2:=Jw a ih
     simp only[AU,av,State.parts]
     omega
section
variable {L:Nat→Option PFunc} (hL:∀k f,LS k=some f→L k=some f) (en:List Enum) (ns:List Node) (a b:Int) (ents:ye)
include hL
theorem c2Q (x:State):SW x→x.parts≤1000000→Lt L en ns a b ents x:=by
 induction x using State.ind with
 | h x ih =>
   intro hx hp
   have cO:∀y∈x.autos,∀z∈y,z.parts≤x.parts:=by
    intro y hy z hz
    cases x with
    | mk n l e au u w =>
      have hy:y∈au:=hy
      have h1:Ce y≤yI au:=by
       rw[Ej,Ek]
       have:=A3 (λa=>1+wu State.parts a) hy
       omega
      have h2:z.parts≤Ce y:=by rw[Ek]; exact A3 _ hz
      simp only[State.parts]
      omega
   intro k dk s eV db h h2 h3 q' n o d i dv up f fs t di d0 hD dO
   refine c4k hL en ns a b ents x hx ?_ (aR (GX x) hp) k dk s eV db h h2 h3 q' n o d i dv up f fs t di d0 hD dO
   intro y hy
   refine P0 hL en ns a b ents y (hx.as y hy) (λz hz=>ih y hy z hz (hx.ss y hy z hz) (aR (cO y hy z hz) hp)) (λz hz =>?_)
   exact aR (Lu z) (aR (GX z) (aR (cO y hy z hz) hp))
theorem c4l (x:List State) (hl:x.length≤1500) (hx:∀y∈x,SW y) (hp:∀y∈x,y.parts≤1000000):Fo L en ns a b ents x:=
 P0 hL en ns a b ents x hl (λz hz=>c2Q hL en ns a b ents z (hx z hz) (hp z hz)) (λz hz=>aR (Lu z) (aR (GX z) (hp z hz)))
end
section
variable {L:Nat→Option PFunc} (hL:∀k f,LS k=some f→L k=some f) (en:List Enum) (ns:List Node) (a b:Int) (ents:ye)
include hL
theorem b7L (k:Nat) (hn:NodesIn ents ns k) (s:Place) (eV:s.before=ns.take k) (l:List Expr) (hl:l.length≤1500) (hw:∀x∈l,XW x) (h:List PObj) (h2:h[2]? = some (wK ents)) (h3:h[3]? = some (wI en ns a b)) (v:PV) (fs:List Fr) (hv:Holds h h.length v fs) (di:∀x,xK fs x=true↔x∈s.vis)
  (V0 V1 V2 V3 V4 V5 V6 V7 V8 V9:PV) (g:Nat) {Q:PExit→St→Prop} (jS:V0 = .ptr 3 0) (m9:V1 = .int .i64 k) (rU:V4=v)
  (ok:wA (λe=>xe s e 1) l=0→∀h' y6 g',Kp h.length h h'→Q (.exit 2) ⟨[V0,V1,V2,V3,V4,V5,y6,V7,V8,V9,.list false (l.map wy),.int .i64 l.length,.int .i64 l.length],[],g',h'⟩)
  (no:wA (λe=>xe s e 1) l≠0→∀h' W g',Kp h.length h h'→Q (.boom (xV 1 a b (wA (λe=>xe s e 1) l))) ⟨W,[],g',h'⟩):
  wpL L GV ⟨[V0,V1,V2,V3,V4,V5,V6,V7,V8,V9,.list false (l.map wy),.int .i64 l.length,.int .i64 0],[],g,h⟩ Q:=by
 subst jS
 subst m9
 subst rU
 have iG:=hv.cp
 have iH:=hv.tkv
 have lg:=hv.dem
 rw[GV]
 refine yQ l.length (λj st=>∃y6 g' h',st=⟨[.ptr 3 0,.int .i64 k,V2,V3,V4,V5,y6,V7,V8,V9,.list false (l.map wy),.int .i64 l.length,.int .i64 j],[],g',h'⟩∧Kp h.length h h'∧wA (λe=>xe s e 1) l=wA (λe=>xe s e 1) (l.drop j)) ?_ ?_ ⟨_,_,h,rfl,Kp.refl _ _,rfl⟩
 ·rintro j hj st ⟨y6,g',h',rfl,cZ,da⟩ ih
  have se:=wC j (by omega)
  have md:3<h.length:=(aj.1 h3).1
  have fM:h'[2]? = some (wK ents):=(cZ.2 2 (by omega)).trans h2
  have eF:h'[3]? = some (wI en ns a b):=(cZ.2 3 md).trans h3
  obtain⟨h'',hx,fq⟩:=Lq hL en ns a b ents k hn s eV l[j] (hw _ (ae hj)).ew 1 h' fM eF h.length cZ.1 V4 fs (hv.keep cZ.2) di
  have fH:Kp h.length h h'':=cZ.trans (fq.le cZ.1)
  rw[aN hj] at da
  have iC:wA (λe=>xe s e 1) (l[j]::l.drop (j+1))=if xe s l[j] 1=0 then wA (λe=>xe s e 1) (l.drop (j+1)) else xe s l[j] 1:=rfl
  rw[iC] at da
  by_cases hz:xe s l[j] 1=0
  ·rw[ah hz] at da
   rw[hz] at hx
   simp[wG] at hx
   simp[hj,iG,iH,hx,se]
   exact ih _ ⟨_,_,_,rfl,fH,da⟩
  ·rw[af hz] at da
   simp[wG,hz] at hx
   simp[hj,iG,iH,hx]
   rw[← da]
   exact no (by rw[da]; exact hz) h'' _ _ fH
 ·rintro st ⟨y6,g',h',rfl,cZ,da⟩
  rw[ba (aq _)] at da
  simp
  exact ok da h' _ _ cZ
end
def Fs (sz by':Nat) (z:List PV):PFunc:=⟨2,3,(S (R [t 2 (.c (.list true []))]) (S (B [m v1,b .lss l0 (k 0)] l1 (R [m (.c .dead),r (.mov (.c .dead))]) Z) (S (S (R [m v1,m v0,p (.cap l1),m v0,n l3,b .sub l2 l4,b .sub l0 l5,t 1 l6]) (B [m v1,b .gtr l0 (k 0)] l1 (R [m v0,m v0,p (.cap l1),p (.slice false sz l0 none (some l2)),m v1,p (.h (.happz sz true by' z l3 l4)),m v0,n l6,p (.slice false sz l5 none (some l7)),t 0 l8]) Z)) (S (R [m v0,t 2 l0]) Y)))),[.keep 2],false,none,none⟩
def JA:PC:=(.loop (S (B [b .lss v8 v7] l0 Z (X 0)) (S (K 1 (S (R [i 1 v6 v8,c l0,t 3 l1]) (S (R [m v2,m v3,n l1,b .add l0 l2,t 2 l3]) (B [m v2,b .lss l0 (k 0)] l1 (R [m (.c .dead),r (.mov (.c .dead))]) Z)))) (R [b .add v8 (k 1),q 8 (.mov l0)]))))
def JB (sz by':Nat):PC:=(.loop (S (B [b .lss xl xd] l0 Z (X 2)) (S (K 3 (S (R [i 1 v9 xl,c l0,t 5 l1]) (R [p (.take v4),m v5,p (.h (.happ sz true by' l0 l1)),t 4 l2]))) (R [b .add xl (k 1),q 11 (.mov l0)]))))
def NE (sz by' gr:Nat) (res:PRes):PFunc:=⟨1,12,(S (R [t 1 (.c .nils)]) (S (R [t 2 (k 0)]) (S (S (R [q 6 (.mov v0),q 7 (.len false v6),q 8 (.mov (k 0))]) (K 0 JA)) (S (R [m v2,fh gr [(.c .nils),l0],t 4 l1]) (S (S (R [q 9 (.mov v0),q 10 (.len false v9),q 11 (.mov (k 0))]) (K 2 (JB sz by'))) (S (R [m v4,t 1 l0]) Y)))))),[res],false,none,none⟩
structure Enc {α:Type} (e:α→PV) (sz:Nat):Prop where
 agg:∀x,e x = .agg (e x).cells
 len:∀x,(e x).cells.length=sz
 dem:∀x,(e x).cells.map dem=(e x).cells
 pos:0<sz
section
variable {α:Type} {e:α→PV} {sz:Nat} (he:Enc e sz)
def RowOf (e:α→PV) (sz:Nat) (h:List PObj) (b:Nat) (v:PV) (l:List α):Prop:=(v = .nils∧l=[])∨∃k cs,b≤k∧v = .rowp k sz true l.length∧h[k]? = some (.cells cs)∧l.length*sz≤cs.length∧cs.take (l.length*sz)=(l.map e).flatMap PV.cells
def yW (e:α→PV) (gs:List (List α)):List PV:=gs.map λg => .list false (g.map e)
def yv (gs:List (List α)):Nat:=wu List.length gs
theorem JC:∀(a b:List (List α)),yv (a++b)=yv a+yv b
 | [],b=>by simp[yv,wu]
 | x :: a, b => by
   have:=JC a b
   simp only[yv] at this
   simp only[yv,aW,wu,this]; omega
theorem NG (gs:List (List α)) (j:Nat) (hj:j<gs.length):yv (gs.take (j+1))=yv (gs.take j)+gs[j].length:=by
 rw[zn hj,JC]
 simp[yv,wu]
theorem NH (gs:List (List α)) (j:Nat):yv (gs.take j)≤yv gs:=by
 have:=JC (gs.take j) (gs.drop j)
 rw[bO] at this; omega
theorem Nr (gs:List (List α)):gs.flatten.length=yv gs:=by
 induction gs with
 | nil=>rfl
 | cons x gs ih=>rw[List.flatten_cons,av,ih]; simp[yv,wu]
include he
theorem Enc.cellsDem:∀l:List α,((l.map e).flatMap PV.cells).map PI.dem=(l.map e).flatMap PV.cells
 | []=>rfl
 | x :: l => by
   rw[aG,bh,bk,Enc.cellsDem l,he.dem]
theorem Enc.cellsLen:∀l:List α,((l.map e).flatMap PV.cells).length=l.length*sz
 | []=>by simp
 | x :: l => by
   rw[aG,bh,av,Enc.cellsLen l,he.len,bi,Nat.succ_mul]; omega
theorem Enc.head (l:List α):xq sz (l.map e)=true:=by
 cases l with
 | nil=>rfl
 | cons x l=>simp[xq,he.len]
theorem Enc.els (l:List α) (cs:List PV) (hc:cs.take (l.length*sz)=(l.map e).flatMap PV.cells):zM sz true cs l.length 0=some (l.map e):=by
 have key:∀(l:List α) (pre post:List PV),zM sz true (pre++((l.map e).flatMap PV.cells++post)) l.length pre.length=some (l.map e):=by
  intro l
  induction l with
  | nil=>intro pre post; rfl
  | cons x l ih =>
    intro pre post
    have h1:=ih (pre++(e x).cells) post
    rw[av,he.len] at h1
    have h2:pre++(e x).cells++((l.map e).flatMap PV.cells++post)=pre++(((x::l).map e).flatMap PV.cells++post):=by simp
    rw[h2] at h1
    have h3:wD sz true (pre++(((x::l).map e).flatMap PV.cells++post)) pre.length=some (e x):=by
     have hl:=he.len x
     have h4:pre.length+sz≤(pre++(((x::l).map e).flatMap PV.cells++post)).length:=by
      rw[av,av,aG,bh,av]; omega
     simp only[wD,if_true,h4,List.drop_left']
     rw[aG,bh,aC,List.take_left' hl,he.dem,← he.agg]
    rw[bi,zM,h3,ar,h1]
    rfl
 have:=key l [] (cs.drop (l.length*sz))
 rw[← hc,bO] at this
 exact this
theorem Enc.happ {by':Nat} (ik:by'≤16384) (h:List PObj) (b:Nat) (hb:b≤h.length) (v:PV) (l m:List α) (hv:RowOf e sz h b v l) (hl:l.length+m.length≤4500):∃v' h',(∀st:St,st.heap=h→Cf h sz true by' (m.map e) v st=some (v',{ st with heap:=h' }))∧Kp b h h'∧RowOf e sz h' b v' (l++m):=by
 have tp:=he.head m
 rcases hv with⟨rfl,rfl⟩|⟨k,cs,hk,rfl,hc,dm,rC⟩
 ·by_cases hm:m=[]
  ·subst hm
   refine⟨.nils,h,?_,Kp.refl _ _,.inl ⟨rfl,rfl⟩⟩
   intro st dz
   simp[Cf,← dz]
  ·refine⟨.rowp h.length sz true m.length,h++[.cells ((m.map e).flatMap PV.cells)],?_,Kp.app hb,.inr ⟨h.length,(m.map e).flatMap PV.cells,hb,by simp,by simp,?_,?_⟩⟩
   ·intro st dz
    have h1:m.length≤2147483648:=by simp at hl; omega
    have u4:¬m.map e=[]:=by simpa using hm
    simp only[Cf,u4,if_false,tp,aS,h1,he.cellsDem,ik]
    simp[dz]
   ·rw[he.cellsLen]; simp
   ·rw[bu,cA (by rw[he.cellsLen]; omega)]
 ·have lq:k<h.length:=(aj.1 hc).1
  refine⟨.rowp h.length sz true (l.length+m.length),h.set k .gone++[.cells ((l.map e).flatMap PV.cells++(m.map e).flatMap PV.cells)],?_,⟨by simp,λn hn =>?_⟩,.inr ⟨h.length,(l.map e).flatMap PV.cells++(m.map e).flatMap PV.cells,hb,by simp,?_,?_,?_⟩⟩
  ·intro st dz
   have h1:l.length+m.length≤2147483648:=by omega
   simp only[Cf,hc,tp,aS,h1,dm,rC,he.cellsDem,ik]
   simp
  ·rw[am (by simp; omega),ao (by omega)]
  ·have:(h.set k .gone).length=h.length:=by simp
   rw[← this,ap (aq _)]
   simp
  ·rw[av,av,he.cellsLen,he.cellsLen,aP]; omega
  ·rw[bk,List.flatMap_append,cA (by rw[av,av,he.cellsLen,he.cellsLen,aP]; omega)]
end
theorem RowOf.cp {α:Type} {e:α→PV} {sz:Nat} {h:List PObj} {b:Nat} {v:PV} {l:List α} (hv:RowOf e sz h b v l):cp v=some v∧tkv v=some (v,false)∧dem v=v:=by
 rcases hv with⟨rfl,_⟩|⟨k,cs,_,rfl,_⟩<;>exact⟨rfl,rfl,rfl⟩
section
variable {L:Nat→Option PFunc} {α:Type} {e:α→PV} {sz by' gr:Nat} {z:List PV} (he:Enc e sz) (ik:by'≤16384)
theorem d3v {sz by':Nat} {z:List PV} (hf:L gr=some (Fs sz by' z)) (h:List PObj):wr L gr [.nils,.int .i64 0] h=some (.nils,h):=by
 refine wz hf rfl ?_
 have mc:IntKind.i64.wrap (-IntKind.i64.wrap 0)=0:=by decide
 simp[Fs,mc]
theorem d3w {sz by':Nat} {z:List PV} (ik:by'≤16384) (hf:L gr=some (Fs sz by' z)) (n:Nat) (h0:0<n) (hn:n≤4500) (h:List PObj):∃cs,wr L gr [.nils,.int .i64 n] h=some (.rowp h.length sz true 0,h++[.cells cs]):=by
 have rQ:(0:Int)<n:=by omega
 have nB:(n:Int)≤2147483648:=by omega
 have rR:¬(n:Int)<0:=by omega
 have rS:IntKind.i64.wrap 0=0:=by decide
 have hw:IntKind.i64.wrap (n:Int)=n:=by
  have:=wC (n - 1) (by omega)
  have e:((n - 1:Nat):Int)+1=n:=by omega
  rw[e] at this
  rw[this]
  omega
 refine⟨(List.replicate n (z.map dem)).flatten,?_⟩
 refine wz hf rfl ?_
 simp[Fs,rQ,nB,rR,h0,hw,rS,ik]
theorem c9K (gs:List (List α)) (hg:gs.length≤1500) (hn:yv gs≤4500) (h:List PObj) (V0 V1 V3 V4 V5 V9 V10 V11:PV) (g:Nat) {Q:PExit→St→Prop}
  (ok:∀y3,Q (.exit 0) ⟨[V0,V1,.int .i64 (yv gs),y3,V4,V5,.list false (yW e gs),.int .i64 gs.length,.int .i64 gs.length,V9,V10,V11],[],g,h⟩):
  wpL L JA ⟨[V0,V1,.int .i64 0,V3,V4,V5,.list false (yW e gs),.int .i64 gs.length,.int .i64 0,V9,V10,V11],[],g,h⟩ Q:=by
 rw[JA]
 refine yQ gs.length (λj st=>∃y3,st=⟨[V0,V1,.int .i64 (yv (gs.take j)),y3,V4,V5,.list false (yW e gs),.int .i64 gs.length,.int .i64 j,V9,V10,V11],[],g,h⟩) ?_ ?_ ⟨_,by simp[yv,wu]; rfl⟩
 ·rintro j hj st ⟨y3,rfl⟩ ih
  have hw:=wC j (by omega)
  have ht:=NG gs j hj
  have el:=NH gs (j+1)
  obtain⟨A,hA⟩:∃A,A=yv (gs.take j):=⟨_,rfl⟩
  obtain⟨B,hB⟩:∃B,B=yv (gs.take (j+1)):=⟨_,rfl⟩
  rw[← hA,← hB] at ht
  rw[← hB] at el
  have u5:IntKind.i64.wrap ((A:Int)+gs[j].length)=B:=by
   have:=NI (A+gs[j].length) (by omega)
   rw[show (A:Int)+gs[j].length=((A+gs[j].length:Nat):Int) by omega,this,ht]
  have oM:j<(yW e gs).length:=by simpa[yW] using hj
  have mW:(yW e gs)[j]? = some (.list false (gs[j].map e)):=by simp[yW,hj]
  rw[← hA]
  rw[← hB] at ih
  obtain⟨GS,rT⟩:∃GS,GS=yW e gs:=⟨_,rfl⟩
  rw[← rT] at ih oM mW ⊢
  have oN:GS[j] = .list false (gs[j].map e):=(aj.1 mW).2
  have dm:∀es,(PV.list false es).cells=[.list false es]:=λ_=>rfl
  have u6:¬(B:Int)<0:=by omega
  simp[hj,oM,mW,hw,u5,oN,dm,u6]
  exact ih _ ⟨_,rfl⟩
 ·rintro st ⟨y3,rfl⟩
  rw[aI]
  simp
  exact ok _
include he ik
theorem NJ (gs:List (List α)) (hg:gs.length≤1500) (hn:yv gs≤4500) (h:List PObj) (b:Nat) (hb:b≤h.length) (V4:PV) (rU:RowOf e sz h b V4 []) (V0 V1 V2 V3 V5 V6 V7 V8:PV) (g:Nat) {Q:PExit→St→Prop}
  (ok:∀h' v y5,Kp b h h'→RowOf e sz h' b v gs.flatten→Q (.exit 2) ⟨[V0,V1,V2,V3,v,y5,V6,V7,V8,.list false (yW e gs),.int .i64 gs.length,.int .i64 gs.length],[],g,h'⟩):
  wpL L (JB sz by') ⟨[V0,V1,V2,V3,V4,V5,V6,V7,V8,.list false (yW e gs),.int .i64 gs.length,.int .i64 0],[],g,h⟩ Q:=by
 rw[JB]
 refine yQ gs.length (λj st=>∃v y5 h',st=⟨[V0,V1,V2,V3,v,y5,V6,V7,V8,.list false (yW e gs),.int .i64 gs.length,.int .i64 j],[],g,h'⟩∧Kp b h h'∧RowOf e sz h' b v (gs.take j).flatten) ?_ ?_ ⟨_,_,h,rfl,Kp.refl _ _,rU⟩
 ·rintro j hj st ⟨v,y5,h',rfl,cZ,hv⟩ ih
  have hw:=wC j (by omega)
  have ht:=NG gs j hj
  have el:=NH gs (j+1)
  have fW:(gs.take (j+1)).flatten=(gs.take j).flatten++gs[j]:=by
   rw[zn hj,List.flatten_append]; simp
  obtain⟨v',h'',nC,fq,dN⟩:=he.happ ik h' b (aR hb cZ.1) v _ gs[j] hv (by rw[Nr]; omega)
  have mW:(yW e gs)[j]? = some (.list false (gs[j].map e)):=by simp[yW,hj]
  have oM:j<(yW e gs).length:=by simpa[yW] using hj
  obtain⟨GS,rT⟩:∃GS,GS=yW e gs:=⟨_,rfl⟩
  rw[← rT] at ih oM mW ⊢
  have oN:GS[j] = .list false (gs[j].map e):=(aj.1 mW).2
  have dm:∀es,(PV.list false es).cells=[.list false es]:=λ_=>rfl
  have hc:=hv.cp
  have iR:=dN.cp
  rw[← fW] at dN
  simp[hj,oM,mW,hw,oN,dm,hc.1,hc.2.1,hc.2.2,nC,iR.1,iR.2.1,iR.2.2]
  exact ih _ ⟨v',_,h'',rfl,cZ.trans fq,dN⟩
 ·rintro st ⟨v,y5,h',rfl,cZ,hv⟩
  rw[aI] at hv
  simp
  exact ok h' v y5 cZ hv
theorem c3X {k:Nat} (hf:L k=some (NE sz by' gr (.keep 1))) (nD:L gr=some (Fs sz by' z)) (gs:List (List α)) (hg:gs.length≤1500) (hn:yv gs≤4500) (o:Bool) (h:List PObj):∃v h',wr L k [.list o (yW e gs)] h=some (v,h')∧Kp h.length h h'∧RowOf e sz h' h.length v gs.flatten:=by
 suffices H:∃r,wr L k [.list o (yW e gs)] h=some r∧Kp h.length h r.2∧RowOf e sz r.2 h.length r.1 gs.flatten from by
  obtain⟨⟨v,h'⟩,h1,h2,h3⟩:=H
  exact⟨v,h',h1,h2,h3⟩
 refine Bl hf rfl ?_
 have rV:(yW e gs).length=gs.length:=by simp[yW]
 simp[NE,rV]
 refine c9K gs hg hn h _ _ _ _ _ _ _ _ _ ?_
 intro y3
 by_cases h0:yv gs=0
 ·have nD:=d3v nD h
  have rQ:(yv gs:Int)=0:=by omega
  simp[rQ,nD,rV]
  refine NJ he ik gs hg hn h h.length (aq _) .nils (.inl ⟨rfl,rfl⟩) _ _ _ _ _ _ _ _ _ ?_
  intro h' v y5 hk hv
  have hc:=hv.cp
  simp[hc.1,hc.2.1,hc.2.2,yJ]
  exact⟨hk,hv⟩
 ·obtain⟨cs,nD⟩:=d3w ik nD (yv gs) (by omega) hn h
  simp[nD,rV]
  refine NJ he ik gs hg hn _ h.length (by simp) (.rowp h.length sz true 0) (.inr ⟨h.length,cs,aq _,rfl,by simp,by simp,by simp⟩) _ _ _ _ _ _ _ _ _ ?_
  intro h' v y5 hk hv
  have hc:=hv.cp
  simp[hc.1,hc.2.1,hc.2.2,yJ]
  exact⟨(Kp.app (aq _)).trans hk,hv⟩
end
theorem JD:Enc wF 3:=⟨λ_=>rfl,λ_=>rfl,λ_=>rfl,by decide⟩
section
variable {L:Nat→Option PFunc} (hL:∀k f,LS k=some f→L k=some f)
include hL
theorem c4m (l:List On) (hl:l.length≤1500) (o:Bool) (h:List PObj):∃r,wr L 34 [.list o (l.map eOn)] h=some (.list r (l.map eOn),h):=by
 refine⟨true,?_⟩
 refine b9d (hL 34 _ rfl) rfl rfl ?_ ?_
 ·intro hv
  cases l with
  | nil=>simp at hv
  | cons x l =>
    rw[bi] at hl
    have h1:l.length+1≤9223372036854775807:=by omega
    have h2:(l.length+1)*32≤140737488355328:=by omega
    have h3:l.length+1≤2147483648:=by omega
    simp[Hc,h1,h2,h3]
 ·intro hv
  cases l with
  | nil=>simp[Hc]
  | cons x l=>simp at hv
end
section
variable {L:Nat→Option PFunc} (hL:∀k f,LS k=some f→L k=some f)
include hL
theorem Nq (gs:List (List Decl)) (hg:gs.length≤1500) (hn:yv gs≤4500) (o:Bool) (h:List PObj):∃v h',wr L 33 [.list o (yW wF gs)] h=some (v,h')∧Kp h.length h h'∧RowOf wF 3 h' h.length v gs.flatten:=
 c3X JD (by decide) (k:=33) (by':=48) (gr:=74) (hL 33 _ rfl) (hL 74 _ rfl) gs hg hn o h
theorem No (l:List Decl) (cs:List PV) (hc:cs.take (l.length*3)=(l.map wF).flatMap PV.cells) (hl:l.length*3≤cs.length) (j:Nat) (hj:j<l.length):
  j*3+3≤cs.length∧List.map dem (List.take 3 (List.drop (j*3) cs))=[.str l[j].name,.int .i64 l[j].type,.list false (l[j].clock.map eOn)]∧cs.set (j*3+2) (.list false (l[j].clock.map eOn))=cs:=by
 have _:=hL
 have he:=JD.els l cs hc
 obtain⟨_,hg⟩:=GE he
 have h1:=hg j (wF l[j]) (by simp[hj])
 simp only[aK,wD,if_true] at h1
 have hb:j*3+3≤cs.length:=by omega
 rw[ah hb,HC] at h1
 simp only[aa,PV.agg.injEq] at h1
 refine⟨hb,h1,?_⟩
 have cO:j*3+2<cs.length:=by omega
 have hx:cs[j*3+2]? = some (.list false (l[j].clock.map eOn)):=by
  have cS:∀(l:List Decl) (j:Nat) (hj:j<l.length),((l.map wF).flatMap PV.cells)[j*3+2]? = some (.list false (l[j].clock.map eOn)):=by
   intro l
   induction l with
   | nil=>intro j hj; simp at hj
   | cons x l ih =>
     intro j hj
     rw[aG,bh]
     cases j with
     | zero=>rfl
     | succ j =>
       have:=ih j (by simpa using hj)
       have e:(j+1)*3+2=(wF x).cells.length+(j*3+2):=by show _=3+_; omega
       rw[e,ap (by omega),Nat.add_sub_cancel_left]
       simpa using this
  have:=cS l j hj
  rw[← hc,List.getElem?_take_of_lt (by omega)] at this
  exact this
 obtain⟨h2,h3⟩:=aj.1 hx
 rw[← h3]; exact List.set_getElem_self h2
theorem c6G (n:Node) (h1:n.ins.length≤1500) (h2:n.outs.length≤1500) (h3:n.locals.length≤1500) (hd:∀d∈vars n,d.clock.length≤1500):∃h',wr L 11 [xc n] []=some (.list false ((vars n).map wF),h'):=by
 suffices H:∃r,wr L 11 [xc n] []=some r∧r.1 = .list false ((vars n).map wF) by
  obtain⟨⟨v,h'⟩,h1,h2⟩:=H
  simp only at h2; subst h2
  exact⟨h',h1⟩
 obtain⟨v,h',hc,_,hr⟩:=Nq hL [n.ins,n.outs,n.locals] (by simp) (by simp[yv,wu]; omega) false []
 have hf:[n.ins,n.outs,n.locals].flatten=vars n:=by simp[vars]
 rw[hf] at hr
 have hx:yW wF [n.ins,n.outs,n.locals]=[.list false (n.ins.map wF),.list false (n.outs.map wF),.list false (n.locals.map wF)]:=rfl
 rw[hx] at hc
 have fe:(vars n).length≤4500:=by simp[vars]; omega
 obtain⟨D,hD⟩:∃D,D=vars n:=⟨_,rfl⟩
 rw[← hD] at hr hd fe ⊢
 refine Bl (hL 11 _ rfl) rfl ?_
 rcases hr with⟨rfl,rfl⟩|⟨k,cs,_,rfl,hk,hl,ht⟩
 ·simp[Ha,hc]
  rw[JK,zo]
  simp[yJ]
 ·simp[Ha,hc]
  rw[JK]
  refine yQ D.length (λj st=>∃y4 y5 g,st=⟨[xc n,.loc 0 (xc n).cells,.list true [],.rowp k 3 true D.length,y4,y5,.rowp k 3 true D.length,.int .i64 D.length,.int .i64 j],[],g,h'⟩) ?_ ?_ ⟨_,_,_,rfl⟩
  ·rintro j hj st ⟨y4,y5,g,rfl⟩ ih
   have hw:=wC j (by omega)
   obtain⟨r1,r2,r3⟩:=No hL D cs ht hl j hj
   obtain⟨o,dm⟩:=c4m hL D[j].clock (hd _ (ae hj)) false []
   have wV:h'.set k (.cells cs)=h':=Fq hk
   have r4:j*3+2<cs.length:=by omega
   simp[hj,hw,hk,r1,r2,r3,r4,dm,wV]
   exact ih _ ⟨_,_,_,rfl⟩
  ·rintro st ⟨y4,y5,g,rfl⟩
   simp[yJ,hk,JD.els _ _ ht]
end
section
variable {L:Nat→Option PFunc} (hL:∀k f,LS k=some f→L k=some f) (en:List Enum) (ns:List Node) (a b:Int) (ents:ye)
include hL
theorem Nn (h:List PObj) (hb:4≤h.length):∃h',wr L 58 [.nilptr] h=some (.ptr (h.length+2) 0,h')∧h'.length=h.length+3∧Kp h.length h h'∧TopAt h' h'.length h.length (h.length+2) h.length (h.length+1) (.map none) (.list true []) .nilptr ⟨[],[],[],[]⟩ []:=by
 refine⟨h++[.map [],.map [],.cells [.nilptr,.map (some h.length),.map (some (h.length+1)),.map none,.list true []]],?_,by simp,Kp.app (aq _),?_⟩
 ·refine wz (hL 58 _ rfl) rfl ?_
  simp[Fm,PV.cells]
 ·exact⟨by omega,by omega,by omega,by simp,by simp,by simp,by omega,by omega,by omega,hb,by simp,by simp[bmE],by simp[bmE],.inl ⟨rfl,rfl⟩,.inl ⟨rfl,rfl⟩,λ_ _ _ _ e=>by simp at e,rfl⟩
theorem GR (l m:List Decl):wv (l++m)=wv l++wv m:=by have _:=hL; simp[wv]
theorem b7n (F:List Decl) (hF:F.length≤4500) (h:List PObj) (q q' n o d:Nat) (i dv up:PV) (fs:List Fr) (t:TopAt h q q' n o d i dv up ⟨[],[],[],[]⟩ fs) (kr:Nat) (tj:q≤kr) (cs:List PV) (hk:h[kr]? = some (.cells cs)) (hl:F.length*3≤cs.length) (ht:cs.take (F.length*3)=(F.map wF).flatMap PV.cells)
  (V0 V1 V2 V3 V5 V6 V10 V11 V12:PV) (g:Nat) {Q:PExit→St→Prop}
  (ok:∀y5 g' h' O,h'.length=h.length→Kp q' h h'→TopAt h' q q' n o d i dv up ⟨O,[],[],[]⟩ fs→(∀x,x∈O↔x∈wv F)→Q (.exit 0) ⟨[V0,V1,V2,V3,.ptr n 0,y5,V6,.rowp kr 3 true F.length,.int .i64 F.length,.int .i64 F.length,V10,V11,V12],[],g',h'⟩):
  wpL L GT ⟨[V0,V1,V2,V3,.ptr n 0,V5,V6,.rowp kr 3 true F.length,.int .i64 F.length,.int .i64 0,V10,V11,V12],[],g,h⟩ Q:=by
 rw[GT]
 refine yQ F.length (λj st=>∃y5 g' h' O,st=⟨[V0,V1,V2,V3,.ptr n 0,y5,V6,.rowp kr 3 true F.length,.int .i64 F.length,.int .i64 j,V10,V11,V12],[],g',h'⟩∧h'.length=h.length∧Kp q' h h'∧h'[kr]? = some (.cells cs)∧TopAt h' q q' n o d i dv up ⟨O,[],[],[]⟩ fs∧∀x,x∈O↔x∈wv (F.take j)) ?_ ?_ ⟨_,_,h,[],rfl,rfl,Kp.refl _ _,hk,t,by simp[wv]⟩
 ·rintro j hj st ⟨y5,g',h',O,rfl,cI,cZ,hk,t,hO⟩ ih
  have hw:=wC j (by omega)
  obtain⟨r1,r2,r3⟩:=No hL F cs ht hl j hj
  obtain⟨r,hr,_,ii⟩:=BM F[j].name O
  have e1:=t.hn
  have e2:=t.ho
  have c9:t.uo=t.uo:=rfl
  have tn:=t.uo
  simp only[] at e1 e2
  simp[hj,hw,hk,r1,r2,e1,e2,hr,xt]
  refine ih _ ⟨_,_,_,A1 O F[j].name,rfl,by simpa using cI,cZ.trans (Kp.set t.lo),by rw[ao (by omega)]; exact hk,?_,λx =>?_⟩
  ·rw[ii]
   exact t.setO _
  ·rw[GU,hO,zn hj,GR hL,ax]
   simp[wv]
 ·rintro st ⟨y5,g',h',O,rfl,cI,cZ,hk,t,hO⟩
  rw[aI] at hO
  simp
  exact ok _ _ _ _ cI cZ t hO
theorem Np (k:Nat) (dk:NodesIn ents ns k) (s:Place) (eV:s.before=ns.take k) (l:List Expr) (hl:l.length≤1500) (hw:∀x∈l,XW x) (gs:List (List Decl)) (hg:gs.length≤1500) (hn:yv gs≤4500) (di:∀x,x∈wv gs.flatten↔x∈s.vis) (o1 o2:Bool)
  (h:List PObj) (h4:4≤h.length) (h2:h[2]? = some (wK ents)) (h3:h[3]? = some (wI en ns a b)):
  ∃h',wQ L 63 [.ptr 3 0,.int .i64 k,.list o1 (l.map wy),.list o2 (yW wF gs)] h=some (wG 1 a b (wA (λe=>xe s e 1) l),h')∧Kp h.length h h':=by
 suffices H:∃res,wQ L 63 [.ptr 3 0,.int .i64 k,.list o1 (l.map wy),.list o2 (yW wF gs)] h=some res∧∃h',res=(wG 1 a b (wA (λe=>xe s e 1) l),h')∧Kp h.length h h' by
  obtain⟨res,e1,h',e2,e3⟩:=H
  exact⟨h',by rw[e1,e2],e3⟩
 obtain⟨h1,c1,eb,k1,t1⟩:=Nn hL h h4
 obtain⟨v,hx,c2,k2,hr⟩:=Nq hL gs hg hn false h1
 have fq:Kp h.length h hx:=k1.trans (k2.le k1.1)
 have tx:TopAt hx h1.length h.length (h.length+2) h.length (h.length+1) (.map none) (.list true []) .nilptr ⟨[],[],[],[]⟩ []:=t1.keep k2.2
 obtain⟨F,hF⟩:∃F,F=gs.flatten:=⟨_,rfl⟩
 have mR:F.length≤4500:=by rw[hF,Nr]; exact hn
 rw[← hF] at hr di
 have dQ:∀(V3 V5 V6 V7 V8 V9:PV) (g:Nat) (h':List PObj) (O:List Str),h1.length≤h'.length→Kp h.length hx h'→TopAt h' h1.length h.length (h.length+2) h.length (h.length+1) (.map none) (.list true []) .nilptr ⟨O,[],[],[]⟩ []→(∀x,x∈O↔x∈wv F) →
   wpL L GV ⟨[.ptr 3 0,.int .i64 k,.list false (l.map wy),V3,.ptr (h.length+2) 0,V5,V6,V7,V8,V9,.list false (l.map wy),.int .i64 l.length,.int .i64 0],[],g,h'⟩ (AQ 2 (Dq L Eg λres=>∃h',res=(wG 1 a b (wA (λe=>xe s e 1) l),h')∧Kp h.length h h')):=by
  intro V3 V5 V6 V7 V8 V9 g h' O el cZ t hO
  have dh:=fq.trans cZ
  refine b7L hL en ns a b ents k dk s eV l hl hw h' ((dh.2 2 (by omega)).trans h2) ((dh.2 3 (by omega)).trans h3) (.ptr (h.length+2) 0) [⟨O,[],[],[]⟩] (t.holds.up el) (λx=>by simp[xK,hO,di]) _ _ _ _ _ _ _ _ _ _ _ rfl rfl rfl ?_ ?_
  ·intro hz h'' y6 g' hk''
   rw[hz]
   simp[wG,Eg]
   exact dh.trans (hk''.le dh.1)
  ·intro hz h'' W g' hk''
   simp[wG,hz]
   exact dh.trans (hk''.le dh.1)
 refine Cb (hL 63 _ rfl) rfl ?_
 rcases hr with⟨rfl,rfl⟩|⟨kr,cs,tj,rfl,hk,dm,rC⟩
 ·simp[Eg,c1,c2]
  rw[GT,zo]
  simp
  exact dQ _ _ _ _ _ _ _ hx [] (by have:=k2.1; omega) (Kp.refl _ _) tx (by simp[wv])
 ·simp[Eg,c1,c2]
  refine b7n hL F mR hx h1.length h.length _ _ _ _ _ _ [] tx kr tj cs hk dm rC _ _ _ _ _ _ _ _ _ _ ?_
  intro y5 g' h' O cI cZ t hO
  simp
  exact dQ _ _ _ _ _ _ _ h' O (by have:=k2.1; omega) cZ t hO
end
section
variable {h:List PObj} {b b' n o d:Nat} {dv up:PV} {f:Fr} {fs:List Fr}
theorem TopAt.newI (t:TopAt h h.length b' n o d (.map none) dv up f fs) (hd:dv = .list true []) (hI:f.I=[]):
  TopAt ((h++[PObj.map []]).set n (PObj.cells [up,.map (some o),.map (some d),.map (some h.length),dv])) (h.length+1) b' n o d (.map (some h.length)) dv up f fs:=by
 have fO:=t.un
 have tn:=t.uo
 have uQ:=t.ud
 have lY:=t.ln
 have key:∀k,k<h.length→k≠n→((h++[PObj.map []]).set n (PObj.cells [up,.map (some o),.map (some d),.map (some h.length),dv]))[k]? = h[k]? := λk h1 h2=>by
  rw[ao (Ne.symm h2),am h1]
 refine⟨t.ln,t.lo,t.ld,by omega,by omega,by omega,t.no,t.nd,t.od,t.four,?_,?_,?_,.inr ⟨h.length,rfl,by omega,by omega,by omega,by omega,by omega,?_⟩,?_,?_,?_⟩
 ·rw[bp (by simp; omega)]
 ·rw[key o tn (Ne.symm t.no)]; exact t.ho
 ·rw[key d uQ (Ne.symm t.nd)]; exact t.hd
 ·rw[hI,ao (by omega)]; simp[bmE]
 ·rcases t.row with h1|⟨k,e1,e2,e3,e4⟩
  ·exact .inl h1
  ·rw[hd] at e3; simp at e3
 ·intro k s a len e; rw[hd] at e; simp at e
 ·exact t.hup.keep λk hk=>key k (by omega) (by omega)
theorem TopAt.setI {m:Nat} (t:TopAt h b b' n o d (.map (some m)) dv up f fs) (I:List Str):h[m]? = some (.map (bmE f.I))∧b'≤m∧TopAt (h.set m (.map (bmE I))) b b' n o d (.map (some m)) dv up { f with I:=I } fs:=by
 have hi:=t.hi
 rcases hi with⟨h1,_⟩|⟨m',e1,e2,e3,e4,e5,e6,e7⟩
 ·simp at h1
 ·simp only[PV.map.injEq,aa] at e1
  subst e1
  have hl:=(aj.1 e7).1
  refine⟨e7,e2,t.ln,t.lo,t.ld,t.un,t.uo,t.ud,t.no,t.nd,t.od,t.four,?_,?_,?_,.inr ⟨m,rfl,e2,e3,e4,e5,e6,by rw[bp hl]⟩,?_,t.rne,t.hup.keep λk dh=>ao (by omega)⟩
  ·rw[ao e4]; exact t.hn
  ·rw[ao e5]; exact t.ho
  ·rw[ao e6]; exact t.hd
  ·rcases t.row with h1|⟨k,e1,e2,e3,e4⟩
   ·exact .inl h1
   ·exact .inr ⟨k,e1,e2,e3,by rw[ao (λe=>(t.rne _ _ _ _ e3).2.2.2 (by rw[e]))]; exact e4⟩
end
section
variable {L:Nat→Option PFunc} (hL:∀k f,LS k=some f→L k=some f)
include hL
theorem c0x (l:List Decl) (hl:l.length≤1500) (h:List PObj) (q q' n o d m:Nat) (dv up:PV) (f:Fr) (fs:List Fr) (t:TopAt h q q' n o d (.map (some m)) dv up f fs) (hI:f.I=[])
  (V0 V1 V2 V4 V5 V6 V7 V8 V12 V13 V14 V15 V16 V17 V18 V19 V20:PV) (g:Nat) {Q:PExit→St→Prop}
  (ok:∀y4 g' h' I,h'.length=h.length→Kp q' h h'→TopAt h' q q' n o d (.map (some m)) dv up { f with I:=I } fs→(∀x,x∈I↔x∈wv l)→Q (.exit 0) ⟨[V0,V1,V2,.ptr n 0,y4,V5,V6,V7,V8,.list false (l.map wF),.int .i64 l.length,.int .i64 l.length,V12,V13,V14,V15,V16,V17,V18,V19,V20],[],g',h'⟩):
  wpL L Jo ⟨[V0,V1,V2,.ptr n 0,V4,V5,V6,V7,V8,.list false (l.map wF),.int .i64 l.length,.int .i64 0,V12,V13,V14,V15,V16,V17,V18,V19,V20],[],g,h⟩ Q:=by
 rw[Jo]
 refine yQ l.length (λj st=>∃y4 g' h' I,st=⟨[V0,V1,V2,.ptr n 0,y4,V5,V6,V7,V8,.list false (l.map wF),.int .i64 l.length,.int .i64 j,V12,V13,V14,V15,V16,V17,V18,V19,V20],[],g',h'⟩∧h'.length=h.length∧Kp q' h h'∧TopAt h' q q' n o d (.map (some m)) dv up { f with I:=I } fs∧∀x,x∈I↔x∈wv (l.take j)) ?_ ?_ ⟨_,_,h,[],rfl,rfl,Kp.refl _ _,by rw[← hI]; exact t,by simp[wv]⟩
 ·rintro j hj st ⟨y4,g',h',I,rfl,cI,cZ,t,hI⟩ ih
  have hw:=wC j (by omega)
  obtain⟨r,hr,_,ii⟩:=BM l[j].name I
  have e1:=t.hn
  obtain⟨e2,e3,t2⟩:=t.setI (A1 I l[j].name)
  simp only[] at e1 e2
  simp[hj,hw,e1,e2,hr,xt]
  refine ih _ ⟨_,_,_,A1 I l[j].name,rfl,by simpa using cI,cZ.trans (Kp.set e3),by rw[ii]; exact t2,λx =>?_⟩
  rw[GU,hI,zn hj,GR hL,ax]
  simp[wv]
 ·rintro st ⟨y4,g',h',I,rfl,cI,cZ,t,hI⟩
  rw[aI] at hI
  simp
  exact ok _ _ _ _ cI cZ t hI
theorem b8P (s:Place) (q:Eqn) (qs:List Eqn) (k:Nat) (d:List Str):zT s (q::qs) k d=if (xz s q d).1=0 then zT s qs (k+1) (xz s q d).2 else .inl (k,(xz s q d).1):=by have _:=hL; rfl
variable (en:List Enum) (ns:List Node) (ents:ye)
theorem c0y (i:Nat) (dk:NodesIn ents ns i) (s:Place) (eV:s.before=ns.take i) (l:List Eqn) (hl:l.length≤1500) (hq:∀q∈l,QW q) (h:List PObj) (h2:h[2]? = some (wK ents)) (c:Int) (h3:h[3]? = some (wI en ns i c)) (q' n o d:Nat) (iv dv up:PV) (f:Fr) (t:TopAt h h.length q' n o d iv dv up f []) (di:∀x,xK [f] x=true↔x∈s.vis)
  (hD:f.D=f.df) (dO:∀x,x∈f.I↔x∈s.inputs) (gK:f.df.length+(xR l).length≤1000000) (h0:f.df=[])
  (V2 V4 V5 V6 V7 V8 V9 V10 V11 V15 V16 V17 V18 V19 V20:PV) (g:Nat) {Q:PExit→St→Prop}
  (ok:∀df,zT s l 0 [] = .inr df→∀y5 y6 g' h' c' dv',Kp q' h (h'.set 3 (wI en ns i c))→h'[3]? = some (wI en ns i c')→TopAt h' h'.length q' n o d iv dv' up { f with D:=df,df:=df } []→Q (.exit 2) ⟨[.ptr 3 0,.int .i64 i,V2,.ptr n 0,V4,y5,y6,V7,V8,V9,V10,V11,.list false (l.map xn),.int .i64 l.length,.int .i64 l.length,V15,V16,V17,V18,V19,V20],[],g',h'⟩)
  (no:∀k e,zT s l 0 [] = .inl (k,e)→∀W g' h',Kp q' h (h'.set 3 (wI en ns i c))→Q (.boom (xV 1 i k e)) ⟨W,[],g',h'⟩):
  wpL L Jp ⟨[.ptr 3 0,.int .i64 i,V2,.ptr n 0,V4,V5,V6,V7,V8,V9,V10,V11,.list false (l.map xn),.int .i64 l.length,.int .i64 0,V15,V16,V17,V18,V19,V20],[],g,h⟩ Q:=by
 rw[Jp]
 have uR:∀{h':List PObj},Kp q' h (h'.set 3 (wI en ns i c))→h'[2]? = some (wK ents):=λ{h'} hk=>by
  have:=hk.2 2 (by have:=t.four; omega)
  rw[ao (by decide)] at this
  exact this.trans h2
 have h4q:=t.four
 refine yQ l.length (λj st=>∃y5 y6 g' h' c' dv' df,st=⟨[.ptr 3 0,.int .i64 i,V2,.ptr n 0,V4,y5,y6,V7,V8,V9,V10,V11,.list false (l.map xn),.int .i64 l.length,.int .i64 j,V15,V16,V17,V18,V19,V20],[],g',h'⟩∧Kp q' h (h'.set 3 (wI en ns i c))∧h'[3]? = some (wI en ns i c')∧TopAt h' h'.length q' n o d iv dv' up { f with D:=df,df:=df } []∧zT s l 0 []=zT s (l.drop j) j df∧df.length+(xR (l.drop j)).length≤1000000) ?_ ?_ ⟨_,_,_,h,c,dv,[],rfl,⟨by simp,λk hk=>by
   by_cases iS:k=3
   ·subst iS; rw[bp (aj.1 h3).1]; exact h3.symm
   ·rw[ao (Ne.symm iS)]⟩,h3,by
   have:({ f with D:=[],df:=[] }:Fr)=f:=by cases f; simp only at hD h0; subst h0; subst hD; rfl
   rw[this]; exact t,rfl,by rw[h0] at gK; simpa using gK⟩
 ·rintro j hj st ⟨y5,y6,g',h',c',dv',df,rfl,cZ,eF,t,hd,el⟩ ih
  have hw:=wC j (by omega)
  have rD:=(aj.1 eF).1
  rw[aN hj] at hd el
  rw[b8P hL] at hd
  have mJ:xR (l[j]::l.drop (j+1))=l[j].left++xR (l.drop (j+1)):=by unfold xR; rw[bh]
  rw[mJ,av] at el
  have mS:(h'.set 3 (wI en ns i j))[3]? = some (wI en ns i j):=by rw[bp rD]
  have ly:(h'.set 3 (wI en ns i j))[2]? = some (wK ents):=by rw[ao (by decide)]; exact uR cZ
  have tH:TopAt (h'.set 3 (wI en ns i j)) (h'.set 3 (wI en ns i j)).length q' n o d iv dv' up { f with D:=df,df:=df } []:=by
   rw[bM]
   have key:∀k,4≤k→(h'.set 3 (wI en ns i j))[k]? = h'[k]? := λk hk=>ao (by omega)
   exact⟨t.ln,t.lo,t.ld,t.un,t.uo,t.ud,t.no,t.nd,t.od,t.four,(key _ (by have:=t.ln; omega)).trans t.hn,(key _ (by have:=t.lo; omega)).trans t.ho,(key _ (by have:=t.ld; omega)).trans t.hd,t.hi.imp id (fun⟨m,e1,e2,e3,e4,e5,e6,e7⟩=>⟨m,e1,e2,e3,e4,e5,e6,(key _ (by omega)).trans e7⟩),t.row.imp id (fun⟨k,e1,e2,e3,e4⟩=>⟨k,e1,e2,e3,(key _ (by omega)).trans e4⟩),t.rne,t.hup⟩
  obtain⟨h'',hx,fq,dl⟩:=Ns hL en ns i j ents i dk s eV l[j] (hq _ (ae hj)) _ ly mS q' n o d iv dv' up { f with D:=df,df:=df } [] tH (λx=>by have:=di x; simpa[xK] using this) [] rfl (λx=>by simp[zw,dO]) (by simp only; omega)
  simp only[bu] at hx dl
  have fH:Kp q' h (h''.set 3 (wI en ns i c)):=by
   refine⟨by have:=cZ.1; have:=fq.1; simp at *; omega,λk hk =>?_⟩
   by_cases iS:k=3
   ·subst iS
    have:=fq.1
    rw[bp (by simp at this; omega)]; exact h3.symm
   ·rw[ao (Ne.symm iS),fq.2 k hk,ao (Ne.symm iS)]
    have:=cZ.2 k hk
    rwa [ao (Ne.symm iS)] at this
  have h3'':h''[3]? = some (wI en ns i j):=(fq.2 3 (by omega)).trans mS
  have dz:h'.set 3 (.cells [.list false (en.map wJ),.list false (ns.map xc),.int .i64 i,.int .i64 j,.map (some 2)])=h'.set 3 (wI en ns i j):=rfl
  have lZ:h'[3]? = some (.cells [.list false (en.map wJ),.list false (ns.map xc),.int .i64 i,.int .i64 c',.map (some 2)]):=eF
  by_cases hz:(xz s l[j] df).1=0
  ·rw[ah hz] at hd
   obtain⟨dv2,df2,e1,t2⟩:=dl hz
   rw[hz] at hx
   simp[wG] at hx
   simp[hj,lZ,dz,hx,hw]
   have uS:df2.length=df.length+l[j].left.length:=by
    have h1:=(Eh.1 (Prod.ext hz e1:xz s l[j] df=(0,df2))).1
    rw[h1,av]
   exact ih _ ⟨_,_,_,h'',j,dv2,df2,rfl,fH,h3'',t2,by rw[hd,e1],by omega⟩
  ·rw[af hz] at hd
   simp[wG,hz] at hx
   simp[hj,lZ,dz,hx]
   exact no _ _ hd _ _ _ fH
 ·rintro st ⟨y5,y6,g',h',c',dv',df,rfl,cZ,eF,t,hd,el⟩
  rw[ba (aq _)] at hd
  simp
  exact ok df hd _ _ _ _ _ _ cZ eF t
end
section
variable {L:Nat→Option PFunc} (hL:∀k f,LS k=some f→L k=some f) (en:List Enum) (ns:List Node) (a b:Int) (ents:ye)
include hL
theorem c0z (k:Nat) (dk:NodesIn ents ns k) (s:Place) (eV:s.before=ns.take k) (db:BN ents s.tags) (l:List (List State)) (hl:l.length≤1500) (hq:∀x∈l,Fo L en ns a b ents x) (h:List PObj) (h2:h[2]? = some (wK ents)) (h3:h[3]? = some (wI en ns a b)) (q' n o d:Nat) (i dv up:PV) (f:Fr) (fs:List Fr) (t:TopAt h h.length q' n o d i dv up f fs) (di:∀x,xK (f::fs) x=true↔x∈s.vis)
  (d0:List Str) (hD:f.D=f.df) (dO:∀x,(x∈f.I∨zw fs x=true)↔(x∈s.inputs∨x∈d0)) (gK:f.df.length+(xH l).length≤1000000)
  (V2 V4 V5 V6 V7 V8 V9 V10 V11 V12 V13 V14 V18 V19 V20:PV) (g:Nat) {Q:PExit→St→Prop}
  (ok:(xw s (d0++f.df) l).1=0→∀h' dv' df' y7 g',Kp q' h h'→(xw s (d0++f.df) l).2=d0++df'→TopAt h' h'.length q' n o d i dv' up { f with D:=df',df:=df' } fs→Q (.exit 4) ⟨[.ptr 3 0,.int .i64 k,V2,.ptr n 0,V4,V5,V6,y7,V8,V9,V10,V11,V12,V13,V14,.list false (l.map xg),.int .i64 l.length,.int .i64 l.length,V18,V19,V20],[],g',h'⟩)
  (no:(xw s (d0++f.df) l).1≠0→∀h' W g',Kp q' h h'→Q (.boom (xV 1 a b (xw s (d0++f.df) l).1)) ⟨W,[],g',h'⟩):
  wpL L Jq ⟨[.ptr 3 0,.int .i64 k,V2,.ptr n 0,V4,V5,V6,V7,V8,V9,V10,V11,V12,V13,V14,.list false (l.map xg),.int .i64 l.length,.int .i64 0,V18,V19,V20],[],g,h⟩ Q:=by
 rw[Jq]
 refine yQ l.length (λj st=>∃y7 g' h' dv' df',st=⟨[.ptr 3 0,.int .i64 k,V2,.ptr n 0,V4,V5,V6,y7,V8,V9,V10,V11,V12,V13,V14,.list false (l.map xg),.int .i64 l.length,.int .i64 j,V18,V19,V20],[],g',h'⟩∧Kp q' h h'∧TopAt h' h'.length q' n o d i dv' up { f with D:=df',df:=df' } fs∧xw s (d0++f.df) l=xw s (d0++df') (l.drop j)∧df'.length+(xH (l.drop j)).length=f.df.length+(xH l).length) ?_ ?_ ⟨_,_,h,dv,f.df,rfl,Kp.refl _ _,by rw[Fr.same hD]; exact t,rfl,rfl⟩
 ·rintro j hj st ⟨y7,g',h',dv',df',rfl,cZ,ht,da,cI⟩ ih
  have hw:=wC j (by omega)
  have fM:h'[2]? = some (wK ents):=(cZ.2 2 (by have:=ht.four; omega)).trans h2
  have eF:h'[3]? = some (wI en ns a b):=(cZ.2 3 (by have:=ht.four; omega)).trans h3
  have qg:(xH (l.drop j)).length=(xH [l[j]]).length+(xH (l.drop (j+1))).length:=by
   rw[aN hj,Dr,Dr]; simp[xH]
  obtain⟨h'',hx,fq,kX⟩:=hq _ (ae hj) k dk s eV db h' fM eF q' n o d i dv' up _ fs ht (by intro x; exact di x) d0 rfl dO (by simp only; omega)
  simp only at hx kX
  rw[aN hj,Fp] at da
  by_cases hz:(xA s (d0++df') l[j]).1=0
  ·obtain⟨dv'',df'',ev,gL⟩:=kX hz
   have iC:xw s (d0++f.df) l=xw s (d0++df'') (l.drop (j+1)):=by
    rw[da]
    unfold xS
    rw[ah hz]
    exact aH (λz=>xw s z (l.drop (j+1))) ev
   have dp:df''.length=df'.length+(xH [l[j]]).length:=by
    rw[Nt hz] at ev
    have:=aH List.length ev
    simp at this
    omega
   rw[hz] at hx
   simp[wG] at hx
   simp[hj,hx,hw]
   exact ih _ ⟨_,_,h'',dv'',df'',rfl,cZ.trans fq,gL,iC,by omega⟩
  ·rw[xZ hz] at da
   simp[wG,hz] at hx
   simp[hj,hx]
   have:=no (by rw[da]; exact hz) h''
   rw[da] at this
   exact this _ _ (cZ.trans fq)
 ·rintro st ⟨y7,g',h',dv',df',rfl,cZ,ht,da,cI⟩
  rw[ba (aq _)] at da
  simp
  exact ok (by rw[da]; simp[xw]) h' dv' df' y7 g' cZ (by rw[da]; simp[xw]) ht
theorem c0A (l:List Decl) (hl:l.length≤4500) (h:List PObj) (h3:h[3]? = some (wI en ns a b)) (q q' n o d:Nat) (i dv up:PV) (f:Fr) (fs:List Fr) (t:TopAt h q q' n o d i dv up f fs)
  (V1 V2 V4 V5 V6 V7 V8 V9 V10 V11 V12 V13 V14 V15 V16 V17:PV) (g:Nat) {Q:PExit→St→Prop}
  (ok:(∀x∈wv l,x∈f.D)→∀y8 g',Q (.exit 6) ⟨[.ptr 3 0,V1,V2,.ptr n 0,V4,V5,V6,V7,y8,V9,V10,V11,V12,V13,V14,V15,V16,V17,.list false (l.map wF),.int .i64 l.length,.int .i64 l.length],[],g',h⟩)
  (no:¬(∀x∈wv l,x∈f.D)→∀W g',Q (.boom (xV 1 a b 8)) ⟨W,[],g',h⟩):
  wpL L Jr ⟨[.ptr 3 0,V1,V2,.ptr n 0,V4,V5,V6,V7,V8,V9,V10,V11,V12,V13,V14,V15,V16,V17,.list false (l.map wF),.int .i64 l.length,.int .i64 0],[],g,h⟩ Q:=by
 have hT:=Cc hL en ns a b h h3 8
 have hF:=Cd hL en ns a b h h3 8
 have hn:=t.hn
 have hd:=t.hd
 rw[Jr]
 refine yQ l.length (λj st=>∃y8 g',st=⟨[.ptr 3 0,V1,V2,.ptr n 0,V4,V5,V6,V7,y8,V9,V10,V11,V12,V13,V14,V15,V16,V17,.list false (l.map wF),.int .i64 l.length,.int .i64 j],[],g',h⟩∧∀x∈wv (l.take j),x∈f.D) ?_ ?_ ⟨_,_,rfl,by simp[wv]⟩
 ·rintro j hj st ⟨y8,g',rfl,dt⟩ ih
  have hw:=wC j (by omega)
  obtain⟨r,hr,eG,_⟩:=BM l[j].name f.D
  have gu:wv (l.take (j+1))=wv (l.take j)++[l[j].name]:=by rw[zn hj,GR hL]; rfl
  by_cases hx:l[j].name∈f.D
  ·simp[hx] at eG
   obtain⟨c,rfl⟩:=eG
   simp[hj,hn,hd,hr,xt,hT,hw]
   refine ih _ ⟨_,_,rfl,?_⟩
   rw[gu]
   intro x hm
   rcases ax.1 hm with h1|h1
   ·exact dt x h1
   ·rw[bH.1 h1]; exact hx
  ·simp[hx] at eG
   subst eG
   simp[hj,hn,hd,hr,xt,hF]
   exact no (λcY=>hx (cY _ (by unfold wv; exact a8.2 ⟨_,ae hj,rfl⟩))) _ _
 ·rintro st ⟨y8,g',rfl,dt⟩
  rw[aI] at dt
  simp
  exact ok dt _ _
end
theorem TopAt.low {h:List PObj} {b b' n o d:Nat} {i dv up:PV} {f:Fr} (t:TopAt h b b' n o d i dv up f []) (k:Nat) (hk:k<4) (ob:PObj):TopAt (h.set k ob) b b' n o d i dv up f []:=by
 have key:∀j,4≤j→(h.set k ob)[j]? = h[j]? := λj hj=>ao (by omega)
 have h4:=t.four
 exact⟨t.ln,t.lo,t.ld,t.un,t.uo,t.ud,t.no,t.nd,t.od,t.four,(key _ (by have:=t.ln; omega)).trans t.hn,(key _ (by have:=t.lo; omega)).trans t.ho,(key _ (by have:=t.ld; omega)).trans t.hd,t.hi.imp id (fun⟨m,e1,e2,e3,e4,e5,e6,e7⟩=>⟨m,e1,e2,e3,e4,e5,e6,(key _ (by omega)).trans e7⟩),t.row.imp id (fun⟨k,e1,e2,e3,e4⟩=>⟨k,e1,e2,e3,(key _ (by omega)).trans e4⟩),t.rne,t.hup⟩
def GW (ents:ye) (ns:List Node) (i:Nat):Prop:=∀x,((1:Int),x)∈zp ents↔x∈(ns.take i).map (·.name)
section
variable {L:Nat→Option PFunc} (hL:∀k f,LS k=some f→L k=some f) (en:List Enum) (ns:List Node) (a b:Int) (ents:ye)
include hL
theorem c6m (i:Nat) (hi:i<ns.length) (gh:ns.length≤1500) (hn:NW ns[i]) (ki:ns[i].parts≤1500) (fc:∀d∈ns[i].ins++ns[i].outs,d.clock=[]) (tags:List Str) (db:BN ents tags) (dk:NodesIn ents ns i) (jx:GW ents ns i) (h:List PObj) (h4:4≤h.length) (h2:h[2]? = some (wK ents)) (h3:h[3]? = some (wI en ns a b)):
  ∃h',wQ L 29 [.ptr 3 0,.int .i64 i] h=some (yg 1 (zU (ns.take i) tags ns[i]),h')∧h'[0]? = h[0]?∧h'[1]? = h[1]?∧4≤h'.length∧(zU (ns.take i) tags ns[i]=none→h'[2]? = some (wK (ents++[((1,ns[i].name),(i:Int))]))∧h'[3]? = some (wI en ns i (-1))):=by
 obtain⟨N,hN⟩:∃N,N=ns[i]:=⟨_,rfl⟩
 rw[← hN] at hn ki fc ⊢
 have cI:(ns.take i).length=i:=by simp; omega
 obtain⟨R,hR⟩:∃R,R=zU (ns.take i) tags N:=⟨_,rfl⟩
 rw[← hR]
 suffices H:∃res,wQ L 29 [.ptr 3 0,.int .i64 i] h=some res∧∃h',res=(yg 1 R,h')∧h'[0]? = h[0]?∧h'[1]? = h[1]?∧4≤h'.length∧(R=none→h'[2]? = some (wK (ents++[((1,N.name),(i:Int))]))∧h'[3]? = some (wI en ns i (-1))) by
  obtain⟨res,e1,h',e2,e3⟩:=H
  exact⟨h',by rw[e1,e2],e3⟩
 have lZ:h[3]? = some (.cells [.list false (en.map wJ),.list false (ns.map xc),.int .i64 a,.int .i64 b,.map (some 2)]):=h3
 have hA:∀X:PObj,(h++[X])[3]? = some (.cells [.list false (en.map wJ),.list false (ns.map xc),.int .i64 a,.int .i64 b,.map (some 2)]):=λX=>by rw[am (by omega)]; exact lZ
 obtain⟨H1,ma⟩:∃H1,(h++[PObj.cells [.str N.name,.list false (N.ins.map wF),.list false (N.outs.map wF),.list false (N.locals.map wF),.list false (N.eqs.map xn),.list false (N.autos.map xg),.list false (N.assume.map wy),.list false (N.ensure.map wy)]]).set 3 (PObj.cells [.list false (en.map wJ),.list false (ns.map xc),.int .i64 i,.int .i64 (-1),.map (some 2)])=H1:=⟨_,rfl⟩
 have H1l:H1.length=h.length+1:=by rw[← ma]; simp
 have H1k:∀k,k<h.length→k≠3→H1[k]? = h[k]? := λk h1 h2=>by rw[← ma,ao (Ne.symm h2),am h1]
 have H13:H1[3]? = some (wI en ns i (-1)):=by rw[← ma,bp (by simp; omega)]; rfl
 have H12:H1[2]? = some (wK ents):=(H1k 2 (by omega) (by decide)).trans h2
 have H1n:H1[h.length]? = some (.cells [.str N.name,.list false (N.ins.map wF),.list false (N.outs.map wF),.list false (N.locals.map wF),.list false (N.eqs.map xn),.list false (N.autos.map xg),.list false (N.assume.map wy),.list false (N.ensure.map wy)]):=by rw[← ma,ao (by omega)]; simp
 have oI:∀d∈vars N,DW d:=by
  intro d hd
  unfold vars at hd
  rcases ax.1 hd with hd|hd
  ·rcases ax.1 hd with hd|hd
   ·exact hn.is d hd
   ·exact hn.os d hd
  ·exact hn.ls d hd
 have fe:(vars N).length≤4500:=by have:=hn.ins; have:=hn.outs; have:=hn.locals; simp[vars]; omega
 by_cases lz:N.name∈(ns.take i).map (·.name)
 ·have uT:R=some ⟨i,-1,7⟩:=by rw[hR]; unfold zU; rw[ah lz,cI]
  have dH:=Js hL en ns i (-1) H1 H13 ents H12 (1,N.name) i ((jx _).2 lz)
  have eW:zV (1,N.name) = .agg [.int .i64 1,.str N.name]:=rfl
  rw[eW] at dH
  refine Cb (hL 29 _ rfl) rfl ?_
  simp[Ei,lZ,hi,← hN,hA,ma,H1n,dH,uT,yg]
  exact⟨H1k 0 (by omega) (by decide),H1k 1 (by omega) (by decide),by omega⟩
 have dH:=Jt hL en ns i (-1) H1 H13 ents H12 (1,N.name) i (λhh=>lz ((jx _).1 hh))
 have eW:zV (1,N.name) = .agg [.int .i64 1,.str N.name]:=rfl
 rw[eW] at dH
 obtain⟨ents',kD⟩:∃e,e=ents++[((1,N.name),(i:Int))]:=⟨_,rfl⟩
 rw[← kD] at dH ⊢
 obtain⟨H3,mS⟩:∃H3,H3=H1.set 2 (wK ents'):=⟨_,rfl⟩
 rw[← mS] at dH
 have H3l:H3.length=h.length+1:=by rw[mS]; simpa using H1l
 have H3k:∀k,k<H1.length→k≠2→H3[k]? = H1[k]? := λk h1 h2=>by rw[mS,ao (Ne.symm h2)]
 have H32:H3[2]? = some (wK ents'):=by rw[mS,bp (by omega)]
 have H33:H3[3]? = some (wI en ns i (-1)):=(H3k 3 (by omega) (by decide)).trans H13
 have H3n:=(H3k h.length (by omega) (by omega)).trans H1n
 have H30:H3[0]? = h[0]? := (H3k 0 (by omega) (by decide)).trans (H1k 0 (by omega) (by decide))
 have H31:H3[1]? = h[1]? := (H3k 1 (by omega) (by decide)).trans (H1k 1 (by omega) (by decide))
 have oJ:BN ents' tags:=by
  intro x
  rw[kD,← db x]
  simp[zp]
 have gM:NodesIn ents' ns i:=by
  have jO:∀x:Str,yX (1,x) ents'=(yX (1,x) ents).or (if x=N.name then some (i:Int) else none):=by
   intro x
   rw[kD]
   generalize ents=l
   induction l with
   | nil=>by_cases hx:x=N.name<;>simp[yX,hx]
   | cons y l ih =>
     simp only[aW,yX]
     by_cases hy:((1:Int),x)=y.1
     ·rw[ah hy,ah hy]; rfl
     ·rw[af hy,af hy]; exact ih
  intro x
  have hx:=dk x
  cases hc:callee (ns.take i) x with
  | none =>
    rw[hc] at hx
    simp only at hx ⊢
    intro c eH
    rw[jO] at eH
    cases he:yX (1,x) ents with
    | some z =>
      rw[he] at eH
      have eH:z=c:=by simpa using eH
      subst eH
      exact hx z he
    | none =>
      rw[he] at eH
      rw[Option.none_or] at eH
      split at eH
      ·have:(i:Int)=c:=by simpa using eH
       omega
      ·simp at eH
  | some m =>
    rw[hc] at hx
    obtain⟨j,e1,e2,e3⟩:=hx
    exact⟨j,by rw[jO,e1]; rfl,e2,e3⟩
 obtain⟨H4,dO,H4l,K4,t4⟩:=Nn hL H3 (by omega)
 obtain⟨H5,ny⟩:∃H5,(H4++[PObj.map []]).set (H3.length+2) (PObj.cells [.nilptr,.map (some H3.length),.map (some (H3.length+1)),.map (some H4.length),.list true []])=H5:=⟨_,rfl⟩
 have e5:(H4++[PObj.map []])[H3.length+2]? = some (.cells [.nilptr,.map (some H3.length),.map (some (H3.length+1)),.map none,.list true []]):=by rw[am (by omega)]; exact t4.hn
 have t5:=t4.newI rfl rfl
 rw[ny] at t5
 have H5l:H5.length=H4.length+1:=by rw[← ny]; simp
 rw[← H5l] at t5
 have K5:Kp H3.length H3 H5:=by
  refine⟨by omega,λk hk =>?_⟩
  rw[← ny,ao (by omega),am (by omega)]
  exact K4.2 k hk
 have at5:∀{H:List PObj},Kp H3.length H3 H→H[2]? = some (wK ents')∧H[3]? = some (wI en ns i (-1))∧H[0]? = h[0]?∧H[1]? = h[1]?∧4≤H.length∧H[h.length]? = some (.cells [.str N.name,.list false (N.ins.map wF),.list false (N.outs.map wF),.list false (N.locals.map wF),.list false (N.eqs.map xn),.list false (N.autos.map xg),.list false (N.assume.map wy),.list false (N.ensure.map wy)]):=λ{H} hk=>
  ⟨(hk.2 2 (by omega)).trans H32,(hk.2 3 (by omega)).trans H33,(hk.2 0 (by omega)).trans H30,(hk.2 1 (by omega)).trans H31,by have:=hk.1; omega,(hk.2 _ (by omega)).trans H3n⟩
 obtain⟨a52,a53,a50,a51,a54,a5n⟩:=at5 K5
 obtain⟨hv,v1⟩:=c6G hL N hn.ins hn.outs hn.locals (λd hd=>(oI d hd).clock)
 obtain⟨H6,O,gg,K6,H6l,t6,rE⟩:=Nu hL en ns i (-1) ents' tags oJ (vars N) fe false H5 a52 a53 _ _ _ _ _ _ _ _ _ _ t5 [] (λx=>by simp[xK])
 have K6':=K5.trans K6
 obtain⟨a62,a63,a60,a61,a64,a6n⟩:=at5 K6'
 have hE:zU (ns.take i) tags N=if (xI [] tags (vars N)).1≠0 then some ⟨i,-1,(xI [] tags (vars N)).1⟩ else match zT ⟨ns.take i,(xI [] tags (vars N)).2,wv N.ins,tags⟩ N.eqs 0 [] with
   | .inl (k,e)=>some ⟨i,k,e⟩
   | .inr d =>
     if (xw ⟨ns.take i,(xI [] tags (vars N)).2,wv N.ins,tags⟩ d N.autos).1≠0 then some ⟨i,-1,(xw ⟨ns.take i,(xI [] tags (vars N)).2,wv N.ins,tags⟩ d N.autos).1⟩
     else if wA (λe=>xe ⟨ns.take i,wv N.ins,wv N.ins,tags⟩ e 1) N.assume≠0 then some ⟨i,-1,wA (λe=>xe ⟨ns.take i,wv N.ins,wv N.ins,tags⟩ e 1) N.assume⟩
     else if wA (λe=>xe ⟨ns.take i,wv N.ins++wv N.outs,wv N.ins,tags⟩ e 1) N.ensure≠0 then some ⟨i,-1,wA (λe=>xe ⟨ns.take i,wv N.ins++wv N.outs,wv N.ins,tags⟩ e 1) N.ensure⟩
     else if wX (wv N.outs++wv N.locals) (xw ⟨ns.take i,(xI [] tags (vars N)).2,wv N.ins,tags⟩ d N.autos).2=[] then none else some ⟨i,-1,8⟩:=by
  unfold zU
  rw[af lz,cI]
  rfl
 rw[hE] at hR
 refine Cb (hL 29 _ rfl) rfl ?_
 by_cases nz:(w9 tags (vars N) []).1=0
 ·obtain⟨rF,hO6⟩:=rE nz
  obtain⟨vis,di⟩:∃vis,vis=(w9 tags (vars N) []).2:=⟨_,rfl⟩
  rw[← di] at rF
  have iT:=Nv hL en ns i (-1) N.locals (by have:=hn.locals; omega) hn.ls false H6 a63 _ _ _ t6.holds vis rF
  have kY:zg vis (vars N)=zg vis N.locals:=by
   unfold zg vars
   rw[Ju]
   have:wA (λd:Decl=>wA (λo:On=>need (decide (o.name∈vis)) 6) d.clock) (N.ins++N.outs)=0:=A2.2 λd hd=>by rw[fc d hd]; rfl
   rw[this]; rfl
  have rG:xI [] tags (vars N)=(zg vis N.locals,vis):=by
   unfold xI xS
   rw[ah nz,← di]
   exact aH (λz=>(z,vis)) kY
  rw[rG] at hR
  rw[nz] at gg
  simp[wG] at gg
  by_cases rH:zg vis N.locals=0
  ·rw[rH] at hR iT
   simp only[ne_eq,bc,if_false] at hR
   simp[wG] at iT
   obtain⟨S,hS⟩:∃S:Place,S=⟨ns.take i,vis,wv N.ins,tags⟩:=⟨_,rfl⟩
   rw[← hS] at hR
   simp[Ei,lZ,hi,← hN,hA,ma,H1n,dH,dO,e5,ny,a5n,v1,gg,a6n,iT]
   have t6':TopAt H6 H5.length H3.length (H3.length+2) H3.length (H3.length+1) (.map (some H4.length)) (.list true []) .nilptr ⟨O,[],[],[]⟩ []:=t6
   have rI:N.parts=1+wu Decl.parts N.ins+wu Decl.parts N.outs+wu Decl.parts N.locals+wu Eqn.parts N.eqs+wu (λe=>1+Expr.parts e) N.assume+wu (λe=>1+Expr.parts e) N.ensure+yI N.autos:=rfl
   have rJ:=Jv N.eqs
   have hdp:=Jw N.autos (λa ha x hx=>GX x)
   refine c0x hL N.ins hn.ins H6 H5.length H3.length _ _ _ H4.length _ _ _ [] t6' rfl _ _ _ _ _ _ _ _ _ _ _ _ _ _ _ _ _ _ ?_
   intro y4 g7 H7 I H7l K7 t7 hI
   obtain⟨a72,a73,a70,a71,a74,a7n⟩:=at5 (K6'.trans K7)
   have H7l':H5.length=H7.length:=by omega
   rw[H7l'] at t7
   have t7':TopAt H7 H7.length H3.length (H3.length+2) H3.length (H3.length+1) (.map (some H4.length)) (.list true []) .nilptr ⟨O,[],I,[]⟩ []:=t7
   have j6:∀D df x,xK [(⟨O,D,I,df⟩:Fr)] x=true↔x∈S.vis:=λD df x=>by have:=rF x; rw[hS]; simpa[xK] using this
   simp[a7n]
   refine c0y hL en ns ents' i gM S (by rw[hS]) N.eqs hn.eqs hn.es H7 a72 (-1) a73 H3.length _ _ _ _ _ _ _ t7' (j6 _ _) rfl (λx=>by rw[hS]; exact hI x) (by simp only[cj]; omega) rfl _ _ _ _ _ _ _ _ _ _ _ _ _ _ _ _ ?_ ?_
   ·intro df ec y5 y6 g8 H8 c8 dv8 K8 uU t8
    rw[ec] at hR
    simp only at hR
    have uV:df.length≤1500:=by
     have h1:=((Ds S N.eqs [] df).1 ((Nw S N.eqs 0 [] df).1 ec)).1
     rw[h1,bu]; omega
    have rK:H8[3]? = some (.cells [.list false (en.map wJ),.list false (ns.map xc),.int .i64 i,.int .i64 c8,.map (some 2)]):=uU
    obtain⟨H9,qh⟩:∃H9,H8.set 3 (PObj.cells [.list false (en.map wJ),.list false (ns.map xc),.int .i64 i,.int .i64 (-1),.map (some 2)])=H9:=⟨_,rfl⟩
    have K9:Kp H3.length H7 H9:=by rw[← qh]; exact K8
    have t9:TopAt H9 H9.length H3.length (H3.length+2) H3.length (H3.length+1) (.map (some H4.length)) dv8 .nilptr ⟨O,df,I,df⟩ []:=by
     have:=t8.low 3 (by decide) (PObj.cells [.list false (en.map wJ),.list false (ns.map xc),.int .i64 i,.int .i64 (-1),.map (some 2)])
     rw[qh] at this
     have hl:H8.length=H9.length:=by rw[← qh]; simp
     rw[hl] at this
     exact this
    obtain⟨a92,a93,a90,a91,a94,a9n⟩:=at5 ((K6'.trans K7).trans K9)
    simp[rK,qh,a9n]
    refine c0z hL en ns i (-1) ents' i gM S (by rw[hS]) (by rw[hS]; exact oJ) N.autos hn.autos.len (λx hx=>c4l hL en ns i (-1) ents' x (hn.autos.as x hx) (hn.autos.ss x hx) (λy hy=>by
     have h1:Ce x≤yI N.autos:=by
      rw[Ej,Ek]
      have:=A3 (λa=>1+wu State.parts a) hx
      omega
     have h2:y.parts≤Ce x:=by rw[Ek]; exact A3 _ hy
     omega)) H9 a92 a93 H3.length _ _ _ _ _ _ _ [] t9 (j6 _ _) [] rfl (λx=>by rw[hS]; simp[zw,hI]) (by simp only; omega) _ _ _ _ _ _ _ _ _ _ _ _ _ _ _ _ ?_ ?_
    ·intro hz ij dv10 df10 y7 g10 K10 mb t10
     simp only[bu] at hz mb
     have t10':TopAt ij ij.length H3.length (H3.length+2) H3.length (H3.length+1) (.map (some H4.length)) dv10 .nilptr ⟨O,df10,I,df10⟩ []:=t10
     rw[hz,mb] at hR
     simp only[ne_eq,bc,if_false] at hR
     have K10':=((K6'.trans K7).trans K9).trans K10
     obtain⟨a102,a103,a100,a101,a104,a10n⟩:=at5 K10'
     obtain⟨H11,c11,K11⟩:=Np hL en ns i (-1) ents' i gM ⟨ns.take i,wv N.ins,wv N.ins,tags⟩ rfl N.assume hn.assume hn.as [N.ins] (by simp) (by simp[yv,wu]; have:=hn.ins; omega) (λx=>by simp) false false ij a104 a102 a103
     have lS:yW wF [N.ins]=[.list false (N.ins.map wF)]:=rfl
     rw[lS] at c11
     have K11':=K10'.trans (K11.le K10'.1)
     by_cases mT:wA (λe=>xe ⟨ns.take i,wv N.ins,wv N.ins,tags⟩ e 1) N.assume=0
     ·rw[mT] at hR c11
      simp only[bc,if_false] at hR
      simp[wG] at c11
      obtain⟨a112,a113,a110,a111,a114,a11n⟩:=at5 K11'
      obtain⟨H12,c12,K12⟩:=Np hL en ns i (-1) ents' i gM ⟨ns.take i,wv N.ins++wv N.outs,wv N.ins,tags⟩ rfl N.ensure hn.ensure hn.gs [N.ins,N.outs] (by simp) (by simp[yv,wu]; have:=hn.ins; have:=hn.outs; omega) (λx=>by simp[wv]) false false H11 a114 a112 a113
      have gZ:yW wF [N.ins,N.outs]=[.list false (N.ins.map wF),.list false (N.outs.map wF)]:=rfl
      rw[gZ] at c12
      have K12':=K11'.trans (K12.le K11'.1)
      by_cases mU:wA (λe=>xe ⟨ns.take i,wv N.ins++wv N.outs,wv N.ins,tags⟩ e 1) N.ensure=0
      ·rw[mU] at hR c12
       simp only[bc,if_false] at hR
       simp[wG] at c12
       obtain⟨a122,a123,a120,a121,a124,a12n⟩:=at5 K12'
       have t12:=t10'.keep (K11.trans (K12.le K11.1)).2
       have rL:N.ins.length≤(vars N).length:=by simp[vars]
       have oK:List.drop N.ins.length (List.take (vars N).length (List.map wF (vars N)))=(N.outs++N.locals).map wF:=by
        rw[cA (by simp),← List.map_drop]
        congr 1
        simp[vars]
       obtain⟨G,hG⟩:∃G,G=N.outs++N.locals:=⟨_,rfl⟩
       have uW:wv G=wv N.outs++wv N.locals:=by rw[hG,GR hL]
       have uX:G.length≤4500:=by rw[hG]; have:=hn.outs; have:=hn.locals; simp; omega
       rw[← hG] at oK
       rw[← uW] at hR
       simp[a10n,c11,a11n,c12,a12n,v1,rL,oK]
       refine c0A hL en ns i (-1) G uX H12 a123 _ _ _ _ _ _ _ _ _ _ t12 _ _ _ _ _ _ _ _ _ _ _ _ _ _ _ _ _ ?_ ?_
       ·intro cY y8 g'
        rw[ah (Dt.2 cY)] at hR
        simp[hR,yg]
        exact⟨a120,a121,a124,a122,a123⟩
       ·intro cY W g'
        rw[af (λhh=>cY (Dt.1 hh))] at hR
        simp[hR,yg]
        exact⟨a120,a121,a124⟩
      ·rw[ah mU] at hR
       simp[wG,mU] at c12
       simp[a10n,c11,a11n,c12,hR,yg]
       obtain⟨_,_,b0,b1,b4,_⟩:=at5 K12'
       exact⟨b0,b1,b4⟩
     ·rw[ah mT] at hR
      simp[wG,mT] at c11
      simp[a10n,c11,hR,yg]
      obtain⟨_,_,b0,b1,b4,_⟩:=at5 K11'
      exact⟨b0,b1,b4⟩
    ·intro hz h' W g' K'
     simp only[bu] at hz
     rw[ah hz] at hR
     obtain⟨b2,b3,b0,b1,b4,bn⟩:=at5 (((K6'.trans K7).trans K9).trans K')
     simp[hR,yg]
     exact⟨b0,b1,b4⟩
   ·intro k e rM W g' H' K'
    rw[rM] at hR
    simp only at hR
    obtain⟨b2,b3,b0,b1,b4,bn⟩:=at5 ((K6'.trans K7).trans K')
    rw[ao (by decide)] at b0 b1
    simp[hR,yg]
    exact⟨b0,b1,by simpa using b4⟩
  ·simp only[ne_eq,rH,cB,if_true] at hR
   simp[wG,rH] at iT
   simp[Ei,lZ,hi,← hN,hA,ma,H1n,dH,dO,e5,ny,a5n,v1,gg,a6n,iT,hR,yg]
   exact⟨a60,a61,a64⟩
 ·have rG:(xI [] tags (vars N)).1=(w9 tags (vars N) []).1:=by unfold xI xS; rw[af nz]
  rw[rG,ah nz] at hR
  simp[wG,nz] at gg
  simp[Ei,lZ,hi,← hN,hA,ma,H1n,dH,dO,e5,ny,a5n,v1,gg,hR,yg]
  exact⟨a60,a61,a64⟩
end
structure EnumKeys (ents:ye) (T Nm:List Str):Prop where
 tags:∀x,((0:Int),x)∈zp ents↔x∈T
 nodes:∀x,((1:Int),x)∉zp ents
 types:∀x,((2:Int),x)∈zp ents↔x∈Nm
theorem EnumKeys.tag {ents:ye} {T Nm:List Str} (h:EnumKeys ents T Nm) (s:Str) (i:Int):EnumKeys (ents++[((0,s),i)]) (T++[s]) Nm:=by
 have hk:∀k,k∈zp (ents++[(((0:Int),s),i)])↔k∈zp ents∨k=(0,s):=by simp[zp]
 refine⟨λx =>?_,λx =>?_,λx =>?_⟩
 ·rw[hk,h.tags]; simp
 ·rw[hk]; simp[h.nodes x]
 ·rw[hk,h.types]; simp
theorem EnumKeys.type {ents:ye} {T Nm:List Str} (h:EnumKeys ents T Nm) (s:Str) (i:Int):EnumKeys (ents++[((2,s),i)]) T (Nm++[s]):=by
 have hk:∀k,k∈zp (ents++[(((2:Int),s),i)])↔k∈zp ents∨k=(2,s):=by simp[zp]
 refine⟨λx =>?_,λx =>?_,λx =>?_⟩
 ·rw[hk,h.tags]; simp
 ·rw[hk]; simp[h.nodes x]
 ·rw[hk,h.types]; simp
section
variable {L:Nat→Option PFunc} (hL:∀k f,LS k=some f→L k=some f) (en:List Enum) (ns:List Node)
include hL
theorem b8Q (i:Nat) (l:List Str) (hl:l.length≤1500) (T Nm:List Str) (hT:T.Nodup) (ents:ye) (hk:EnumKeys ents T Nm) (c0 c1:PObj) (V0 V1 V2 V3 V4 V5 V8 V9 V10 V11 V12 V13 V14 V18 V19:PV) (g:Nat) {Q:PExit→St→Prop}
  (ok:(T++l).Nodup→∀y9 ents',EnumKeys ents' (T++l) Nm→Q (.exit 2) ⟨[V0,V1,V2,V3,V4,V5,.ptr 3 0,.int .i64 i,V8,y9,V10,V11,V12,V13,V14,.list false (l.map .str),.int .i64 l.length,.int .i64 l.length,V18,V19],[],g,[c0,c1,wK ents',wI en ns (-1) (-1)]⟩)
  (no:¬(T++l).Nodup→∀W o2 o3,W[2]? = some V2→W[3]? = some V3→Q (.boom (xV 1 (-1) (-1) 7)) ⟨W,[],g,[c0,c1,o2,o3]⟩):
  wpL L Jx ⟨[V0,V1,V2,V3,V4,V5,.ptr 3 0,.int .i64 i,V8,V9,V10,V11,V12,V13,V14,.list false (l.map .str),.int .i64 l.length,.int .i64 0,V18,V19],[],g,[c0,c1,wK ents,wI en ns (-1) (-1)]⟩ Q:=by
 rw[Jx]
 refine yQ l.length (λj st=>∃y9 ents',st=⟨[V0,V1,V2,V3,V4,V5,.ptr 3 0,.int .i64 i,V8,y9,V10,V11,V12,V13,V14,.list false (l.map .str),.int .i64 l.length,.int .i64 j,V18,V19],[],g,[c0,c1,wK ents',wI en ns (-1) (-1)]⟩∧EnumKeys ents' (T++l.take j) Nm∧∀k (hk:k<l.length),k<j→l[k]∉T++l.take k) ?_ ?_ ⟨_,ents,rfl,by simpa using hk,λk _ h=>by omega⟩
 ·rintro j hj st ⟨y9,ents',rfl,hk,dt⟩ ih
  have hw:=wC j (by omega)
  by_cases hd:l[j]∈T++l.take j
  ·have dH:=Js hL en ns (-1) (-1) [c0,c1,wK ents',wI en ns (-1) (-1)] rfl ents' rfl (0,l[j]) i ((hk.tags _).2 hd)
   have eW:zV (0,l[j]) = .agg [.int .i64 0,.str l[j]]:=rfl
   rw[eW] at dH
   simp[hj,dH]
   exact no (λhn=>(GY.1 hn).2 j hj hd) _ _ _ rfl rfl
  ·have dH:=Jt hL en ns (-1) (-1) [c0,c1,wK ents',wI en ns (-1) (-1)] rfl ents' rfl (0,l[j]) i (λhh=>hd ((hk.tags _).1 hh))
   have eW:zV (0,l[j]) = .agg [.int .i64 0,.str l[j]]:=rfl
   have dz:[c0,c1,wK ents',wI en ns (-1) (-1)].set 2 (wK (ents'++[((0,l[j]),(i:Int))]))=[c0,c1,wK (ents'++[((0,l[j]),(i:Int))]),wI en ns (-1) (-1)]:=rfl
   rw[eW,dz] at dH
   simp[hj,dH,hw]
   refine ih _ ⟨_,_,rfl,?_,λk lq uY =>?_⟩
   ·rw[zn hj,← aC]; exact hk.tag _ _
   ·by_cases he:k=j
    ·subst he; exact hd
    ·exact dt k lq (by omega)
 ·rintro st ⟨y9,ents',rfl,hk,dt⟩
  rw[aI] at hk
  simp
  exact ok (GY.2 ⟨hT,λk hk=>dt k hk hk⟩) _ _ hk
theorem b8R (he:en.length≤1500) (jy:∀u∈en,u.tags.length≤1500) (c0 c1:PObj) (V0 V1 V2 V3 V4 V5 V7 V8 V9 V10 V11 V15 V16 V17 V18 V19:PV) (g:Nat) {Q:PExit→St→Prop}
  (ok:BO en=true→∀y7 y8 y9 y15 y16 y17 g' ents',EnumKeys ents' (yw en) (en.map (·.name))→Q (.exit 0) ⟨[V0,V1,V2,V3,V4,V5,.ptr 3 0,y7,y8,y9,V10,V11,.list false (en.map wJ),.int .i64 en.length,.int .i64 en.length,y15,y16,y17,V18,V19],[],g',[c0,c1,wK ents',wI en ns (-1) (-1)]⟩)
  (no:BO en=false→∀W g' o2 o3,W[2]? = some V2→W[3]? = some V3→Q (.boom (xV 1 (-1) (-1) 7)) ⟨W,[],g',[c0,c1,o2,o3]⟩):
  wpL L Jy ⟨[V0,V1,V2,V3,V4,V5,.ptr 3 0,V7,V8,V9,V10,V11,.list false (en.map wJ),.int .i64 en.length,.int .i64 0,V15,V16,V17,V18,V19],[],g,[c0,c1,wK [],wI en ns (-1) (-1)]⟩ Q:=by
 have oL:∀j (hj:j<en.length),Bk en j en[j]=false→BO en=false:=by
  intro j hj h1
  cases h:BO en with
  | false=>rfl
  | true=>rw[GZ.1 h j hj] at h1; simp at h1
 rw[Jy]
 refine yQ en.length (λj st=>∃y7 y8 y9 y15 y16 y17 g' ents',st=⟨[V0,V1,V2,V3,V4,V5,.ptr 3 0,y7,y8,y9,V10,V11,.list false (en.map wJ),.int .i64 en.length,.int .i64 j,y15,y16,y17,V18,V19],[],g',[c0,c1,wK ents',wI en ns (-1) (-1)]⟩∧EnumKeys ents' (yw (en.take j)) ((en.take j).map (·.name))∧∀k (hk:k<en.length),k<j→Bk en k en[k]=true) ?_ ?_ ⟨_,_,_,_,_,_,_,[],rfl,⟨by simp[zp,yw],by simp[zp],by simp[zp]⟩,λk _ h=>by omega⟩
 ·rintro j hj st ⟨y7,y8,y9,y15,y16,y17,g',ents',rfl,hk,dt⟩ ih
  have hw:=wC j (by omega)
  have uZ:=jy _ (ae hj)
  by_cases hd:en[j].name∈(en.take j).map (·.name)
  ·have dH:=Js hL en ns (-1) (-1) [c0,c1,wK ents',wI en ns (-1) (-1)] rfl ents' rfl (2,en[j].name) j ((hk.types _).2 hd)
   have eW:zV (2,en[j].name) = .agg [.int .i64 2,.str en[j].name]:=rfl
   rw[eW] at dH
   simp[hj,dH]
   exact no (oL j hj (by unfold Bk; simp only[aT]; exact λh=>h.1 hd)) _ _ _ _ rfl rfl
  ·have dH:=Jt hL en ns (-1) (-1) [c0,c1,wK ents',wI en ns (-1) (-1)] rfl ents' rfl (2,en[j].name) j (λhh=>hd ((hk.types _).1 hh))
   have eW:zV (2,en[j].name) = .agg [.int .i64 2,.str en[j].name]:=rfl
   have dz:[c0,c1,wK ents',wI en ns (-1) (-1)].set 2 (wK (ents'++[((2,en[j].name),(j:Int))]))=[c0,c1,wK (ents'++[((2,en[j].name),(j:Int))]),wI en ns (-1) (-1)]:=rfl
   rw[eW,dz] at dH
   simp[hj,dH]
   refine b8Q hL en ns j en[j].tags uZ (yw (en.take j)) ((en.take j).map (·.name)++[en[j].name]) (Nx (by omega) dt) _ (hk.type _ _) c0 c1 _ _ _ _ _ _ _ _ _ _ _ _ _ _ _ _ ?_ ?_
   ·intro dk y9' ents'' dh
    simp[hw]
    refine ih _ ⟨_,_,_,_,_,_,_,_,rfl,?_,λk lq uY =>?_⟩
    ·rw[Du hj,zn hj,bk]; exact dh
    ·by_cases rM:k=j
     ·subst rM
      unfold Bk
      simp only[ak]
      exact⟨hd,dk⟩
     ·exact dt k lq (by omega)
   ·intro dk W o2 o3 rN rO
    simp
    exact no (oL j hj (by unfold Bk; simp only[aT]; exact λh=>dk h.2)) _ _ _ _ rN rO
 ·rintro st ⟨y7,y8,y9,y15,y16,y17,g',ents',rfl,hk,dt⟩
  rw[aI] at hk
  simp
  exact ok (GZ.2 λk hk=>dt k hk hk) _ _ _ _ _ _ _ _ hk
end
theorem b56 {en:List Enum} {n:Node} (h:zD en n=0):∀d∈n.ins++n.outs,d.clock=[]:=by
 unfold zD at h
 simp only[zx] at h
 obtain⟨_,_,_,h1,h2,_⟩:=h
 have key:∀d,yx en true d=0→d.clock=[]:=by
  intro d hd
  unfold yx at hd
  simp only[zx] at hd
  obtain⟨_,_,h3,_⟩:=hd
  refine cG λhn =>?_
  simp[need,hn] at h3
 intro d hd
 rcases ax.1 hd with hd|hd
 ·exact key d (A2.1 h1 d hd)
 ·exact key d (A2.1 h2 d hd)
theorem b8S {p:Prog} (h:A4 p=none):∀n∈p.nodes,∀d∈n.ins++n.outs,d.clock=[]:=by
 unfold A4 at h
 split at h
 ·simp at h
 ·split at h
  ·simp at h
  ·intro n hn
   exact b56 (Ny.1 ((Nz p.enums p.nodes 0).1 h n hn 0)).1
theorem NodesIn.step {ents:ye} {ns:List Node} {i:Nat} (hi:i<ns.length) (h:NodesIn ents ns i) (hk:GW ents ns i) (hd:ns[i].name∉(ns.take i).map (·.name)):
  NodesIn (ents++[((1,ns[i].name),(i:Int))]) ns (i+1)∧GW (ents++[((1,ns[i].name),(i:Int))]) ns (i+1):=by
 have jO:∀x:Str,yX (1,x) (ents++[((1,ns[i].name),(i:Int))])=(yX (1,x) ents).or (if x=ns[i].name then some (i:Int) else none):=by
  intro x
  generalize ents=l
  induction l with
  | nil=>by_cases hx:x=ns[i].name<;>simp[yX,hx]
  | cons y l ih =>
    simp only[aW,yX]
    by_cases hy:((1:Int),x)=y.1
    ·rw[ah hy,ah hy]; rfl
    ·rw[af hy,af hy]; exact ih
 have fI:∀x,callee (ns.take (i+1)) x=(callee (ns.take i) x).or (if ns[i].name=x then some ns[i] else none):=by
  intro x
  unfold callee
  rw[zn hi,List.find?_append]
  congr 1
  by_cases hx:ns[i].name=x<;>simp[hx]
 constructor
 ·intro x
  have hx:=h x
  rw[fI]
  cases hc:callee (ns.take i) x with
  | some m =>
    rw[hc] at hx
    obtain⟨j,e1,e2,e3⟩:=hx
    exact⟨j,by rw[jO,e1]; rfl,by omega,e3⟩
  | none =>
    have gJ:((1:Int),x)∉zp ents:=by
     rw[hk]
     unfold callee at hc
     rw[List.find?_eq_none] at hc
     intro hm
     obtain⟨n,h1,h2⟩:=a8.1 hm
     exact hc n h1 (by simpa using h2)
    have lA:=Dv.2 gJ
    by_cases nA:ns[i].name=x
    ·rw[ah nA]
     exact⟨i,by rw[jO,lA,ah nA.symm]; rfl,by omega,an hi⟩
    ·rw[af nA]
     intro c eH
     rw[jO,lA,af (λe=>nA e.symm)] at eH
     simp at eH
 ·intro x
  rw[zn hi,bk,ax,← hk x]
  simp[zp]
section
variable {L:Nat→Option PFunc} (hL:∀k f,LS k=some f→L k=some f)
include hL
theorem rec27 (a b e:Int) (h:List PObj) (w1 w2 c:Int) (h0:h[0]? = some (.cells [.int .i64 w1,.int .i64 w2])) (h1:h[1]? = some (.cells [.int .i64 c])):yU L 27 [xV 1 a b e,.ptr 0 0,.ptr 1 0] h=some ((h.set 0 (.cells [.int .i64 a,.int .i64 b])).set 1 (.cells [.int .i64 e])):=by
 unfold yU
 rw[hL 27 _ rfl]
 simp[Jz,A0,xV,h0,h1]
theorem c9J (h:List PObj):yU L 27 [.nilIface,.ptr 0 0,.ptr 1 0] h=some h:=by
 unfold yU
 rw[hL 27 _ rfl]
 simp[Jz,A0]
theorem c3W (p:Prog) (hp:PW p) (hs:parts p≤1500):∃h',wr L 8 [yh p] []=some (zh (yy (El p)),h'):=by
 suffices H:∃r,wr L 8 [yh p] []=some r∧r.1=zh (yy (El p)) by
  obtain⟨⟨v,h'⟩,h1,h2⟩:=H
  exact⟨h',by rw[h1]; simp only at h2; rw[h2]⟩
 refine NA (hL 8 _ rfl) rfl ?_
 obtain⟨u3,dV⟩:=c4h hL p hp
 unfold El
 cases hS:A4 p with
 | some b =>
   have lB:=NB hS
   rw[hS] at dV
   simp only[yy,bJ,zh] at dV ⊢
   simp[G5,dV,lB,wM,wD]
 | none =>
   have fc:=b8S hS
   rw[hS] at dV
   simp only[yy,Option.getD_none,Dw,zh] at dV
   simp only
   obtain⟨RES,em⟩:∃RES,RES=(if BO p.enums then AG (yw p.enums) [] p.nodes else some (⟨-1,-1,7⟩:Bad)):=⟨_,rfl⟩
   rw[← em]
   simp[G5,dV]
   rw[NC (cs:=[.ptr 0 0,.ptr 1 0]) _ _ _ rfl (by simp)]
   have eC:PObj.cells [PV.list false (p.enums.map wJ),PV.list false (p.nodes.map xc),.int .i64 (-1),.int .i64 (-1),.map (some 2)]=wI p.enums p.nodes (-1) (-1):=rfl
   have mV:PObj.map []=wK []:=rfl
   have gI:(PV.map (some 2)).cells=[.map (some 2)]:=rfl
   have iP:=hp.nodes
   simp[gI,eC,mV]
   refine b8R hL p.enums p.nodes hp.enums hp.tags _ _ _ _ _ _ _ _ _ _ _ _ _ _ _ _ _ _ _ ?_ ?_
   ·intro cJ y7 y8 y9 y15 y16 y17 g' ents' hk
    rw[ah cJ] at em
    simp
    rw[ND]
    refine yQ p.nodes.length (λj st=>∃y10 h' ents a b,st=⟨[yh p,.loc 0 [.list false (p.enums.map wJ),.list false (p.nodes.map xc)],.ptr 0 0,.ptr 1 0,.loc 1 [.int .i64 0,.int .i64 0],.int .i64 0,.ptr 3 0,y7,y8,y9,y10,.ptr 3 0,.list false (p.enums.map wJ),.int .i64 p.enums.length,.int .i64 p.enums.length,y15,y16,y17,.int .i64 p.nodes.length,.int .i64 j],[],g',h'⟩ ∧
     h'[0]? = some (.cells [.int .i64 0,.int .i64 0])∧h'[1]? = some (.cells [.int .i64 0])∧4≤h'.length∧h'[2]? = some (wK ents)∧h'[3]? = some (wI p.enums p.nodes a b)∧BN ents (yw p.enums)∧NodesIn ents p.nodes j∧GW ents p.nodes j∧RES=AG (yw p.enums) (p.nodes.take j) (p.nodes.drop j)) ?_ ?_
     ⟨_,_,ents',-1,-1,rfl,rfl,rfl,by simp,rfl,rfl,hk.tags,λx=>by
      have:yX (1,x) ents'=none:=Dv.2 (hk.nodes x)
      simp[callee,this],λx=>by simp[hk.nodes x],by simpa using em⟩
    ·rintro j hj st ⟨y10,h',ents,a,b,rfl,e0,e1,e4,e2,e3,db,dk,jx,hR⟩ ih
     have hw:=wC j (by omega)
     rw[aN hj] at hR
     have ki:p.nodes[j].parts≤1500:=by
      have:=A3 Node.parts (ae hj)
      unfold parts at hs; omega
     obtain⟨h2,hx,k0,k1,k4,kn⟩:=c6m hL p.enums p.nodes a b ents j hj hp.nodes (hp.ns _ (ae hj)) ki (fc _ (ae hj)) (yw p.enums) db dk jx h' e4 e2 e3
     cases hN:zU (p.nodes.take j) (yw p.enums) p.nodes[j] with
     | none =>
       have hd:p.nodes[j].name∉(p.nodes.take j).map (·.name):=by
        intro hm
        unfold zU at hN
        rw[ah hm] at hN
        simp at hN
       obtain⟨n2,n3⟩:=NodesIn.step hj dk jx hd
       obtain⟨q2,q3⟩:=kn hN
       rw[hN] at hx
       simp only[AG,hN] at hR
       rw[← zn hj] at hR
       simp[yg] at hx
       simp[hj,hx,hw]
       refine ih _ ⟨_,h2,_,_,_,rfl,k0.trans e0,k1.trans e1,k4,q2,q3,λx =>?_,n2,n3,hR⟩
       rw[← db x]
       simp[zp]
     | some bd =>
       rw[hN] at hx
       simp only[AG,hN] at hR
       have d8:=rec27 hL bd.node bd.eq bd.err h2 0 0 0 (k0.trans e0) (k1.trans e1)
       have jz:0<h2.length:=by omega
       have eb:1<h2.length:=by omega
       simp[yg] at hx
       simp[hj,hx,d8,hR,yy,zh,wD,jz,eb]
       rfl
    ·rintro st ⟨y10,h',ents,a,b,rfl,e0,e1,e4,e2,e3,db,dk,jx,hR⟩
     rw[ba (aq _)] at hR
     simp only[AG] at hR
     have d8:=c9J hL h'
     have jz:0<h'.length:=by omega
     have eb:1<h'.length:=by omega
     have rP:h'.set 0 (.cells [.int .i64 0,.int .i64 0])=h':=Fq e0
     have kj:h'.set 1 (.cells [.int .i64 0])=h':=Fq e1
     simp[e0,e1,rP,kj,d8,hR,yy,Dw,zh,wD]
     rfl
   ·intro cJ W g' o2 o3 rN rO
    rw[cJ] at em
    simp only[ay,if_false] at em
    have d8:=rec27 hL (-1) (-1) 7 [.cells [.int .i64 0,.int .i64 0],.cells [.int .i64 0],o2,o3] 0 0 0 rfl rfl
    simp[d8,em,yy,zh,wD,rN,rO]
    rfl
end
theorem c0J (p:Prog) (hp:PF p):∃h',wr LS 0 [yh p] []=some (.bool true,h'):=by
 have hL:∀k f,LS k=some f→LS k=some f:=λ_ _ h=>h
 refine⟨[],?_⟩
 have hh:=c2q hL p hp []
 have tq:=c2p
 refine wz rfl rfl ?_
 cases hv:FR p with
 | true =>
   rw[hv] at hh
   simp[G7,hh,tq]
 | false =>
   rw[hv] at hh
   have hs:parts p≤1500:=by unfold FR at hv; simp at hv; omega
   have hw:=hp.pw hs
   obtain⟨h1,c1⟩:=c3W hL p hw hs
   have c2:=c2x hL p hw hs []
   obtain⟨B,hB⟩:∃B,B=yy (El p):=⟨_,rfl⟩
   rw[← hB] at c1 c2
   unfold zh at c1 c2
   simp[G7,hh,tq,c1,c2,peq,Ah,AB]
end PI.Sc
