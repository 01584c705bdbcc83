import Derived.Test.YtljbhgpanekomaaGreatPiCaRun18
set_option maxRecDepth 100000
set_option linter.unusedSimpArgs false
set_option linter.unusedVariables false
set_option linter.unusedSectionVars false
namespace PI.Sc
open Go (IntKind BinOp UnOp)
open Short
section
variable {L:Nat→Option PFunc} (hL:∀k f,LS k=some f→L k=some f)
include hL
theorem c1T (l:List State) (hl:l.length≤2000000000) (o:Bool) (h:List PObj) (x:State):wj L 100 [.list o (l.map wQ),.func 101 [] [.cptr (wQ x).cells]] h=some (.bool (l.any λs=>decide (s.name=x.name)),h):=by
 obtain⟨P,hP⟩:∃P:State→Bool,∀s,P s=decide (s.name=x.name):=⟨_,λ_=>rfl⟩
 have de:∀s:State,wj L 101 [wQ s,.cptr (wQ x).cells] h=some (.bool (P s),h):=by
  intro s
  rw[hP]
  refine wD (hL 101 _ rfl) rfl ?_
  simp[Ji]
 simp only[J3] at de
 have hi:wj L 125 [.list false (l.map wQ),.func 101 [] [.cptr (wQ x).cells]] h=some (.int .i64 (A0 P l),h):=by
  refine wD (hL 125 _ rfl) rfl ?_
  simp[GW]
  rw[MF]
  refine xc l.length (λj st=>∃y3,st=⟨[.list false (l.map wQ),.func 101 [] [.cptr [.str x.name,.list false (x.locals.map wo),.list false (x.eqs.map wX),.list false (x.autos.map wY),.list false (x.unl.map xn),.list false (x.til.map xn)]],.int .i64 0,y3,.int .i64 l.length,.int .i64 j],[],0,h⟩∧∀i (hi:i<l.length),i<j→P l[i]=false) ?_ ?_ ⟨_,rfl,λi _ hi=>by omega⟩
  ·rintro j hj st ⟨y3,rfl,hn⟩ ih
   have hw:=wF j (by omega)
   have hc:=de l[j]
   cases hp:P l[j] with
   | true =>
     rw[hp] at hc
     simp[hj,hc,hw,Fx hj hp hn]
   | false =>
     rw[hp] at hc
     simp[hj,hc,hw]
     refine ih _ ⟨_,rfl,λi hi mo =>?_⟩
     by_cases he:i=j
     ·subst he; exact hp
     ·exact hn i hi (by omega)
  ·rintro st ⟨y3,rfl,hn⟩
   simp[GW,Fy (λi hi=>hn i hi hi)]
 have ha:(l.any λs=>decide (s.name=x.name))=l.any P:=by
  congr 1; funext s; exact(hP s).symm
 rw[ha]
 simp only[J3] at hi
 refine wD (hL 100 _ rfl) rfl ?_
 simp[Jh,hi,← Hi]
theorem b5B (o:Bool) (k:Nat) (cs:List PV) (h:List PObj):wj L 127 [.list o [],.func k [] [.cptr cs]] h=some (.list false [],h):=by
 have hi:=Kv hL [] (by simp) (.list false []) h (.inl ⟨false,rfl⟩) k cs (λ_=>false) (by simp)
 refine wD (hL 127 _ rfl) rfl ?_
 simp[A0] at hi
 simp[Fh,hi]
theorem c1U (l:List Str) (hl:l.length≤2000000000) (h:List PObj) (kr:Nat) (hk:h[kr]? = some (.cells (l.map PV.str))) (k:Nat) (cs:List PV) (P:Str→Bool) (de:∀o,∀x∈l,wj L k [.str x,.cptr cs] (h.set kr o)=some (.bool (P x),h.set kr o)):wj L 127 [.rowp kr 1 false l.length,.func k [] [.cptr cs]] h=some (.rowp kr 1 false (l.filter λx => !P x).length,h.set kr (.cells ((l.filter λx => !P x).map PV.str))):=by
 have iq:h.set kr (.cells (l.map PV.str))=h:=Cl hk
 have jZ:kr<h.length:=(ai.1 hk).1
 have hi:=Kv hL l hl (.rowp kr 1 false l.length) h (.inr ⟨kr,rfl,hk⟩) k cs P (λx hx=>by have:=de (.cells (l.map PV.str)) x hx; rwa [iq] at this)
 refine wD (hL 127 _ rfl) rfl ?_
 cases hf:l.findIdx? P with
 | none =>
   have fQ:l.filter (λx => !P x)=l:=by
    rw[List.findIdx?_eq_none_iff] at hf
    rw[List.filter_eq_self]
    intro x hx; simp[hf x hx]
   simp[A0,hf] at hi
   simp[Fh,hi,fQ,iq]
 | some i0 =>
   obtain⟨dL,uO,dI⟩:=List.findIdx?_eq_some_iff_getElem.1 hf
   simp[A0,hf] at hi
   have ng:=wF i0 (by omega)
   have oA:(l.take (i0+1)).filter (λx => !P x)=l.take i0:=by
    rw[bl,al dL]
    simp only[Option.toList,List.filter_append,List.filter_cons,uO,Bool.not_true,aH,if_false,List.filter_nil,bh]
    rw[List.filter_eq_self]
    intro x hx
    obtain⟨j,hj,rfl⟩:=bR.1 hx
    simp only[bk] at hj
    rw[List.getElem_take]
    have:=dI j (by omega)
    simpa using this
   have cZ:¬(i0:Int) = -1:=by omega
   simp[Fh,hi,ng,cZ]
   rw[MH]
   refine xc (l.length - (i0+1)) (λj st=>∃y5 mid,st=⟨[.rowp kr 1 false l.length,.func k [] [.cptr cs],.list true [],.int .i64 ((l.take (i0+1+j)).filter λx => !P x).length,.int .i64 (i0+1+j:Nat),y5],[],0,h.set kr (.cells (((l.take (i0+1+j)).filter (λx => !P x)++mid++l.drop (i0+1+j)).map PV.str))⟩∧((l.take (i0+1+j)).filter λx => !P x).length+mid.length=i0+1+j) ?_ ?_ ⟨.dead,[l[i0]],?_,?_⟩
   ·rintro j hj st ⟨y5,mid,rfl,hm⟩ ih
    obtain⟨J,hJ⟩:∃J,J=i0+1+j:=⟨_,rfl⟩
    have mD:J<l.length:=by omega
    rw[← hJ] at hm ⊢
    have uP:i0+1+(j+1)=J+1:=by omega
    rw[uP] at ih
    have hw:=wF J (by omega)
    obtain⟨F,hF⟩:∃F,F=(l.take J).filter λx => !P x:=⟨_,rfl⟩
    rw[← hF] at hm ⊢
    have uQ:=wF F.length (by omega)
    have ll:(l.take (J+1)).filter (λx => !P x)=F++if P l[J] then[] else[l[J]]:=by
     rw[bl,al mD,List.filter_append,← hF]
     simp only[Option.toList,List.filter_cons,List.filter_nil]
     cases P l[J]<;>simp
    rw[ll] at ih
    have wR:(F++mid++l.drop J)[J]? = some l[J]:=by
     rw[ar (by simp; omega)]
     simp[hm,aX,al mD]
    have hc:=de (.cells ((F++mid++l.drop J).map PV.str)) l[J] (aj mD)
    have hcell:(h.set kr (.cells ((F++mid++l.drop J).map PV.str)))[kr]? = some (.cells ((F++mid++l.drop J).map PV.str)):=by rw[a8 jZ]
    obtain⟨C,hC⟩:∃C,C=F++mid++l.drop J:=⟨_,rfl⟩
    rw[← hC] at wR hc hcell ⊢
    obtain⟨h1,e1⟩:∃h1,h.set kr (.cells (C.map PV.str))=h1:=⟨_,rfl⟩
    rw[e1] at hc hcell ⊢
    have sZ:J<C.length:=(ai.1 wR).1
    have s4:C[J]=l[J]:=(ai.1 wR).2
    have hFJ:F.length≤J:=by omega
    cases hp:P l[J] with
    | true =>
      rw[hp] at hc ih
      simp only[if_true,bh] at ih
      simp[mD,hcell,wR,hc,hw,sZ,s4]
      have nf:C=F++(mid++[l[J]])++l.drop (J+1):=by rw[hC,aZ mD]; simp
      have:=ih ⟨[.rowp kr 1 false l.length,.func k [] [.cptr cs],.list true [],.int .i64 F.length,.int .i64 (J+1:Nat),.str l[J]],[],0,h1⟩ ⟨_,mid++[l[J]],by rw[← e1,nf],by simp; omega⟩
      simpa using this
    | false =>
      rw[hp] at hc ih
      simp only[aH,if_false] at ih
      have md:F.length<l.length:=by omega
      have uR:F.length<C.length:=by omega
      have wG:∃mid',C.set F.length l[J]=F++[l[J]]++mid'++l.drop (J+1)∧(F++[l[J]]).length+mid'.length=J+1:=by
       rw[hC,aZ mD]
       generalize l.drop (J+1)=R
       generalize l[J]=x
       cases mid with
       | nil=>exact⟨[],by simp,by simp at hm ⊢; omega⟩
       | cons m0 ms=>exact⟨ms++[x],by simp,by simp at hm ⊢; omega⟩
      obtain⟨mid',ei,jS⟩:=wG
      have fH:h1.set kr (.cells ((C.map PV.str).set F.length (.str l[J])))=h.set kr (.cells ((F++[l[J]]++mid'++l.drop (J+1)).map PV.str)):=by rw[← e1,List.set_set,← ei,List.map_set]
      simp[mD,hcell,wR,hc,hw,sZ,s4,uQ,md,uR,yi,fH]
      have:=ih ⟨[.rowp kr 1 false l.length,.func k [] [.cptr cs],.list true [],.int .i64 (F++[l[J]]).length,.int .i64 (J+1:Nat),.str l[J]],[],0,h.set kr (.cells ((F++[l[J]]++mid'++l.drop (J+1)).map PV.str))⟩ ⟨_,mid',rfl,jS⟩
      simpa using this
   ·rintro st ⟨y5,mid,rfl,hm⟩
    have hJ:i0+1+(l.length - (i0+1))=l.length:=by omega
    rw[hJ] at hm ⊢
    rw[aP] at hm ⊢
    rw[List.drop_length]
    obtain⟨F,hF⟩:∃F,F=l.filter λx => !P x:=⟨_,rfl⟩
    rw[← hF] at hm ⊢
    have md:F.length≤l.length:=by omega
    have gn:((F++mid).map PV.str).take F.length=F.map PV.str:=by rw[aU,List.take_append_of_le_length (by simp),bW (by simp)]
    rw[aU] at gn
    by_cases q4:F=[]
    ·subst q4
     simp[jZ]
    ·have hF1:¬F.length=0:=λe=>q4 (bu.1 e)
     have iM:cp (.rows kr 1 false F.length (l.length - F.length))=some (.rows kr 1 false F.length (l.length - F.length)):=rfl
     simp[jZ,md,q4,gn,iM]
   ·rw[bq,oA]
    have:(l.take i0).length=i0:=by simp; omega
    have eu:l.take i0++[l[i0]]++l.drop (i0+1)=l:=by
     rw[aJ,List.singleton_append,List.getElem_cons_drop,bX]
    rw[this,eu,iq]
    simp
   ·rw[bq,oA]
    simp; omega
end
theorem c1V (tags:List Str) (d:Decl) (l:List Decl) (v:List Str):xj tags (d::l) v=yd (xj tags [d] v) (xj tags l):=by
 simp only[xj]
 split
 ·rw[Ak (by decide)]
 ·rfl
theorem c1W (s:Place) {l:List Eqn} {d r:List Str} (h:zf s l d=(0,r)):r.length=d.length+(xl l).length:=by
 rw[((Dg s l d r).1 h).1,ap]
section
variable {L:Nat→Option PFunc} (hL:∀k f,LS k=some f→L k=some f) (en:List Enum) (ns:List Node) (a b:Int) (ents:xJ)
include hL
theorem b8p (tags:List Str) (d3:Bt ents tags) (l:List Decl) (hl:l.length≤1100000) (h:List PObj) (h2:h[2]? = some (wC ents)) (h3:h[3]? = some (ww en ns a b)) (q' n o d:Nat) (i dv up:PV) (f:Fr) (fs:List Fr) (t:TopAt h h.length q' n o d i dv up f fs) (vis:List Str) (dn:∀x,xg (f::fs) x=true↔x∈vis)
  (V0 V1 V2 V3 V4 V5 V7 V8 V9 V10 V14 V15 V16 V17 V18 V19 V20 V21 V22:PV) (gi g:Nat) {Q:PExit→St→Prop} (jz:V0 = .ptr 3 0)
  (ok:(xj tags l vis).1=0→∀h' O y7 g',Kp q' h h'→h'.length=h.length→TopAt h' h'.length q' n o d i dv up { f with O:=O } fs→(∀x,xg ({ f with O:=O }::fs) x=true↔x∈(xj tags l vis).2)→(∀x,x∈O↔x∈f.O∨x∈wk l)→Q (.exit 0) ⟨[V0,V1,V2,V3,V4,V5,.loc gi [.ptr n 0],y7,V8,V9,V10,.list false (l.map wo),.int .i64 l.length,.int .i64 l.length,V14,V15,V16,V17,V18,V19,V20,V21,V22],[],g',h'⟩)
  (no:(xj tags l vis).1≠0→∀h' y7 y13 g',Kp q' h h'→Q (.boom (xx 1 a b (xj tags l vis).1)) ⟨[V0,V1,V2,V3,V4,V5,.loc gi [.ptr n 0],y7,V8,V9,V10,.list false (l.map wo),.int .i64 l.length,y13,V14,V15,V16,V17,V18,V19,V20,V21,V22],[],g',h'⟩):
  wpL L Jj ⟨[V0,V1,V2,V3,V4,V5,.loc gi [.ptr n 0],V7,V8,V9,V10,.list false (l.map wo),.int .i64 l.length,.int .i64 0,V14,V15,V16,V17,V18,V19,V20,V21,V22],[],g,h⟩ Q:=by
 subst jz
 rw[Jj]
 refine xc l.length (λj st=>∃y7 g' h' O vis',st=⟨[.ptr 3 0,V1,V2,V3,V4,V5,.loc gi [.ptr n 0],y7,V8,V9,V10,.list false (l.map wo),.int .i64 l.length,.int .i64 j,V14,V15,V16,V17,V18,V19,V20,V21,V22],[],g',h'⟩∧Kp q' h h'∧h'.length=h.length∧TopAt h' h'.length q' n o d i dv up { f with O:=O } fs∧xj tags l vis=xj tags (l.drop j) vis'∧(∀x,xg ({ f with O:=O }::fs) x=true↔x∈vis')∧∀x,x∈O↔x∈f.O∨x∈wk (l.take j)) ?_ ?_ ⟨_,_,h,f.O,vis,rfl,Kp.refl _ _,rfl,t,rfl,dn,λx=>by simp[wk]⟩
 ·rintro j hj st ⟨y7,g',h',O,vis',rfl,dg,cO,ht,di,hv,hO⟩ ih
  have hw:=wF j (by omega)
  have fl:h'[2]? = some (wC ents):=(dg.2 2 (by have:=ht.four; omega)).trans h2
  have eU:h'[3]? = some (ww en ns a b):=(dg.2 3 (by have:=ht.four; omega)).trans h3
  obtain⟨h'',O'',hx,fk,s5,gq,kH⟩:=Mi hL en ns a b ents tags d3 [l[j]] (by simp) false h' fl eU _ q' n o d i dv up _ fs ht vis' hv
  simp only[ax,ba] at hx
  have q5:TopAt h'' h''.length q' n o d i dv up { f with O:=O'' } fs:=by rw[s5]; exact gq
  rw[aZ hj,c1V] at di
  have gk:wk (l.take (j+1))=wk (l.take j)++[l[j].name]:=by simp only[wk,bl,al hj,Option.toList,aU,ax,ba]
  by_cases hz:(xj tags [l[j]] vis').1=0
  ·obtain⟨ep,gj⟩:=kH hz
   have gV:xj tags l vis=xj tags (l.drop (j+1)) (xj tags [l[j]] vis').2:=by rw[di]; exact ah hz
   rw[hz] at hx
   simp[wv] at hx
   simp[hj,hx,hw]
   refine ih _ ⟨_,_,h'',O'',_,rfl,dg.trans fk,by rw[s5,cO],q5,gV,ep,λx =>?_⟩
   rw[gj,hO,gk]
   simp[wk,or_assoc]
  ·rw[Ak hz] at di
   simp[wv,hz] at hx
   simp[hj,hx]
   have:=no (by rw[di]; exact hz) h'' (.loc g' (wo l[j]).cells) (.int .i64 j) (g'+1) (dg.trans fk)
   rw[di] at this
   simpa using this
 ·rintro st ⟨y7,g',h',O,vis',rfl,dg,cO,ht,di,hv,hO⟩
  rw[bj (ao _)] at di
  rw[aP] at hO
  simp
  exact ok (by rw[di]; rfl) h' O y7 g' dg cO ht (by rw[di]; exact hv) hO
theorem b8q (k:Nat) (dr:NodesIn ents ns k) (s:Place) (eK:s.before=ns.take k) (l:List Eqn) (hl:l.length≤1100000) (hq:∀x∈l,QW x) (h:List PObj) (h2:h[2]? = some (wC ents)) (h3:h[3]? = some (ww en ns a b)) (q' n o d:Nat) (i dv up:PV) (f:Fr) (fs:List Fr) (t:TopAt h h.length q' n o d i dv up f fs) (dn:∀x,xg (f::fs) x=true↔x∈s.vis)
  (d0:List Str) (hD:f.D=f.df) (dI:∀x,(x∈f.I∨zc fs x=true)↔(x∈s.inputs∨x∈d0)) (i9:f.df.length+(xl l).length≤4000000)
  (V0 V1 V2 V3 V4 V5 V7 V8 V9 V10 V11 V12 V13 V17 V18 V19 V20 V21 V22:PV) (gi g:Nat) {Q:PExit→St→Prop} (jz:V0 = .ptr 3 0) (mE:V1 = .int .i64 k)
  (ok:(zf s l (d0++f.df)).1=0→∀h' dv' df' y8 g',Kp q' h h'→(zf s l (d0++f.df)).2=d0++df'→TopAt h' h'.length q' n o d i dv' up { f with D:=df',df:=df' } fs→Q (.exit 2) ⟨[V0,V1,V2,V3,V4,V5,.loc gi [.ptr n 0],V7,y8,V9,V10,V11,V12,V13,.list false (l.map wX),.int .i64 l.length,.int .i64 l.length,V17,V18,V19,V20,V21,V22],[],g',h'⟩)
  (no:(zf s l (d0++f.df)).1≠0→∀h' y8 y16 g',Kp q' h h'→Q (.boom (xx 1 a b (zf s l (d0++f.df)).1)) ⟨[V0,V1,V2,V3,V4,V5,.loc gi [.ptr n 0],V7,y8,V9,V10,V11,V12,V13,.list false (l.map wX),.int .i64 l.length,y16,V17,V18,V19,V20,V21,V22],[],g',h'⟩):
  wpL L Jk ⟨[V0,V1,V2,V3,V4,V5,.loc gi [.ptr n 0],V7,V8,V9,V10,V11,V12,V13,.list false (l.map wX),.int .i64 l.length,.int .i64 0,V17,V18,V19,V20,V21,V22],[],g,h⟩ Q:=by
 subst jz
 subst mE
 rw[Jk]
 refine xc l.length (λj st=>∃y8 g' h' dv' df',st=⟨[.ptr 3 0,.int .i64 k,V2,V3,V4,V5,.loc gi [.ptr n 0],V7,y8,V9,V10,V11,V12,V13,.list false (l.map wX),.int .i64 l.length,.int .i64 j,V17,V18,V19,V20,V21,V22],[],g',h'⟩∧Kp q' h h'∧TopAt h' h'.length q' n o d i dv' up { f with D:=df',df:=df' } fs∧zf s l (d0++f.df)=zf s (l.drop j) (d0++df')∧df'.length+(xl (l.drop j)).length=f.df.length+(xl l).length) ?_ ?_ ⟨_,_,h,dv,f.df,rfl,Kp.refl _ _,by rw[Fr.same hD]; exact t,rfl,rfl⟩
 ·rintro j hj st ⟨y8,g',h',dv',df',rfl,dg,ht,di,cO⟩ ih
  have hw:=wF j (by omega)
  have fl:h'[2]? = some (wC ents):=(dg.2 2 (by have:=ht.four; omega)).trans h2
  have eU:h'[3]? = some (ww en ns a b):=(dg.2 3 (by have:=ht.four; omega)).trans h3
  have qj:(xl (l.drop j)).length=l[j].left.length+(xl (l.drop (j+1))).length:=by
   rw[aZ hj]; simp only[xl,aG,ap]
  obtain⟨h'',hx,fk,kH⟩:=Mf hL en ns a b ents k dr s eK l[j] (hq _ (aj hj)) h' fl eU q' n o d i dv' up _ fs ht (by intro x; exact dn x) d0 rfl dI (by simp only; omega)
  simp only at hx kH
  rw[aZ hj] at di
  simp only[zf] at di
  by_cases hz:(x5 s l[j] (d0++df')).1=0
  ·obtain⟨dv'',df'',ep,gj⟩:=kH hz
   have gV:zf s l (d0++f.df)=zf s (l.drop (j+1)) (d0++df''):=by
    rw[di]
    unfold yd
    rw[ah hz,ep]
   have eb:df''.length=df'.length+l[j].left.length:=by
    have h5:=(GB.1 (B2 hz)).1
    rw[ep] at h5
    have:=aF List.length h5
    simp at this
    omega
   rw[hz] at hx
   simp[wv] at hx
   simp[hj,hx,hw]
   exact ih _ ⟨_,_,h'',dv'',df'',rfl,dg.trans fk,gj,gV,by omega⟩
  ·rw[Ak hz] at di
   simp[wv,hz] at hx
   simp[hj,hx]
   have:=no (by rw[di]; exact hz) h'' (.loc g' (wX l[j]).cells) (.int .i64 j) (g'+1) (dg.trans fk)
   rw[di] at this
   simpa using this
 ·rintro st ⟨y8,g',h',dv',df',rfl,dg,ht,di,cO⟩
  rw[bj (ao _)] at di
  simp
  exact ok (by rw[di]; rfl) h' dv' df' y8 g' dg (by rw[di]; rfl) ht
end
def EZ (L:Nat→Option PFunc) (en:List Enum) (ns:List Node) (a b:Int) (ents:xJ) (x:List State):Prop:=
 ∀ (k : Nat), NodesIn ents ns k → ∀ (s : Place), s.before = ns.take k → Bt ents s.tags → ∀ (h : List PObj), h[2]? = some (wC ents) → h[3]? = some (ww en ns a b) → ∀ (q' n o d : Nat) (i dv up : PV) (f : Fr) (fs : List Fr), TopAt h h.length q' n o d i dv up f fs → (∀ x, xg (f :: fs) x = true ↔ x ∈ s.vis) →
   ∀(d0:List Str),f.D=f.df→(∀x,(x∈f.I∨zc fs x=true)↔(x∈s.inputs∨x∈d0))→f.df.length+(xd [x]).length≤4000000 →
   ∃h',wK L 62 [.ptr 3 0,.int .i64 k,.ptr n 0,wY x] h=some (wv 1 a b (yQ s (d0++f.df) x).1,h')∧Kp q' h h'∧((yQ s (d0++f.df) x).1=0→∃dv' df',(d0++f.df)++(yQ s (d0++f.df) x).2=d0++df'∧TopAt h' h'.length q' n o d i dv' up { f with D:=df',df:=df' } fs)
theorem Mg {s:Place} {d:List Str} {x:List State} (h:(yQ s d x).1=0):(yQ s d x).2=xd [x]:=by
 have h1:xe s d [x]=(0,d++(yQ s d x).2):=by
  rw[IN,B1]
  exact⟨h,by simp[xe]⟩
 have h2:=(Ea [x] s d _ h1).1
 exact List.append_cancel_left h2
section
variable {L:Nat→Option PFunc} (hL:∀k f,LS k=some f→L k=some f) (en:List Enum) (ns:List Node) (a b:Int) (ents:xJ)
include hL
theorem b8r (k:Nat) (dr:NodesIn ents ns k) (s:Place) (eK:s.before=ns.take k) (d3:Bt ents s.tags) (l:List (List State)) (hl:l.length≤1100000) (hq:∀x∈l,EZ L en ns a b ents x) (h:List PObj) (h2:h[2]? = some (wC ents)) (h3:h[3]? = some (ww en ns a b)) (q' n o d:Nat) (i dv up:PV) (f:Fr) (fs:List Fr) (t:TopAt h h.length q' n o d i dv up f fs) (dn:∀x,xg (f::fs) x=true↔x∈s.vis)
  (d0:List Str) (hD:f.D=f.df) (dI:∀x,(x∈f.I∨zc fs x=true)↔(x∈s.inputs∨x∈d0)) (i9:f.df.length+(xd l).length≤4000000)
  (V0 V1 V2 V3 V4 V5 V7 V8 V9 V10 V11 V12 V13 V14 V15 V16 V20 V21 V22:PV) (gi g:Nat) {Q:PExit→St→Prop} (jz:V0 = .ptr 3 0) (mE:V1 = .int .i64 k)
  (ok:(xe s (d0++f.df) l).1=0→∀h' dv' df' y9 g',Kp q' h h'→(xe s (d0++f.df) l).2=d0++df'→TopAt h' h'.length q' n o d i dv' up { f with D:=df',df:=df' } fs→Q (.exit 4) ⟨[V0,V1,V2,V3,V4,V5,.loc gi [.ptr n 0],V7,V8,y9,V10,V11,V12,V13,V14,V15,V16,.list false (l.map wY),.int .i64 l.length,.int .i64 l.length,V20,V21,V22],[],g',h'⟩)
  (no:(xe s (d0++f.df) l).1≠0→∀h' y9 y19 g',Kp q' h h'→Q (.boom (xx 1 a b (xe s (d0++f.df) l).1)) ⟨[V0,V1,V2,V3,V4,V5,.loc gi [.ptr n 0],V7,V8,y9,V10,V11,V12,V13,V14,V15,V16,.list false (l.map wY),.int .i64 l.length,y19,V20,V21,V22],[],g',h'⟩):
  wpL L Jl ⟨[V0,V1,V2,V3,V4,V5,.loc gi [.ptr n 0],V7,V8,V9,V10,V11,V12,V13,V14,V15,V16,.list false (l.map wY),.int .i64 l.length,.int .i64 0,V20,V21,V22],[],g,h⟩ Q:=by
 have _:=hL
 subst jz
 subst mE
 rw[Jl]
 refine xc l.length (λj st=>∃y9 g' h' dv' df',st=⟨[.ptr 3 0,.int .i64 k,V2,V3,V4,V5,.loc gi [.ptr n 0],V7,V8,y9,V10,V11,V12,V13,V14,V15,V16,.list false (l.map wY),.int .i64 l.length,.int .i64 j,V20,V21,V22],[],g',h'⟩∧Kp q' h h'∧TopAt h' h'.length q' n o d i dv' up { f with D:=df',df:=df' } fs∧xe s (d0++f.df) l=xe s (d0++df') (l.drop j)∧df'.length+(xd (l.drop j)).length=f.df.length+(xd l).length) ?_ ?_ ⟨_,_,h,dv,f.df,rfl,Kp.refl _ _,by rw[Fr.same hD]; exact t,rfl,rfl⟩
 ·rintro j hj st ⟨y9,g',h',dv',df',rfl,dg,ht,di,cO⟩ ih
  have hw:=wF j (by omega)
  have fl:h'[2]? = some (wC ents):=(dg.2 2 (by have:=ht.four; omega)).trans h2
  have eU:h'[3]? = some (ww en ns a b):=(dg.2 3 (by have:=ht.four; omega)).trans h3
  have qj:(xd (l.drop j)).length=(xd [l[j]]).length+(xd (l.drop (j+1))).length:=by
   rw[aZ hj,Df,Df]; simp[xd]
  obtain⟨h'',hx,fk,kH⟩:=hq _ (aj hj) k dr s eK d3 h' fl eU q' n o d i dv' up _ fs ht (by intro x; exact dn x) d0 rfl dI (by simp only; omega)
  simp only at hx kH
  rw[aZ hj,IN] at di
  by_cases hz:(yQ s (d0++df') l[j]).1=0
  ·obtain⟨dv'',df'',ep,gj⟩:=kH hz
   have gV:xe s (d0++f.df) l=xe s (d0++df'') (l.drop (j+1)):=by
    rw[di]
    unfold yd
    rw[ah hz]
    exact aF (λz=>xe s z (l.drop (j+1))) ep
   have eb:df''.length=df'.length+(xd [l[j]]).length:=by
    rw[Mg hz] at ep
    have:=aF List.length ep
    simp at this
    omega
   rw[hz] at hx
   simp[wv] at hx
   simp[hj,hx,hw]
   exact ih _ ⟨_,_,h'',dv'',df'',rfl,dg.trans fk,gj,gV,by omega⟩
  ·rw[Ak hz] at di
   simp[wv,hz] at hx
   simp[hj,hx]
   have:=no (by rw[di]; exact hz) h'' (.loc g' (wY l[j]).cells) (.int .i64 j) (g'+1) (dg.trans fk)
   rw[di] at this
   simpa using this
 ·rintro st ⟨y9,g',h',dv',df',rfl,dg,ht,di,cO⟩
  rw[bj (ao _)] at di
  simp
  exact ok (by rw[di]; simp[xe]) h' dv' df' y9 g' dg (by rw[di]; simp[xe]) ht
theorem b8s (l:List Decl) (hl:l.length≤1100000) (h:List PObj) (h3:h[3]? = some (ww en ns a b)) (q' n o d:Nat) (i dv up:PV) (f:Fr) (fs:List Fr) (t:TopAt h h.length q' n o d i dv up f fs)
  (V0 V1 V2 V3 V4 V5 V7 V8 V9 V10 V11 V12 V13 V14 V15 V16 V17 V18 V19:PV) (gi g:Nat) {Q:PExit→St→Prop} (jz:V0 = .ptr 3 0)
  (ok:(∀x∈wk l,x∈f.D)→∀y10 g',Q (.exit 6) ⟨[V0,V1,V2,V3,V4,V5,.loc gi [.ptr n 0],V7,V8,V9,y10,V11,V12,V13,V14,V15,V16,V17,V18,V19,.list false (l.map wo),.int .i64 l.length,.int .i64 l.length],[],g',h⟩)
  (no:¬(∀x∈wk l,x∈f.D)→∀y10 y22 g',Q (.boom (xx 1 a b 8)) ⟨[V0,V1,V2,V3,V4,V5,.loc gi [.ptr n 0],V7,V8,V9,y10,V11,V12,V13,V14,V15,V16,V17,V18,V19,.list false (l.map wo),.int .i64 l.length,y22],[],g',h⟩):
  wpL L Jm ⟨[V0,V1,V2,V3,V4,V5,.loc gi [.ptr n 0],V7,V8,V9,V10,V11,V12,V13,V14,V15,V16,V17,V18,V19,.list false (l.map wo),.int .i64 l.length,.int .i64 0],[],g,h⟩ Q:=by
 subst jz
 have hT:=BS hL en ns a b h h3 8
 have hF:=BT hL en ns a b h h3 8
 have hn:=t.hn
 have hd:=t.hd
 rw[Jm]
 refine xc l.length (λj st=>∃y10 g',st=⟨[.ptr 3 0,V1,V2,V3,V4,V5,.loc gi [.ptr n 0],V7,V8,V9,y10,V11,V12,V13,V14,V15,V16,V17,V18,V19,.list false (l.map wo),.int .i64 l.length,.int .i64 j],[],g',h⟩∧∀x∈wk (l.take j),x∈f.D) ?_ ?_ ⟨_,_,rfl,by simp[wk]⟩
 ·rintro j hj st ⟨y10,g',rfl,dH⟩ ih
  have hw:=wF j (by omega)
  obtain⟨r,hr,eY,_⟩:=Bs l[j].name f.D
  have gk:wk (l.take (j+1))=wk (l.take j)++[l[j].name]:=by simp only[wk,bl,al hj,Option.toList,aU,ax,ba]
  by_cases hx:l[j].name∈f.D
  ·simp[hx] at eY
   obtain⟨c,rfl⟩:=eY
   simp[hj,hn,hd,hr,w8,hT,hw]
   refine ih _ ⟨_,_,rfl,?_⟩
   rw[gk]
   intro x hm
   rcases ay.1 hm with h1|h1
   ·exact dH x h1
   ·rw[bF.1 h1]; exact hx
  ·simp[hx] at eY
   subst eY
   simp[hj,hn,hd,hr,w8,hF]
   have:=no (λdJ=>hx (dJ _ (bc.2 ⟨_,aj hj,rfl⟩))) (.loc g' (wo l[j]).cells) (.int .i64 j) (g'+1)
   simpa using this
 ·rintro st ⟨y10,g',rfl,dH⟩
  rw[aP] at dH
  simp
  exact ok dH _ _
end
theorem c0w (l:List Str):yF 1 false (l.map PV.str) l.length 0=some (l.map PV.str):=by
 suffices H:∀(n off:Nat),off+n=l.length→yF 1 false (l.map PV.str) n off=some ((l.drop off).map PV.str) by simpa using H l.length 0 (by omega)
 intro n
 induction n with
 | zero=>intro off h; rw[bj (by omega)]; rfl
 | succ n ih =>
   intro off h
   have ho:off<l.length:=by omega
   simp only[yF,ih (off+1) (by omega)]
   simp[wq,ho]
   rw[aZ (i:=off) (l:=l.map PV.str) (by simpa using ho)]
   simp
theorem c1Y (s:Place) (d:List Str) (x:State):zW s d x =
  yd (xM s.vis s.tags x.locals) λvis=>yd (zf (s.at vis) x.eqs d) λd1=>yd (xe (s.at vis) d1 x.autos) λd2=>
  yd (A5 s x.unl,[]) λ_=>yd (A5 (s.at vis) x.til,[]) λ_=>if xq (wk x.locals) (xq d2 d)=[] then(0,xq (xq d2 d) (wk x.locals)) else(8,[]):=by
 cases x; simp only[zW]; rfl
theorem c65 (x:State):AQ x=xl x.eqs++xd x.autos:=by cases x; rfl
section
variable {L:Nat→Option PFunc} (hL:∀k f,LS k=some f→L k=some f) (en:List Enum) (ns:List Node) (a b:Int) (ents:xJ)
include hL
theorem c1Z (h:List PObj) (hb:4≤h.length) (n:Nat) (fs:List Fr) (hv:Holds h h.length (.ptr n 0) fs):∃h',wK L 58 [.ptr n 0] h=some (.val (.ptr (h.length+2) 0),h')∧wj L 58 [.ptr n 0] h=some (.ptr (h.length+2) 0,h')∧Kp h.length h h'∧TopAt h' h'.length h.length (h.length+2) h.length (h.length+1) (.map none) (.list true []) (.ptr n 0) ⟨[],[],[],[]⟩ fs:=by
 have hK:∀n',n'<h.length→(h++[PObj.map [],.map [],.cells [.ptr n 0,.map (some h.length),.map (some (h.length+1)),.map none,.list true []]])[n']? = h[n']? := λn hn=>by rw[am (by omega)]
 refine⟨h++[.map [],.map [],.cells [.ptr n 0,.map (some h.length),.map (some (h.length+1)),.map none,.list true []]],?_,?_,Kp.app (ao _),?_⟩
 ·refine zn (hL 58 _ rfl) rfl ?_
  simp[EY,PV.cells]
 ·refine wD (hL 58 _ rfl) rfl ?_
  simp[EY,PV.cells]
 ·exact⟨by omega,by omega,by omega,by simp,by simp,by simp,by omega,by omega,by omega,hb,by simp,by simp[bmE],by simp[bmE],.inl ⟨rfl,rfl⟩,.inl ⟨rfl,rfl⟩,λ_ _ _ _ e=>by simp at e,hv.keep hK⟩
def StOut (a b:Int) (e:EN) (r:Out):Prop:=if e.1=0 then ∃o,r = .val (.list o (e.2.map PV.str)) else r = .boom (xx 1 a b e.1)
omit hL in
theorem StOut.no {e:EN} {z:Int} (hz:z≠0) (he:e=(z,[])):StOut a b e (.boom (xx 1 a b z)):=by
 unfold StOut; rw[he,af hz]
theorem c4d (x:State) (hx:SW x) (hA:∀y∈x.autos,EZ L en ns a b ents y) (hp:(AQ x).length≤4000000) (k:Nat) (dr:NodesIn ents ns k) (s:Place) (eK:s.before=ns.take k) (d3:Bt ents s.tags) (h:List PObj) (h2:h[2]? = some (wC ents)) (h3:h[3]? = some (ww en ns a b)) (q' n o d:Nat) (i dv up:PV) (f:Fr) (fs:List Fr) (t:TopAt h h.length q' n o d i dv up f fs) (dn:∀x,xg (f::fs) x=true↔x∈s.vis)
  (d0:List Str) (hD:f.D=f.df) (dI:∀x,(x∈f.I∨zc fs x=true)↔(x∈s.inputs∨x∈d0)):
  ∃h' r,wK L 102 [.ptr 3 0,.int .i64 k,.ptr n 0,wQ x] h=some (r,h')∧Kp h.length h h'∧StOut a b (zW s (d0++f.df) x) r:=by
 suffices H:∃res,wK L 102 [.ptr 3 0,.int .i64 k,.ptr n 0,wQ x] h=some res∧∃h' r,res=(r,h')∧Kp h.length h h'∧StOut a b (zW s (d0++f.df) x) r by
  obtain⟨res,e1,h',r,e2,e3⟩:=H
  exact⟨h',r,by rw[e1,e2],e3⟩
 have h4:4≤h.length:=by have:=t.four; have:=t.ln; have:=t.un; omega
 obtain⟨h1,e1,e1',k1,t1⟩:=c1Z hL h h4 n (f::fs) t.holds
 have s6:h1[2]? = some (wC ents):=(k1.2 2 (by omega)).trans h2
 have s7:h1[3]? = some (ww en ns a b):=(k1.2 3 (by omega)).trans h3
 have gB:∀x,xg (⟨[],[],[],[]⟩::f::fs) x=true↔x∈s.vis:=λx=>by rw[← dn]; simp[xg]
 have hN:=c1Y s (d0++f.df) x
 refine BR (hL 102 _ rfl) rfl ?_
 simp[Jn,e1',e1]
 refine b8p hL en ns a b ents s.tags d3 x.locals hx.locals h1 s6 s7 h.length _ _ _ _ _ _ _ _ t1 s.vis gB _ _ _ _ _ _ _ _ _ _ _ _ _ _ _ _ _ _ _ _ _ rfl ?_ ?_
 ·intro uS h5 O y7 g5 k5 hU t5 oB uT
  have s8:h5[2]? = some (wC ents):=(k5.2 2 (by omega)).trans s6
  have q6:h5[3]? = some (ww en ns a b):=(k5.2 3 (by omega)).trans s7
  obtain⟨vis,kO⟩:∃vis,vis=(xj s.tags x.locals s.vis).2:=⟨_,rfl⟩
  rw[← kO] at oB
  have hs:=Mj hL en ns a b x.locals (by have:=hx.locals; omega) hx.ls false h5 q6 _ _ _ t5.holds vis oB
  have s9:xM s.vis s.tags x.locals=(Bg vis x.locals,vis):=by
   unfold xM yd
   rw[ah uS,kO]
  by_cases eX:Bg vis x.locals=0
  ·rw[eX] at hs
   simp[wv] at hs
   simp[hs]
   obtain⟨D,oC⟩:∃D,D=d0++f.df:=⟨_,rfl⟩
   rw[← oC] at hN ⊢
   have oD:∀y,(y∈([]:List Str)∨zc (f::fs) y=true)↔(y∈(s.at vis).inputs∨y∈D):=by
    intro y
    have:=dI y
    rw[oC]
    simp only[zc,List.any_cons,bH,aw,ay,List.not_mem_nil,false_or,Place.at,hD] at this ⊢
    constructor
    ·rintro((h1|h1)|h1)
     ·exact .inr (.inr h1)
     ·rcases this.1 (.inl h1) with h|h
      ·exact .inl h
      ·exact .inr (.inl h)
     ·rcases this.1 (.inr h1) with h|h
      ·exact .inl h
      ·exact .inr (.inl h)
    ·rintro(h1|h1|h1)
     ·rcases this.2 (.inl h1) with h|h
      ·exact .inl (.inr h)
      ·exact .inr h
     ·rcases this.2 (.inr h1) with h|h
      ·exact .inl (.inr h)
      ·exact .inr h
     ·exact .inl (.inl h1)
   rw[c65,ap] at hp
   have q7:xM s.vis s.tags x.locals=(0,vis):=by rw[s9,eX]
   rw[q7,FT] at hN
   refine b8q hL en ns a b ents k dr (s.at vis) eK x.eqs hx.eqs hx.es h5 s8 q6 h.length _ _ _ _ _ _ _ _ t5 oB D rfl oD (by simp only[bB]; omega) _ _ _ _ _ _ _ _ _ _ _ _ _ _ _ _ _ _ _ _ _ rfl rfl ?_ ?_
   ·intro eH h6 dv6 df6 y8 g6 k6 ta t6
    simp only[bh] at eH ta
    have tc:h6[2]? = some (wC ents):=(k6.2 2 (by omega)).trans s8
    have td:h6[3]? = some (ww en ns a b):=(k6.2 3 (by omega)).trans q6
    have q8:zf (s.at vis) x.eqs D=(0,D++df6):=by rw[← ta,← eH]
    have uU:=c1W _ q8
    simp only[ap] at uU
    rw[q8,FT] at hN
    simp
    refine b8r hL en ns a b ents k dr (s.at vis) eK d3 x.autos hx.autos hA h6 tc td h.length _ _ _ _ _ _ _ _ t6 oB D rfl oD (by simp only; omega) _ _ _ _ _ _ _ _ _ _ _ _ _ _ _ _ _ _ _ _ _ rfl rfl ?_ ?_
    ·intro lq h7 dv7 df7 y9 g7 k7 te t7
     simp only at lq te
     have h27:h7[2]? = some (wC ents):=(k7.2 2 (by omega)).trans tc
     have tg:h7[3]? = some (ww en ns a b):=(k7.2 3 (by omega)).trans td
     have th:xe (s.at vis) (D++df6) x.autos=(0,D++df7):=by rw[← te,← lq]
     rw[th,FT] at hN
     have k07:Kp h.length h h7:=((k1.trans k5).trans k6).trans k7
     obtain⟨h8,e8,k8⟩:=OR hL en ns a b ents k dr s eK x.unl hx.unl hx.us false h7 h27 tg h.length k07.1 _ _ (t.holds.keep k07.2) dn
     by_cases oE:A5 s x.unl=0
     ·rw[oE] at e8
      simp[wv] at e8
      have uV:h8[2]? = some (wC ents):=(k8.2 2 (by have:=k07.1; omega)).trans h27
      have tj:h8[3]? = some (ww en ns a b):=(k8.2 3 (by have:=k07.1; omega)).trans tg
      have t8:=(t7.keep k8.2).upTo k8.1
      obtain⟨h9,e9,k9⟩:=OR hL en ns a b ents k dr (s.at vis) eK x.til hx.til hx.ts false h8 uV tj h8.length (ao _) _ _ t8.holds oB
      rw[oE,FT] at hN
      by_cases oF:A5 (s.at vis) x.til=0
      ·rw[oF] at e9
       simp[wv] at e9
       rw[oF,FT] at hN
       have h39:h9[3]? = some (ww en ns a b):=(k9.2 3 (by have:=k07.1; have:=k8.1; omega)).trans tj
       have t9:=(t8.keep k9.2).upTo k9.1
       have k09:Kp h.length h h9:=(k07.trans (k8.le k07.1)).trans (k9.le (aR k07.1 k8.1))
       have tn:=(Dg (s.at vis) x.eqs D _).1 q8
       have nq:=Ea x.autos (s.at vis) (D++df6) _ th
       have eV:df7=xl x.eqs++xd x.autos:=by
        have e1:=nq.1
        rw[tn.1,aJ] at e1
        exact List.append_cancel_left e1
       have q9:∀y∈df7,y∉D:=by
        intro y hy
        rw[eV] at hy
        rcases ay.1 hy with h|h
        ·exact(tn.2.1.1 y h).2.2
        ·exact λhm=>(nq.2.1.1 y h).2.2 (b9 _ hm)
       rw[N5 q9] at hN
       simp[e8,e9]
       refine b8s hL en ns a b x.locals hx.locals h9 h39 h.length _ _ _ _ _ _ _ _ t9 _ _ _ _ _ _ _ _ _ _ _ _ _ _ _ _ _ _ _ _ _ rfl ?_ ?_
       ·intro dJ y10 g9
        simp only at dJ
        have rc:xq (wk x.locals) df7=[]:=DS.2 dJ
        rw[ah rc] at hN
        have n9:=t9.hn
        have o9:=t9.ho
        rcases t9.row with⟨rfl,gt⟩|⟨kr,fX,ey,rfl,gE⟩
        ·simp only at gt
         have hd:=b5B hL false 128 [.ptr (h.length+2) 0] h9
         simp[n9,hd]
         refine⟨h9,_,⟨rfl,rfl⟩,k09,?_⟩
         unfold StOut
         rw[hN,ah rfl]
         exact⟨false,by simp[gt,xq]⟩
        ·have nx:=t9.rne _ _ _ _ rfl
         have hd:=c1U hL df7 (by rw[eV,ap]; omega) h9 kr gE 128 [.ptr (h.length+2) 0] (λy=>decide (y∈wk x.locals)) (by
          intro w y _
          have n9':=(aq (l:=h9) (a:=w) nx.1).trans n9
          have o9':=(aq (l:=h9) (a:=w) nx.2.1).trans o9
          obtain⟨r,hr,eY,_⟩:=Bs y O
          have tp:y∈O↔y∈wk x.locals:=by rw[uT]; simp
          refine wD (hL 128 _ rfl) rfl ?_
          by_cases hy:y∈O
          ·simp[hy] at eY
           obtain⟨c,rfl⟩:=eY
           simp[GY,n9',o9',hr,w8,tp.1 hy]
          ·simp[hy] at eY
           subst eY
           have fJ:¬y∈wk x.locals:=λh=>hy (tp.2 h)
           simp[GY,n9',o9',hr,w8,fJ])
         have oi:df7.filter (λy => !decide (y∈wk x.locals))=xq df7 (wk x.locals):=rfl
         rw[oi] at hd
         obtain⟨R,hR⟩:∃R,R=xq df7 (wk x.locals):=⟨_,rfl⟩
         rw[← hR] at hd hN
         have jZ:kr<h9.length:=(ai.1 gE).1
         have hX:(h9.set kr (.cells (R.map PV.str)))[kr]? = some (.cells (R.map PV.str)):=by rw[a8 jZ]
         have uW:=c0w R
         simp[n9,hd,hX,uW,FU]
         refine⟨_,_,⟨rfl,rfl⟩,k09.trans (Kp.set fX),?_⟩
         unfold StOut
         rw[hN,ah rfl]
         exact⟨false,rfl⟩
       ·intro fQ y10 y22 g9
        have rc:¬xq (wk x.locals) df7=[]:=λe=>fQ (DS.1 e)
        rw[af rc] at hN
        simp
        exact⟨h9,_,⟨rfl,rfl⟩,k09,StOut.no a b (by decide) hN⟩
      ·simp[wv,oF] at e9
       simp[e8,e9]
       exact⟨h9,_,⟨rfl,rfl⟩,(k07.trans (k8.le k07.1)).trans (k9.le (aR k07.1 k8.1)),StOut.no a b oF (by rw[hN]; exact Ak (a:=(_,[])) oF _)⟩
     ·simp[wv,oE] at e8
      simp[e8]
      exact⟨h8,_,⟨rfl,rfl⟩,k07.trans (k8.le k07.1),StOut.no a b oE (by rw[hN]; exact Ak (a:=(_,[])) oE _)⟩
    ·intro lq h7 y9 y19 g7 k7
     simp only at lq
     simp
     exact⟨h7,_,⟨rfl,rfl⟩,((k1.trans k5).trans k6).trans k7,StOut.no a b lq (by rw[hN]; exact Ak lq _)⟩
   ·intro eH h6 y8 y16 g6 k6
    simp only[bh] at eH ⊢
    simp
    exact⟨h6,_,⟨rfl,rfl⟩,(k1.trans k5).trans k6,StOut.no a b eH (by rw[hN]; exact Ak eH _)⟩
  ·simp[wv,eX] at hs
   simp[hs]
   exact⟨h5,_,⟨rfl,rfl⟩,k1.trans k5,StOut.no a b eX (by rw[hN,s9,Ak eX])⟩
 ·intro hz h5 y7 y13 g5 k5
  simp
  refine⟨h5,_,⟨rfl,rfl⟩,k1.trans k5,StOut.no a b hz ?_⟩
  have:xM s.vis s.tags x.locals=((xj s.tags x.locals s.vis).1,[]):=by
   unfold xM; exact Ak hz _
  rw[hN,this]
  exact Ak (a:=(_,[])) hz _
end
section
variable {L:Nat→Option PFunc} (hL:∀k f,LS k=some f→L k=some f) (en:List Enum) (ns:List Node) (a b:Int) (ents:xJ)
include hL
theorem c0x (l:List State) (hl:l.length≤1100000) (h:List PObj) (h3:h[3]? = some (ww en ns a b)) (V0 V1 V2 V3 V5 V6 V7 V8 V9 V10 V11 V12 V16 V17 V18 V19 V20 V21:PV) (gi g:Nat) {Q:PExit→St→Prop} (jz:V0 = .ptr 3 0)
  (ok:(l.map (·.name)).Nodup→∀y5 y6 g',Q (.exit 0) ⟨[V0,V1,V2,V3,.loc gi [.list false (l.map wQ)],y5,y6,V7,V8,V9,V10,V11,V12,.list false (l.map wQ),.int .i64 l.length,.int .i64 l.length,V16,V17,V18,V19,V20,V21],[],g',h⟩)
  (no:¬(l.map (·.name)).Nodup→∀y5 y6 y15 g',Q (.boom (xx 1 a b 7)) ⟨[V0,V1,V2,V3,.loc gi [.list false (l.map wQ)],y5,y6,V7,V8,V9,V10,V11,V12,.list false (l.map wQ),.int .i64 l.length,y15,V16,V17,V18,V19,V20,V21],[],g',h⟩):
  wpL L Ja ⟨[V0,V1,V2,V3,.loc gi [.list false (l.map wQ)],V5,V6,V7,V8,V9,V10,V11,V12,.list false (l.map wQ),.int .i64 l.length,.int .i64 0,V16,V17,V18,V19,V20,V21],[],g,h⟩ Q:=by
 subst jz
 have hT:=BS hL en ns a b h h3 7
 have hF:=BT hL en ns a b h h3 7
 rw[Ja]
 refine xc l.length (λj st=>∃y5 y6 g',st=⟨[.ptr 3 0,V1,V2,V3,.loc gi [.list false (l.map wQ)],y5,y6,V7,V8,V9,V10,V11,V12,.list false (l.map wQ),.int .i64 l.length,.int .i64 j,V16,V17,V18,V19,V20,V21],[],g',h⟩∧((l.take j).map (·.name)).Nodup) ?_ ?_ ⟨_,_,_,rfl,by simp⟩
 ·rintro j hj st ⟨y5,y6,g',rfl,dr⟩ ih
  have hw:=wF j (by omega)
  have re:j≤l.length:=by omega
  have hc:=c1T hL (l.take j) (by simp; omega) false [] l[j]
  simp only[J3] at hc
  have ec:(l.map wQ).take j=(l.take j).map wQ:=by rw[List.map_take]
  have gk:(l.take (j+1)).map (·.name)=(l.take j).map (·.name)++[l[j].name]:=by simp only[bl,al hj,Option.toList,aU,ax,ba]
  obtain⟨T,tq⟩:∃T,T=(l.take j).map wQ:=⟨_,rfl⟩
  have tr:wz T=true:=by rw[tq]; exact c0e _
  rw[← tq] at hc ec
  have oG:w6 6 (l.map wQ)=true:=by
   cases l with
   | nil=>rfl
   | cons z l=>simp[w6]
  cases lr:(l.take j).any λs=>decide (s.name=l[j].name) with
  | false =>
    rw[lr] at hc
    simp[hj,hw,hc,hT,ec,oG,re,bound,tr]
    refine ih _ ⟨_,_,_,rfl,?_⟩
    rw[gk,cB]
    refine⟨dr,by simp,?_⟩
    intro x hx y hy e
    rw[bF.1 hy] at e
    subst e
    obtain⟨z,hz,rg⟩:=bc.1 hx
    have:=List.any_eq_false.1 lr z hz
    simp[rg] at this
  | true =>
    rw[lr] at hc
    simp[hj,hw,hc,hF,ec,oG,re,bound,tr]
    refine no ?_ _ _ _ _
    intro hn
    obtain⟨z,hz,rg⟩:=List.any_eq_true.1 lr
    have hs:l.map (·.name)=((l.take j).map (·.name)++[l[j].name])++(l.drop (j+1)).map (·.name):=by rw[← gk,← aU,bX]
    rw[hs,cB,cB] at hn
    exact hn.1.2.2 l[j].name (bc.2 ⟨z,hz,by simpa using rg⟩) _ (bF.2 rfl) rfl
 ·rintro st ⟨y5,y6,g',rfl,dr⟩
  rw[aP] at dr
  simp
  exact ok dr _ _ _
theorem c0y (l:List Str) (hl:l.length≤4000000) (h:List PObj) (q' n o d:Nat) (i dv up:PV) (f:Fr) (fs:List Fr) (t:TopAt h h.length q' n o d i dv up f fs) (fp:∀x∈l,x∉f.D) (dr:l.Nodup)
  (V0 V1 V3 V4 V5 V6 V7 V8 V9 V10 V11 V12 V13 V14 V15 V16 V17 V18:PV) (g:Nat) {Q:PExit→St→Prop}
  (ok:∀h' y12,Kp q' h h'→h'.length=h.length→TopAt h' h'.length q' n o d i dv up { f with D:=f.D++l } fs→Q (.exit 4) ⟨[V0,V1,.ptr n 0,V3,V4,V5,V6,V7,V8,V9,V10,V11,y12,V13,V14,V15,V16,V17,V18,.list false (l.map PV.str),.int .i64 l.length,.int .i64 l.length],[],g,h'⟩):
  wpL L Jc ⟨[V0,V1,.ptr n 0,V3,V4,V5,V6,V7,V8,V9,V10,V11,V12,V13,V14,V15,V16,V17,V18,.list false (l.map PV.str),.int .i64 l.length,.int .i64 0],[],g,h⟩ Q:=by
 have _:=hL
 rw[Jc]
 refine xc l.length (λj st=>∃y12 h',st=⟨[V0,V1,.ptr n 0,V3,V4,V5,V6,V7,V8,V9,V10,V11,y12,V13,V14,V15,V16,V17,V18,.list false (l.map PV.str),.int .i64 l.length,.int .i64 j],[],g,h'⟩∧Kp q' h h'∧h'.length=h.length∧TopAt h' h'.length q' n o d i dv up { f with D:=f.D++l.take j } fs) ?_ ?_ ⟨_,h,rfl,Kp.refl _ _,rfl,by simpa using t⟩
 ·rintro j hj st ⟨y12,h',rfl,dg,cO,ht⟩ ih
  have hw:=wF j (by omega)
  have hn:=ht.hn
  have hd:=ht.hd
  obtain⟨r',hr,_,gU⟩:=Bs l[j] (f.D++l.take j)
  have f0:AY (f.D++l.take j) l[j]=f.D++l.take (j+1):=by
   unfold AY
   rw[af]
   ·rw[bl,al hj]; simp
   ·intro hm
    rcases ay.1 hm with h1|h1
    ·exact fp _ (aj hj) h1
    ·obtain⟨c,hc,kM⟩:=bR.1 h1
     simp only[bk] at hc
     rw[List.getElem_take] at kM
     have:=(List.getElem_inj (h₀:=by omega) (h₁:=hj) dr).1 kM
     omega
  rw[f0] at gU
  simp[hj,hn,hd,hr,gU,hw]
  have j4:=ht.setD (f.D++l.take (j+1))
  refine ih _ ⟨_,_,rfl,dg.trans (Kp.set ht.ld),by simp[cO],by simpa using j4⟩
 ·rintro st ⟨y12,h',rfl,dg,cO,ht⟩
  rw[aP] at ht
  simp
  exact ok h' _ dg cO ht
end
def Kw (L:Nat→Option PFunc) (en:List Enum) (ns:List Node) (a b:Int) (ents:xJ) (x:State):Prop:=
 ∀ (k : Nat), NodesIn ents ns k → ∀ (s : Place), s.before = ns.take k → Bt ents s.tags → ∀ (h : List PObj), h[2]? = some (wC ents) → h[3]? = some (ww en ns a b) → ∀ (q' n o d : Nat) (i dv up : PV) (f : Fr) (fs : List Fr), TopAt h h.length q' n o d i dv up f fs → (∀ x, xg (f :: fs) x = true ↔ x ∈ s.vis) →
   ∀(d0:List Str),f.D=f.df→(∀x,(x∈f.I∨zc fs x=true)↔(x∈s.inputs∨x∈d0)) →
   ∃h' r,wK L 102 [.ptr 3 0,.int .i64 k,.ptr n 0,wQ x] h=some (r,h')∧Kp h.length h h'∧StOut a b (zW s (d0++f.df) x) r
theorem OT {l m:List Str} (hl:l.Nodup) (hm:m.Nodup):B3 l m=(decide (l.length=m.length)&&l.all λx=>decide (x∈m)):=by
 rw[aS]
 simp only[B3,ak,aw,aK,DS]
 constructor
 ·rintro⟨h1,h2⟩
  have p1:=List.Nodup.length_le_of_subset hl h1
  have p2:=List.Nodup.length_le_of_subset hm h2
  exact⟨by omega,h1⟩
 ·rintro⟨h1,h2⟩
  refine⟨h2,λx hx=>cG λhn =>?_⟩
  have hc:(x::l).Nodup:=cC.2 ⟨hn,hl⟩
  have:=List.Nodup.length_le_of_subset hc (by
   intro y hy
   rcases aC.1 hy with rfl|hy
   ·exact hx
   ·exact h2 y hy)
  simp at this
  omega
section
variable {L:Nat→Option PFunc} (hL:∀k f,LS k=some f→L k=some f) (en:List Enum) (ns:List Node) (a b:Int) (ents:xJ)
include hL
theorem c0z (l:List State) (hl:l.length≤1100000) (hS:∀y∈l,Kw L en ns a b ents y) (k:Nat) (dr:NodesIn ents ns k) (s:Place) (eK:s.before=ns.take k) (d3:Bt ents s.tags) (h:List PObj) (h2:h[2]? = some (wC ents)) (h3:h[3]? = some (ww en ns a b)) (q' n o d:Nat) (i dv up:PV) (f:Fr) (fs:List Fr) (t:TopAt h h.length q' n o d i dv up f fs) (dn:∀x,xg (f::fs) x=true↔x∈s.vis)
  (d0:List Str) (hD:f.D=f.df) (dI:∀x,(x∈f.I∨zc fs x=true)↔(x∈s.inputs∨x∈d0)) (lJ:∀y∈l,(yf y).length≤4000000)
  (V0 V1 V2 V3 V4 V5 V6 V9 V10 V11 V12 V13 V14 V15 V19 V20 V21:PV) (g:Nat) {Q:PExit→St→Prop} (jz:V0 = .ptr 3 0) (mE:V1 = .int .i64 k) (uX:V2 = .ptr n 0)
  (ok:(yg s (d0++f.df) l).1=0→∀h' y9 y10 y11 g' F,Kp h.length h h'→((l=[]∧F = .list true [])∨F = .list false (((l.map yf).headD []).map PV.str))→Q (.exit 2) ⟨[V0,V1,V2,V3,V4,V5,V6,F,.bool (l.all λy=>B3 (yf y) ((l.map yf).headD [])),y9,y10,y11,V12,V13,V14,V15,.list false (l.map wQ),.int .i64 l.length,.int .i64 l.length,V19,V20,V21],[],g',h'⟩)
  (no:(yg s (d0++f.df) l).1≠0→∀h' W g',Kp h.length h h'→Q (.boom (xx 1 a b (yg s (d0++f.df) l).1)) ⟨W,[],g',h'⟩):
  wpL L Jb ⟨[V0,V1,V2,V3,V4,V5,V6,.list true [],.bool true,V9,V10,V11,V12,V13,V14,V15,.list false (l.map wQ),.int .i64 l.length,.int .i64 0,V19,V20,V21],[],g,h⟩ Q:=by
 subst jz
 subst mE
 subst uX
 have h4:4≤h.length:=by have:=t.four; have:=t.ln; have:=t.un; omega
 obtain⟨D,oC⟩:∃D,D=d0++f.df:=⟨_,rfl⟩
 obtain⟨T,hT⟩:∃T,T=(l.map yf).headD []:=⟨_,rfl⟩
 rw[← oC] at ok no
 rw[← hT] at ok
 obtain⟨sm,jO⟩:∃sm:Nat→Bool,∀j,sm j=(l.take j).all (λx=>B3 (yf x) T):=⟨_,λ_=>rfl⟩
 rw[Jb]
 refine xc l.length (λj st=>∃F y9 y10 y11 g' h',st=⟨[.ptr 3 0,.int .i64 k,.ptr n 0,V3,V4,V5,V6,F,.bool (sm j),y9,y10,y11,V12,V13,V14,V15,.list false (l.map wQ),.int .i64 l.length,.int .i64 j,V19,V20,V21],[],g',h'⟩∧Kp h.length h h'∧(∀c (hc:c<l.length),c<j→(zW s D l[c]).1=0)∧((j=0∧F = .list true [])∨F = .list false (T.map PV.str))) ?_ ?_ ⟨_,_,_,_,_,h,by rw[jO]; rfl,Kp.refl _ _,λc _ hc=>by omega,.inl ⟨rfl,rfl⟩⟩
 ·rintro j hj st ⟨F,y9,y10,y11,g',h',rfl,dg,hz,hF⟩ ih
  have hw:=wF j (by omega)
  have fl:h'[2]? = some (wC ents):=(dg.2 2 (by omega)).trans h2
  have eU:h'[3]? = some (ww en ns a b):=(dg.2 3 (by omega)).trans h3
  obtain⟨h'',r,hx,fk,hr⟩:=hS _ (aj hj) k dr s eK d3 h' fl eU q' n o d i dv up f fs ((t.keep dg.2).upTo dg.1) dn d0 hD dI
  rw[← oC] at hr
  have fI:Kp h.length h h'':=dg.trans (fk.le dg.1)
  unfold StOut at hr
  by_cases eX:(zW s D l[j]).1=0
  ·rw[ah eX] at hr
   obtain⟨ow,rfl⟩:=hr
   have tw:=Ki l[j] s D _ (B2 eX)
   rw[tw.1] at hx
   obtain⟨R,hR⟩:∃R,R=yf l[j]:=⟨_,rfl⟩
   have rh:R.Nodup:=by rw[hR]; exact tw.2.1.2
   have hRl:R.length≤4000000:=by rw[hR]; exact lJ _ (aj hj)
   have iN:sm (j+1)=(sm j&&B3 R T):=by
    have e:l.take (j+1)=l.take j++[l[j]]:=by rw[bl,al hj]; rfl
    rw[jO,jO,e,ct,hR]
    simp only[List.all_cons,List.all_nil,bQ]
   rw[← hR] at hx
   have ir:∀c (hc:c<l.length),c<j+1→(zW s D l[c]).1=0:=by
    intro c hc kR
    by_cases e:c=j
    ·subst e; exact eX
    ·exact hz c hc (by omega)
   by_cases ny:j=0
   ·subst ny
    have uY:R=T:=by
     rw[hR,hT]
     cases l with
     | nil=>simp at hj
     | cons y l=>rfl
    rw[← uY] at iN ih hF
    have dH:=OS hL R R (by omega) (by omega) false false []
    rw[← OT rh rh] at dH
    have fK:sm 0=true:=by rw[jO]; rfl
    rw[fK,cr] at iN
    simp[hj,hx,hw,fK,dH]
    exact ih _ ⟨_,_,_,_,_,h'',by rw[iN]; rfl,fI,ir,.inr rfl⟩
   ·have uZ:F = .list false (T.map PV.str):=by
     rcases hF with⟨e,_⟩|e
     ·exact absurd e ny
     ·exact e
    subst uZ
    have nz:T=yf (l[0]'(by omega)):=by
     rw[hT]
     cases l with
     | nil=>simp at hj
     | cons y l=>rfl
    have u3:T.Nodup:=by
     rw[nz]
     exact(Ki _ s D _ (B2 (hz 0 (by omega) (by omega)))).2.1.2
    have u4:T.length≤4000000:=by rw[nz]; exact lJ _ (aj _)
    have dH:=OS hL R T (by omega) (by omega) false false []
    rw[← OT rh u3] at dH
    have pN:¬(j:Int)=0:=by omega
    cases tz:sm j with
    | true =>
      rw[tz,cr] at iN
      simp[hj,hx,hw,ny,pN,dH]
      exact ih _ ⟨_,_,_,_,_,h'',by rw[iN]; rfl,fI,ir,.inr rfl⟩
    | false =>
      rw[tz,bG] at iN
      simp[hj,hx,hw,ny,pN,dH]
      exact ih _ ⟨_,_,_,_,_,h'',by rw[iN]; rfl,fI,ir,.inr rfl⟩
  ·rw[af eX] at hr
   subst hr
   have hb:=Ou hj eX (λc hc kR=>hz c hc kR)
   simp[hj,hx]
   have mj:(yg s D l).1=(zW s D l[j]).1:=by rw[hb]
   rw[← mj]
   exact no (by rw[mj]; exact eX) h'' _ _ fI
 ·rintro st ⟨F,y9,y10,y11,g',h',rfl,dg,hz,hF⟩
  have dJ:=Ot (s:=s) (d:=D) (l:=l) (λy hy=>by
   obtain⟨c,hc,rfl⟩:=bR.1 hy
   exact hz c hc hc)
  have nU:sm l.length=l.all (λx=>B3 (yf x) T):=by rw[jO,aP]
  rw[nU]
  simp
  refine ok (by rw[dJ]) h' _ _ _ _ F dg ?_
  rcases hF with⟨e,e2⟩|e
  ·exact .inl ⟨bu.1 e,e2⟩
  ·exact .inr e
end
theorem cells_str:∀l:List Str,(l.map PV.str).flatMap PV.cells=l.map PV.str
 | []=>rfl
 | x::l=>by rw[ax,aG,cells_str l]; rfl
section
variable {L:Nat→Option PFunc} (hL:∀k f,LS k=some f→L k=some f) (en:List Enum) (ns:List Node) (a b:Int) (ents:xJ)
include hL
theorem OU (l:List State) (hl:l.length≤1100000) (hS:∀y∈l,Kw L en ns a b ents y) (lJ:∀y∈l,(yf y).length≤4000000):EZ L en ns a b ents l:=by
 intro k dr s eK d3 h h2 h3 q' n o d i dv up f fs t dn d0 hD dI i9
 suffices H:∃res,wK L 62 [.ptr 3 0,.int .i64 k,.ptr n 0,wY l] h=some res∧∃h',res=(wv 1 a b (yQ s (d0++f.df) l).1,h')∧Kp q' h h'∧((yQ s (d0++f.df) l).1=0→∃dv' df',(d0++f.df)++(yQ s (d0++f.df) l).2=d0++df'∧TopAt h' h'.length q' n o d i dv' up { f with D:=df',df:=df' } fs) by
  obtain⟨res,e1,h',e2,e3⟩:=H
  exact⟨h',by rw[e1,e2],e3⟩
 have lN:q'≤h.length:=aR t.ln (Nat.le_of_lt t.un)
 have h4:4≤h.length:=by have:=t.four; omega
 refine BR (hL 62 _ rfl) rfl ?_
 simp[Jd]
 refine c0x hL en ns a b l hl h h3 _ _ _ _ _ _ _ _ _ _ _ _ _ _ _ _ _ _ _ _ rfl ?_ ?_
 ·intro hn y5 y6 g1
  simp
  refine c0z hL en ns a b ents l hl hS k dr s eK d3 h h2 h3 q' n o d i dv up f fs t dn d0 hD dI lJ _ _ _ _ _ _ _ _ _ _ _ _ _ _ _ _ _ _ rfl rfl rfl ?_ ?_
  ·intro hz h' y9 y10 y11 g2 F dg hF
   obtain⟨T,hT⟩:∃T,T=(l.map yf).headD []:=⟨_,rfl⟩
   rw[← hT] at hF ⊢
   obtain⟨b1,b2⟩:=Kj l s (d0++f.df) (yg s (d0++f.df) l).2 (by rw[← hz])
   have dC:yg s (d0++f.df) l=(0,l.map yf):=by rw[← b1,← hz]
   have iD:yQ s (d0++f.df) l=if l.all (λy=>B3 (yf y) T) then(0,T) else(8,[]):=by
    unfold yQ
    rw[af (by simpa using hn),dC,af (by simp),List.all_map,← hT]
    rfl
   have eU:h'[3]? = some (ww en ns a b):=(dg.2 3 (by omega)).trans h3
   have u5:=BS hL en ns a b h' eU 8
   have u6:=BT hL en ns a b h' eU 8
   have t1:=(t.keep dg.2).upTo dg.1
   cases dH:l.all (λy=>B3 (yf y) T) with
   | false =>
     rw[dH] at iD
     simp[u6]
     exact⟨h',by rw[iD]; exact⟨rfl,rfl⟩,dg.le lN,by rw[iD]; simp⟩
   | true =>
     rw[dH] at iD
     simp only[if_true] at iD
     have tB:Defs s (d0++f.df) T:=by
      rw[hT]
      cases l with
      | nil=>exact Defs.nil _ _
      | cons y l=>exact(b2 y (by simp)).1
     have u4:T.length≤4000000:=by
      rw[hT]
      cases l with
      | nil=>simp
      | cons y l=>exact lJ y (by simp)
     have hTs:T.length+f.df.length≤4000000:=by
      have:xd [l]=T:=by rw[Df,← hT]; simp[xd]
      rw[this] at i9; omega
     have fp:∀x∈T,x∉f.D:=λx hx hm=>(tB.1 x hx).2.2 (b6 _ (hD▸hm))
     have md:∃ow,F = .list ow (T.map PV.str):=by
      rcases hF with⟨jb,e⟩|e
      ·subst jb; exact⟨true,by rw[e,hT]; rfl⟩
      ·exact⟨false,e⟩
     obtain⟨ow,rfl⟩:=md
     simp[u5]
     refine c0y hL T (by omega) h' q' n o d i dv up f fs t1 fp tB.2 _ _ _ _ _ _ _ _ _ _ _ _ _ _ _ _ _ _ _ ?_
     intro iE y12 jY jX t4
     have n4:=t4.hn
     have gy:=t4.un
     have m9:=t4.ln
     have ri:Kp q' h iE:=(dg.le lN).trans jY
     have iO:f.D++T=f.df++T:=by rw[hD]
     have fin:∀(hh:List PObj) (dv':PV),Kp q' h hh→TopAt hh hh.length q' n o d i dv' up { f with D:=f.D++T,df:=f.df++T } fs→∃h'',((Out.val (PV.tuple [])=wv 1 a b (yQ s (d0++f.df) l).1∧hh=h''))∧Kp q' h h''∧((yQ s (d0++f.df) l).1=0→∃dv',TopAt h'' h''.length q' n o d i dv' up { O:=f.O,D:=f.df++(yQ s (d0++f.df) l).2,I:=f.I,df:=f.df++(yQ s (d0++f.df) l).2 } fs):=by
      intro hh dv' hk ht
      refine⟨hh,by rw[iD]; exact⟨rfl,rfl⟩,hk,λ_=>⟨dv',?_⟩⟩
      rw[iO] at ht
      rw[iD]
      exact ht
     have dW:(T.map PV.str).flatMap PV.cells=T.map PV.str:=cells_str T
     have kQ:(dem∘PV.str)=PV.str:=rfl
     have oG:w6 1 (T.map PV.str)=true:=by cases T<;>rfl
     rcases t4.row with⟨rfl,gt⟩|⟨kr,fX,ey,rfl,gE⟩
     ·simp only at gt
      by_cases tC:T=[]
      ·subst tC
       have iq:iE.set n (.cells [up,.map (some o),.map (some d),i,.list true []])=iE:=Cl n4
       obtain⟨h5,e5⟩:∃h5,iE.set n (.cells [up,.map (some o),.map (some d),i,.list false []])=h5:=⟨_,rfl⟩
       have n5:h5[n]? = some (.cells [up,.map (some o),.map (some d),i,.list false []]):=by rw[← e5,a8 gy]
       have u7:h5.set n (.cells [up,.map (some o),.map (some d),i,.list true []])=iE:=by rw[← e5,List.set_set]; exact iq
       simp[n4,AL,yi,e5,n5,u7]
       exact fin iE _ ri (by simpa using t4)
      ·obtain⟨h5,e5⟩:∃h5,iE.set n (.cells [up,.map (some o),.map (some d),i,.list false []])=h5:=⟨_,rfl⟩
       have hU:h5.length=iE.length:=by rw[← e5]; simp
       have n5:(h5++[PObj.cells (T.map PV.str)])[n]? = some (.cells [up,.map (some o),.map (some d),i,.list false []]):=by
        rw[am (by omega),← e5,a8 gy]
       have kP:=t4.push T h5 hU (λc hc=>by rw[← e5,aq (by omega)]) (λc _ _ li=>by rw[← e5,aq (Ne.symm li)])
       have fe:T.length≤2147483648:=by omega
       simp[n4,e5,n5,AL,dW,oG,tC,fe,kQ,yi]
       rw[hU]
       refine fin _ (.rowp iE.length 1 false T.length) ?_ ?_
       ·refine Kp.trans ri ⟨by simp[hU],λc hc =>?_⟩
        rw[aq (by omega),am (by omega),← e5,aq (by omega)]
       ·have:((h5++[PObj.cells (T.map PV.str)]).set n (.cells [up,.map (some o),.map (some d),i,.rowp iE.length 1 false T.length])).length=iE.length+1:=by simp[hU]
        rw[this,gt,aY]
        exact kP
     ·obtain⟨h5,e5⟩:∃h5,iE.set kr .gone=h5:=⟨_,rfl⟩
      have hU:h5.length=iE.length:=by rw[← e5]; simp
      have nx:=(t4.rne _ _ _ _ rfl).1
      simp only at gE
      have n5:(h5++[PObj.cells (f.df.map PV.str++T.map PV.str)])[n]? = some (.cells [up,.map (some o),.map (some d),i,.rowp kr 1 false f.df.length]):=by
       rw[am (by omega),← e5,aq nx]; exact n4
      have kP:=t4.push (f.df++T) h5 hU (λc hc=>by rw[← e5,aq (by omega)]) (λc hc fQ li=>by
       have:kr≠c:=by
        intro jd
        exact absurd rfl (fQ 1 false f.df.length |> λh=>by subst jd; exact h)
       rw[← e5,aq this])
      simp only[aU,ap] at kP
      have fe:f.df.length+T.length≤2147483648:=by omega
      have dO:(f.df.map PV.str).take f.df.length=f.df.map PV.str:=bW (by simp)
      have qY:List.map PV.str (f.df.take f.df.length)=List.map PV.str f.df:=by rw[aP]
      simp[n4,AL,gE,dW,oG,fe,dO,kQ,qY,e5,n5,yi]
      refine fin _ (.rowp iE.length 1 false (f.df.length+T.length)) ?_ ?_
      ·refine Kp.trans ri ⟨by simp[hU],λc hc =>?_⟩
       rw[aq (by omega),am (by omega),← e5,aq (by omega)]
      ·have:((h5++[PObj.cells (f.df.map PV.str++T.map PV.str)]).set n (.cells [up,.map (some o),.map (some d),i,.rowp iE.length 1 false (f.df.length+T.length)])).length=iE.length+1:=by simp[hU]
       rw[this]
       exact kP
  ·intro hz h' W g2 dg
   simp
   have iD:yQ s (d0++f.df) l=((yg s (d0++f.df) l).1,[]):=by
    unfold yQ
    rw[af (by simpa using hn),ah hz]
   exact⟨h',by rw[iD]; simp[wv,hz],dg.le lN,λh0=>absurd (by rw[iD] at h0; exact h0) hz⟩
 ·intro hn y5 y6 y15 g1
  simp
  have iD:yQ s (d0++f.df) l=(7,[]):=by unfold yQ; rw[ah hn]
  exact⟨h,by rw[iD]; exact⟨rfl,rfl⟩,Kp.refl _ _,by rw[iD]; simp⟩
end
theorem IS:∀l:List Eqn,(xl l).length≤wx Eqn.parts l
 | []=>by simp[xl,wx]
 | q :: l => by
   have:=IS l
   have e:xl (q::l)=q.left++xl l:=by simp[xl]
   rw[e]
   simp only[ap,wx,Eqn.parts]
   omega
theorem Kx (x:State):(yf x).length≤(AQ x).length:=by unfold yf xq; exact List.length_filter_le _ _
theorem IT:∀l:List (List State),(∀a∈l,∀x∈a,(AQ x).length≤x.parts)→(xd l).length≤Al l
 | [],_=>by simp[xd,Al]
 | a :: l, h => by
   have:=IT l (λb hb=>h b (by simp[hb]))
   rw[Df]
   cases a with
   | nil=>simp[Al,BU]; omega
   | cons y a =>
     have h1:=h (y::a) (by simp) y (by simp)
     have h2:=Kx y
     simp only[ax,List.headD_cons,ap,Al,BU]
     omega
theorem GD (x:State):(AQ x).length≤x.parts:=by
 induction x using State.ind with
 | h s ih =>
   cases s with
   | mk n l e a u w =>
     have h1:=IS e
     have h2:=IT a ih
     simp only[AQ,ap,State.parts]
     omega
section
variable {L:Nat→Option PFunc} (hL:∀k f,LS k=some f→L k=some f) (en:List Enum) (ns:List Node) (a b:Int) (ents:xJ)
include hL
theorem c13 (x:State):SW x→x.parts≤4000000→Kw L en ns a b ents x:=by
 induction x using State.ind with
 | h x ih =>
   intro hx hp
   have cS:∀y∈x.autos,∀z∈y,z.parts≤x.parts:=by
    intro y hy z hz
    cases x with
    | mk n l e au u w =>
      have hy:y∈au:=hy
      have h1:BU y≤Al au:=by
       rw[E0,DR]
       have:=Ci (λa=>1+wx State.parts a) hy
       omega
      have h2:z.parts≤BU y:=by rw[DR]; exact Ci _ hz
      simp only[State.parts]
      omega
   intro k dr s eK d3 h h2 h3 q' n o d i dv up f fs t dn d0 hD dI
   refine c4d hL en ns a b ents x hx ?_ (aR (GD x) hp) k dr s eK d3 h h2 h3 q' n o d i dv up f fs t dn d0 hD dI
   intro y hy
   refine OU hL en ns a b ents y (hx.as y hy) (λz hz=>ih y hy z hz (hx.ss y hy z hz) (aR (cS y hy z hz) hp)) (λz hz =>?_)
   exact aR (Kx z) (aR (GD z) (aR (cS y hy z hz) hp))
theorem c4e (x:List State) (hl:x.length≤1100000) (hx:∀y∈x,SW y) (hp:∀y∈x,y.parts≤4000000):EZ L en ns a b ents x:=
 OU hL en ns a b ents x hl (λz hz=>c13 hL en ns a b ents z (hx z hz) (hp z hz)) (λz hz=>aR (Kx z) (aR (GD z) (hp z hz)))
end
section
variable {L:Nat→Option PFunc} (hL:∀k f,LS k=some f→L k=some f) (en:List Enum) (ns:List Node) (a b:Int) (ents:xJ)
include hL
theorem b6M (k:Nat) (hn:NodesIn ents ns k) (s:Place) (eK:s.before=ns.take k) (l:List Expr) (hl:l.length≤1100000) (hw:∀x∈l,XW x) (h:List PObj) (h2:h[2]? = some (wC ents)) (h3:h[3]? = some (ww en ns a b)) (v:PV) (fs:List Fr) (hv:Holds h h.length v fs) (dn:∀x,xg fs x=true↔x∈s.vis)
  (V0 V1 V2 V3 V4 V5 V6 V7 V8 V9:PV) (g:Nat) {Q:PExit→St→Prop} (jz:V0 = .ptr 3 0) (mE:V1 = .int .i64 k) (qF:V4=v)
  (ok:wr (λe=>w7 s e 1) l=0→∀h' y6 g',Kp h.length h h'→Q (.exit 2) ⟨[V0,V1,V2,V3,V4,V5,y6,V7,V8,V9,.list false (l.map wl),.int .i64 l.length,.int .i64 l.length],[],g',h'⟩)
  (no:wr (λe=>w7 s e 1) l≠0→∀h' W g',Kp h.length h h'→Q (.boom (xx 1 a b (wr (λe=>w7 s e 1) l))) ⟨W,[],g',h'⟩):
  wpL L GA ⟨[V0,V1,V2,V3,V4,V5,V6,V7,V8,V9,.list false (l.map wl),.int .i64 l.length,.int .i64 0],[],g,h⟩ Q:=by
 subst jz
 subst mE
 subst qF
 have il:=hv.cp
 have im:=hv.tkv
 have kO:=hv.dem
 rw[GA]
 refine xc l.length (λj st=>∃y6 g' h',st=⟨[.ptr 3 0,.int .i64 k,V2,V3,V4,V5,y6,V7,V8,V9,.list false (l.map wl),.int .i64 l.length,.int .i64 j],[],g',h'⟩∧Kp h.length h h'∧wr (λe=>w7 s e 1) l=wr (λe=>w7 s e 1) (l.drop j)) ?_ ?_ ⟨_,_,h,rfl,Kp.refl _ _,rfl⟩
 ·rintro j hj st ⟨y6,g',h',rfl,dg,di⟩ ih
  have nW:=wF j (by omega)
  have nn:3<h.length:=(ai.1 h3).1
  have fl:h'[2]? = some (wC ents):=(dg.2 2 (by omega)).trans h2
  have eU:h'[3]? = some (ww en ns a b):=(dg.2 3 nn).trans h3
  obtain⟨h'',hx,fk⟩:=Ku hL en ns a b ents k hn s eK l[j] (hw _ (aj hj)).ew 1 h' fl eU h.length dg.1 V4 fs (hv.keep dg.2) dn
  have fI:Kp h.length h h'':=dg.trans (fk.le dg.1)
  rw[aZ hj] at di
  have gV:wr (λe=>w7 s e 1) (l[j]::l.drop (j+1))=if w7 s l[j] 1=0 then wr (λe=>w7 s e 1) (l.drop (j+1)) else w7 s l[j] 1:=rfl
  rw[gV] at di
  by_cases hz:w7 s l[j] 1=0
  ·rw[ah hz] at di
   rw[hz] at hx
   simp[wv] at hx
   simp[hj,il,im,hx,nW]
   exact ih _ ⟨_,_,_,rfl,fI,di⟩
  ·rw[af hz] at di
   simp[wv,hz] at hx
   simp[hj,il,im,hx]
   rw[← di]
   exact no (by rw[di]; exact hz) h'' _ _ fI
 ·rintro st ⟨y6,g',h',rfl,dg,di⟩
  rw[bj (ao _)] at di
  simp
  exact ok di h' _ _ dg
end
def E1 (sz by':Nat) (z:List PV):PFunc:=⟨2,3,(S (R [t 2 (.c (.list true []))]) (S (B [m v1,b .lss l0 (k 0)] l1 (R [m (.c .dead),r (.mov (.c .dead))]) Z) (S (S (R [m v1,m v0,p (.cap l1),m v0,n l3,b .sub l2 l4,b .sub l0 l5,t 1 l6]) (B [m v1,b .gtr l0 (k 0)] l1 (R [m v0,m v0,p (.cap l1),p (.slice false sz l0 none (some l2)),m v1,p (.h (.happz sz true by' z l3 l4)),m v0,n l6,p (.slice false sz l5 none (some l7)),t 0 l8]) Z)) (S (R [m v0,t 2 l0]) Y)))),[.keep 2],false,none,none⟩
def IX:PC:=(.loop (S (B [b .lss v8 v7] l0 Z (X 0)) (S (K 1 (S (R [i 1 v6 v8,c l0,t 3 l1]) (S (R [m v2,m v3,n l1,b .add l0 l2,t 2 l3]) (B [m v2,b .lss l0 (k 0)] l1 (R [m (.c .dead),r (.mov (.c .dead))]) Z)))) (R [b .add v8 (k 1),q 8 (.mov l0)]))))
def IY (sz by':Nat):PC:=(.loop (S (B [b .lss xr xh] l0 Z (X 2)) (S (K 3 (S (R [i 1 v9 xr,c l0,t 5 l1]) (R [p (.take v4),m v5,p (.h (.happ sz true by' l0 l1)),t 4 l2]))) (R [b .add xr (k 1),q 11 (.mov l0)]))))
def Mt (sz by' gr:Nat) (res:PRes):PFunc:=⟨1,12,(S (R [t 1 (.c .nils)]) (S (R [t 2 (k 0)]) (S (S (R [q 6 (.mov v0),q 7 (.len false v6),q 8 (.mov (k 0))]) (K 0 IX)) (S (R [m v2,fh gr [(.c .nils),l0],t 4 l1]) (S (S (R [q 9 (.mov v0),q 10 (.len false v9),q 11 (.mov (k 0))]) (K 2 (IY sz by'))) (S (R [m v4,t 1 l0]) Y)))))),[res],false,none,none⟩
structure Enc {α:Type} (e:α→PV) (sz:Nat):Prop where
 agg:∀x,e x = .agg (e x).cells
 len:∀x,(e x).cells.length=sz
 dem:∀x,(e x).cells.map dem=(e x).cells
 pos:0<sz
section
variable {α:Type} {e:α→PV} {sz:Nat} (he:Enc e sz)
def RowOf (e:α→PV) (sz:Nat) (h:List PObj) (b:Nat) (v:PV) (l:List α):Prop:=(v = .nils∧l=[])∨∃k cs,b≤k∧v = .rowp k sz true l.length∧h[k]? = some (.cells cs)∧l.length*sz≤cs.length∧cs.take (l.length*sz)=(l.map e).flatMap PV.cells
def yv (e:α→PV) (gs:List (List α)):List PV:=gs.map λg => .list false (g.map e)
def xZ (gs:List (List α)):Nat:=wx List.length gs
theorem IZ:∀(a b:List (List α)),xZ (a++b)=xZ a+xZ b
 | [],b=>by simp[xZ,wx]
 | x :: a, b => by
   have:=IZ a b
   simp only[xZ] at this
   simp only[xZ,aL,wx,this]; omega
theorem Mu (gs:List (List α)) (j:Nat) (hj:j<gs.length):xZ (gs.take (j+1))=xZ (gs.take j)+gs[j].length:=by
 rw[zL hj,IZ]
 simp[xZ,wx]
theorem Mv (gs:List (List α)) (j:Nat):xZ (gs.take j)≤xZ gs:=by
 have:=IZ (gs.take j) (gs.drop j)
 rw[bX] at this; omega
theorem Me (gs:List (List α)):gs.flatten.length=xZ gs:=by
 induction gs with
 | nil=>rfl
 | cons x gs ih=>rw[List.flatten_cons,ap,ih]; simp[xZ,wx]
include he
theorem Enc.cellsDem:∀l:List α,((l.map e).flatMap PV.cells).map PI.dem=(l.map e).flatMap PV.cells
 | []=>rfl
 | x :: l => by
   rw[ax,aG,aU,Enc.cellsDem l,he.dem]
theorem Enc.cellsLen:∀l:List α,((l.map e).flatMap PV.cells).length=l.length*sz
 | []=>by simp
 | x :: l => by
   rw[ax,aG,ap,Enc.cellsLen l,he.len,aI,Nat.succ_mul]; omega
theorem Enc.head (l:List α):w6 sz (l.map e)=true:=by
 cases l with
 | nil=>rfl
 | cons x l=>simp[w6,he.len]
theorem Enc.els (l:List α) (cs:List PV) (hc:cs.take (l.length*sz)=(l.map e).flatMap PV.cells):yF sz true cs l.length 0=some (l.map e):=by
 have key:∀(l:List α) (pre post:List PV),yF sz true (pre++((l.map e).flatMap PV.cells++post)) l.length pre.length=some (l.map e):=by
  intro l
  induction l with
  | nil=>intro pre post; rfl
  | cons x l ih =>
    intro pre post
    have h1:=ih (pre++(e x).cells) post
    rw[ap,he.len] at h1
    have h2:pre++(e x).cells++((l.map e).flatMap PV.cells++post)=pre++(((x::l).map e).flatMap PV.cells++post):=by simp
    rw[h2] at h1
    have h3:wq sz true (pre++(((x::l).map e).flatMap PV.cells++post)) pre.length=some (e x):=by
     have hl:=he.len x
     have h4:pre.length+sz≤(pre++(((x::l).map e).flatMap PV.cells++post)).length:=by
      rw[ap,ap,ax,aG,ap]; omega
     simp only[wq,if_true,h4,List.drop_left']
     rw[ax,aG,aJ,List.take_left' hl,he.dem,← he.agg]
    rw[aI,yF,h3,an,h1]
    rfl
 have:=key l [] (cs.drop (l.length*sz))
 rw[← hc,bX] at this
 exact this
theorem Enc.happ {by':Nat} (gz:by'≤16384) (h:List PObj) (b:Nat) (hb:b≤h.length) (v:PV) (l m:List α) (hv:RowOf e sz h b v l) (hl:l.length+m.length≤3300000):∃v' h',(∀st:St,st.heap=h→AL h sz true by' (m.map e) v st=some (v',{ st with heap:=h' }))∧Kp b h h'∧RowOf e sz h' b v' (l++m):=by
 have sP:=he.head m
 rcases hv with⟨rfl,rfl⟩|⟨k,cs,hk,rfl,hc,dt,qh⟩
 ·by_cases hm:m=[]
  ·subst hm
   refine⟨.nils,h,?_,Kp.refl _ _,.inl ⟨rfl,rfl⟩⟩
   intro st dC
   simp[AL,← dC]
  ·refine⟨.rowp h.length sz true m.length,h++[.cells ((m.map e).flatMap PV.cells)],?_,Kp.app hb,.inr ⟨h.length,(m.map e).flatMap PV.cells,hb,by simp,by simp,?_,?_⟩⟩
   ·intro st dC
    have h1:m.length≤2147483648:=by simp at hl; omega
    have pL:¬m.map e=[]:=by simpa using hm
    simp only[AL,pL,if_false,sP,aA,h1,he.cellsDem,gz]
    simp[dC]
   ·rw[he.cellsLen]; simp
   ·rw[aY,bW (by rw[he.cellsLen]; omega)]
 ·have eW:k<h.length:=(ai.1 hc).1
  refine⟨.rowp h.length sz true (l.length+m.length),h.set k .gone++[.cells ((l.map e).flatMap PV.cells++(m.map e).flatMap PV.cells)],?_,⟨by simp,λn hn =>?_⟩,.inr ⟨h.length,(l.map e).flatMap PV.cells++(m.map e).flatMap PV.cells,hb,by simp,?_,?_,?_⟩⟩
  ·intro st dC
   have h1:l.length+m.length≤2147483648:=by omega
   simp only[AL,hc,sP,aA,h1,dt,qh,he.cellsDem,gz]
   simp
  ·rw[am (by simp; omega),aq (by omega)]
  ·have:(h.set k .gone).length=h.length:=by simp
   rw[← this,ar (ao _)]
   simp
  ·rw[ap,ap,he.cellsLen,he.cellsLen,aQ]; omega
  ·rw[aU,bP,bW (by rw[ap,ap,he.cellsLen,he.cellsLen,aQ]; omega)]
end
theorem RowOf.cp {α:Type} {e:α→PV} {sz:Nat} {h:List PObj} {b:Nat} {v:PV} {l:List α} (hv:RowOf e sz h b v l):cp v=some v∧tkv v=some (v,false)∧dem v=v:=by
 rcases hv with⟨rfl,_⟩|⟨k,cs,_,rfl,_⟩<;>exact⟨rfl,rfl,rfl⟩
section
variable {L:Nat→Option PFunc} {α:Type} {e:α→PV} {sz by' gr:Nat} {z:List PV} (he:Enc e sz) (gz:by'≤16384)
theorem d4c {sz by':Nat} {z:List PV} (hf:L gr=some (E1 sz by' z)) (h:List PObj):wj L gr [.nils,.int .i64 0] h=some (.nils,h):=by
 refine wD hf rfl ?_
 have ng:IntKind.i64.wrap (-IntKind.i64.wrap 0)=0:=by decide
 simp[E1,ng]
theorem d4d {sz by':Nat} {z:List PV} (gz:by'≤16384) (hf:L gr=some (E1 sz by' z)) (n:Nat) (h0:0<n) (hn:n≤3300000) (h:List PObj):∃cs,wj L gr [.nils,.int .i64 n] h=some (.rowp h.length sz true 0,h++[.cells cs]):=by
 have qA:(0:Int)<n:=by omega
 have um:(n:Int)≤2147483648:=by omega
 have qB:¬(n:Int)<0:=by omega
 have qC:IntKind.i64.wrap 0=0:=by decide
 have hw:IntKind.i64.wrap (n:Int)=n:=by
  have:=wF (n - 1) (by omega)
  have e:((n - 1:Nat):Int)+1=n:=by omega
  rw[e] at this
  rw[this]
  omega
 refine⟨(List.replicate n (z.map dem)).flatten,?_⟩
 refine wD hf rfl ?_
 simp[E1,qA,um,qB,h0,hw,qC,gz]
theorem d0c (gs:List (List α)) (hg:gs.length≤1100000) (hn:xZ gs≤3300000) (h:List PObj) (V0 V1 V3 V4 V5 V9 V10 V11:PV) (g:Nat) {Q:PExit→St→Prop}
  (ok:∀y3,Q (.exit 0) ⟨[V0,V1,.int .i64 (xZ gs),y3,V4,V5,.list false (yv e gs),.int .i64 gs.length,.int .i64 gs.length,V9,V10,V11],[],g,h⟩):
  wpL L IX ⟨[V0,V1,.int .i64 0,V3,V4,V5,.list false (yv e gs),.int .i64 gs.length,.int .i64 0,V9,V10,V11],[],g,h⟩ Q:=by
 rw[IX]
 refine xc gs.length (λj st=>∃y3,st=⟨[V0,V1,.int .i64 (xZ (gs.take j)),y3,V4,V5,.list false (yv e gs),.int .i64 gs.length,.int .i64 j,V9,V10,V11],[],g,h⟩) ?_ ?_ ⟨_,by simp[xZ,wx]; rfl⟩
 ·rintro j hj st ⟨y3,rfl⟩ ih
  have hw:=wF j (by omega)
  have ht:=Mu gs j hj
  have ez:=Mv gs (j+1)
  obtain⟨A,hA⟩:∃A,A=xZ (gs.take j):=⟨_,rfl⟩
  obtain⟨B,hB⟩:∃B,B=xZ (gs.take (j+1)):=⟨_,rfl⟩
  rw[← hA,← hB] at ht
  rw[← hB] at ez
  have qD:IntKind.i64.wrap ((A:Int)+gs[j].length)=B:=by
   have:=E2 (A+gs[j].length) (by omega)
   rw[show (A:Int)+gs[j].length=((A+gs[j].length:Nat):Int) by omega,this,ht]
  have nQ:j<(yv e gs).length:=by simpa[yv] using hj
  have mn:(yv e gs)[j]? = some (.list false (gs[j].map e)):=by simp[yv,hj]
  rw[← hA]
  rw[← hB] at ih
  obtain⟨GS,qE⟩:∃GS,GS=yv e gs:=⟨_,rfl⟩
  rw[← qE] at ih nQ mn ⊢
  have nR:GS[j] = .list false (gs[j].map e):=(ai.1 mn).2
  have dt:∀es,(PV.list false es).cells=[.list false es]:=λ_=>rfl
  have uq:¬(B:Int)<0:=by omega
  simp[hj,nQ,mn,hw,qD,nR,dt,uq]
  exact ih _ ⟨_,rfl⟩
 ·rintro st ⟨y3,rfl⟩
  rw[aP]
  simp
  exact ok _
include he gz
theorem Mw (gs:List (List α)) (hg:gs.length≤1100000) (hn:xZ gs≤3300000) (h:List PObj) (b:Nat) (hb:b≤h.length) (V4:PV) (qF:RowOf e sz h b V4 []) (V0 V1 V2 V3 V5 V6 V7 V8:PV) (g:Nat) {Q:PExit→St→Prop}
  (ok:∀h' v y5,Kp b h h'→RowOf e sz h' b v gs.flatten→Q (.exit 2) ⟨[V0,V1,V2,V3,v,y5,V6,V7,V8,.list false (yv e gs),.int .i64 gs.length,.int .i64 gs.length],[],g,h'⟩):
  wpL L (IY sz by') ⟨[V0,V1,V2,V3,V4,V5,V6,V7,V8,.list false (yv e gs),.int .i64 gs.length,.int .i64 0],[],g,h⟩ Q:=by
 rw[IY]
 refine xc gs.length (λj st=>∃v y5 h',st=⟨[V0,V1,V2,V3,v,y5,V6,V7,V8,.list false (yv e gs),.int .i64 gs.length,.int .i64 j],[],g,h'⟩∧Kp b h h'∧RowOf e sz h' b v (gs.take j).flatten) ?_ ?_ ⟨_,_,h,rfl,Kp.refl _ _,qF⟩
 ·rintro j hj st ⟨v,y5,h',rfl,dg,hv⟩ ih
  have hw:=wF j (by omega)
  have ht:=Mu gs j hj
  have ez:=Mv gs (j+1)
  have fS:(gs.take (j+1)).flatten=(gs.take j).flatten++gs[j]:=by
   rw[zL hj,List.flatten_append]; simp
  obtain⟨v',h'',nS,fk,dS⟩:=he.happ gz h' b (aR hb dg.1) v _ gs[j] hv (by rw[Me]; omega)
  have mn:(yv e gs)[j]? = some (.list false (gs[j].map e)):=by simp[yv,hj]
  have nQ:j<(yv e gs).length:=by simpa[yv] using hj
  obtain⟨GS,qE⟩:∃GS,GS=yv e gs:=⟨_,rfl⟩
  rw[← qE] at ih nQ mn ⊢
  have nR:GS[j] = .list false (gs[j].map e):=(ai.1 mn).2
  have dt:∀es,(PV.list false es).cells=[.list false es]:=λ_=>rfl
  have hc:=hv.cp
  have jt:=dS.cp
  rw[← fS] at dS
  simp[hj,nQ,mn,hw,nR,dt,hc.1,hc.2.1,hc.2.2,nS,jt.1,jt.2.1,jt.2.2]
  exact ih _ ⟨v',_,h'',rfl,dg.trans fk,dS⟩
 ·rintro st ⟨v,y5,h',rfl,dg,hv⟩
  rw[aP] at hv
  simp
  exact ok h' v y5 dg hv
theorem c3A {k:Nat} (hf:L k=some (Mt sz by' gr (.keep 1))) (nh:L gr=some (E1 sz by' z)) (gs:List (List α)) (hg:gs.length≤1100000) (hn:xZ gs≤3300000) (o:Bool) (h:List PObj):∃v h',wj L k [.list o (yv e gs)] h=some (v,h')∧Kp h.length h h'∧RowOf e sz h' h.length v gs.flatten:=by
 suffices H:∃r,wj L k [.list o (yv e gs)] h=some r∧Kp h.length h r.2∧RowOf e sz r.2 h.length r.1 gs.flatten from by
  obtain⟨⟨v,h'⟩,h1,h2,h3⟩:=H
  exact⟨v,h',h1,h2,h3⟩
 refine Be hf rfl ?_
 have qG:(yv e gs).length=gs.length:=by simp[yv]
 simp[Mt,qG]
 refine d0c gs hg hn h _ _ _ _ _ _ _ _ _ ?_
 intro y3
 by_cases h0:xZ gs=0
 ·have nh:=d4c nh h
  have qA:(xZ gs:Int)=0:=by omega
  simp[qA,nh,qG]
  refine Mw he gz gs hg hn h h.length (ao _) .nils (.inl ⟨rfl,rfl⟩) _ _ _ _ _ _ _ _ _ ?_
  intro h' v y5 hk hv
  have hc:=hv.cp
  simp[hc.1,hc.2.1,hc.2.2,xR]
  exact⟨hk,hv⟩
 ·obtain⟨cs,nh⟩:=d4d gz nh (xZ gs) (by omega) hn h
  simp[nh,qG]
  refine Mw he gz gs hg hn _ h.length (by simp) (.rowp h.length sz true 0) (.inr ⟨h.length,cs,ao _,rfl,by simp,by simp,by simp⟩) _ _ _ _ _ _ _ _ _ ?_
  intro h' v y5 hk hv
  have hc:=hv.cp
  simp[hc.1,hc.2.1,hc.2.2,xR]
  exact⟨(Kp.app (ao _)).trans hk,hv⟩
end
theorem I0:Enc wo 3:=⟨λ_=>rfl,λ_=>rfl,λ_=>rfl,by decide⟩
section
variable {L:Nat→Option PFunc} (hL:∀k f,LS k=some f→L k=some f)
include hL
theorem c4f (l:List On) (hl:l.length≤1100000) (o:Bool) (h:List PObj):∃r,wj L 34 [.list o (l.map eOn)] h=some (.list r (l.map eOn),h):=by
 refine⟨true,?_⟩
 refine b8Z (hL 34 _ rfl) rfl rfl ?_ ?_
 ·intro hv
  cases l with
  | nil=>simp at hv
  | cons x l =>
    rw[aI] at hl
    have h1:l.length+1≤9223372036854775807:=by omega
    have h2:(l.length+1)*32≤140737488355328:=by omega
    have h3:l.length+1≤2147483648:=by omega
    simp[GK,h1,h2,h3]
 ·intro hv
  cases l with
  | nil=>simp[GK]
  | cons x l=>simp at hv
end
section
variable {L:Nat→Option PFunc} (hL:∀k f,LS k=some f→L k=some f)
include hL
theorem Md (gs:List (List Decl)) (hg:gs.length≤1100000) (hn:xZ gs≤3300000) (o:Bool) (h:List PObj):∃v h',wj L 33 [.list o (yv wo gs)] h=some (v,h')∧Kp h.length h h'∧RowOf wo 3 h' h.length v gs.flatten:=
 c3A I0 (by decide) (k:=33) (by':=48) (gr:=74) (hL 33 _ rfl) (hL 74 _ rfl) gs hg hn o h
theorem Mb (l:List Decl) (cs:List PV) (hc:cs.take (l.length*3)=(l.map wo).flatMap PV.cells) (hl:l.length*3≤cs.length) (j:Nat) (hj:j<l.length):
  j*3+3≤cs.length∧List.map dem (List.take 3 (List.drop (j*3) cs))=[.str l[j].name,.int .i64 l[j].type,.list false (l[j].clock.map eOn)]∧cs.set (j*3+2) (.list false (l[j].clock.map eOn))=cs:=by
 have _:=hL
 have he:=I0.els l cs hc
 obtain⟨_,hg⟩:=Hq he
 have h1:=hg j (wo l[j]) (by simp[hj])
 simp only[aM,wq,if_true] at h1
 have hb:j*3+3≤cs.length:=by omega
 rw[ah hb,Hh] at h1
 simp only[aa,PV.agg.injEq] at h1
 refine⟨hb,h1,?_⟩
 have cS:j*3+2<cs.length:=by omega
 have hx:cs[j*3+2]? = some (.list false (l[j].clock.map eOn)):=by
  have cU:∀(l:List Decl) (j:Nat) (hj:j<l.length),((l.map wo).flatMap PV.cells)[j*3+2]? = some (.list false (l[j].clock.map eOn)):=by
   intro l
   induction l with
   | nil=>intro j hj; simp at hj
   | cons x l ih =>
     intro j hj
     rw[ax,aG]
     cases j with
     | zero=>rfl
     | succ j =>
       have:=ih j (by simpa using hj)
       have e:(j+1)*3+2=(wo x).cells.length+(j*3+2):=by show _=3+_; omega
       rw[e,ar (by omega),Nat.add_sub_cancel_left]
       simpa using this
  have:=cU l j hj
  rw[← hc,cu (by omega)] at this
  exact this
 obtain⟨h2,h3⟩:=ai.1 hx
 rw[← h3]; exact List.set_getElem_self h2
theorem Mh (n:Node) (h1:n.ins.length≤1100000) (h2:n.outs.length≤1100000) (h3:n.locals.length≤1100000) (hd:∀d∈vars n,d.clock.length≤1100000):∃h',wj L 11 [wE n] []=some (.list false ((vars n).map wo),h'):=by
 suffices H:∃r,wj L 11 [wE n] []=some r∧r.1 = .list false ((vars n).map wo) by
  obtain⟨⟨v,h'⟩,h1,h2⟩:=H
  simp only at h2; subst h2
  exact⟨h',h1⟩
 obtain⟨v,h',hc,_,hr⟩:=Md hL [n.ins,n.outs,n.locals] (by simp) (by simp[xZ,wx]; omega) false []
 have hf:[n.ins,n.outs,n.locals].flatten=vars n:=by simp[vars]
 rw[hf] at hr
 have hx:yv wo [n.ins,n.outs,n.locals]=[.list false (n.ins.map wo),.list false (n.outs.map wo),.list false (n.locals.map wo)]:=rfl
 rw[hx] at hc
 have mf:(vars n).length≤3300000:=by simp[vars]; omega
 obtain⟨D,hD⟩:∃D,D=vars n:=⟨_,rfl⟩
 rw[← hD] at hr hd mf ⊢
 refine Be (hL 11 _ rfl) rfl ?_
 rcases hr with⟨rfl,rfl⟩|⟨k,cs,_,rfl,hk,hl,ht⟩
 ·simp[GI,hc]
  rw[I3,Bf]
  simp[xR]
 ·simp[GI,hc]
  rw[I3]
  refine xc D.length (λj st=>∃y4 y5 g,st=⟨[wE n,.loc 0 (wE n).cells,.list true [],.rowp k 3 true D.length,y4,y5,.rowp k 3 true D.length,.int .i64 D.length,.int .i64 j],[],g,h'⟩) ?_ ?_ ⟨_,_,_,rfl⟩
  ·rintro j hj st ⟨y4,y5,g,rfl⟩ ih
   have hw:=wF j (by omega)
   obtain⟨r1,r2,r3⟩:=Mb hL D cs ht hl j hj
   obtain⟨o,dt⟩:=c4f hL D[j].clock (hd _ (aj hj)) false []
   have wG:h'.set k (.cells cs)=h':=Cl hk
   have r4:j*3+2<cs.length:=by omega
   simp[hj,hw,hk,r1,r2,r3,r4,dt,wG]
   exact ih _ ⟨_,_,_,rfl⟩
  ·rintro st ⟨y4,y5,g,rfl⟩
   simp[xR,hk,I0.els _ _ ht]
end
section
variable {L:Nat→Option PFunc} (hL:∀k f,LS k=some f→L k=some f) (en:List Enum) (ns:List Node) (a b:Int) (ents:xJ)
include hL
theorem Ma (h:List PObj) (hb:4≤h.length):∃h',wj L 58 [.nilptr] h=some (.ptr (h.length+2) 0,h')∧h'.length=h.length+3∧Kp h.length h h'∧TopAt h' h'.length h.length (h.length+2) h.length (h.length+1) (.map none) (.list true []) .nilptr ⟨[],[],[],[]⟩ []:=by
 refine⟨h++[.map [],.map [],.cells [.nilptr,.map (some h.length),.map (some (h.length+1)),.map none,.list true []]],?_,by simp,Kp.app (ao _),?_⟩
 ·refine wD (hL 58 _ rfl) rfl ?_
  simp[EY,PV.cells]
 ·exact⟨by omega,by omega,by omega,by simp,by simp,by simp,by omega,by omega,by omega,hb,by simp,by simp[bmE],by simp[bmE],.inl ⟨rfl,rfl⟩,.inl ⟨rfl,rfl⟩,λ_ _ _ _ e=>by simp at e,rfl⟩
theorem Gx (l m:List Decl):wk (l++m)=wk l++wk m:=by have _:=hL; simp[wk]
theorem b6n (F:List Decl) (hF:F.length≤3300000) (h:List PObj) (q q' n o d:Nat) (i dv up:PV) (fs:List Fr) (t:TopAt h q q' n o d i dv up ⟨[],[],[],[]⟩ fs) (kr:Nat) (sN:q≤kr) (cs:List PV) (hk:h[kr]? = some (.cells cs)) (hl:F.length*3≤cs.length) (ht:cs.take (F.length*3)=(F.map wo).flatMap PV.cells)
  (V0 V1 V2 V3 V5 V6 V10 V11 V12:PV) (g:Nat) {Q:PExit→St→Prop}
  (ok:∀y5 g' h' O,h'.length=h.length→Kp q' h h'→TopAt h' q q' n o d i dv up ⟨O,[],[],[]⟩ fs→(∀x,x∈O↔x∈wk F)→Q (.exit 0) ⟨[V0,V1,V2,V3,.ptr n 0,y5,V6,.rowp kr 3 true F.length,.int .i64 F.length,.int .i64 F.length,V10,V11,V12],[],g',h'⟩):
  wpL L Gy ⟨[V0,V1,V2,V3,.ptr n 0,V5,V6,.rowp kr 3 true F.length,.int .i64 F.length,.int .i64 0,V10,V11,V12],[],g,h⟩ Q:=by
 rw[Gy]
 refine xc F.length (λj st=>∃y5 g' h' O,st=⟨[V0,V1,V2,V3,.ptr n 0,y5,V6,.rowp kr 3 true F.length,.int .i64 F.length,.int .i64 j,V10,V11,V12],[],g',h'⟩∧h'.length=h.length∧Kp q' h h'∧h'[kr]? = some (.cells cs)∧TopAt h' q q' n o d i dv up ⟨O,[],[],[]⟩ fs∧∀x,x∈O↔x∈wk (F.take j)) ?_ ?_ ⟨_,_,h,[],rfl,rfl,Kp.refl _ _,hk,t,by simp[wk]⟩
 ·rintro j hj st ⟨y5,g',h',O,rfl,cO,dg,hk,t,hO⟩ ih
  have hw:=wF j (by omega)
  obtain⟨r1,r2,r3⟩:=Mb hL F cs ht hl j hj
  obtain⟨r,hr,_,gU⟩:=Bs F[j].name O
  have e1:=t.hn
  have e2:=t.ho
  have cZ:t.uo=t.uo:=rfl
  have sO:=t.uo
  simp only[] at e1 e2
  simp[hj,hw,hk,r1,r2,e1,e2,hr,w8]
  refine ih _ ⟨_,_,_,AY O F[j].name,rfl,by simpa using cO,dg.trans (Kp.set t.lo),by rw[aq (by omega)]; exact hk,?_,λx =>?_⟩
  ·rw[gU]
   exact t.setO _
  ·rw[Gz,hO,zL hj,Gx hL,ay]
   simp[wk]
 ·rintro st ⟨y5,g',h',O,rfl,cO,dg,hk,t,hO⟩
  rw[aP] at hO
  simp
  exact ok _ _ _ _ cO dg t hO
theorem Mc (k:Nat) (dr:NodesIn ents ns k) (s:Place) (eK:s.before=ns.take k) (l:List Expr) (hl:l.length≤1100000) (hw:∀x∈l,XW x) (gs:List (List Decl)) (hg:gs.length≤1100000) (hn:xZ gs≤3300000) (dn:∀x,x∈wk gs.flatten↔x∈s.vis) (o1 o2:Bool)
  (h:List PObj) (h4:4≤h.length) (h2:h[2]? = some (wC ents)) (h3:h[3]? = some (ww en ns a b)):
  ∃h',wK L 63 [.ptr 3 0,.int .i64 k,.list o1 (l.map wl),.list o2 (yv wo gs)] h=some (wv 1 a b (wr (λe=>w7 s e 1) l),h')∧Kp h.length h h':=by
 suffices H:∃res,wK L 63 [.ptr 3 0,.int .i64 k,.list o1 (l.map wl),.list o2 (yv wo gs)] h=some res∧∃h',res=(wv 1 a b (wr (λe=>w7 s e 1) l),h')∧Kp h.length h h' by
  obtain⟨res,e1,h',e2,e3⟩:=H
  exact⟨h',by rw[e1,e2],e3⟩
 obtain⟨h1,c1,ee,k1,t1⟩:=Ma hL h h4
 obtain⟨v,hx,c2,k2,hr⟩:=Md hL gs hg hn false h1
 have fk:Kp h.length h hx:=k1.trans (k2.le k1.1)
 have tx:TopAt hx h1.length h.length (h.length+2) h.length (h.length+1) (.map none) (.list true []) .nilptr ⟨[],[],[],[]⟩ []:=t1.keep k2.2
 obtain⟨F,hF⟩:∃F,F=gs.flatten:=⟨_,rfl⟩
 have md:F.length≤3300000:=by rw[hF,Me]; exact hn
 rw[← hF] at hr dn
 have fH:∀(V3 V5 V6 V7 V8 V9:PV) (g:Nat) (h':List PObj) (O:List Str),h1.length≤h'.length→Kp h.length hx h'→TopAt h' h1.length h.length (h.length+2) h.length (h.length+1) (.map none) (.list true []) .nilptr ⟨O,[],[],[]⟩ []→(∀x,x∈O↔x∈wk F) →
   wpL L GA ⟨[.ptr 3 0,.int .i64 k,.list false (l.map wl),V3,.ptr (h.length+2) 0,V5,V6,V7,V8,V9,.list false (l.map wl),.int .i64 l.length,.int .i64 0],[],g,h'⟩ (BQ 2 (De L DP λres=>∃h',res=(wv 1 a b (wr (λe=>w7 s e 1) l),h')∧Kp h.length h h')):=by
  intro V3 V5 V6 V7 V8 V9 g h' O ez dg t hO
  have dh:=fk.trans dg
  refine b6M hL en ns a b ents k dr s eK l hl hw h' ((dh.2 2 (by omega)).trans h2) ((dh.2 3 (by omega)).trans h3) (.ptr (h.length+2) 0) [⟨O,[],[],[]⟩] (t.holds.up ez) (λx=>by simp[xg,hO,dn]) _ _ _ _ _ _ _ _ _ _ _ rfl rfl rfl ?_ ?_
  ·intro hz h'' y6 g' hk''
   rw[hz]
   simp[wv,DP]
   exact dh.trans (hk''.le dh.1)
  ·intro hz h'' W g' hk''
   simp[wv,hz]
   exact dh.trans (hk''.le dh.1)
 refine BR (hL 63 _ rfl) rfl ?_
 rcases hr with⟨rfl,rfl⟩|⟨kr,cs,sN,rfl,hk,dt,qh⟩
 ·simp[DP,c1,c2]
  rw[Gy,Bf]
  simp
  exact fH _ _ _ _ _ _ _ hx [] (by have:=k2.1; omega) (Kp.refl _ _) tx (by simp[wk])
 ·simp[DP,c1,c2]
  refine b6n hL F md hx h1.length h.length _ _ _ _ _ _ [] tx kr sN cs hk dt qh _ _ _ _ _ _ _ _ _ _ ?_
  intro y5 g' h' O cO dg t hO
  simp
  exact fH _ _ _ _ _ _ _ h' O (by have:=k2.1; omega) dg t hO
end
section
variable {h:List PObj} {b b' n o d:Nat} {dv up:PV} {f:Fr} {fs:List Fr}
theorem TopAt.newI (t:TopAt h h.length b' n o d (.map none) dv up f fs) (hd:dv = .list true []) (hI:f.I=[]):
  TopAt ((h++[PObj.map []]).set n (PObj.cells [up,.map (some o),.map (some d),.map (some h.length),dv])) (h.length+1) b' n o d (.map (some h.length)) dv up f fs:=by
 have gy:=t.un
 have sO:=t.uo
 have ua:=t.ud
 have m9:=t.ln
 have key:∀k,k<h.length→k≠n→((h++[PObj.map []]).set n (PObj.cells [up,.map (some o),.map (some d),.map (some h.length),dv]))[k]? = h[k]? := λk h1 h2=>by
  rw[aq (Ne.symm h2),am h1]
 refine⟨t.ln,t.lo,t.ld,by omega,by omega,by omega,t.no,t.nd,t.od,t.four,?_,?_,?_,.inr ⟨h.length,rfl,by omega,by omega,by omega,by omega,by omega,?_⟩,?_,?_,?_⟩
 ·rw[a8 (by simp; omega)]
 ·rw[key o sO (Ne.symm t.no)]; exact t.ho
 ·rw[key d ua (Ne.symm t.nd)]; exact t.hd
 ·rw[hI,aq (by omega)]; simp[bmE]
 ·rcases t.row with h1|⟨k,e1,e2,e3,e4⟩
  ·exact .inl h1
  ·rw[hd] at e3; simp at e3
 ·intro k s a len e; rw[hd] at e; simp at e
 ·exact t.hup.keep λk hk=>key k (by omega) (by omega)
theorem TopAt.setI {m:Nat} (t:TopAt h b b' n o d (.map (some m)) dv up f fs) (I:List Str):h[m]? = some (.map (bmE f.I))∧b'≤m∧TopAt (h.set m (.map (bmE I))) b b' n o d (.map (some m)) dv up { f with I:=I } fs:=by
 have hi:=t.hi
 rcases hi with⟨h1,_⟩|⟨m',e1,e2,e3,e4,e5,e6,e7⟩
 ·simp at h1
 ·simp only[PV.map.injEq,aa] at e1
  subst e1
  have hl:=(ai.1 e7).1
  refine⟨e7,e2,t.ln,t.lo,t.ld,t.un,t.uo,t.ud,t.no,t.nd,t.od,t.four,?_,?_,?_,.inr ⟨m,rfl,e2,e3,e4,e5,e6,by rw[a8 hl]⟩,?_,t.rne,t.hup.keep λk dh=>aq (by omega)⟩
  ·rw[aq e4]; exact t.hn
  ·rw[aq e5]; exact t.ho
  ·rw[aq e6]; exact t.hd
  ·rcases t.row with h1|⟨k,e1,e2,e3,e4⟩
   ·exact .inl h1
   ·exact .inr ⟨k,e1,e2,e3,by rw[aq (λe=>(t.rne _ _ _ _ e3).2.2.2 (by rw[e]))]; exact e4⟩
end
section
variable {L:Nat→Option PFunc} (hL:∀k f,LS k=some f→L k=some f)
include hL
theorem b94 (l:List Decl) (hl:l.length≤1100000) (h:List PObj) (q q' n o d m:Nat) (dv up:PV) (f:Fr) (fs:List Fr) (t:TopAt h q q' n o d (.map (some m)) dv up f fs) (hI:f.I=[])
  (V0 V1 V2 V4 V5 V6 V7 V8 V12 V13 V14 V15 V16 V17 V18 V19 V20:PV) (g:Nat) {Q:PExit→St→Prop}
  (ok:∀y4 g' h' I,h'.length=h.length→Kp q' h h'→TopAt h' q q' n o d (.map (some m)) dv up { f with I:=I } fs→(∀x,x∈I↔x∈wk l)→Q (.exit 0) ⟨[V0,V1,V2,.ptr n 0,y4,V5,V6,V7,V8,.list false (l.map wo),.int .i64 l.length,.int .i64 l.length,V12,V13,V14,V15,V16,V17,V18,V19,V20],[],g',h'⟩):
  wpL L IK ⟨[V0,V1,V2,.ptr n 0,V4,V5,V6,V7,V8,.list false (l.map wo),.int .i64 l.length,.int .i64 0,V12,V13,V14,V15,V16,V17,V18,V19,V20],[],g,h⟩ Q:=by
 rw[IK]
 refine xc l.length (λj st=>∃y4 g' h' I,st=⟨[V0,V1,V2,.ptr n 0,y4,V5,V6,V7,V8,.list false (l.map wo),.int .i64 l.length,.int .i64 j,V12,V13,V14,V15,V16,V17,V18,V19,V20],[],g',h'⟩∧h'.length=h.length∧Kp q' h h'∧TopAt h' q q' n o d (.map (some m)) dv up { f with I:=I } fs∧∀x,x∈I↔x∈wk (l.take j)) ?_ ?_ ⟨_,_,h,[],rfl,rfl,Kp.refl _ _,by rw[← hI]; exact t,by simp[wk]⟩
 ·rintro j hj st ⟨y4,g',h',I,rfl,cO,dg,t,hI⟩ ih
  have hw:=wF j (by omega)
  obtain⟨r,hr,_,gU⟩:=Bs l[j].name I
  have e1:=t.hn
  obtain⟨e2,e3,t2⟩:=t.setI (AY I l[j].name)
  simp only[] at e1 e2
  simp[hj,hw,e1,e2,hr,w8]
  refine ih _ ⟨_,_,_,AY I l[j].name,rfl,by simpa using cO,dg.trans (Kp.set e3),by rw[gU]; exact t2,λx =>?_⟩
  rw[Gz,hI,zL hj,Gx hL,ay]
  simp[wk]
 ·rintro st ⟨y4,g',h',I,rfl,cO,dg,t,hI⟩
  rw[aP] at hI
  simp
  exact ok _ _ _ _ cO dg t hI
theorem b75 (s:Place) (q:Eqn) (qs:List Eqn) (k:Nat) (d:List Str):yP s (q::qs) k d=if (x5 s q d).1=0 then yP s qs (k+1) (x5 s q d).2 else .inl (k,(x5 s q d).1):=by have _:=hL; rfl
variable (en:List Enum) (ns:List Node) (ents:xJ)
theorem b95 (i:Nat) (dr:NodesIn ents ns i) (s:Place) (eK:s.before=ns.take i) (l:List Eqn) (hl:l.length≤1100000) (hq:∀q∈l,QW q) (h:List PObj) (h2:h[2]? = some (wC ents)) (c:Int) (h3:h[3]? = some (ww en ns i c)) (q' n o d:Nat) (iv dv up:PV) (f:Fr) (t:TopAt h h.length q' n o d iv dv up f []) (dn:∀x,xg [f] x=true↔x∈s.vis)
  (hD:f.D=f.df) (dI:∀x,x∈f.I↔x∈s.inputs) (i9:f.df.length+(xl l).length≤4000000) (h0:f.df=[])
  (V2 V4 V5 V6 V7 V8 V9 V10 V11 V15 V16 V17 V18 V19 V20:PV) (g:Nat) {Q:PExit→St→Prop}
  (ok:∀df,yP s l 0 [] = .inr df→∀y5 y6 g' h' c' dv',Kp q' h (h'.set 3 (ww en ns i c))→h'[3]? = some (ww en ns i c')→TopAt h' h'.length q' n o d iv dv' up { f with D:=df,df:=df } []→Q (.exit 2) ⟨[.ptr 3 0,.int .i64 i,V2,.ptr n 0,V4,y5,y6,V7,V8,V9,V10,V11,.list false (l.map wX),.int .i64 l.length,.int .i64 l.length,V15,V16,V17,V18,V19,V20],[],g',h'⟩)
  (no:∀k e,yP s l 0 [] = .inl (k,e)→∀W g' h',Kp q' h (h'.set 3 (ww en ns i c))→Q (.boom (xx 1 i k e)) ⟨W,[],g',h'⟩):
  wpL L IL ⟨[.ptr 3 0,.int .i64 i,V2,.ptr n 0,V4,V5,V6,V7,V8,V9,V10,V11,.list false (l.map wX),.int .i64 l.length,.int .i64 0,V15,V16,V17,V18,V19,V20],[],g,h⟩ Q:=by
 rw[IL]
 have ub:∀{h':List PObj},Kp q' h (h'.set 3 (ww en ns i c))→h'[2]? = some (wC ents):=λ{h'} hk=>by
  have:=hk.2 2 (by have:=t.four; omega)
  rw[aq (by decide)] at this
  exact this.trans h2
 have h4q:=t.four
 refine xc l.length (λj st=>∃y5 y6 g' h' c' dv' df,st=⟨[.ptr 3 0,.int .i64 i,V2,.ptr n 0,V4,y5,y6,V7,V8,V9,V10,V11,.list false (l.map wX),.int .i64 l.length,.int .i64 j,V15,V16,V17,V18,V19,V20],[],g',h'⟩∧Kp q' h (h'.set 3 (ww en ns i c))∧h'[3]? = some (ww en ns i c')∧TopAt h' h'.length q' n o d iv dv' up { f with D:=df,df:=df } []∧yP s l 0 []=yP s (l.drop j) j df∧df.length+(xl (l.drop j)).length≤4000000) ?_ ?_ ⟨_,_,_,h,c,dv,[],rfl,⟨by simp,λk hk=>by
   by_cases gE:k=3
   ·subst gE; rw[a8 (ai.1 h3).1]; exact h3.symm
   ·rw[aq (Ne.symm gE)]⟩,h3,by
   have:({ f with D:=[],df:=[] }:Fr)=f:=by cases f; simp only at hD h0; subst h0; subst hD; rfl
   rw[this]; exact t,rfl,by rw[h0] at i9; simpa using i9⟩
 ·rintro j hj st ⟨y5,y6,g',h',c',dv',df,rfl,dg,eU,t,hd,ez⟩ ih
  have hw:=wF j (by omega)
  have qi:=(ai.1 eU).1
  rw[aZ hj] at hd ez
  rw[b75 hL] at hd
  have nJ:xl (l[j]::l.drop (j+1))=l[j].left++xl (l.drop (j+1)):=by unfold xl; rw[aG]
  rw[nJ,ap] at ez
  have me:(h'.set 3 (ww en ns i j))[3]? = some (ww en ns i j):=by rw[a8 qi]
  have kV:(h'.set 3 (ww en ns i j))[2]? = some (wC ents):=by rw[aq (by decide)]; exact ub dg
  have tH:TopAt (h'.set 3 (ww en ns i j)) (h'.set 3 (ww en ns i j)).length q' n o d iv dv' up { f with D:=df,df:=df } []:=by
   rw[bp]
   have key:∀k,4≤k→(h'.set 3 (ww en ns i j))[k]? = h'[k]? := λk hk=>aq (by omega)
   exact⟨t.ln,t.lo,t.ld,t.un,t.uo,t.ud,t.no,t.nd,t.od,t.four,(key _ (by have:=t.ln; omega)).trans t.hn,(key _ (by have:=t.lo; omega)).trans t.ho,(key _ (by have:=t.ld; omega)).trans t.hd,t.hi.imp id (fun⟨m,e1,e2,e3,e4,e5,e6,e7⟩=>⟨m,e1,e2,e3,e4,e5,e6,(key _ (by omega)).trans e7⟩),t.row.imp id (fun⟨k,e1,e2,e3,e4⟩=>⟨k,e1,e2,e3,(key _ (by omega)).trans e4⟩),t.rne,t.hup⟩
  obtain⟨h'',hx,fk,dN⟩:=Mf hL en ns i j ents i dr s eK l[j] (hq _ (aj hj)) _ kV me q' n o d iv dv' up { f with D:=df,df:=df } [] tH (λx=>by have:=dn x; simpa[xg] using this) [] rfl (λx=>by simp[zc,dI]) (by simp only; omega)
  simp only[aY] at hx dN
  have fI:Kp q' h (h''.set 3 (ww en ns i c)):=by
   refine⟨by have:=dg.1; have:=fk.1; simp at *; omega,λk hk =>?_⟩
   by_cases gE:k=3
   ·subst gE
    have:=fk.1
    rw[a8 (by simp at this; omega)]; exact h3.symm
   ·rw[aq (Ne.symm gE),fk.2 k hk,aq (Ne.symm gE)]
    have:=dg.2 k hk
    rwa [aq (Ne.symm gE)] at this
  have h3'':h''[3]? = some (ww en ns i j):=(fk.2 3 (by omega)).trans me
  have dC:h'.set 3 (.cells [.list false (en.map wA),.list false (ns.map wE),.int .i64 i,.int .i64 j,.map (some 2)])=h'.set 3 (ww en ns i j):=rfl
  have lE:h'[3]? = some (.cells [.list false (en.map wA),.list false (ns.map wE),.int .i64 i,.int .i64 c',.map (some 2)]):=eU
  by_cases hz:(x5 s l[j] df).1=0
  ·rw[ah hz] at hd
   obtain⟨dv2,df2,e1,t2⟩:=dN hz
   rw[hz] at hx
   simp[wv] at hx
   simp[hj,lE,dC,hx,hw]
   have uc:df2.length=df.length+l[j].left.length:=by
    have h1:=(GB.1 (Prod.ext hz e1:x5 s l[j] df=(0,df2))).1
    rw[h1,ap]
   exact ih _ ⟨_,_,_,h'',j,dv2,df2,rfl,fI,h3'',t2,by rw[hd,e1],by omega⟩
  ·rw[af hz] at hd
   simp[wv,hz] at hx
   simp[hj,lE,dC,hx]
   exact no _ _ hd _ _ _ fI
 ·rintro st ⟨y5,y6,g',h',c',dv',df,rfl,dg,eU,t,hd,ez⟩
  rw[bj (ao _)] at hd
  simp
  exact ok df hd _ _ _ _ _ _ dg eU t
end
section
variable {L:Nat→Option PFunc} (hL:∀k f,LS k=some f→L k=some f) (en:List Enum) (ns:List Node) (a b:Int) (ents:xJ)
include hL
theorem b96 (k:Nat) (dr:NodesIn ents ns k) (s:Place) (eK:s.before=ns.take k) (d3:Bt ents s.tags) (l:List (List State)) (hl:l.length≤1100000) (hq:∀x∈l,EZ L en ns a b ents x) (h:List PObj) (h2:h[2]? = some (wC ents)) (h3:h[3]? = some (ww en ns a b)) (q' n o d:Nat) (i dv up:PV) (f:Fr) (fs:List Fr) (t:TopAt h h.length q' n o d i dv up f fs) (dn:∀x,xg (f::fs) x=true↔x∈s.vis)
  (d0:List Str) (hD:f.D=f.df) (dI:∀x,(x∈f.I∨zc fs x=true)↔(x∈s.inputs∨x∈d0)) (i9:f.df.length+(xd l).length≤4000000)
  (V2 V4 V5 V6 V7 V8 V9 V10 V11 V12 V13 V14 V18 V19 V20:PV) (g:Nat) {Q:PExit→St→Prop}
  (ok:(xe s (d0++f.df) l).1=0→∀h' dv' df' y7 g',Kp q' h h'→(xe s (d0++f.df) l).2=d0++df'→TopAt h' h'.length q' n o d i dv' up { f with D:=df',df:=df' } fs→Q (.exit 4) ⟨[.ptr 3 0,.int .i64 k,V2,.ptr n 0,V4,V5,V6,y7,V8,V9,V10,V11,V12,V13,V14,.list false (l.map wY),.int .i64 l.length,.int .i64 l.length,V18,V19,V20],[],g',h'⟩)
  (no:(xe s (d0++f.df) l).1≠0→∀h' W g',Kp q' h h'→Q (.boom (xx 1 a b (xe s (d0++f.df) l).1)) ⟨W,[],g',h'⟩):
  wpL L IM ⟨[.ptr 3 0,.int .i64 k,V2,.ptr n 0,V4,V5,V6,V7,V8,V9,V10,V11,V12,V13,V14,.list false (l.map wY),.int .i64 l.length,.int .i64 0,V18,V19,V20],[],g,h⟩ Q:=by
 have _:=hL
 rw[IM]
 refine xc l.length (λj st=>∃y7 g' h' dv' df',st=⟨[.ptr 3 0,.int .i64 k,V2,.ptr n 0,V4,V5,V6,y7,V8,V9,V10,V11,V12,V13,V14,.list false (l.map wY),.int .i64 l.length,.int .i64 j,V18,V19,V20],[],g',h'⟩∧Kp q' h h'∧TopAt h' h'.length q' n o d i dv' up { f with D:=df',df:=df' } fs∧xe s (d0++f.df) l=xe s (d0++df') (l.drop j)∧df'.length+(xd (l.drop j)).length=f.df.length+(xd l).length) ?_ ?_ ⟨_,_,h,dv,f.df,rfl,Kp.refl _ _,by rw[Fr.same hD]; exact t,rfl,rfl⟩
 ·rintro j hj st ⟨y7,g',h',dv',df',rfl,dg,ht,di,cO⟩ ih
  have hw:=wF j (by omega)
  have fl:h'[2]? = some (wC ents):=(dg.2 2 (by have:=ht.four; omega)).trans h2
  have eU:h'[3]? = some (ww en ns a b):=(dg.2 3 (by have:=ht.four; omega)).trans h3
  have qj:(xd (l.drop j)).length=(xd [l[j]]).length+(xd (l.drop (j+1))).length:=by
   rw[aZ hj,Df,Df]; simp[xd]
  obtain⟨h'',hx,fk,kH⟩:=hq _ (aj hj) k dr s eK d3 h' fl eU q' n o d i dv' up _ fs ht (by intro x; exact dn x) d0 rfl dI (by simp only; omega)
  simp only at hx kH
  rw[aZ hj,IN] at di
  by_cases hz:(yQ s (d0++df') l[j]).1=0
  ·obtain⟨dv'',df'',ep,gj⟩:=kH hz
   have gV:xe s (d0++f.df) l=xe s (d0++df'') (l.drop (j+1)):=by
    rw[di]
    unfold yd
    rw[ah hz]
    exact aF (λz=>xe s z (l.drop (j+1))) ep
   have eb:df''.length=df'.length+(xd [l[j]]).length:=by
    rw[Mg hz] at ep
    have:=aF List.length ep
    simp at this
    omega
   rw[hz] at hx
   simp[wv] at hx
   simp[hj,hx,hw]
   exact ih _ ⟨_,_,h'',dv'',df'',rfl,dg.trans fk,gj,gV,by omega⟩
  ·rw[Ak hz] at di
   simp[wv,hz] at hx
   simp[hj,hx]
   have:=no (by rw[di]; exact hz) h''
   rw[di] at this
   exact this _ _ (dg.trans fk)
 ·rintro st ⟨y7,g',h',dv',df',rfl,dg,ht,di,cO⟩
  rw[bj (ao _)] at di
  simp
  exact ok (by rw[di]; simp[xe]) h' dv' df' y7 g' dg (by rw[di]; simp[xe]) ht
theorem b97 (l:List Decl) (hl:l.length≤3300000) (h:List PObj) (h3:h[3]? = some (ww en ns a b)) (q q' n o d:Nat) (i dv up:PV) (f:Fr) (fs:List Fr) (t:TopAt h q q' n o d i dv up f fs)
  (V1 V2 V4 V5 V6 V7 V8 V9 V10 V11 V12 V13 V14 V15 V16 V17:PV) (g:Nat) {Q:PExit→St→Prop}
  (ok:(∀x∈wk l,x∈f.D)→∀y8 g',Q (.exit 6) ⟨[.ptr 3 0,V1,V2,.ptr n 0,V4,V5,V6,V7,y8,V9,V10,V11,V12,V13,V14,V15,V16,V17,.list false (l.map wo),.int .i64 l.length,.int .i64 l.length],[],g',h⟩)
  (no:¬(∀x∈wk l,x∈f.D)→∀W g',Q (.boom (xx 1 a b 8)) ⟨W,[],g',h⟩):
  wpL L IP ⟨[.ptr 3 0,V1,V2,.ptr n 0,V4,V5,V6,V7,V8,V9,V10,V11,V12,V13,V14,V15,V16,V17,.list false (l.map wo),.int .i64 l.length,.int .i64 0],[],g,h⟩ Q:=by
 have hT:=BS hL en ns a b h h3 8
 have hF:=BT hL en ns a b h h3 8
 have hn:=t.hn
 have hd:=t.hd
 rw[IP]
 refine xc l.length (λj st=>∃y8 g',st=⟨[.ptr 3 0,V1,V2,.ptr n 0,V4,V5,V6,V7,y8,V9,V10,V11,V12,V13,V14,V15,V16,V17,.list false (l.map wo),.int .i64 l.length,.int .i64 j],[],g',h⟩∧∀x∈wk (l.take j),x∈f.D) ?_ ?_ ⟨_,_,rfl,by simp[wk]⟩
 ·rintro j hj st ⟨y8,g',rfl,dH⟩ ih
  have hw:=wF j (by omega)
  obtain⟨r,hr,eY,_⟩:=Bs l[j].name f.D
  have gk:wk (l.take (j+1))=wk (l.take j)++[l[j].name]:=by rw[zL hj,Gx hL]; rfl
  by_cases hx:l[j].name∈f.D
  ·simp[hx] at eY
   obtain⟨c,rfl⟩:=eY
   simp[hj,hn,hd,hr,w8,hT,hw]
   refine ih _ ⟨_,_,rfl,?_⟩
   rw[gk]
   intro x hm
   rcases ay.1 hm with h1|h1
   ·exact dH x h1
   ·rw[bF.1 h1]; exact hx
  ·simp[hx] at eY
   subst eY
   simp[hj,hn,hd,hr,w8,hF]
   exact no (λdJ=>hx (dJ _ (by unfold wk; exact bc.2 ⟨_,aj hj,rfl⟩))) _ _
 ·rintro st ⟨y8,g',rfl,dH⟩
  rw[aP] at dH
  simp
  exact ok dH _ _
end
theorem TopAt.low {h:List PObj} {b b' n o d:Nat} {i dv up:PV} {f:Fr} (t:TopAt h b b' n o d i dv up f []) (k:Nat) (hk:k<4) (ob:PObj):TopAt (h.set k ob) b b' n o d i dv up f []:=by
 have key:∀j,4≤j→(h.set k ob)[j]? = h[j]? := λj hj=>aq (by omega)
 have h4:=t.four
 exact⟨t.ln,t.lo,t.ld,t.un,t.uo,t.ud,t.no,t.nd,t.od,t.four,(key _ (by have:=t.ln; omega)).trans t.hn,(key _ (by have:=t.lo; omega)).trans t.ho,(key _ (by have:=t.ld; omega)).trans t.hd,t.hi.imp id (fun⟨m,e1,e2,e3,e4,e5,e6,e7⟩=>⟨m,e1,e2,e3,e4,e5,e6,(key _ (by omega)).trans e7⟩),t.row.imp id (fun⟨k,e1,e2,e3,e4⟩=>⟨k,e1,e2,e3,(key _ (by omega)).trans e4⟩),t.rne,t.hup⟩
def GC (ents:xJ) (ns:List Node) (i:Nat):Prop:=∀x,((1:Int),x)∈yR ents↔x∈(ns.take i).map (·.name)
section
variable {L:Nat→Option PFunc} (hL:∀k f,LS k=some f→L k=some f) (en:List Enum) (ns:List Node) (a b:Int) (ents:xJ)
include hL
theorem c6t (i:Nat) (hi:i<ns.length) (gW:ns.length≤1100000) (hn:NW ns[i]) (nK:ns[i].parts≤1100000) (fg:∀d∈ns[i].ins++ns[i].outs,d.clock=[]) (tags:List Str) (d3:Bt ents tags) (dr:NodesIn ents ns i) (ja:GC ents ns i) (h:List PObj) (h4:4≤h.length) (h2:h[2]? = some (wC ents)) (h3:h[3]? = some (ww en ns a b)):
  ∃h',wK L 29 [.ptr 3 0,.int .i64 i] h=some (xK 1 (zk (ns.take i) tags ns[i]),h')∧h'[0]? = h[0]?∧h'[1]? = h[1]?∧4≤h'.length∧(zk (ns.take i) tags ns[i]=none→h'[2]? = some (wC (ents++[((1,ns[i].name),(i:Int))]))∧h'[3]? = some (ww en ns i (-1))):=by
 obtain⟨N,hN⟩:∃N,N=ns[i]:=⟨_,rfl⟩
 rw[← hN] at hn nK fg ⊢
 have cO:(ns.take i).length=i:=by simp; omega
 obtain⟨R,hR⟩:∃R,R=zk (ns.take i) tags N:=⟨_,rfl⟩
 rw[← hR]
 suffices H:∃res,wK L 29 [.ptr 3 0,.int .i64 i] h=some res∧∃h',res=(xK 1 R,h')∧h'[0]? = h[0]?∧h'[1]? = h[1]?∧4≤h'.length∧(R=none→h'[2]? = some (wC (ents++[((1,N.name),(i:Int))]))∧h'[3]? = some (ww en ns i (-1))) by
  obtain⟨res,e1,h',e2,e3⟩:=H
  exact⟨h',by rw[e1,e2],e3⟩
 have lE:h[3]? = some (.cells [.list false (en.map wA),.list false (ns.map wE),.int .i64 a,.int .i64 b,.map (some 2)]):=h3
 have hA:∀X:PObj,(h++[X])[3]? = some (.cells [.list false (en.map wA),.list false (ns.map wE),.int .i64 a,.int .i64 b,.map (some 2)]):=λX=>by rw[am (by omega)]; exact lE
 obtain⟨H1,lF⟩:∃H1,(h++[PObj.cells [.str N.name,.list false (N.ins.map wo),.list false (N.outs.map wo),.list false (N.locals.map wo),.list false (N.eqs.map wX),.list false (N.autos.map wY),.list false (N.assume.map wl),.list false (N.ensure.map wl)]]).set 3 (PObj.cells [.list false (en.map wA),.list false (ns.map wE),.int .i64 i,.int .i64 (-1),.map (some 2)])=H1:=⟨_,rfl⟩
 have H1l:H1.length=h.length+1:=by rw[← lF]; simp
 have H1k:∀k,k<h.length→k≠3→H1[k]? = h[k]? := λk h1 h2=>by rw[← lF,aq (Ne.symm h2),am h1]
 have H13:H1[3]? = some (ww en ns i (-1)):=by rw[← lF,a8 (by simp; omega)]; rfl
 have H12:H1[2]? = some (wC ents):=(H1k 2 (by omega) (by decide)).trans h2
 have H1n:H1[h.length]? = some (.cells [.str N.name,.list false (N.ins.map wo),.list false (N.outs.map wo),.list false (N.locals.map wo),.list false (N.eqs.map wX),.list false (N.autos.map wY),.list false (N.assume.map wl),.list false (N.ensure.map wl)]):=by rw[← lF,aq (by omega)]; simp
 have nL:∀d∈vars N,DW d:=by
  intro d hd
  unfold vars at hd
  rcases ay.1 hd with hd|hd
  ·rcases ay.1 hd with hd|hd
   ·exact hn.is d hd
   ·exact hn.os d hd
  ·exact hn.ls d hd
 have mf:(vars N).length≤3300000:=by have:=hn.ins; have:=hn.outs; have:=hn.locals; simp[vars]; omega
 by_cases kW:N.name∈(ns.take i).map (·.name)
 ·have ue:R=some ⟨i,-1,7⟩:=by rw[hR]; unfold zk; rw[ah kW,cO]
  have dK:=IQ hL en ns i (-1) H1 H13 ents H12 (1,N.name) i ((ja _).2 kW)
  have eZ:zy (1,N.name) = .agg [.int .i64 1,.str N.name]:=rfl
  rw[eZ] at dK
  refine BR (hL 29 _ rfl) rfl ?_
  simp[DQ,lE,hi,← hN,hA,lF,H1n,dK,ue,xK]
  exact⟨H1k 0 (by omega) (by decide),H1k 1 (by omega) (by decide),by omega⟩
 have dK:=IR hL en ns i (-1) H1 H13 ents H12 (1,N.name) i (λhh=>kW ((ja _).1 hh))
 have eZ:zy (1,N.name) = .agg [.int .i64 1,.str N.name]:=rfl
 rw[eZ] at dK
 obtain⟨ents',jN⟩:∃e,e=ents++[((1,N.name),(i:Int))]:=⟨_,rfl⟩
 rw[← jN] at dK ⊢
 obtain⟨H3,me⟩:∃H3,H3=H1.set 2 (wC ents'):=⟨_,rfl⟩
 rw[← me] at dK
 have H3l:H3.length=h.length+1:=by rw[me]; simpa using H1l
 have H3k:∀k,k<H1.length→k≠2→H3[k]? = H1[k]? := λk h1 h2=>by rw[me,aq (Ne.symm h2)]
 have H32:H3[2]? = some (wC ents'):=by rw[me,a8 (by omega)]
 have H33:H3[3]? = some (ww en ns i (-1)):=(H3k 3 (by omega) (by decide)).trans H13
 have H3n:=(H3k h.length (by omega) (by omega)).trans H1n
 have H30:H3[0]? = h[0]? := (H3k 0 (by omega) (by decide)).trans (H1k 0 (by omega) (by decide))
 have H31:H3[1]? = h[1]? := (H3k 1 (by omega) (by decide)).trans (H1k 1 (by omega) (by decide))
 have nM:Bt ents' tags:=by
  intro x
  rw[jN,← d3 x]
  simp[yR]
 have gF:NodesIn ents' ns i:=by
  have jr:∀x:Str,yw (1,x) ents'=(yw (1,x) ents).or (if x=N.name then some (i:Int) else none):=by
   intro x
   rw[jN]
   generalize ents=l
   induction l with
   | nil=>by_cases hx:x=N.name<;>simp[yw,hx]
   | cons y l ih =>
     simp only[aL,yw]
     by_cases hy:((1:Int),x)=y.1
     ·rw[ah hy,ah hy]; rfl
     ·rw[af hy,af hy]; exact ih
  intro x
  have hx:=dr x
  cases hc:callee (ns.take i) x with
  | none =>
    rw[hc] at hx
    simp only at hx ⊢
    intro c eL
    rw[jr] at eL
    cases he:yw (1,x) ents with
    | some z =>
      rw[he] at eL
      have eL:z=c:=by simpa using eL
      subst eL
      exact hx z he
    | none =>
      rw[he] at eL
      rw[Option.none_or] at eL
      split at eL
      ·have:(i:Int)=c:=by simpa using eL
       omega
      ·simp at eL
  | some m =>
    rw[hc] at hx
    obtain⟨j,e1,e2,e3⟩:=hx
    exact⟨j,by rw[jr,e1]; rfl,e2,e3⟩
 obtain⟨H4,dI,H4l,K4,t4⟩:=Ma hL H3 (by omega)
 obtain⟨H5,na⟩:∃H5,(H4++[PObj.map []]).set (H3.length+2) (PObj.cells [.nilptr,.map (some H3.length),.map (some (H3.length+1)),.map (some H4.length),.list true []])=H5:=⟨_,rfl⟩
 have e5:(H4++[PObj.map []])[H3.length+2]? = some (.cells [.nilptr,.map (some H3.length),.map (some (H3.length+1)),.map none,.list true []]):=by rw[am (by omega)]; exact t4.hn
 have t5:=t4.newI rfl rfl
 rw[na] at t5
 have H5l:H5.length=H4.length+1:=by rw[← na]; simp
 rw[← H5l] at t5
 have K5:Kp H3.length H3 H5:=by
  refine⟨by omega,λk hk =>?_⟩
  rw[← na,aq (by omega),am (by omega)]
  exact K4.2 k hk
 have at5:∀{H:List PObj},Kp H3.length H3 H→H[2]? = some (wC ents')∧H[3]? = some (ww en ns i (-1))∧H[0]? = h[0]?∧H[1]? = h[1]?∧4≤H.length∧H[h.length]? = some (.cells [.str N.name,.list false (N.ins.map wo),.list false (N.outs.map wo),.list false (N.locals.map wo),.list false (N.eqs.map wX),.list false (N.autos.map wY),.list false (N.assume.map wl),.list false (N.ensure.map wl)]):=λ{H} hk=>
  ⟨(hk.2 2 (by omega)).trans H32,(hk.2 3 (by omega)).trans H33,(hk.2 0 (by omega)).trans H30,(hk.2 1 (by omega)).trans H31,by have:=hk.1; omega,(hk.2 _ (by omega)).trans H3n⟩
 obtain⟨a52,a53,a50,a51,a54,a5n⟩:=at5 K5
 obtain⟨hv,v1⟩:=Mh hL N hn.ins hn.outs hn.locals (λd hd=>(nL d hd).clock)
 obtain⟨H6,O,gG,K6,H6l,t6,qk⟩:=Mi hL en ns i (-1) ents' tags nM (vars N) mf false H5 a52 a53 _ _ _ _ _ _ _ _ _ _ t5 [] (λx=>by simp[xg])
 have K6':=K5.trans K6
 obtain⟨a62,a63,a60,a61,a64,a6n⟩:=at5 K6'
 have hE:zk (ns.take i) tags N=if (xM [] tags (vars N)).1≠0 then some ⟨i,-1,(xM [] tags (vars N)).1⟩ else match yP ⟨ns.take i,(xM [] tags (vars N)).2,wk N.ins,tags⟩ N.eqs 0 [] with
   | .inl (k,e)=>some ⟨i,k,e⟩
   | .inr d =>
     if (xe ⟨ns.take i,(xM [] tags (vars N)).2,wk N.ins,tags⟩ d N.autos).1≠0 then some ⟨i,-1,(xe ⟨ns.take i,(xM [] tags (vars N)).2,wk N.ins,tags⟩ d N.autos).1⟩
     else if wr (λe=>w7 ⟨ns.take i,wk N.ins,wk N.ins,tags⟩ e 1) N.assume≠0 then some ⟨i,-1,wr (λe=>w7 ⟨ns.take i,wk N.ins,wk N.ins,tags⟩ e 1) N.assume⟩
     else if wr (λe=>w7 ⟨ns.take i,wk N.ins++wk N.outs,wk N.ins,tags⟩ e 1) N.ensure≠0 then some ⟨i,-1,wr (λe=>w7 ⟨ns.take i,wk N.ins++wk N.outs,wk N.ins,tags⟩ e 1) N.ensure⟩
     else if xq (wk N.outs++wk N.locals) (xe ⟨ns.take i,(xM [] tags (vars N)).2,wk N.ins,tags⟩ d N.autos).2=[] then none else some ⟨i,-1,8⟩:=by
  unfold zk
  rw[af kW,cO]
  rfl
 rw[hE] at hR
 refine BR (hL 29 _ rfl) rfl ?_
 by_cases nb:(xj tags (vars N) []).1=0
 ·obtain⟨qm,hO6⟩:=qk nb
  obtain⟨vis,dn⟩:∃vis,vis=(xj tags (vars N) []).2:=⟨_,rfl⟩
  rw[← dn] at qm
  have jO:=Mj hL en ns i (-1) N.locals (by have:=hn.locals; omega) hn.ls false H6 a63 _ _ _ t6.holds vis qm
  have ic:Bg vis (vars N)=Bg vis N.locals:=by
   unfold Bg vars
   rw[Mk]
   have:wr (λd:Decl=>wr (λo:On=>need (decide (o.name∈vis)) 6) d.clock) (N.ins++N.outs)=0:=yS.2 λd hd=>by rw[fg d hd]; rfl
   rw[this]; rfl
  have qn:xM [] tags (vars N)=(Bg vis N.locals,vis):=by
   unfold xM yd
   rw[ah nb,← dn]
   exact aF (λz=>(z,vis)) ic
  rw[qn] at hR
  rw[nb] at gG
  simp[wv] at gG
  by_cases qo:Bg vis N.locals=0
  ·rw[qo] at hR jO
   simp only[ne_eq,bA,if_false] at hR
   simp[wv] at jO
   obtain⟨S,hS⟩:∃S:Place,S=⟨ns.take i,vis,wk N.ins,tags⟩:=⟨_,rfl⟩
   rw[← hS] at hR
   simp[DQ,lE,hi,← hN,hA,lF,H1n,dK,dI,e5,na,a5n,v1,gG,a6n,jO]
   have t6':TopAt H6 H5.length H3.length (H3.length+2) H3.length (H3.length+1) (.map (some H4.length)) (.list true []) .nilptr ⟨O,[],[],[]⟩ []:=t6
   have qq:N.parts=1+wx Decl.parts N.ins+wx Decl.parts N.outs+wx Decl.parts N.locals+wx Eqn.parts N.eqs+wx (λe=>1+Expr.parts e) N.assume+wx (λe=>1+Expr.parts e) N.ensure+Al N.autos:=rfl
   have mg:=IS N.eqs
   have hdp:=IT N.autos (λa ha x hx=>GD x)
   refine b94 hL N.ins hn.ins H6 H5.length H3.length _ _ _ H4.length _ _ _ [] t6' rfl _ _ _ _ _ _ _ _ _ _ _ _ _ _ _ _ _ _ ?_
   intro y4 g7 H7 I H7l K7 t7 hI
   obtain⟨a72,a73,a70,a71,a74,a7n⟩:=at5 (K6'.trans K7)
   have H7l':H5.length=H7.length:=by omega
   rw[H7l'] at t7
   have t7':TopAt H7 H7.length H3.length (H3.length+2) H3.length (H3.length+1) (.map (some H4.length)) (.list true []) .nilptr ⟨O,[],I,[]⟩ []:=t7
   have jI:∀D df x,xg [(⟨O,D,I,df⟩:Fr)] x=true↔x∈S.vis:=λD df x=>by have:=qm x; rw[hS]; simpa[xg] using this
   simp[a7n]
   refine b95 hL en ns ents' i gF S (by rw[hS]) N.eqs hn.eqs hn.es H7 a72 (-1) a73 H3.length _ _ _ _ _ _ _ t7' (jI _ _) rfl (λx=>by rw[hS]; exact hI x) (by simp only[bB]; omega) rfl _ _ _ _ _ _ _ _ _ _ _ _ _ _ _ _ ?_ ?_
   ·intro df eV y5 y6 g8 H8 c8 dv8 K8 uf t8
    rw[eV] at hR
    simp only at hR
    have ug:df.length≤1100000:=by
     have h1:=((Dg S N.eqs [] df).1 ((Ml S N.eqs 0 [] df).1 eV)).1
     rw[h1,aY]; omega
    have qt:H8[3]? = some (.cells [.list false (en.map wA),.list false (ns.map wE),.int .i64 i,.int .i64 c8,.map (some 2)]):=uf
    obtain⟨H9,pK⟩:∃H9,H8.set 3 (PObj.cells [.list false (en.map wA),.list false (ns.map wE),.int .i64 i,.int .i64 (-1),.map (some 2)])=H9:=⟨_,rfl⟩
    have K9:Kp H3.length H7 H9:=by rw[← pK]; exact K8
    have t9:TopAt H9 H9.length H3.length (H3.length+2) H3.length (H3.length+1) (.map (some H4.length)) dv8 .nilptr ⟨O,df,I,df⟩ []:=by
     have:=t8.low 3 (by decide) (PObj.cells [.list false (en.map wA),.list false (ns.map wE),.int .i64 i,.int .i64 (-1),.map (some 2)])
     rw[pK] at this
     have hl:H8.length=H9.length:=by rw[← pK]; simp
     rw[hl] at this
     exact this
    obtain⟨a92,a93,a90,a91,a94,a9n⟩:=at5 ((K6'.trans K7).trans K9)
    simp[qt,pK,a9n]
    refine b96 hL en ns i (-1) ents' i gF S (by rw[hS]) (by rw[hS]; exact nM) N.autos hn.autos.len (λx hx=>c4e hL en ns i (-1) ents' x (hn.autos.as x hx) (hn.autos.ss x hx) (λy hy=>by
     have h1:BU x≤Al N.autos:=by
      rw[E0,DR]
      have:=Ci (λa=>1+wx State.parts a) hx
      omega
     have h2:y.parts≤BU x:=by rw[DR]; exact Ci _ hy
     omega)) H9 a92 a93 H3.length _ _ _ _ _ _ _ [] t9 (jI _ _) [] rfl (λx=>by rw[hS]; simp[zc,hI]) (by simp only; omega) _ _ _ _ _ _ _ _ _ _ _ _ _ _ _ _ ?_ ?_
    ·intro hz kX dv10 df10 y7 g10 K10 lG t10
     simp only[aY] at hz lG
     have t10':TopAt kX kX.length H3.length (H3.length+2) H3.length (H3.length+1) (.map (some H4.length)) dv10 .nilptr ⟨O,df10,I,df10⟩ []:=t10
     rw[hz,lG] at hR
     simp only[ne_eq,bA,if_false] at hR
     have K10':=((K6'.trans K7).trans K9).trans K10
     obtain⟨a102,a103,a100,a101,a104,a10n⟩:=at5 K10'
     obtain⟨H11,c11,K11⟩:=Mc hL en ns i (-1) ents' i gF ⟨ns.take i,wk N.ins,wk N.ins,tags⟩ rfl N.assume hn.assume hn.as [N.ins] (by simp) (by simp[xZ,wx]; have:=hn.ins; omega) (λx=>by simp) false false kX a104 a102 a103
     have kI:yv wo [N.ins]=[.list false (N.ins.map wo)]:=rfl
     rw[kI] at c11
     have K11':=K10'.trans (K11.le K10'.1)
     by_cases mh:wr (λe=>w7 ⟨ns.take i,wk N.ins,wk N.ins,tags⟩ e 1) N.assume=0
     ·rw[mh] at hR c11
      simp only[bA,if_false] at hR
      simp[wv] at c11
      obtain⟨a112,a113,a110,a111,a114,a11n⟩:=at5 K11'
      obtain⟨H12,c12,K12⟩:=Mc hL en ns i (-1) ents' i gF ⟨ns.take i,wk N.ins++wk N.outs,wk N.ins,tags⟩ rfl N.ensure hn.ensure hn.gs [N.ins,N.outs] (by simp) (by simp[xZ,wx]; have:=hn.ins; have:=hn.outs; omega) (λx=>by simp[wk]) false false H11 a114 a112 a113
      have gX:yv wo [N.ins,N.outs]=[.list false (N.ins.map wo),.list false (N.outs.map wo)]:=rfl
      rw[gX] at c12
      have K12':=K11'.trans (K12.le K11'.1)
      by_cases mi:wr (λe=>w7 ⟨ns.take i,wk N.ins++wk N.outs,wk N.ins,tags⟩ e 1) N.ensure=0
      ·rw[mi] at hR c12
       simp only[bA,if_false] at hR
       simp[wv] at c12
       obtain⟨a122,a123,a120,a121,a124,a12n⟩:=at5 K12'
       have t12:=t10'.keep (K11.trans (K12.le K11.1)).2
       have qu:N.ins.length≤(vars N).length:=by simp[vars]
       have nN:List.drop N.ins.length (List.take (vars N).length (List.map wo (vars N)))=(N.outs++N.locals).map wo:=by
        rw[bW (by simp),← List.map_drop]
        congr 1
        simp[vars]
       obtain⟨G,hG⟩:∃G,G=N.outs++N.locals:=⟨_,rfl⟩
       have uh:wk G=wk N.outs++wk N.locals:=by rw[hG,Gx hL]
       have ui:G.length≤3300000:=by rw[hG]; have:=hn.outs; have:=hn.locals; simp; omega
       rw[← hG] at nN
       rw[← uh] at hR
       simp[a10n,c11,a11n,c12,a12n,v1,qu,nN]
       refine b97 hL en ns i (-1) G ui H12 a123 _ _ _ _ _ _ _ _ _ _ t12 _ _ _ _ _ _ _ _ _ _ _ _ _ _ _ _ _ ?_ ?_
       ·intro dJ y8 g'
        rw[ah (DS.2 dJ)] at hR
        simp[hR,xK]
        exact⟨a120,a121,a124,a122,a123⟩
       ·intro dJ W g'
        rw[af (λhh=>dJ (DS.1 hh))] at hR
        simp[hR,xK]
        exact⟨a120,a121,a124⟩
      ·rw[ah mi] at hR
       simp[wv,mi] at c12
       simp[a10n,c11,a11n,c12,hR,xK]
       obtain⟨_,_,b0,b1,b4,_⟩:=at5 K12'
       exact⟨b0,b1,b4⟩
     ·rw[ah mh] at hR
      simp[wv,mh] at c11
      simp[a10n,c11,hR,xK]
      obtain⟨_,_,b0,b1,b4,_⟩:=at5 K11'
      exact⟨b0,b1,b4⟩
    ·intro hz h' W g' K'
     simp only[aY] at hz
     rw[ah hz] at hR
     obtain⟨b2,b3,b0,b1,b4,bn⟩:=at5 (((K6'.trans K7).trans K9).trans K')
     simp[hR,xK]
     exact⟨b0,b1,b4⟩
   ·intro k e ne W g' H' K'
    rw[ne] at hR
    simp only at hR
    obtain⟨b2,b3,b0,b1,b4,bn⟩:=at5 ((K6'.trans K7).trans K')
    rw[aq (by decide)] at b0 b1
    simp[hR,xK]
    exact⟨b0,b1,by simpa using b4⟩
  ·simp only[ne_eq,qo,cy,if_true] at hR
   simp[wv,qo] at jO
   simp[DQ,lE,hi,← hN,hA,lF,H1n,dK,dI,e5,na,a5n,v1,gG,a6n,jO,hR,xK]
   exact⟨a60,a61,a64⟩
 ·have qn:(xM [] tags (vars N)).1=(xj tags (vars N) []).1:=by unfold xM yd; rw[af nb]
  rw[qn,ah nb] at hR
  simp[wv,nb] at gG
  simp[DQ,lE,hi,← hN,hA,lF,H1n,dK,dI,e5,na,a5n,v1,gG,hR,xK]
  exact⟨a60,a61,a64⟩
end
structure EnumKeys (ents:xJ) (T Nm:List Str):Prop where
 tags:∀x,((0:Int),x)∈yR ents↔x∈T
 nodes:∀x,((1:Int),x)∉yR ents
 types:∀x,((2:Int),x)∈yR ents↔x∈Nm
theorem EnumKeys.tag {ents:xJ} {T Nm:List Str} (h:EnumKeys ents T Nm) (s:Str) (i:Int):EnumKeys (ents++[((0,s),i)]) (T++[s]) Nm:=by
 have hk:∀k,k∈yR (ents++[(((0:Int),s),i)])↔k∈yR ents∨k=(0,s):=by simp[yR]
 refine⟨λx =>?_,λx =>?_,λx =>?_⟩
 ·rw[hk,h.tags]; simp
 ·rw[hk]; simp[h.nodes x]
 ·rw[hk,h.types]; simp
theorem EnumKeys.type {ents:xJ} {T Nm:List Str} (h:EnumKeys ents T Nm) (s:Str) (i:Int):EnumKeys (ents++[((2,s),i)]) T (Nm++[s]):=by
 have hk:∀k,k∈yR (ents++[(((2:Int),s),i)])↔k∈yR ents∨k=(2,s):=by simp[yR]
 refine⟨λx =>?_,λx =>?_,λx =>?_⟩
 ·rw[hk,h.tags]; simp
 ·rw[hk]; simp[h.nodes x]
 ·rw[hk,h.types]; simp
section
variable {L:Nat→Option PFunc} (hL:∀k f,LS k=some f→L k=some f) (en:List Enum) (ns:List Node)
include hL
theorem b76 (i:Nat) (l:List Str) (hl:l.length≤1100000) (T Nm:List Str) (hT:T.Nodup) (ents:xJ) (hk:EnumKeys ents T Nm) (c0 c1:PObj) (V0 V1 V2 V3 V4 V5 V8 V9 V10 V11 V12 V13 V14 V18 V19:PV) (g:Nat) {Q:PExit→St→Prop}
  (ok:(T++l).Nodup→∀y9 ents',EnumKeys ents' (T++l) Nm→Q (.exit 2) ⟨[V0,V1,V2,V3,V4,V5,.ptr 3 0,.int .i64 i,V8,y9,V10,V11,V12,V13,V14,.list false (l.map .str),.int .i64 l.length,.int .i64 l.length,V18,V19],[],g,[c0,c1,wC ents',ww en ns (-1) (-1)]⟩)
  (no:¬(T++l).Nodup→∀W o2 o3,W[2]? = some V2→W[3]? = some V3→Q (.boom (xx 1 (-1) (-1) 7)) ⟨W,[],g,[c0,c1,o2,o3]⟩):
  wpL L IU ⟨[V0,V1,V2,V3,V4,V5,.ptr 3 0,.int .i64 i,V8,V9,V10,V11,V12,V13,V14,.list false (l.map .str),.int .i64 l.length,.int .i64 0,V18,V19],[],g,[c0,c1,wC ents,ww en ns (-1) (-1)]⟩ Q:=by
 rw[IU]
 refine xc l.length (λj st=>∃y9 ents',st=⟨[V0,V1,V2,V3,V4,V5,.ptr 3 0,.int .i64 i,V8,y9,V10,V11,V12,V13,V14,.list false (l.map .str),.int .i64 l.length,.int .i64 j,V18,V19],[],g,[c0,c1,wC ents',ww en ns (-1) (-1)]⟩∧EnumKeys ents' (T++l.take j) Nm∧∀k (hk:k<l.length),k<j→l[k]∉T++l.take k) ?_ ?_ ⟨_,ents,rfl,by simpa using hk,λk _ h=>by omega⟩
 ·rintro j hj st ⟨y9,ents',rfl,hk,dH⟩ ih
  have hw:=wF j (by omega)
  by_cases hd:l[j]∈T++l.take j
  ·have dK:=IQ hL en ns (-1) (-1) [c0,c1,wC ents',ww en ns (-1) (-1)] rfl ents' rfl (0,l[j]) i ((hk.tags _).2 hd)
   have eZ:zy (0,l[j]) = .agg [.int .i64 0,.str l[j]]:=rfl
   rw[eZ] at dK
   simp[hj,dK]
   exact no (λhn=>(Mm.1 hn).2 j hj hd) _ _ _ rfl rfl
  ·have dK:=IR hL en ns (-1) (-1) [c0,c1,wC ents',ww en ns (-1) (-1)] rfl ents' rfl (0,l[j]) i (λhh=>hd ((hk.tags _).1 hh))
   have eZ:zy (0,l[j]) = .agg [.int .i64 0,.str l[j]]:=rfl
   have dC:[c0,c1,wC ents',ww en ns (-1) (-1)].set 2 (wC (ents'++[((0,l[j]),(i:Int))]))=[c0,c1,wC (ents'++[((0,l[j]),(i:Int))]),ww en ns (-1) (-1)]:=rfl
   rw[eZ,dC] at dK
   simp[hj,dK,hw]
   refine ih _ ⟨_,_,rfl,?_,λk eW uj =>?_⟩
   ·rw[zL hj,← aJ]; exact hk.tag _ _
   ·by_cases he:k=j
    ·subst he; exact hd
    ·exact dH k eW (by omega)
 ·rintro st ⟨y9,ents',rfl,hk,dH⟩
  rw[aP] at hk
  simp
  exact ok (Mm.2 ⟨hT,λk hk=>dH k hk hk⟩) _ _ hk
theorem b77 (he:en.length≤1100000) (nO:∀u∈en,u.tags.length≤1100000) (c0 c1:PObj) (V0 V1 V2 V3 V4 V5 V7 V8 V9 V10 V11 V15 V16 V17 V18 V19:PV) (g:Nat) {Q:PExit→St→Prop}
  (ok:BV en=true→∀y7 y8 y9 y15 y16 y17 g' ents',EnumKeys ents' (zz en) (en.map (·.name))→Q (.exit 0) ⟨[V0,V1,V2,V3,V4,V5,.ptr 3 0,y7,y8,y9,V10,V11,.list false (en.map wA),.int .i64 en.length,.int .i64 en.length,y15,y16,y17,V18,V19],[],g',[c0,c1,wC ents',ww en ns (-1) (-1)]⟩)
  (no:BV en=false→∀W g' o2 o3,W[2]? = some V2→W[3]? = some V3→Q (.boom (xx 1 (-1) (-1) 7)) ⟨W,[],g',[c0,c1,o2,o3]⟩):
  wpL L IV ⟨[V0,V1,V2,V3,V4,V5,.ptr 3 0,V7,V8,V9,V10,V11,.list false (en.map wA),.int .i64 en.length,.int .i64 0,V15,V16,V17,V18,V19],[],g,[c0,c1,wC [],ww en ns (-1) (-1)]⟩ Q:=by
 have nP:∀j (hj:j<en.length),Cj en j en[j]=false→BV en=false:=by
  intro j hj h1
  cases h:BV en with
  | false=>rfl
  | true=>rw[Mn.1 h j hj] at h1; simp at h1
 rw[IV]
 refine xc en.length (λj st=>∃y7 y8 y9 y15 y16 y17 g' ents',st=⟨[V0,V1,V2,V3,V4,V5,.ptr 3 0,y7,y8,y9,V10,V11,.list false (en.map wA),.int .i64 en.length,.int .i64 j,y15,y16,y17,V18,V19],[],g',[c0,c1,wC ents',ww en ns (-1) (-1)]⟩∧EnumKeys ents' (zz (en.take j)) ((en.take j).map (·.name))∧∀k (hk:k<en.length),k<j→Cj en k en[k]=true) ?_ ?_ ⟨_,_,_,_,_,_,_,[],rfl,⟨by simp[yR,zz],by simp[yR],by simp[yR]⟩,λk _ h=>by omega⟩
 ·rintro j hj st ⟨y7,y8,y9,y15,y16,y17,g',ents',rfl,hk,dH⟩ ih
  have hw:=wF j (by omega)
  have uk:=nO _ (aj hj)
  by_cases hd:en[j].name∈(en.take j).map (·.name)
  ·have dK:=IQ hL en ns (-1) (-1) [c0,c1,wC ents',ww en ns (-1) (-1)] rfl ents' rfl (2,en[j].name) j ((hk.types _).2 hd)
   have eZ:zy (2,en[j].name) = .agg [.int .i64 2,.str en[j].name]:=rfl
   rw[eZ] at dK
   simp[hj,dK]
   exact no (nP j hj (by unfold Cj; simp only[cq]; exact λh=>h.1 hd)) _ _ _ _ rfl rfl
  ·have dK:=IR hL en ns (-1) (-1) [c0,c1,wC ents',ww en ns (-1) (-1)] rfl ents' rfl (2,en[j].name) j (λhh=>hd ((hk.types _).1 hh))
   have eZ:zy (2,en[j].name) = .agg [.int .i64 2,.str en[j].name]:=rfl
   have dC:[c0,c1,wC ents',ww en ns (-1) (-1)].set 2 (wC (ents'++[((2,en[j].name),(j:Int))]))=[c0,c1,wC (ents'++[((2,en[j].name),(j:Int))]),ww en ns (-1) (-1)]:=rfl
   rw[eZ,dC] at dK
   simp[hj,dK]
   refine b76 hL en ns j en[j].tags uk (zz (en.take j)) ((en.take j).map (·.name)++[en[j].name]) (c0o (by omega) dH) _ (hk.type _ _) c0 c1 _ _ _ _ _ _ _ _ _ _ _ _ _ _ _ _ ?_ ?_
   ·intro dr y9' ents'' dh
    simp[hw]
    refine ih _ ⟨_,_,_,_,_,_,_,_,rfl,?_,λk eW uj =>?_⟩
    ·rw[GE hj,zL hj,aU]; exact dh
    ·by_cases ne:k=j
     ·subst ne
      unfold Cj
      simp only[aw]
      exact⟨hd,dr⟩
     ·exact dH k eW (by omega)
   ·intro dr W o2 o3 qx qy
    simp
    exact no (nP j hj (by unfold Cj; simp only[cq]; exact λh=>dr h.2)) _ _ _ _ qx qy
 ·rintro st ⟨y7,y8,y9,y15,y16,y17,g',ents',rfl,hk,dH⟩
  rw[aP] at hk
  simp
  exact ok (Mn.2 λk hk=>dH k hk hk) _ _ _ _ _ _ _ _ hk
end
end PI.Sc
