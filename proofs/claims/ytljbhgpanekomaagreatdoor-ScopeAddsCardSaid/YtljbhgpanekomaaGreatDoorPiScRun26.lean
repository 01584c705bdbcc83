import Derived.Test.YtljbhgpanekomaaGreatDoorPiScRun16
set_option maxRecDepth 100000
set_option linter.unusedSimpArgs false
set_option linter.unusedVariables false
set_option linter.unusedSectionVars false
namespace PI.Sc
open Go (IntKind BinOp UnOp)
open Short
section
variable {h h':List PObj} {b b' n o d:Nat} {i dv up:PV} {f:Fr} {fs:List Fr}
theorem Fr.same {f:Fr} (h:f.D=f.df):({ f with D:=f.df,df:=f.df }:Fr)=f:=by cases f; simp at h ⊢; exact h.symm
theorem TopAt.upTo (t:TopAt h b b' n o d i dv up f fs) {c:Nat} (hc:b≤c):TopAt h c b' n o d i dv up f fs where
 ln:=t.ln
 lo:=t.lo
 ld:=t.ld
 un:=aK t.un hc
 uo:=aK t.uo hc
 ud:=aK t.ud hc
 no:=t.no
 nd:=t.nd
 od:=t.od
 four:=t.four
 hn:=t.hn
 ho:=t.ho
 hd:=t.hd
 hi:=by
  rcases t.hi with h|⟨m,e1,e2,e3,e4,e5,e6,e7⟩
  ·exact .inl h
  ·exact .inr ⟨m,e1,e2,aK e3 hc,e4,e5,e6,e7⟩
 row:=by
  rcases t.row with h|⟨k,e1,e2,e3,e4⟩
  ·exact .inl h
  ·exact .inr ⟨k,e1,aK e2 hc,e3,e4⟩
 rne:=t.rne
 hup:=t.hup
theorem TopAt.push (t:TopAt h h.length b' n o d i dv up f fs) (df:List Str) (h1:List PObj) (vp:h1.length=h.length) (hk:∀k,k<b'→h1[k]? = h[k]?) (dY:∀k,b'≤k→(∀s a len,dv≠.rowp k s a len)→k≠n→h1[k]? = h[k]?):
  TopAt ((h1++[PObj.cells (df.map PV.str)]).set n (.cells [up,.map (some o),.map (some d),i,.rowp h.length 1 false df.length])) (h.length+1) b' n o d i (.rowp h.length 1 false df.length) up { f with df:=df } fs:=by
 have ib:=t.un
 have rF:=t.ln
 have key:∀k,k<h.length→k≠n→(h1[k]? = h[k]?)→((h1++[PObj.cells (df.map PV.str)]).set n (.cells [up,.map (some o),.map (some d),i,.rowp h.length 1 false df.length]))[k]? = h[k]? := by
  intro k jR vq hh
  rw[an (Ne.symm vq),am (by omega)]
  exact hh
 refine⟨t.ln,t.lo,t.ld,by omega,by have:=t.uo; omega,by have:=t.ud; omega,t.no,t.nd,t.od,t.four,?_,?_,?_,?_,?_,?_,?_⟩
 ·rw[aZ (by simp; omega)]
 ·rw[key o t.uo (Ne.symm t.no) (dY o t.lo (λs a len e=>(t.rne _ _ _ _ e).2.1 rfl) (Ne.symm t.no))]
  exact t.ho
 ·rw[key d t.ud (Ne.symm t.nd) (dY d t.ld (λs a len e=>(t.rne _ _ _ _ e).2.2.1 rfl) (Ne.symm t.nd))]
  exact t.hd
 ·rcases t.hi with h|⟨m,e1,e2,e3,e4,e5,e6,e7⟩
  ·exact .inl h
  ·refine .inr ⟨m,e1,e2,by omega,e4,e5,e6,?_⟩
   rw[key m e3 e4 (dY m e2 (λs a len e=>(t.rne _ _ _ _ e).2.2.2 e1) e4)]
   exact e7
 ·refine .inr ⟨h.length,by omega,by omega,rfl,?_⟩
  rw[an (by omega),← vp]
  simp
 ·intro k s a len e
  simp only[PV.rowp.injEq] at e
  obtain⟨rfl,_⟩:=e
  have:=t.uo
  have:=t.ud
  refine⟨by omega,by omega,by omega,?_⟩
  rcases t.hi with⟨h1,_⟩|⟨m,e1,e2,e3,_⟩
  ·rw[h1]; simp
  ·rw[e1]; simp; omega
 ·refine t.hup.keep λk dh =>?_
  rw[key k (by omega) (by omega) (hk k dh)]
end
section
variable {L:Nat→Option PFunc} (hL:∀k f,LS k=some f→L k=some f) (en:List Enum) (ns:List Node) (a b:Int) (ents:xK)
include hL
theorem c5x (k:Nat) (s:Place) (l:List Str) (oM:l.length≤1600) (h:List PObj) (h2:h[2]? = some (wD ents)) (h3:h[3]? = some (wB en ns a b)) (q' n o d:Nat) (i dv up:PV) (f:Fr) (fs:List Fr) (t:TopAt h h.length q' n o d i dv up f fs) (dk:∀x,xr (f::fs) x=true↔x∈s.vis)
  (d0:List Str) (hD:f.D=f.df) (dC:∀x,(x∈f.I∨yP fs x=true)↔(x∈s.inputs∨x∈d0)) (jc:f.df.length+l.length≤1000000) (V4 V5 V6:PV) {Q:PExit→St→Prop}
  (ok:(Ao s l (d0++f.df)).1=0→∀h' dv' df' y5 y8,Kp q' h h'→(Ao s l (d0++f.df)).2=d0++df'→TopAt h' h'.length q' n o d i dv' up { f with D:=df',df:=df' } fs→Q (.exit 0) ⟨[.ptr 3 0,.int .i64 k,.ptr n 0,V4,V5,y5,.list false (l.map PV.str),.int .i64 l.length,y8],[],1,h'⟩)
  (no:(Ao s l (d0++f.df)).1≠0→∀h' y5 y8,Kp q' h h'→Q (.boom (xC 1 a b (Ao s l (d0++f.df)).1)) ⟨[.ptr 3 0,.int .i64 k,.ptr n 0,V4,V5,y5,.list false (l.map PV.str),.int .i64 l.length,y8],[],1,h'⟩):
  wpL L Jv ⟨[.ptr 3 0,.int .i64 k,.ptr n 0,V4,V5,V6,.list false (l.map PV.str),.int .i64 l.length,.int .i64 0],[],1,h⟩ Q:=by
 rw[Jv]
 refine xk l.length (λj st=>∃y5 h' dv' df',st=⟨[.ptr 3 0,.int .i64 k,.ptr n 0,V4,V5,y5,.list false (l.map PV.str),.int .i64 l.length,.int .i64 j],[],1,h'⟩∧Kp q' h h'∧TopAt h' h'.length q' n o d i dv' up { f with D:=df',df:=df' } fs∧Ao s l (d0++f.df)=Ao s (l.drop j) (d0++df')∧df'.length=f.df.length+j) ?_ ?_ ⟨_,h,dv,f.df,rfl,Kp.refl _ _,by rw[Fr.same hD]; exact t,rfl,rfl⟩
 ·rintro j hj st ⟨y5,h',dv',df',rfl,cZ,ht,dc,cM⟩ ih
  have hw:=wC j (by omega)
  have fU:h'[2]? = some (wD ents):=(cZ.2 2 (by have:=ht.four; omega)).trans h2
  have eO:h'[3]? = some (wB en ns a b):=(cZ.2 3 (by have:=ht.four; omega)).trans h3
  have hT:=λz=>BS hL en ns a b h' eO z
  have hF:=λz=>BT hL en ns a b h' eO z
  have hs:=Hx hL l[j] _ h' _ _ ht.holds
  have ed:=b9s hL l[j] _ h' _ _ ht.holds
  have jP:xr ({ f with D:=df',df:=df' }::fs) l[j]=decide (l[j]∈s.vis):=by
   rw[aI,aq,← dk]; rfl
  have gL:yP ({ f with D:=df',df:=df' }::fs) l[j]=decide (l[j]∈s.inputs∨l[j]∈d0++df'):=by
   rw[aI,aq]
   have:=dC l[j]
   simp only[yP,List.any_cons,bA,aq,ak] at this ⊢
   constructor
   ·rintro((h1|h1)|h1)
    ·exact .inr (.inr h1)
    ·rcases this.1 (.inl h1) with h2|h2
     ·exact .inl h2
     ·exact .inr (.inl h2)
    ·rcases this.1 (.inr h1) with h2|h2
     ·exact .inl h2
     ·exact .inr (.inl h2)
   ·rintro(h1|h1|h1)
    ·rcases this.2 (.inl h1) with h2|h2
     ·exact .inl (.inr h2)
     ·exact .inr h2
    ·rcases this.2 (.inr h1) with h2|h2
     ·exact .inl (.inr h2)
     ·exact .inr h2
    ·exact .inl (.inl h1)
  rw[jP] at hs
  rw[gL] at ed
  have hn:=ht.hn
  have hd:=ht.hd
  rw[aU hj] at dc
  simp only[Ao] at dc
  by_cases hv:l[j]∈s.vis
  ·rw[af (not_not_intro hv)] at dc
   by_cases pp:l[j]∈s.inputs∨l[j]∈d0++df'
   ·rw[ah pp] at dc
    rw[decide_eq_true pp] at ed
    rw[decide_eq_true hv] at hs
    simp[hj,hs,ed,hT,hF]
    have:=no (by rw[dc]; simp) h' (.str l[j]) (.int .i64 j) cZ
    rw[dc] at this
    exact this
   ·rw[af pp] at dc
    rw[decide_eq_false pp] at ed
    rw[decide_eq_true hv] at hs
    obtain⟨r',hr,_,gS⟩:=Au l[j] df'
    have fP:Av df' l[j]=df'++[l[j]]:=by
     unfold Av; rw[af]; intro hm; exact pp (.inr (bG _ hm))
    rw[fP] at gS
    have il:=ht.setD (df'++[l[j]])
    have kB:(h'.set d (PObj.map (bmE (df'++[l[j]])))).length=h'.length:=by simp
    have kC:Kp q' h (h'.set d (PObj.map (bmE (df'++[l[j]])))):=cZ.trans (Kp.set ht.ld)
    obtain⟨h4,e4⟩:∃h4,h'.set d (PObj.map (bmE (df'++[l[j]])))=h4:=⟨_,rfl⟩
    rw[e4] at il kB kC
    rw[← kB] at il
    have n4:=il.hn
    have ib:=il.un
    have rF:=il.ln
    rcases il.row with⟨rfl,gf⟩|⟨kr,gQ,dY,rfl,iw⟩
    ·simp only at gf
     subst gf
     obtain⟨h5,e5⟩:∃h5,h4.set n (.cells [up,.map (some o),.map (some d),i,.list false []])=h5:=⟨_,rfl⟩
     have gT:h5.length=h4.length:=by rw[← e5]; simp
     have n5:(h5++[PObj.cells [.str l[j]]])[n]? = some (.cells [up,.map (some o),.map (some d),i,.list false []]):=by
      rw[am (by omega),← e5,aZ ib]
     have kT:=il.push [l[j]] h5 gT (λc hc=>by rw[← e5,an (by omega)]) (λc _ _ jQ=>by rw[← e5,an (Ne.symm jQ)])
     simp only[aC,bw,aP,bF] at kT
     simp only[aY] at e4 gS
     simp[hj,hs,ed,hT,hF,hn,hd,hr,gS,hw,wZ,e4,n4,e5,n5,Ax,xf,yk]
     rw[gT]
     refine ih _ ⟨_,_,.rowp h4.length 1 false 1,[l[j]],rfl,?_,?_,?_,?_⟩
     ·refine Kp.trans kC ⟨by simp[gT],λc hc =>?_⟩
      rw[an (by omega),am (by have:=il.four; omega),← e5,an (by omega)]
     ·have:((h5++[PObj.cells [.str l[j]]]).set n (.cells [up,.map (some o),.map (some d),i,.rowp h4.length 1 false 1])).length=h4.length+1:=by simp[gT]
      rw[this]
      exact kT
     ·rw[dc]; simp
     ·simp at cM ⊢; omega
    ·obtain⟨h5,e5⟩:∃h5,h4.set kr .gone=h5:=⟨_,rfl⟩
     have gT:h5.length=h4.length:=by rw[← e5]; simp
     have nH:=(il.rne _ _ _ _ rfl).1
     have n5:(h5++[PObj.cells (df'.map PV.str++[.str l[j]])])[n]? = some (.cells [up,.map (some o),.map (some d),i,.rowp kr 1 false df'.length]):=by
      rw[am (by omega),← e5,an nH]; exact n4
     have kT:=il.push (df'++[l[j]]) h5 gT (λc hc=>by rw[← e5,an (by omega)]) (λc hc fp jQ=>by
      have:kr≠c:=by
       intro sd
       exact absurd rfl (fp 1 false df'.length |> λh=>by subst sd; exact h)
      rw[← e5,an this])
     simp only[a8,aC,bw,ap,aP,bF] at kT
     simp only at iw
     have eC:df'.length≤2147483647:=by omega
     have dy:(df'.map PV.str).take df'.length=df'.map PV.str:=bS (by simp)
     have kN:(dem∘PV.str)=PV.str:=rfl
     have se:List.map PV.str (df'.take df'.length)=List.map PV.str df':=by rw[aB]
     simp[hj,hs,ed,hT,hF,hn,hd,hr,gS,hw,wZ,e4,n4,Ax,iw,eC,dy,kN,se,xf,yk,e5,n5]
     refine ih _ ⟨_,_,.rowp h4.length 1 false (df'.length+1),df'++[l[j]],rfl,?_,?_,?_,?_⟩
     ·refine Kp.trans kC ⟨by simp[gT],λc hc =>?_⟩
      rw[an (by omega),am (by have:=il.four; omega),← e5,an (by omega)]
     ·have:((h5++[PObj.cells (df'.map PV.str++[.str l[j]])]).set n (.cells [up,.map (some o),.map (some d),i,.rowp h4.length 1 false (df'.length+1)])).length=h4.length+1:=by simp[gT]
      rw[this]
      exact kT
     ·rw[dc]; simp
     ·simp at cM ⊢; omega
  ·rw[ah hv] at dc
   rw[decide_eq_false hv] at hs
   simp[hj,hs,hF]
   have:=no (by rw[dc]; simp) h' (.str l[j]) (.int .i64 j) cZ
   rw[dc] at this
   exact this
 ·rintro st ⟨y5,h',dv',df',rfl,cZ,ht,dc,cM⟩
  rw[be (ao _)] at dc
  simp
  exact ok (by rw[dc]; rfl) h' dv' df' y5 _ cZ (by rw[dc]; rfl) ht
theorem Mw (k:Nat) (dl:NodesIn ents ns k) (s:Place) (eS:s.before=ns.take k) (x:Eqn) (hx:QW x) (h:List PObj) (h2:h[2]? = some (wD ents)) (h3:h[3]? = some (wB en ns a b)) (q' n o d:Nat) (i dv up:PV) (f:Fr) (fs:List Fr) (t:TopAt h h.length q' n o d i dv up f fs) (dk:∀x,xr (f::fs) x=true↔x∈s.vis)
  (d0:List Str) (hD:f.D=f.df) (dC:∀x,(x∈f.I∨yP fs x=true)↔(x∈s.inputs∨x∈d0)) (jc:f.df.length+x.left.length≤1000000):
  ∃h',wF L 61 [.ptr 3 0,.int .i64 k,.ptr n 0,wH x] h=some (wy 1 a b (yn s x (d0++f.df)).1,h')∧Kp q' h h'∧((yn s x (d0++f.df)).1=0→∃dv' df',(yn s x (d0++f.df)).2=d0++df'∧TopAt h' h'.length q' n o d i dv' up { f with D:=df',df:=df' } fs):=by
 suffices H:∃res,wF L 61 [.ptr 3 0,.int .i64 k,.ptr n 0,wH x] h=some res∧∃h',res=(wy 1 a b (yn s x (d0++f.df)).1,h')∧Kp q' h h'∧((yn s x (d0++f.df)).1=0→∃dv' df',(yn s x (d0++f.df)).2=d0++df'∧TopAt h' h'.length q' n o d i dv' up { f with D:=df',df:=df' } fs) by
  obtain⟨res,e1,h',e2,e3⟩:=H
  exact⟨h',by rw[e1,e2],e3⟩
 refine BR (hL 61 _ rfl) rfl ?_
 simp[D4]
 refine c5x hL en ns a b ents k s x.left hx.left h h2 h3 q' n o d i dv up f fs t dk d0 hD dC jc _ _ _ ?_ ?_
 ·intro hz h' dv' df' y5 y8 cZ ed ht
  have fU:h'[2]? = some (wD ents):=(cZ.2 2 (by have:=ht.four; omega)).trans h2
  have eO:h'[3]? = some (wB en ns a b):=(cZ.2 3 (by have:=ht.four; omega)).trans h3
  obtain⟨h'',nC,ff⟩:=Kz hL en ns a b ents k dl s eS x.right hx.right.ew x.left.length h' fU eO h'.length (ao _) _ _ ht.holds dk
  have he:yn s x (d0++f.df)=(xg s x.right x.left.length,d0++df'):=by
   unfold yn yt
   rw[ah hz,ed]
  have lG:q'≤h'.length:=aT ht.ln (Nat.le_of_lt ht.un)
  by_cases eD:xg s x.right x.left.length=0
  ·rw[eD] at nC
   simp[wy] at nC
   simp[nC,D4]
   refine⟨h'',by rw[he]; simp[eD,wy],cZ.trans (ff.le lG),λ_=>⟨dv',df',by rw[he],(ht.keep ff.2).upTo ff.1⟩⟩
  ·simp[wy,eD] at nC
   simp[nC,D4]
   refine⟨h'',by rw[he]; simp[eD,wy],cZ.trans (ff.le lG),λh0 =>?_⟩
   rw[he] at h0
   exact absurd h0 eD
 ·intro hz h' y5 y8 cZ
  have he:yn s x (d0++f.df)=((Ao s x.left (d0++f.df)).1,[]):=by
   unfold yn
   exact zO hz _
  simp[D4]
  refine⟨h',by rw[he]; simp[wy,hz],cZ,λh0 =>?_⟩
  rw[he] at h0
  exact absurd h0 hz
end
def Ba {α:Type} (P:α→Bool) (l:List α):Int:=match l.findIdx? P with
 | none => -1
 | some i=>i
theorem Hy {α:Type} {P:α→Bool} {l:List α} {j:Nat} (hj:j<l.length) (hp:P l[j]=true) (hn:∀i (hi:i<l.length),i<j→P l[i]=false):Ba P l=j:=by
 have:l.findIdx? P=some j:=by
  rw[List.findIdx?_eq_some_iff_getElem]
  exact⟨hj,hp,λi hi=>by simpa using hn i (by omega) hi⟩
 simp[Ba,this]
theorem Hz {α:Type} {P:α→Bool} {l:List α} (hn:∀i (hi:i<l.length),P l[i]=false):Ba P l = -1:=by
 have:l.findIdx? P=none:=by
  rw[List.findIdx?_eq_none_iff]
  intro x hx
  obtain⟨i,hi,rfl⟩:=bK.1 hx
  exact hn i hi
 simp[Ba,this]
theorem KA {α:Type} (P:α→Bool) (l:List α):decide (0≤Ba P l)=l.any P:=by
 unfold Ba
 cases h:l.findIdx? P with
 | none =>
   rw[List.findIdx?_eq_none_iff] at h
   symm
   simp only[show ¬(0:Int)≤-1 by decide,decide_false]
   rw[List.any_eq_false]
   intro x hx; simp[h x hx]
 | some i =>
   have:=List.findIdx?_eq_some_iff_getElem.1 h
   obtain⟨h1,h2,_⟩:=this
   simp only[show (0:Int)≤(i:Int) by omega,decide_true]
   symm
   rw[List.any_eq_true]
   exact⟨_,ai h1,h2⟩
def d2h (h:List PObj) (v:PV) (l:List Str):Prop:=(∃o,v = .list o (l.map PV.str))∨∃k,v = .rowp k 1 false l.length∧h[k]? = some (.cells (l.map PV.str))
section
variable {L:Nat→Option PFunc} (hL:∀k f,LS k=some f→L k=some f)
include hL
theorem KB (l:List Str) (hl:l.length≤2000000000) (v:PV) (h:List PObj) (hv:d2h h v l) (k:Nat) (cs:List PV) (P:Str→Bool) (db:∀x∈l,wn L k [.str x,.cptr cs] h=some (.bool (P x),h)):wn L 151 [v,.func k [] [.cptr cs]] h=some (.int .i64 (Ba P l),h):=by
 refine wJ (hL 151 _ rfl) rfl ?_
 rcases hv with⟨o,rfl⟩|⟨n,rfl,hn⟩
 ·simp[D7]
  rw[J1]
  refine xk l.length (λj st=>∃y3,st=⟨[.list false (l.map PV.str),.func k [] [.cptr cs],.int .i64 0,y3,.int .i64 l.length,.int .i64 j],[],0,h⟩∧∀i (hi:i<l.length),i<j→P l[i]=false) ?_ ?_ ⟨_,rfl,λi _ hi=>by omega⟩
  ·rintro j hj st ⟨y3,rfl,hn⟩ ih
   have hw:=wC j (by omega)
   have hc:=db l[j] (ai hj)
   cases hp:P l[j] with
   | true =>
     rw[hp] at hc
     simp[hj,hc,hw,Hy hj hp hn]
   | false =>
     rw[hp] at hc
     simp[hj,hc,hw]
     refine ih _ ⟨_,rfl,λi hi nB =>?_⟩
     by_cases he:i=j
     ·subst he; exact hp
     ·exact hn i hi (by omega)
  ·rintro st ⟨y3,rfl,hn⟩
   simp[D7,Hz (λi hi=>hn i hi hi)]
 ·simp[D7]
  rw[J1]
  refine xk l.length (λj st=>∃y3,st=⟨[.rowp n 1 false l.length,.func k [] [.cptr cs],.int .i64 0,y3,.int .i64 l.length,.int .i64 j],[],0,h⟩∧∀i (hi:i<l.length),i<j→P l[i]=false) ?_ ?_ ⟨_,rfl,λi _ hi=>by omega⟩
  ·rintro j hj st ⟨y3,rfl,qx⟩ ih
   have hw:=wC j (by omega)
   have hc:=db l[j] (ai hj)
   cases hp:P l[j] with
   | true =>
     rw[hp] at hc
     simp[hj,hc,hw,hn,Hy hj hp qx]
   | false =>
     rw[hp] at hc
     simp[hj,hc,hw,hn]
     refine ih _ ⟨_,rfl,λi hi nB =>?_⟩
     by_cases he:i=j
     ·subst he; exact hp
     ·exact qx i hi (by omega)
  ·rintro st ⟨y3,rfl,qx⟩
   simp[D7,Hz (λi hi=>qx i hi hi)]
theorem c5y (l:List Str) (hl:l.length≤2000000000) (o:Bool) (h:List PObj) (k:Nat) (cs:List PV) (P:Str→Bool) (db:∀x∈l,wn L k [.str x,.cptr cs] h=some (.bool (P x),h)):wn L 129 [.list o (l.map .str),.func k [] [.cptr cs]] h=some (.bool (l.any P),h):=by
 have hi:=KB hL l hl _ h (.inl ⟨false,rfl⟩) k cs P db
 refine wJ (hL 129 _ rfl) rfl ?_
 simp[JT,hi,← KA]
theorem c5z (l:List Str) (hl:l.length≤2000000000) (o:Bool) (s:Str) (h:List PObj):wn L 110 [.list o (l.map .str),.str s] h=some (.bool (decide (s∈l)),h):=by
 obtain⟨P,hP⟩:∃P:Str→Bool,∀x,P x=decide (x=s):=⟨_,λ_=>rfl⟩
 have hi:wn L 139 [.list false (l.map .str),.str s] h=some (.int .i64 (Ba P l),h):=by
  refine wJ (hL 139 _ rfl) rfl ?_
  simp[GP]
  rw[NC]
  refine xk l.length (λj st=>∃y3,st=⟨[.list false (l.map PV.str),.str s,.int .i64 0,y3,.int .i64 l.length,.int .i64 j],[],0,h⟩∧∀i (hi:i<l.length),i<j→P l[i]=false) ?_ ?_ ⟨_,rfl,λi _ hi=>by omega⟩
  ·rintro j hj st ⟨y3,rfl,hn⟩ ih
   have hw:=wC j (by omega)
   by_cases hp:l[j]=s
   ·have eQ:s=l[j]:=hp.symm
    have nD:P l[j]=true:=by rw[hP]; simpa using hp
    simp[hj,hw,tf hp,tf eQ,Hy hj nD hn]
   ·have eQ:¬s=l[j]:=λe=>hp e.symm
    have nD:P l[j]=false:=by rw[hP]; simpa using hp
    simp[hj,hw,tf hp,tf eQ]
    refine ih _ ⟨_,rfl,λi hi nB =>?_⟩
    by_cases he:i=j
    ·subst he; exact nD
    ·exact hn i hi (by omega)
  ·rintro st ⟨y3,rfl,hn⟩
   simp[GP,Hz (λi hi=>hn i hi hi)]
 have ha:decide (s∈l)=l.any P:=by
  rw[aI,aq,List.any_eq_true]
  constructor
  ·intro hm; exact⟨s,hm,by rw[hP]; simp⟩
  ·rintro⟨x,hm,hx⟩; rw[hP] at hx; simp at hx; subst hx; exact hm
 rw[ha]
 refine wJ (hL 110 _ rfl) rfl ?_
 simp[JR,hi,← KA]
theorem Pf (l m:List Str) (hl:l.length≤2000000000) (hm:m.length≤2000000000) (o1 o2:Bool) (h:List PObj):wn L 103 [.list o1 (l.map .str),.list o2 (m.map .str)] h=some (.bool (decide (l.length=m.length)&&l.all λx=>decide (x∈m)),h):=by
 have hc:∀x∈l,wn L 130 [.str x,.cptr [.list false (m.map PV.str)]] []=some (.bool (!decide (x∈m)),[]):=by
  intro x _
  have:=c5z hL m hm false x []
  refine wJ (hL 130 _ rfl) rfl ?_
  simp[JU,this]
 have ha:=c5y hL l hl false [] 130 [.list false (m.map PV.str)] (λx => !decide (x∈m)) hc
 refine wJ (hL 103 _ rfl) rfl ?_
 have dm:(l.all λx=>decide (x∈m)) = !(l.any λx => !decide (x∈m)):=by simp[List.all_eq_not_any_not]
 rw[dm]
 by_cases cM:l.length=m.length
 ·have hi:(l.length:Int)=m.length:=by omega
  simp[GK,tf hi,ha,tf cM]
 ·have hi:¬(l.length:Int)=m.length:=by omega
  simp[GK,tf hi,tf cM]
end
section
variable {L:Nat→Option PFunc} (hL:∀k f,LS k=some f→L k=some f)
include hL
theorem c0Z (l:List State) (hl:l.length≤2000000000) (o:Bool) (h:List PObj) (x:State):wn L 100 [.list o (l.map wX),.func 101 [] [.cptr (wX x).cells]] h=some (.bool (l.any λs=>decide (s.name=x.name)),h):=by
 obtain⟨P,hP⟩:∃P:State→Bool,∀s,P s=decide (s.name=x.name):=⟨_,λ_=>rfl⟩
 have db:∀s:State,wn L 101 [wX s,.cptr (wX x).cells] h=some (.bool (P s),h):=by
  intro s
  rw[hP]
  refine wJ (hL 101 _ rfl) rfl ?_
  simp[JL]
 simp only[Kc] at db
 have hi:wn L 125 [.list false (l.map wX),.func 101 [] [.cptr (wX x).cells]] h=some (.int .i64 (Ba P l),h):=by
  refine wJ (hL 125 _ rfl) rfl ?_
  simp[GM]
  rw[Nz]
  refine xk l.length (λj st=>∃y3,st=⟨[.list false (l.map wX),.func 101 [] [.cptr [.str x.name,.list false (x.locals.map wv),.list false (x.eqs.map wH),.list false (x.autos.map wI),.list false (x.unl.map xe),.list false (x.til.map xe)]],.int .i64 0,y3,.int .i64 l.length,.int .i64 j],[],0,h⟩∧∀i (hi:i<l.length),i<j→P l[i]=false) ?_ ?_ ⟨_,rfl,λi _ hi=>by omega⟩
  ·rintro j hj st ⟨y3,rfl,hn⟩ ih
   have hw:=wC j (by omega)
   have hc:=db l[j]
   cases hp:P l[j] with
   | true =>
     rw[hp] at hc
     simp[hj,hc,hw,Hy hj hp hn]
   | false =>
     rw[hp] at hc
     simp[hj,hc,hw]
     refine ih _ ⟨_,rfl,λi hi nB =>?_⟩
     by_cases he:i=j
     ·subst he; exact hp
     ·exact hn i hi (by omega)
  ·rintro st ⟨y3,rfl,hn⟩
   simp[GM,Hz (λi hi=>hn i hi hi)]
 have ha:(l.any λs=>decide (s.name=x.name))=l.any P:=by
  congr 1; funext s; exact(hP s).symm
 rw[ha]
 simp only[Kc] at hi
 refine wJ (hL 100 _ rfl) rfl ?_
 simp[JK,hi,← KA]
theorem b4B (o:Bool) (k:Nat) (cs:List PV) (h:List PObj):wn L 127 [.list o [],.func k [] [.cptr cs]] h=some (.list false [],h):=by
 have hi:=KB hL [] (by simp) (.list false []) h (.inl ⟨false,rfl⟩) k cs (λ_=>false) (by simp)
 refine wJ (hL 127 _ rfl) rfl ?_
 simp[Ba] at hi
 simp[Fk,hi]
theorem c00 (l:List Str) (hl:l.length≤2000000000) (h:List PObj) (kr:Nat) (hk:h[kr]? = some (.cells (l.map PV.str))) (k:Nat) (cs:List PV) (P:Str→Bool) (db:∀o,∀x∈l,wn L k [.str x,.cptr cs] (h.set kr o)=some (.bool (P x),h.set kr o)):wn L 127 [.rowp kr 1 false l.length,.func k [] [.cptr cs]] h=some (.rowp kr 1 false (l.filter λx => !P x).length,h.set kr (.cells ((l.filter λx => !P x).map PV.str))):=by
 have im:h.set kr (.cells (l.map PV.str))=h:=E6 hk
 have kD:kr<h.length:=(aj.1 hk).1
 have hi:=KB hL l hl (.rowp kr 1 false l.length) h (.inr ⟨kr,rfl,hk⟩) k cs P (λx hx=>by have:=db (.cells (l.map PV.str)) x hx; rwa [im] at this)
 refine wJ (hL 127 _ rfl) rfl ?_
 cases hf:l.findIdx? P with
 | none =>
   have fp:l.filter (λx => !P x)=l:=by
    rw[List.findIdx?_eq_none_iff] at hf
    rw[List.filter_eq_self]
    intro x hx; simp[hf x hx]
   simp[Ba,hf] at hi
   simp[Fk,hi,fp,im]
 | some i0 =>
   obtain⟨dL,vt,dC⟩:=List.findIdx?_eq_some_iff_getElem.1 hf
   simp[Ba,hf] at hi
   have lU:=wC i0 (by omega)
   have pu:(l.take (i0+1)).filter (λx => !P x)=l.take i0:=by
    rw[bV,av dL]
    simp only[Option.toList,List.filter_append,List.filter_cons,vt,Bool.not_true,aH,if_false,List.filter_nil,aV]
    rw[List.filter_eq_self]
    intro x hx
    obtain⟨j,hj,rfl⟩:=bK.1 hx
    simp only[bP] at hj
    rw[List.getElem_take]
    have:=dC j (by omega)
    simpa using this
   have da:¬(i0:Int) = -1:=by omega
   simp[Fk,hi,lU,da]
   rw[NB]
   refine xk (l.length - (i0+1)) (λj st=>∃y5 mid,st=⟨[.rowp kr 1 false l.length,.func k [] [.cptr cs],.list true [],.int .i64 ((l.take (i0+1+j)).filter λx => !P x).length,.int .i64 (i0+1+j:Nat),y5],[],0,h.set kr (.cells (((l.take (i0+1+j)).filter (λx => !P x)++mid++l.drop (i0+1+j)).map PV.str))⟩∧((l.take (i0+1+j)).filter λx => !P x).length+mid.length=i0+1+j) ?_ ?_ ⟨.dead,[l[i0]],?_,?_⟩
   ·rintro j hj st ⟨y5,mid,rfl,hm⟩ ih
    obtain⟨J,hJ⟩:∃J,J=i0+1+j:=⟨_,rfl⟩
    have mW:J<l.length:=by omega
    rw[← hJ] at hm ⊢
    have vu:i0+1+(j+1)=J+1:=by omega
    rw[vu] at ih
    have hw:=wC J (by omega)
    obtain⟨F,hF⟩:∃F,F=(l.take J).filter λx => !P x:=⟨_,rfl⟩
    rw[← hF] at hm ⊢
    have vv:=wC F.length (by omega)
    have kX:(l.take (J+1)).filter (λx => !P x)=F++if P l[J] then[] else[l[J]]:=by
     rw[bV,av mW,List.filter_append,← hF]
     simp only[Option.toList,List.filter_cons,List.filter_nil]
     cases P l[J]<;>simp
    rw[kX] at ih
    have xh:(F++mid++l.drop J)[J]? = some l[J]:=by
     rw[ar (by simp; omega)]
     simp[hm,aW,av mW]
    have hc:=db (.cells ((F++mid++l.drop J).map PV.str)) l[J] (ai mW)
    have hcell:(h.set kr (.cells ((F++mid++l.drop J).map PV.str)))[kr]? = some (.cells ((F++mid++l.drop J).map PV.str)):=by rw[aZ kD]
    obtain⟨C,hC⟩:∃C,C=F++mid++l.drop J:=⟨_,rfl⟩
    rw[← hC] at xh hc hcell ⊢
    obtain⟨h1,e1⟩:∃h1,h.set kr (.cells (C.map PV.str))=h1:=⟨_,rfl⟩
    rw[e1] at hc hcell ⊢
    have tB:J<C.length:=(aj.1 xh).1
    have tC:C[J]=l[J]:=(aj.1 xh).2
    have hFJ:F.length≤J:=by omega
    cases hp:P l[J] with
    | true =>
      rw[hp] at hc ih
      simp only[if_true,aV] at ih
      simp[mW,hcell,xh,hc,hw,tB,tC]
      have ny:C=F++(mid++[l[J]])++l.drop (J+1):=by rw[hC,aU mW]; simp
      have:=ih ⟨[.rowp kr 1 false l.length,.func k [] [.cptr cs],.list true [],.int .i64 F.length,.int .i64 (J+1:Nat),.str l[J]],[],0,h1⟩ ⟨_,mid++[l[J]],by rw[← e1,ny],by simp; omega⟩
      simpa using this
    | false =>
      rw[hp] at hc ih
      simp only[aH,if_false] at ih
      have mE:F.length<l.length:=by omega
      have vz:F.length<C.length:=by omega
      have wT:∃mid',C.set F.length l[J]=F++[l[J]]++mid'++l.drop (J+1)∧(F++[l[J]]).length+mid'.length=J+1:=by
       rw[hC,aU mW]
       generalize l.drop (J+1)=R
       generalize l[J]=x
       cases mid with
       | nil=>exact⟨[],by simp,by simp at hm ⊢; omega⟩
       | cons m0 ms=>exact⟨ms++[x],by simp,by simp at hm ⊢; omega⟩
      obtain⟨mid',eb,oj⟩:=wT
      have dO:h1.set kr (.cells ((C.map PV.str).set F.length (.str l[J])))=h.set kr (.cells ((F++[l[J]]++mid'++l.drop (J+1)).map PV.str)):=by rw[← e1,List.set_set,← eb,List.map_set]
      simp[mW,hcell,xh,hc,hw,tB,tC,vv,mE,vz,yk,dO]
      have:=ih ⟨[.rowp kr 1 false l.length,.func k [] [.cptr cs],.list true [],.int .i64 (F++[l[J]]).length,.int .i64 (J+1:Nat),.str l[J]],[],0,h.set kr (.cells ((F++[l[J]]++mid'++l.drop (J+1)).map PV.str))⟩ ⟨_,mid',rfl,oj⟩
      simpa using this
   ·rintro st ⟨y5,mid,rfl,hm⟩
    have hJ:i0+1+(l.length - (i0+1))=l.length:=by omega
    rw[hJ] at hm ⊢
    rw[aB] at hm ⊢
    rw[List.drop_length]
    obtain⟨F,hF⟩:∃F,F=l.filter λx => !P x:=⟨_,rfl⟩
    rw[← hF] at hm ⊢
    have mE:F.length≤l.length:=by omega
    have gj:((F++mid).map PV.str).take F.length=F.map PV.str:=by rw[a8,List.take_append_of_le_length (by simp),bS (by simp)]
    rw[a8] at gj
    by_cases sf:F=[]
    ·subst sf
     simp[kD]
    ·have hF1:¬F.length=0:=λe=>sf (bj.1 e)
     have iH:cp (.rows kr 1 false F.length (l.length - F.length))=some (.rows kr 1 false F.length (l.length - F.length)):=rfl
     simp[kD,mE,sf,gj,iH]
   ·rw[bp,pu]
    have:(l.take i0).length=i0:=by simp; omega
    have et:l.take i0++[l[i0]]++l.drop (i0+1)=l:=by
     rw[az,List.singleton_append,List.getElem_cons_drop,b8]
    rw[this,et,im]
    simp
   ·rw[bp,pu]
    simp; omega
end
theorem c01 (tags:List Str) (d:Decl) (l:List Decl) (v:List Str):xI tags (d::l) v=yt (xI tags [d] v) (xI tags l):=by
 simp only[xI]
 split
 ·rw[zO (by decide)]
 ·rfl
theorem c02 (s:Place) {l:List Eqn} {d r:List Str} (h:yo s l d=(0,r)):r.length=d.length+(wV l).length:=by
 rw[((A0 s l d r).1 h).1,ap]
section
variable {L:Nat→Option PFunc} (hL:∀k f,LS k=some f→L k=some f) (en:List Enum) (ns:List Node) (a b:Int) (ents:xK)
include hL
theorem b7u (tags:List Str) (dV:Bq ents tags) (l:List Decl) (hl:l.length≤1600) (h:List PObj) (h2:h[2]? = some (wD ents)) (h3:h[3]? = some (wB en ns a b)) (q' n o d:Nat) (i dv up:PV) (f:Fr) (fs:List Fr) (t:TopAt h h.length q' n o d i dv up f fs) (vis:List Str) (dk:∀x,xr (f::fs) x=true↔x∈vis)
  (V0 V1 V2 V3 V4 V5 V7 V8 V9 V10 V14 V15 V16 V17 V18 V19 V20 V21 V22:PV) (gi g:Nat) {Q:PExit→St→Prop} (jF:V0 = .ptr 3 0)
  (ok:(xI tags l vis).1=0→∀h' O y7 g',Kp q' h h'→h'.length=h.length→TopAt h' h'.length q' n o d i dv up { f with O:=O } fs→(∀x,xr ({ f with O:=O }::fs) x=true↔x∈(xI tags l vis).2)→(∀x,x∈O↔x∈f.O∨x∈wm l)→Q (.exit 0) ⟨[V0,V1,V2,V3,V4,V5,.loc gi [.ptr n 0],y7,V8,V9,V10,.list false (l.map wv),.int .i64 l.length,.int .i64 l.length,V14,V15,V16,V17,V18,V19,V20,V21,V22],[],g',h'⟩)
  (no:(xI tags l vis).1≠0→∀h' y7 y13 g',Kp q' h h'→Q (.boom (xC 1 a b (xI tags l vis).1)) ⟨[V0,V1,V2,V3,V4,V5,.loc gi [.ptr n 0],y7,V8,V9,V10,.list false (l.map wv),.int .i64 l.length,y13,V14,V15,V16,V17,V18,V19,V20,V21,V22],[],g',h'⟩):
  wpL L JM ⟨[V0,V1,V2,V3,V4,V5,.loc gi [.ptr n 0],V7,V8,V9,V10,.list false (l.map wv),.int .i64 l.length,.int .i64 0,V14,V15,V16,V17,V18,V19,V20,V21,V22],[],g,h⟩ Q:=by
 subst jF
 rw[JM]
 refine xk l.length (λj st=>∃y7 g' h' O vis',st=⟨[.ptr 3 0,V1,V2,V3,V4,V5,.loc gi [.ptr n 0],y7,V8,V9,V10,.list false (l.map wv),.int .i64 l.length,.int .i64 j,V14,V15,V16,V17,V18,V19,V20,V21,V22],[],g',h'⟩∧Kp q' h h'∧h'.length=h.length∧TopAt h' h'.length q' n o d i dv up { f with O:=O } fs∧xI tags l vis=xI tags (l.drop j) vis'∧(∀x,xr ({ f with O:=O }::fs) x=true↔x∈vis')∧∀x,x∈O↔x∈f.O∨x∈wm (l.take j)) ?_ ?_ ⟨_,_,h,f.O,vis,rfl,Kp.refl _ _,rfl,t,rfl,dk,λx=>by simp[wm]⟩
 ·rintro j hj st ⟨y7,g',h',O,vis',rfl,cZ,cM,ht,dc,hv,hO⟩ ih
  have hw:=wC j (by omega)
  have fU:h'[2]? = some (wD ents):=(cZ.2 2 (by have:=ht.four; omega)).trans h2
  have eO:h'[3]? = some (wB en ns a b):=(cZ.2 3 (by have:=ht.four; omega)).trans h3
  obtain⟨h'',O'',hx,ff,tD,gk,kP⟩:=Mz hL en ns a b ents tags dV [l[j]] (by simp) false h' fU eO _ q' n o d i dv up _ fs ht vis' hv
  simp only[aC,bw] at hx
  have sg:TopAt h'' h''.length q' n o d i dv up { f with O:=O'' } fs:=by rw[tD]; exact gk
  rw[aU hj,c01] at dc
  have gg:wm (l.take (j+1))=wm (l.take j)++[l[j].name]:=by simp only[wm,bV,av hj,Option.toList,a8,aC,bw]
  by_cases hz:(xI tags [l[j]] vis').1=0
  ·obtain⟨eu,gy⟩:=kP hz
   have gu:xI tags l vis=xI tags (l.drop (j+1)) (xI tags [l[j]] vis').2:=by rw[dc]; exact ah hz
   rw[hz] at hx
   simp[wy] at hx
   simp[hj,hx,hw]
   refine ih _ ⟨_,_,h'',O'',_,rfl,cZ.trans ff,by rw[tD,cM],sg,gu,eu,λx =>?_⟩
   rw[gy,hO,gg]
   simp[wm,or_assoc]
  ·rw[zO hz] at dc
   simp[wy,hz] at hx
   simp[hj,hx]
   have:=no (by rw[dc]; exact hz) h'' (.loc g' (wv l[j]).cells) (.int .i64 j) (g'+1) (cZ.trans ff)
   rw[dc] at this
   simpa using this
 ·rintro st ⟨y7,g',h',O,vis',rfl,cZ,cM,ht,dc,hv,hO⟩
  rw[be (ao _)] at dc
  rw[aB] at hO
  simp
  exact ok (by rw[dc]; rfl) h' O y7 g' cZ cM ht (by rw[dc]; exact hv) hO
theorem b7v (k:Nat) (dl:NodesIn ents ns k) (s:Place) (eS:s.before=ns.take k) (l:List Eqn) (hl:l.length≤1600) (hq:∀x∈l,QW x) (h:List PObj) (h2:h[2]? = some (wD ents)) (h3:h[3]? = some (wB en ns a b)) (q' n o d:Nat) (i dv up:PV) (f:Fr) (fs:List Fr) (t:TopAt h h.length q' n o d i dv up f fs) (dk:∀x,xr (f::fs) x=true↔x∈s.vis)
  (d0:List Str) (hD:f.D=f.df) (dC:∀x,(x∈f.I∨yP fs x=true)↔(x∈s.inputs∨x∈d0)) (jc:f.df.length+(wV l).length≤1000000)
  (V0 V1 V2 V3 V4 V5 V7 V8 V9 V10 V11 V12 V13 V17 V18 V19 V20 V21 V22:PV) (gi g:Nat) {Q:PExit→St→Prop} (jF:V0 = .ptr 3 0) (mX:V1 = .int .i64 k)
  (ok:(yo s l (d0++f.df)).1=0→∀h' dv' df' y8 g',Kp q' h h'→(yo s l (d0++f.df)).2=d0++df'→TopAt h' h'.length q' n o d i dv' up { f with D:=df',df:=df' } fs→Q (.exit 2) ⟨[V0,V1,V2,V3,V4,V5,.loc gi [.ptr n 0],V7,y8,V9,V10,V11,V12,V13,.list false (l.map wH),.int .i64 l.length,.int .i64 l.length,V17,V18,V19,V20,V21,V22],[],g',h'⟩)
  (no:(yo s l (d0++f.df)).1≠0→∀h' y8 y16 g',Kp q' h h'→Q (.boom (xC 1 a b (yo s l (d0++f.df)).1)) ⟨[V0,V1,V2,V3,V4,V5,.loc gi [.ptr n 0],V7,y8,V9,V10,V11,V12,V13,.list false (l.map wH),.int .i64 l.length,y16,V17,V18,V19,V20,V21,V22],[],g',h'⟩):
  wpL L JN ⟨[V0,V1,V2,V3,V4,V5,.loc gi [.ptr n 0],V7,V8,V9,V10,V11,V12,V13,.list false (l.map wH),.int .i64 l.length,.int .i64 0,V17,V18,V19,V20,V21,V22],[],g,h⟩ Q:=by
 subst jF
 subst mX
 rw[JN]
 refine xk l.length (λj st=>∃y8 g' h' dv' df',st=⟨[.ptr 3 0,.int .i64 k,V2,V3,V4,V5,.loc gi [.ptr n 0],V7,y8,V9,V10,V11,V12,V13,.list false (l.map wH),.int .i64 l.length,.int .i64 j,V17,V18,V19,V20,V21,V22],[],g',h'⟩∧Kp q' h h'∧TopAt h' h'.length q' n o d i dv' up { f with D:=df',df:=df' } fs∧yo s l (d0++f.df)=yo s (l.drop j) (d0++df')∧df'.length+(wV (l.drop j)).length=f.df.length+(wV l).length) ?_ ?_ ⟨_,_,h,dv,f.df,rfl,Kp.refl _ _,by rw[Fr.same hD]; exact t,rfl,rfl⟩
 ·rintro j hj st ⟨y8,g',h',dv',df',rfl,cZ,ht,dc,cM⟩ ih
  have hw:=wC j (by omega)
  have fU:h'[2]? = some (wD ents):=(cZ.2 2 (by have:=ht.four; omega)).trans h2
  have eO:h'[3]? = some (wB en ns a b):=(cZ.2 3 (by have:=ht.four; omega)).trans h3
  have rH:(wV (l.drop j)).length=l[j].left.length+(wV (l.drop (j+1))).length:=by
   rw[aU hj]; simp only[wV,bc,ap]
  obtain⟨h'',hx,ff,kP⟩:=Mw hL en ns a b ents k dl s eS l[j] (hq _ (ai hj)) h' fU eO q' n o d i dv' up _ fs ht (by intro x; exact dk x) d0 rfl dC (by simp only; omega)
  simp only at hx kP
  rw[aU hj] at dc
  simp only[yo] at dc
  by_cases hz:(yn s l[j] (d0++df')).1=0
  ·obtain⟨dv'',df'',eu,gy⟩:=kP hz
   have gu:yo s l (d0++f.df)=yo s (l.drop (j+1)) (d0++df''):=by
    rw[dc]
    unfold yt
    rw[ah hz,eu]
   have d7:df''.length=df'.length+l[j].left.length:=by
    have h5:=(Gq.1 (zS hz)).1
    rw[eu] at h5
    have:=aE List.length h5
    simp at this
    omega
   rw[hz] at hx
   simp[wy] at hx
   simp[hj,hx,hw]
   exact ih _ ⟨_,_,h'',dv'',df'',rfl,cZ.trans ff,gy,gu,by omega⟩
  ·rw[zO hz] at dc
   simp[wy,hz] at hx
   simp[hj,hx]
   have:=no (by rw[dc]; exact hz) h'' (.loc g' (wH l[j]).cells) (.int .i64 j) (g'+1) (cZ.trans ff)
   rw[dc] at this
   simpa using this
 ·rintro st ⟨y8,g',h',dv',df',rfl,cZ,ht,dc,cM⟩
  rw[be (ao _)] at dc
  simp
  exact ok (by rw[dc]; rfl) h' dv' df' y8 g' cZ (by rw[dc]; rfl) ht
end
def E4 (L:Nat→Option PFunc) (en:List Enum) (ns:List Node) (a b:Int) (ents:xK) (x:List State):Prop:=
 ∀ (k : Nat), NodesIn ents ns k → ∀ (s : Place), s.before = ns.take k → Bq ents s.tags → ∀ (h : List PObj), h[2]? = some (wD ents) → h[3]? = some (wB en ns a b) → ∀ (q' n o d : Nat) (i dv up : PV) (f : Fr) (fs : List Fr), TopAt h h.length q' n o d i dv up f fs → (∀ x, xr (f :: fs) x = true ↔ x ∈ s.vis) →
   ∀(d0:List Str),f.D=f.df→(∀x,(x∈f.I∨yP fs x=true)↔(x∈s.inputs∨x∈d0))→f.df.length+(xb [x]).length≤1000000 →
   ∃h',wF L 62 [.ptr 3 0,.int .i64 k,.ptr n 0,wI x] h=some (wy 1 a b (yI s (d0++f.df) x).1,h')∧Kp q' h h'∧((yI s (d0++f.df) x).1=0→∃dv' df',(d0++f.df)++(yI s (d0++f.df) x).2=d0++df'∧TopAt h' h'.length q' n o d i dv' up { f with D:=df',df:=df' } fs)
theorem Mx {s:Place} {d:List Str} {x:List State} (h:(yI s d x).1=0):(yI s d x).2=xb [x]:=by
 have h1:xj s d [x]=(0,d++(yI s d x).2):=by
  rw[IZ,zX]
  exact⟨h,by simp[xj]⟩
 have h2:=(Dj [x] s d _ h1).1
 exact List.append_cancel_left h2
section
variable {L:Nat→Option PFunc} (hL:∀k f,LS k=some f→L k=some f) (en:List Enum) (ns:List Node) (a b:Int) (ents:xK)
include hL
theorem b7w (k:Nat) (dl:NodesIn ents ns k) (s:Place) (eS:s.before=ns.take k) (dV:Bq ents s.tags) (l:List (List State)) (hl:l.length≤1600) (hq:∀x∈l,E4 L en ns a b ents x) (h:List PObj) (h2:h[2]? = some (wD ents)) (h3:h[3]? = some (wB en ns a b)) (q' n o d:Nat) (i dv up:PV) (f:Fr) (fs:List Fr) (t:TopAt h h.length q' n o d i dv up f fs) (dk:∀x,xr (f::fs) x=true↔x∈s.vis)
  (d0:List Str) (hD:f.D=f.df) (dC:∀x,(x∈f.I∨yP fs x=true)↔(x∈s.inputs∨x∈d0)) (jc:f.df.length+(xb l).length≤1000000)
  (V0 V1 V2 V3 V4 V5 V7 V8 V9 V10 V11 V12 V13 V14 V15 V16 V20 V21 V22:PV) (gi g:Nat) {Q:PExit→St→Prop} (jF:V0 = .ptr 3 0) (mX:V1 = .int .i64 k)
  (ok:(xj s (d0++f.df) l).1=0→∀h' dv' df' y9 g',Kp q' h h'→(xj s (d0++f.df) l).2=d0++df'→TopAt h' h'.length q' n o d i dv' up { f with D:=df',df:=df' } fs→Q (.exit 4) ⟨[V0,V1,V2,V3,V4,V5,.loc gi [.ptr n 0],V7,V8,y9,V10,V11,V12,V13,V14,V15,V16,.list false (l.map wI),.int .i64 l.length,.int .i64 l.length,V20,V21,V22],[],g',h'⟩)
  (no:(xj s (d0++f.df) l).1≠0→∀h' y9 y19 g',Kp q' h h'→Q (.boom (xC 1 a b (xj s (d0++f.df) l).1)) ⟨[V0,V1,V2,V3,V4,V5,.loc gi [.ptr n 0],V7,V8,y9,V10,V11,V12,V13,V14,V15,V16,.list false (l.map wI),.int .i64 l.length,y19,V20,V21,V22],[],g',h'⟩):
  wpL L JO ⟨[V0,V1,V2,V3,V4,V5,.loc gi [.ptr n 0],V7,V8,V9,V10,V11,V12,V13,V14,V15,V16,.list false (l.map wI),.int .i64 l.length,.int .i64 0,V20,V21,V22],[],g,h⟩ Q:=by
 have _:=hL
 subst jF
 subst mX
 rw[JO]
 refine xk l.length (λj st=>∃y9 g' h' dv' df',st=⟨[.ptr 3 0,.int .i64 k,V2,V3,V4,V5,.loc gi [.ptr n 0],V7,V8,y9,V10,V11,V12,V13,V14,V15,V16,.list false (l.map wI),.int .i64 l.length,.int .i64 j,V20,V21,V22],[],g',h'⟩∧Kp q' h h'∧TopAt h' h'.length q' n o d i dv' up { f with D:=df',df:=df' } fs∧xj s (d0++f.df) l=xj s (d0++df') (l.drop j)∧df'.length+(xb (l.drop j)).length=f.df.length+(xb l).length) ?_ ?_ ⟨_,_,h,dv,f.df,rfl,Kp.refl _ _,by rw[Fr.same hD]; exact t,rfl,rfl⟩
 ·rintro j hj st ⟨y9,g',h',dv',df',rfl,cZ,ht,dc,cM⟩ ih
  have hw:=wC j (by omega)
  have fU:h'[2]? = some (wD ents):=(cZ.2 2 (by have:=ht.four; omega)).trans h2
  have eO:h'[3]? = some (wB en ns a b):=(cZ.2 3 (by have:=ht.four; omega)).trans h3
  have rH:(xb (l.drop j)).length=(xb [l[j]]).length+(xb (l.drop (j+1))).length:=by
   rw[aU hj,Cf,Cf]; simp[xb]
  obtain⟨h'',hx,ff,kP⟩:=hq _ (ai hj) k dl s eS dV h' fU eO q' n o d i dv' up _ fs ht (by intro x; exact dk x) d0 rfl dC (by simp only; omega)
  simp only at hx kP
  rw[aU hj,IZ] at dc
  by_cases hz:(yI s (d0++df') l[j]).1=0
  ·obtain⟨dv'',df'',eu,gy⟩:=kP hz
   have gu:xj s (d0++f.df) l=xj s (d0++df'') (l.drop (j+1)):=by
    rw[dc]
    unfold yt
    rw[ah hz]
    exact aE (λz=>xj s z (l.drop (j+1))) eu
   have d7:df''.length=df'.length+(xb [l[j]]).length:=by
    rw[Mx hz] at eu
    have:=aE List.length eu
    simp at this
    omega
   rw[hz] at hx
   simp[wy] at hx
   simp[hj,hx,hw]
   exact ih _ ⟨_,_,h'',dv'',df'',rfl,cZ.trans ff,gy,gu,by omega⟩
  ·rw[zO hz] at dc
   simp[wy,hz] at hx
   simp[hj,hx]
   have:=no (by rw[dc]; exact hz) h'' (.loc g' (wI l[j]).cells) (.int .i64 j) (g'+1) (cZ.trans ff)
   rw[dc] at this
   simpa using this
 ·rintro st ⟨y9,g',h',dv',df',rfl,cZ,ht,dc,cM⟩
  rw[be (ao _)] at dc
  simp
  exact ok (by rw[dc]; simp[xj]) h' dv' df' y9 g' cZ (by rw[dc]; simp[xj]) ht
theorem b7x (l:List Decl) (hl:l.length≤1600) (h:List PObj) (h3:h[3]? = some (wB en ns a b)) (q' n o d:Nat) (i dv up:PV) (f:Fr) (fs:List Fr) (t:TopAt h h.length q' n o d i dv up f fs)
  (V0 V1 V2 V3 V4 V5 V7 V8 V9 V10 V11 V12 V13 V14 V15 V16 V17 V18 V19:PV) (gi g:Nat) {Q:PExit→St→Prop} (jF:V0 = .ptr 3 0)
  (ok:(∀x∈wm l,x∈f.D)→∀y10 g',Q (.exit 6) ⟨[V0,V1,V2,V3,V4,V5,.loc gi [.ptr n 0],V7,V8,V9,y10,V11,V12,V13,V14,V15,V16,V17,V18,V19,.list false (l.map wv),.int .i64 l.length,.int .i64 l.length],[],g',h⟩)
  (no:¬(∀x∈wm l,x∈f.D)→∀y10 y22 g',Q (.boom (xC 1 a b 8)) ⟨[V0,V1,V2,V3,V4,V5,.loc gi [.ptr n 0],V7,V8,V9,y10,V11,V12,V13,V14,V15,V16,V17,V18,V19,.list false (l.map wv),.int .i64 l.length,y22],[],g',h⟩):
  wpL L JP ⟨[V0,V1,V2,V3,V4,V5,.loc gi [.ptr n 0],V7,V8,V9,V10,V11,V12,V13,V14,V15,V16,V17,V18,V19,.list false (l.map wv),.int .i64 l.length,.int .i64 0],[],g,h⟩ Q:=by
 subst jF
 have hT:=BS hL en ns a b h h3 8
 have hF:=BT hL en ns a b h h3 8
 have hn:=t.hn
 have hd:=t.hd
 rw[JP]
 refine xk l.length (λj st=>∃y10 g',st=⟨[.ptr 3 0,V1,V2,V3,V4,V5,.loc gi [.ptr n 0],V7,V8,V9,y10,V11,V12,V13,V14,V15,V16,V17,V18,V19,.list false (l.map wv),.int .i64 l.length,.int .i64 j],[],g',h⟩∧∀x∈wm (l.take j),x∈f.D) ?_ ?_ ⟨_,_,rfl,by simp[wm]⟩
 ·rintro j hj st ⟨y10,g',rfl,dp⟩ ih
  have hw:=wC j (by omega)
  obtain⟨r,hr,el,_⟩:=Au l[j].name f.D
  have gg:wm (l.take (j+1))=wm (l.take j)++[l[j].name]:=by simp only[wm,bV,av hj,Option.toList,a8,aC,bw]
  by_cases hx:l[j].name∈f.D
  ·simp[hx] at el
   obtain⟨c,rfl⟩:=el
   simp[hj,hn,hd,hr,wZ,hT,hw]
   refine ih _ ⟨_,_,rfl,?_⟩
   rw[gg]
   intro x hm
   rcases ak.1 hm with h1|h1
   ·exact dp x h1
   ·rw[aO.1 h1]; exact hx
  ·simp[hx] at el
   subst el
   simp[hj,hn,hd,hr,wZ,hF]
   have:=no (λdm=>hx (dm _ (bl.2 ⟨_,ai hj,rfl⟩))) (.loc g' (wv l[j]).cells) (.int .i64 j) (g'+1)
   simpa using this
 ·rintro st ⟨y10,g',rfl,dp⟩
  rw[aB] at dp
  simp
  exact ok dp _ _
end
theorem b9u (l:List Str):zj 1 false (l.map PV.str) l.length 0=some (l.map PV.str):=by
 suffices H:∀(n off:Nat),off+n=l.length→zj 1 false (l.map PV.str) n off=some ((l.drop off).map PV.str) by simpa using H l.length 0 (by omega)
 intro n
 induction n with
 | zero=>intro off h; rw[be (by omega)]; rfl
 | succ n ih =>
   intro off h
   have ho:off<l.length:=by omega
   simp only[zj,ih (off+1) (by omega)]
   simp[wz,ho]
   rw[aU (i:=off) (l:=l.map PV.str) (by simpa using ho)]
   simp
theorem c05 (s:Place) (d:List Str) (x:State):yM s d x =
  yt (yE s.vis s.tags x.locals) λvis=>yt (yo (s.at vis) x.eqs d) λd1=>yt (xj (s.at vis) d1 x.autos) λd2=>
  yt (zZ s x.unl,[]) λ_=>yt (zZ (s.at vis) x.til,[]) λ_=>if xy (wm x.locals) (xy d2 d)=[] then(0,xy (xy d2 d) (wm x.locals)) else(8,[]):=by
 cases x; simp only[yM]; rfl
theorem c5A (x:State):zY x=wV x.eqs++xb x.autos:=by cases x; rfl
section
variable {L:Nat→Option PFunc} (hL:∀k f,LS k=some f→L k=some f) (en:List Enum) (ns:List Node) (a b:Int) (ents:xK)
include hL
theorem c06 (h:List PObj) (hb:4≤h.length) (n:Nat) (fs:List Fr) (hv:Holds h h.length (.ptr n 0) fs):∃h',wF L 58 [.ptr n 0] h=some (.val (.ptr (h.length+2) 0),h')∧wn L 58 [.ptr n 0] h=some (.ptr (h.length+2) 0,h')∧Kp h.length h h'∧TopAt h' h'.length h.length (h.length+2) h.length (h.length+1) (.map none) (.list true []) (.ptr n 0) ⟨[],[],[],[]⟩ fs:=by
 have hK:∀n',n'<h.length→(h++[PObj.map [],.map [],.cells [.ptr n 0,.map (some h.length),.map (some (h.length+1)),.map none,.list true []]])[n']? = h[n']? := λn hn=>by rw[am (by omega)]
 refine⟨h++[.map [],.map [],.cells [.ptr n 0,.map (some h.length),.map (some (h.length+1)),.map none,.list true []]],?_,?_,Kp.app (ao _),?_⟩
 ·refine zg (hL 58 _ rfl) rfl ?_
  simp[E2,PV.cells]
 ·refine wJ (hL 58 _ rfl) rfl ?_
  simp[E2,PV.cells]
 ·exact⟨by omega,by omega,by omega,by simp,by simp,by simp,by omega,by omega,by omega,hb,by simp,by simp[bmE],by simp[bmE],.inl ⟨rfl,rfl⟩,.inl ⟨rfl,rfl⟩,λ_ _ _ _ e=>by simp at e,hv.keep hK⟩
def StOut (a b:Int) (e:EN) (r:Out):Prop:=if e.1=0 then ∃o,r = .val (.list o (e.2.map PV.str)) else r = .boom (xC 1 a b e.1)
omit hL in
theorem StOut.no {e:EN} {z:Int} (hz:z≠0) (he:e=(z,[])):StOut a b e (.boom (xC 1 a b z)):=by
 unfold StOut; rw[he,af hz]
theorem c2I (x:State) (hx:SW x) (hA:∀y∈x.autos,E4 L en ns a b ents y) (hp:(zY x).length≤1000000) (k:Nat) (dl:NodesIn ents ns k) (s:Place) (eS:s.before=ns.take k) (dV:Bq ents s.tags) (h:List PObj) (h2:h[2]? = some (wD ents)) (h3:h[3]? = some (wB en ns a b)) (q' n o d:Nat) (i dv up:PV) (f:Fr) (fs:List Fr) (t:TopAt h h.length q' n o d i dv up f fs) (dk:∀x,xr (f::fs) x=true↔x∈s.vis)
  (d0:List Str) (hD:f.D=f.df) (dC:∀x,(x∈f.I∨yP fs x=true)↔(x∈s.inputs∨x∈d0)):
  ∃h' r,wF L 102 [.ptr 3 0,.int .i64 k,.ptr n 0,wX x] h=some (r,h')∧Kp h.length h h'∧StOut a b (yM s (d0++f.df) x) r:=by
 suffices H:∃res,wF L 102 [.ptr 3 0,.int .i64 k,.ptr n 0,wX x] h=some res∧∃h' r,res=(r,h')∧Kp h.length h h'∧StOut a b (yM s (d0++f.df) x) r by
  obtain⟨res,e1,h',r,e2,e3⟩:=H
  exact⟨h',r,by rw[e1,e2],e3⟩
 have h4:4≤h.length:=by have:=t.four; have:=t.ln; have:=t.un; omega
 obtain⟨h1,e1,e1',k1,t1⟩:=c06 hL h h4 n (f::fs) t.holds
 have tE:h1[2]? = some (wD ents):=(k1.2 2 (by omega)).trans h2
 have tF:h1[3]? = some (wB en ns a b):=(k1.2 3 (by omega)).trans h3
 have iJ:∀x,xr (⟨[],[],[],[]⟩::f::fs) x=true↔x∈s.vis:=λx=>by rw[← dk]; simp[xr]
 have hN:=c05 s (d0++f.df) x
 refine BR (hL 102 _ rfl) rfl ?_
 simp[JQ,e1',e1]
 refine b7u hL en ns a b ents s.tags dV x.locals hx.locals h1 tE tF h.length _ _ _ _ _ _ _ _ t1 s.vis iJ _ _ _ _ _ _ _ _ _ _ _ _ _ _ _ _ _ _ _ _ _ rfl ?_ ?_
 ·intro vA h5 O y7 g5 k5 gT t5 pz vB
  have tG:h5[2]? = some (wD ents):=(k5.2 2 (by omega)).trans tE
  have sh:h5[3]? = some (wB en ns a b):=(k5.2 3 (by omega)).trans tF
  obtain⟨vis,kS⟩:∃vis,vis=(xI s.tags x.locals s.vis).2:=⟨_,rfl⟩
  rw[← kS] at pz
  have hs:=MA hL en ns a b x.locals (by have:=hx.locals; omega) hx.ls false h5 sh _ _ _ t5.holds vis pz
  have qg:yE s.vis s.tags x.locals=(AZ vis x.locals,vis):=by
   unfold yE yt
   rw[ah vA,kS]
  by_cases eP:AZ vis x.locals=0
  ·rw[eP] at hs
   simp[wy] at hs
   simp[hs]
   obtain⟨D,pA⟩:∃D,D=d0++f.df:=⟨_,rfl⟩
   rw[← pA] at hN ⊢
   have pB:∀y,(y∈([]:List Str)∨yP (f::fs) y=true)↔(y∈(s.at vis).inputs∨y∈D):=by
    intro y
    have:=dC y
    rw[pA]
    simp only[yP,List.any_cons,bA,aq,ak,List.not_mem_nil,false_or,Place.at,hD] at this ⊢
    constructor
    ·rintro((h1|h1)|h1)
     ·exact .inr (.inr h1)
     ·rcases this.1 (.inl h1) with h|h
      ·exact .inl h
      ·exact .inr (.inl h)
     ·rcases this.1 (.inr h1) with h|h
      ·exact .inl h
      ·exact .inr (.inl h)
    ·rintro(h1|h1|h1)
     ·rcases this.2 (.inl h1) with h|h
      ·exact .inl (.inr h)
      ·exact .inr h
     ·rcases this.2 (.inr h1) with h|h
      ·exact .inl (.inr h)
      ·exact .inr h
     ·exact .inl (.inl h1)
   rw[c5A,ap] at hp
   have si:yE s.vis s.tags x.locals=(0,vis):=by rw[qg,eP]
   rw[si,Eg] at hN
   refine b7v hL en ns a b ents k dl (s.at vis) eS x.eqs hx.eqs hx.es h5 tG sh h.length _ _ _ _ _ _ _ _ t5 pz D rfl pB (by simp only[bF]; omega) _ _ _ _ _ _ _ _ _ _ _ _ _ _ _ _ _ _ _ _ _ rfl rfl ?_ ?_
   ·intro eD h6 dv6 df6 y8 g6 k6 tI t6
    simp only[aV] at eD tI
    have tJ:h6[2]? = some (wD ents):=(k6.2 2 (by omega)).trans tG
    have tK:h6[3]? = some (wB en ns a b):=(k6.2 3 (by omega)).trans sh
    have sj:yo (s.at vis) x.eqs D=(0,D++df6):=by rw[← tI,← eD]
    have vC:=c02 _ sj
    simp only[ap] at vC
    rw[sj,Eg] at hN
    simp
    refine b7w hL en ns a b ents k dl (s.at vis) eS dV x.autos hx.autos hA h6 tJ tK h.length _ _ _ _ _ _ _ _ t6 pz D rfl pB (by simp only; omega) _ _ _ _ _ _ _ _ _ _ _ _ _ _ _ _ _ _ _ _ _ rfl rfl ?_ ?_
    ·intro lA h7 dv7 df7 y9 g7 k7 tL t7
     simp only at lA tL
     have h27:h7[2]? = some (wD ents):=(k7.2 2 (by omega)).trans tJ
     have tM:h7[3]? = some (wB en ns a b):=(k7.2 3 (by omega)).trans tK
     have tN:xj (s.at vis) (D++df6) x.autos=(0,D++df7):=by rw[← tL,← lA]
     rw[tN,Eg] at hN
     have k07:Kp h.length h h7:=((k1.trans k5).trans k6).trans k7
     obtain⟨h8,e8,k8⟩:=Pe hL en ns a b ents k dl s eS x.unl hx.unl hx.us false h7 h27 tM h.length k07.1 _ _ (t.holds.keep k07.2) dk
     by_cases pC:zZ s x.unl=0
     ·rw[pC] at e8
      simp[wy] at e8
      have vD:h8[2]? = some (wD ents):=(k8.2 2 (by have:=k07.1; omega)).trans h27
      have tO:h8[3]? = some (wB en ns a b):=(k8.2 3 (by have:=k07.1; omega)).trans tM
      have t8:=(t7.keep k8.2).upTo k8.1
      obtain⟨h9,e9,k9⟩:=Pe hL en ns a b ents k dl (s.at vis) eS x.til hx.til hx.ts false h8 vD tO h8.length (ao _) _ _ t8.holds pz
      rw[pC,Eg] at hN
      by_cases pD:zZ (s.at vis) x.til=0
      ·rw[pD] at e9
       simp[wy] at e9
       rw[pD,Eg] at hN
       have h39:h9[3]? = some (wB en ns a b):=(k9.2 3 (by have:=k07.1; have:=k8.1; omega)).trans tO
       have t9:=(t8.keep k9.2).upTo k9.1
       have k09:Kp h.length h h9:=(k07.trans (k8.le k07.1)).trans (k9.le (aT k07.1 k8.1))
       have oR:=(A0 (s.at vis) x.eqs D _).1 sj
       have nF:=Dj x.autos (s.at vis) (D++df6) _ tN
       have ed:df7=wV x.eqs++xb x.autos:=by
        have e1:=nF.1
        rw[oR.1,az] at e1
        exact List.append_cancel_left e1
       have sk:∀y∈df7,y∉D:=by
        intro y hy
        rw[ed] at hy
        rcases ak.1 hy with h|h
        ·exact(oR.2.1.1 y h).2.2
        ·exact λhm=>(nF.2.1.1 y h).2.2 (bq _ hm)
       rw[Hb sk] at hN
       simp[e8,e9]
       refine b7x hL en ns a b x.locals hx.locals h9 h39 h.length _ _ _ _ _ _ _ _ t9 _ _ _ _ _ _ _ _ _ _ _ _ _ _ _ _ _ _ _ _ _ rfl ?_ ?_
       ·intro dm y10 g9
        simp only at dm
        have sl:xy (wm x.locals) df7=[]:=CM.2 dm
        rw[ah sl] at hN
        have n9:=t9.hn
        have o9:=t9.ho
        rcases t9.row with⟨rfl,gf⟩|⟨kr,gQ,dY,rfl,iw⟩
        ·simp only at gf
         have hd:=b4B hL false 128 [.ptr (h.length+2) 0] h9
         simp[n9,hd]
         refine⟨h9,_,⟨rfl,rfl⟩,k09,?_⟩
         unfold StOut
         rw[hN,ah rfl]
         exact⟨false,by simp[gf,xy]⟩
        ·have nH:=t9.rne _ _ _ _ rfl
         have hd:=c00 hL df7 (by rw[ed,ap]; omega) h9 kr iw 128 [.ptr (h.length+2) 0] (λy=>decide (y∈wm x.locals)) (by
          intro w y _
          have n9':=(an (l:=h9) (a:=w) nH.1).trans n9
          have o9':=(an (l:=h9) (a:=w) nH.2.1).trans o9
          obtain⟨r,hr,el,_⟩:=Au y O
          have tP:y∈O↔y∈wm x.locals:=by rw[vB]; simp
          refine wJ (hL 128 _ rfl) rfl ?_
          by_cases hy:y∈O
          ·simp[hy] at el
           obtain⟨c,rfl⟩:=el
           simp[GO,n9',o9',hr,wZ,tP.1 hy]
          ·simp[hy] at el
           subst el
           have fN:¬y∈wm x.locals:=λh=>hy (tP.2 h)
           simp[GO,n9',o9',hr,wZ,fN])
         have oW:df7.filter (λy => !decide (y∈wm x.locals))=xy df7 (wm x.locals):=rfl
         rw[oW] at hd
         obtain⟨R,hR⟩:∃R,R=xy df7 (wm x.locals):=⟨_,rfl⟩
         rw[← hR] at hd hN
         have kD:kr<h9.length:=(aj.1 iw).1
         have gU:(h9.set kr (.cells (R.map PV.str)))[kr]? = some (.cells (R.map PV.str)):=by rw[aZ kD]
         have oI:=b9u R
         simp[n9,hd,gU,oI,FK]
         refine⟨_,_,⟨rfl,rfl⟩,k09.trans (Kp.set gQ),?_⟩
         unfold StOut
         rw[hN,ah rfl]
         exact⟨false,rfl⟩
       ·intro fp y10 y22 g9
        have sl:¬xy (wm x.locals) df7=[]:=λe=>fp (CM.1 e)
        rw[af sl] at hN
        simp
        exact⟨h9,_,⟨rfl,rfl⟩,k09,StOut.no a b (by decide) hN⟩
      ·simp[wy,pD] at e9
       simp[e8,e9]
       exact⟨h9,_,⟨rfl,rfl⟩,(k07.trans (k8.le k07.1)).trans (k9.le (aT k07.1 k8.1)),StOut.no a b pD (by rw[hN]; exact zO (a:=(_,[])) pD _)⟩
     ·simp[wy,pC] at e8
      simp[e8]
      exact⟨h8,_,⟨rfl,rfl⟩,k07.trans (k8.le k07.1),StOut.no a b pC (by rw[hN]; exact zO (a:=(_,[])) pC _)⟩
    ·intro lA h7 y9 y19 g7 k7
     simp only at lA
     simp
     exact⟨h7,_,⟨rfl,rfl⟩,((k1.trans k5).trans k6).trans k7,StOut.no a b lA (by rw[hN]; exact zO lA _)⟩
   ·intro eD h6 y8 y16 g6 k6
    simp only[aV] at eD ⊢
    simp
    exact⟨h6,_,⟨rfl,rfl⟩,(k1.trans k5).trans k6,StOut.no a b eD (by rw[hN]; exact zO eD _)⟩
  ·simp[wy,eP] at hs
   simp[hs]
   exact⟨h5,_,⟨rfl,rfl⟩,k1.trans k5,StOut.no a b eP (by rw[hN,qg,zO eP])⟩
 ·intro hz h5 y7 y13 g5 k5
  simp
  refine⟨h5,_,⟨rfl,rfl⟩,k1.trans k5,StOut.no a b hz ?_⟩
  have:yE s.vis s.tags x.locals=((xI s.tags x.locals s.vis).1,[]):=by
   unfold yE; exact zO hz _
  rw[hN,this]
  exact zO (a:=(_,[])) hz _
end
section
variable {L:Nat→Option PFunc} (hL:∀k f,LS k=some f→L k=some f) (en:List Enum) (ns:List Node) (a b:Int) (ents:xK)
include hL
theorem b9v (l:List State) (hl:l.length≤1600) (h:List PObj) (h3:h[3]? = some (wB en ns a b)) (V0 V1 V2 V3 V5 V6 V7 V8 V9 V10 V11 V12 V16 V17 V18 V19 V20 V21:PV) (gi g:Nat) {Q:PExit→St→Prop} (jF:V0 = .ptr 3 0)
  (ok:(l.map (·.name)).Nodup→∀y5 y6 g',Q (.exit 0) ⟨[V0,V1,V2,V3,.loc gi [.list false (l.map wX)],y5,y6,V7,V8,V9,V10,V11,V12,.list false (l.map wX),.int .i64 l.length,.int .i64 l.length,V16,V17,V18,V19,V20,V21],[],g',h⟩)
  (no:¬(l.map (·.name)).Nodup→∀y5 y6 y15 g',Q (.boom (xC 1 a b 7)) ⟨[V0,V1,V2,V3,.loc gi [.list false (l.map wX)],y5,y6,V7,V8,V9,V10,V11,V12,.list false (l.map wX),.int .i64 l.length,y15,V16,V17,V18,V19,V20,V21],[],g',h⟩):
  wpL L Jw ⟨[V0,V1,V2,V3,.loc gi [.list false (l.map wX)],V5,V6,V7,V8,V9,V10,V11,V12,.list false (l.map wX),.int .i64 l.length,.int .i64 0,V16,V17,V18,V19,V20,V21],[],g,h⟩ Q:=by
 subst jF
 have hT:=BS hL en ns a b h h3 7
 have hF:=BT hL en ns a b h h3 7
 rw[Jw]
 refine xk l.length (λj st=>∃y5 y6 g',st=⟨[.ptr 3 0,V1,V2,V3,.loc gi [.list false (l.map wX)],y5,y6,V7,V8,V9,V10,V11,V12,.list false (l.map wX),.int .i64 l.length,.int .i64 j,V16,V17,V18,V19,V20,V21],[],g',h⟩∧((l.take j).map (·.name)).Nodup) ?_ ?_ ⟨_,_,_,rfl,by simp⟩
 ·rintro j hj st ⟨y5,y6,g',rfl,dl⟩ ih
  have hw:=wC j (by omega)
  have ri:j≤l.length:=by omega
  have hc:=c0Z hL (l.take j) (by simp; omega) false [] l[j]
  simp only[Kc] at hc
  have ej:(l.map wX).take j=(l.take j).map wX:=by rw[List.map_take]
  have gg:(l.take (j+1)).map (·.name)=(l.take j).map (·.name)++[l[j].name]:=by simp only[bV,av hj,Option.toList,a8,aC,bw]
  obtain⟨T,tQ⟩:∃T,T=(l.take j).map wX:=⟨_,rfl⟩
  have tR:wK T=true:=by rw[tQ]; exact b9a _
  rw[← tQ] at hc ej
  have pE:xf 6 (l.map wX)=true:=by
   cases l with
   | nil=>rfl
   | cons z l=>simp[xf]
  cases lB:(l.take j).any λs=>decide (s.name=l[j].name) with
  | false =>
    rw[lB] at hc
    simp[hj,hw,hc,hT,ej,pE,ri,bound,tR]
    refine ih _ ⟨_,_,_,rfl,?_⟩
    rw[gg,cz]
    refine⟨dl,by simp,?_⟩
    intro x hx y hy e
    rw[aO.1 hy] at e
    subst e
    obtain⟨z,hz,sn⟩:=bl.1 hx
    have:=List.any_eq_false.1 lB z hz
    simp[sn] at this
  | true =>
    rw[lB] at hc
    simp[hj,hw,hc,hF,ej,pE,ri,bound,tR]
    refine no ?_ _ _ _ _
    intro hn
    obtain⟨z,hz,sn⟩:=List.any_eq_true.1 lB
    have hs:l.map (·.name)=((l.take j).map (·.name)++[l[j].name])++(l.drop (j+1)).map (·.name):=by rw[← gg,← a8,b8]
    rw[hs,cz,cz] at hn
    exact hn.1.2.2 l[j].name (bl.2 ⟨z,hz,by simpa using sn⟩) _ (aO.2 rfl) rfl
 ·rintro st ⟨y5,y6,g',rfl,dl⟩
  rw[aB] at dl
  simp
  exact ok dl _ _ _
theorem b9w (l:List Str) (hl:l.length≤1000000) (h:List PObj) (q' n o d:Nat) (i dv up:PV) (f:Fr) (fs:List Fr) (t:TopAt h h.length q' n o d i dv up f fs) (ev:∀x∈l,x∉f.D) (dl:l.Nodup)
  (V0 V1 V3 V4 V5 V6 V7 V8 V9 V10 V11 V12 V13 V14 V15 V16 V17 V18:PV) (g:Nat) {Q:PExit→St→Prop}
  (ok:∀h' y12,Kp q' h h'→h'.length=h.length→TopAt h' h'.length q' n o d i dv up { f with D:=f.D++l } fs→Q (.exit 4) ⟨[V0,V1,.ptr n 0,V3,V4,V5,V6,V7,V8,V9,V10,V11,y12,V13,V14,V15,V16,V17,V18,.list false (l.map PV.str),.int .i64 l.length,.int .i64 l.length],[],g,h'⟩):
  wpL L Jy ⟨[V0,V1,.ptr n 0,V3,V4,V5,V6,V7,V8,V9,V10,V11,V12,V13,V14,V15,V16,V17,V18,.list false (l.map PV.str),.int .i64 l.length,.int .i64 0],[],g,h⟩ Q:=by
 have _:=hL
 rw[Jy]
 refine xk l.length (λj st=>∃y12 h',st=⟨[V0,V1,.ptr n 0,V3,V4,V5,V6,V7,V8,V9,V10,V11,y12,V13,V14,V15,V16,V17,V18,.list false (l.map PV.str),.int .i64 l.length,.int .i64 j],[],g,h'⟩∧Kp q' h h'∧h'.length=h.length∧TopAt h' h'.length q' n o d i dv up { f with D:=f.D++l.take j } fs) ?_ ?_ ⟨_,h,rfl,Kp.refl _ _,rfl,by simpa using t⟩
 ·rintro j hj st ⟨y12,h',rfl,cZ,cM,ht⟩ ih
  have hw:=wC j (by omega)
  have hn:=ht.hn
  have hd:=ht.hd
  obtain⟨r',hr,_,gS⟩:=Au l[j] (f.D++l.take j)
  have fP:Av (f.D++l.take j) l[j]=f.D++l.take (j+1):=by
   unfold Av
   rw[af]
   ·rw[bV,av hj]; simp
   ·intro hm
    rcases ak.1 hm with h1|h1
    ·exact ev _ (ai hj) h1
    ·obtain⟨c,hc,kO⟩:=bK.1 h1
     simp only[bP] at hc
     rw[List.getElem_take] at kO
     have:=(List.getElem_inj (h₀:=by omega) (h₁:=hj) dl).1 kO
     omega
  rw[fP] at gS
  simp[hj,hn,hd,hr,gS,hw]
  have js:=ht.setD (f.D++l.take (j+1))
  refine ih _ ⟨_,_,rfl,cZ.trans (Kp.set ht.ld),by simp[cM],by simpa using js⟩
 ·rintro st ⟨y12,h',rfl,cZ,cM,ht⟩
  rw[aB] at ht
  simp
  exact ok h' _ cZ cM ht
end
def KC (L:Nat→Option PFunc) (en:List Enum) (ns:List Node) (a b:Int) (ents:xK) (x:State):Prop:=
 ∀ (k : Nat), NodesIn ents ns k → ∀ (s : Place), s.before = ns.take k → Bq ents s.tags → ∀ (h : List PObj), h[2]? = some (wD ents) → h[3]? = some (wB en ns a b) → ∀ (q' n o d : Nat) (i dv up : PV) (f : Fr) (fs : List Fr), TopAt h h.length q' n o d i dv up f fs → (∀ x, xr (f :: fs) x = true ↔ x ∈ s.vis) →
   ∀(d0:List Str),f.D=f.df→(∀x,(x∈f.I∨yP fs x=true)↔(x∈s.inputs∨x∈d0)) →
   ∃h' r,wF L 102 [.ptr 3 0,.int .i64 k,.ptr n 0,wX x] h=some (r,h')∧Kp h.length h h'∧StOut a b (yM s (d0++f.df) x) r
theorem Pg {l m:List Str} (hl:l.Nodup) (hm:m.Nodup):B1 l m=(decide (l.length=m.length)&&l.all λx=>decide (x∈m)):=by
 rw[aI]
 simp only[B1,al,aq,aD,CM]
 constructor
 ·rintro⟨h1,h2⟩
  have p1:=List.Nodup.length_le_of_subset hl h1
  have p2:=List.Nodup.length_le_of_subset hm h2
  exact⟨by omega,h1⟩
 ·rintro⟨h1,h2⟩
  refine⟨h2,λx hx=>cC λhn =>?_⟩
  have hc:(x::l).Nodup:=cw.2 ⟨hn,hl⟩
  have:=List.Nodup.length_le_of_subset hc (by
   intro y hy
   rcases ay.1 hy with rfl|hy
   ·exact hx
   ·exact h2 y hy)
  simp at this
  omega
section
variable {L:Nat→Option PFunc} (hL:∀k f,LS k=some f→L k=some f) (en:List Enum) (ns:List Node) (a b:Int) (ents:xK)
include hL
theorem b9x (l:List State) (hl:l.length≤1600) (hS:∀y∈l,KC L en ns a b ents y) (k:Nat) (dl:NodesIn ents ns k) (s:Place) (eS:s.before=ns.take k) (dV:Bq ents s.tags) (h:List PObj) (h2:h[2]? = some (wD ents)) (h3:h[3]? = some (wB en ns a b)) (q' n o d:Nat) (i dv up:PV) (f:Fr) (fs:List Fr) (t:TopAt h h.length q' n o d i dv up f fs) (dk:∀x,xr (f::fs) x=true↔x∈s.vis)
  (d0:List Str) (hD:f.D=f.df) (dC:∀x,(x∈f.I∨yP fs x=true)↔(x∈s.inputs∨x∈d0)) (mj:∀y∈l,(xR y).length≤1000000)
  (V0 V1 V2 V3 V4 V5 V6 V9 V10 V11 V12 V13 V14 V15 V19 V20 V21:PV) (g:Nat) {Q:PExit→St→Prop} (jF:V0 = .ptr 3 0) (mX:V1 = .int .i64 k) (vE:V2 = .ptr n 0)
  (ok:(xA s (d0++f.df) l).1=0→∀h' y9 y10 y11 g' F,Kp h.length h h'→((l=[]∧F = .list true [])∨F = .list false (((l.map xR).headD []).map PV.str))→Q (.exit 2) ⟨[V0,V1,V2,V3,V4,V5,V6,F,.bool (l.all λy=>B1 (xR y) ((l.map xR).headD [])),y9,y10,y11,V12,V13,V14,V15,.list false (l.map wX),.int .i64 l.length,.int .i64 l.length,V19,V20,V21],[],g',h'⟩)
  (no:(xA s (d0++f.df) l).1≠0→∀h' W g',Kp h.length h h'→Q (.boom (xC 1 a b (xA s (d0++f.df) l).1)) ⟨W,[],g',h'⟩):
  wpL L Jx ⟨[V0,V1,V2,V3,V4,V5,V6,.list true [],.bool true,V9,V10,V11,V12,V13,V14,V15,.list false (l.map wX),.int .i64 l.length,.int .i64 0,V19,V20,V21],[],g,h⟩ Q:=by
 subst jF
 subst mX
 subst vE
 have h4:4≤h.length:=by have:=t.four; have:=t.ln; have:=t.un; omega
 obtain⟨D,pA⟩:∃D,D=d0++f.df:=⟨_,rfl⟩
 obtain⟨T,hT⟩:∃T,T=(l.map xR).headD []:=⟨_,rfl⟩
 rw[← pA] at ok no
 rw[← hT] at ok
 obtain⟨sm,ki⟩:∃sm:Nat→Bool,∀j,sm j=(l.take j).all (λx=>B1 (xR x) T):=⟨_,λ_=>rfl⟩
 rw[Jx]
 refine xk l.length (λj st=>∃F y9 y10 y11 g' h',st=⟨[.ptr 3 0,.int .i64 k,.ptr n 0,V3,V4,V5,V6,F,.bool (sm j),y9,y10,y11,V12,V13,V14,V15,.list false (l.map wX),.int .i64 l.length,.int .i64 j,V19,V20,V21],[],g',h'⟩∧Kp h.length h h'∧(∀c (hc:c<l.length),c<j→(yM s D l[c]).1=0)∧((j=0∧F = .list true [])∨F = .list false (T.map PV.str))) ?_ ?_ ⟨_,_,_,_,_,h,by rw[ki]; rfl,Kp.refl _ _,λc _ hc=>by omega,.inl ⟨rfl,rfl⟩⟩
 ·rintro j hj st ⟨F,y9,y10,y11,g',h',rfl,cZ,hz,hF⟩ ih
  have hw:=wC j (by omega)
  have fU:h'[2]? = some (wD ents):=(cZ.2 2 (by omega)).trans h2
  have eO:h'[3]? = some (wB en ns a b):=(cZ.2 3 (by omega)).trans h3
  obtain⟨h'',r,hx,ff,hr⟩:=hS _ (ai hj) k dl s eS dV h' fU eO q' n o d i dv up f fs ((t.keep cZ.2).upTo cZ.1) dk d0 hD dC
  rw[← pA] at hr
  have fq:Kp h.length h h'':=cZ.trans (ff.le cZ.1)
  unfold StOut at hr
  by_cases eP:(yM s D l[j]).1=0
  ·rw[ah eP] at hr
   obtain⟨ow,rfl⟩:=hr
   have tS:=Hc l[j] s D _ (zS eP)
   rw[tS.1] at hx
   obtain⟨R,hR⟩:∃R,R=xR l[j]:=⟨_,rfl⟩
   have so:R.Nodup:=by rw[hR]; exact tS.2.1.2
   have hRl:R.length≤1000000:=by rw[hR]; exact mj _ (ai hj)
   have iR:sm (j+1)=(sm j&&B1 R T):=by
    have e:l.take (j+1)=l.take j++[l[j]]:=by rw[bV,av hj]; rfl
    rw[ki,ki,e,cj,hR]
    simp only[List.all_cons,List.all_nil,ci]
   rw[← hR] at hx
   have hZ:∀c (hc:c<l.length),c<j+1→(yM s D l[c]).1=0:=by
    intro c hc mB
    by_cases e:c=j
    ·subst e; exact eP
    ·exact hz c hc (by omega)
   by_cases nn:j=0
   ·subst nn
    have vF:R=T:=by
     rw[hR,hT]
     cases l with
     | nil=>simp at hj
     | cons y l=>rfl
    rw[← vF] at iR ih hF
    have dp:=Pf hL R R (by omega) (by omega) false false []
    rw[← Pg so so] at dp
    have fx:sm 0=true:=by rw[ki]; rfl
    rw[fx,cn] at iR
    simp[hj,hx,hw,fx,dp]
    exact ih _ ⟨_,_,_,_,_,h'',by rw[iR]; rfl,fq,hZ,.inr rfl⟩
   ·have vG:F = .list false (T.map PV.str):=by
     rcases hF with⟨e,_⟩|e
     ·exact absurd e nn
     ·exact e
    subst vG
    have nf:T=xR (l[0]'(by omega)):=by
     rw[hT]
     cases l with
     | nil=>simp at hj
     | cons y l=>rfl
    have vH:T.Nodup:=by
     rw[nf]
     exact(Hc _ s D _ (zS (hz 0 (by omega) (by omega)))).2.1.2
    have vI:T.length≤1000000:=by rw[nf]; exact mj _ (ai _)
    have dp:=Pf hL R T (by omega) (by omega) false false []
    rw[← Pg so vH] at dp
    have qk:¬(j:Int)=0:=by omega
    cases tT:sm j with
    | true =>
      rw[tT,cn] at iR
      simp[hj,hx,hw,nn,qk,dp]
      exact ih _ ⟨_,_,_,_,_,h'',by rw[iR]; rfl,fq,hZ,.inr rfl⟩
    | false =>
      rw[tT,bL] at iR
      simp[hj,hx,hw,nn,qk,dp]
      exact ih _ ⟨_,_,_,_,_,h'',by rw[iR]; rfl,fq,hZ,.inr rfl⟩
  ·rw[af eP] at hr
   subst hr
   have hb:=ON hj eP (λc hc mB=>hz c hc mB)
   simp[hj,hx]
   have ll:(xA s D l).1=(yM s D l[j]).1:=by rw[hb]
   rw[← ll]
   exact no (by rw[ll]; exact eP) h'' _ _ fq
 ·rintro st ⟨F,y9,y10,y11,g',h',rfl,cZ,hz,hF⟩
  have dm:=OM (s:=s) (d:=D) (l:=l) (λy hy=>by
   obtain⟨c,hc,rfl⟩:=bK.1 hy
   exact hz c hc hc)
  have mR:sm l.length=l.all (λx=>B1 (xR x) T):=by rw[ki,aB]
  rw[mR]
  simp
  refine ok (by rw[dm]) h' _ _ _ _ F cZ ?_
  rcases hF with⟨e,e2⟩|e
  ·exact .inl ⟨bj.1 e,e2⟩
  ·exact .inr e
end
theorem cells_str:∀l:List Str,(l.map PV.str).flatMap PV.cells=l.map PV.str
 | []=>rfl
 | x::l=>by rw[aC,bc,cells_str l]; rfl
section
variable {L:Nat→Option PFunc} (hL:∀k f,LS k=some f→L k=some f) (en:List Enum) (ns:List Node) (a b:Int) (ents:xK)
include hL
theorem Ph (l:List State) (hl:l.length≤1600) (hS:∀y∈l,KC L en ns a b ents y) (mj:∀y∈l,(xR y).length≤1000000):E4 L en ns a b ents l:=by
 intro k dl s eS dV h h2 h3 q' n o d i dv up f fs t dk d0 hD dC jc
 suffices H:∃res,wF L 62 [.ptr 3 0,.int .i64 k,.ptr n 0,wI l] h=some res∧∃h',res=(wy 1 a b (yI s (d0++f.df) l).1,h')∧Kp q' h h'∧((yI s (d0++f.df) l).1=0→∃dv' df',(d0++f.df)++(yI s (d0++f.df) l).2=d0++df'∧TopAt h' h'.length q' n o d i dv' up { f with D:=df',df:=df' } fs) by
  obtain⟨res,e1,h',e2,e3⟩:=H
  exact⟨h',by rw[e1,e2],e3⟩
 have lG:q'≤h.length:=aT t.ln (Nat.le_of_lt t.un)
 have h4:4≤h.length:=by have:=t.four; omega
 refine BR (hL 62 _ rfl) rfl ?_
 simp[Jz]
 refine b9v hL en ns a b l hl h h3 _ _ _ _ _ _ _ _ _ _ _ _ _ _ _ _ _ _ _ _ rfl ?_ ?_
 ·intro hn y5 y6 g1
  simp
  refine b9x hL en ns a b ents l hl hS k dl s eS dV h h2 h3 q' n o d i dv up f fs t dk d0 hD dC mj _ _ _ _ _ _ _ _ _ _ _ _ _ _ _ _ _ _ rfl rfl rfl ?_ ?_
  ·intro hz h' y9 y10 y11 g2 F cZ hF
   obtain⟨T,hT⟩:∃T,T=(l.map xR).headD []:=⟨_,rfl⟩
   rw[← hT] at hF ⊢
   obtain⟨b1,b2⟩:=Hd l s (d0++f.df) (xA s (d0++f.df) l).2 (by rw[← hz])
   have du:xA s (d0++f.df) l=(0,l.map xR):=by rw[← b1,← hz]
   have iz:yI s (d0++f.df) l=if l.all (λy=>B1 (xR y) T) then(0,T) else(8,[]):=by
    unfold yI
    rw[af (by simpa using hn),du,af (by simp),List.all_map,← hT]
    rfl
   have eO:h'[3]? = some (wB en ns a b):=(cZ.2 3 (by omega)).trans h3
   have vJ:=BS hL en ns a b h' eO 8
   have vK:=BT hL en ns a b h' eO 8
   have t1:=(t.keep cZ.2).upTo cZ.1
   cases dp:l.all (λy=>B1 (xR y) T) with
   | false =>
     rw[dp] at iz
     simp[vK]
     exact⟨h',by rw[iz]; exact⟨rfl,rfl⟩,cZ.le lG,by rw[iz]; simp⟩
   | true =>
     rw[dp] at iz
     simp only[if_true] at iz
     have tU:Defs s (d0++f.df) T:=by
      rw[hT]
      cases l with
      | nil=>exact Defs.nil _ _
      | cons y l=>exact(b2 y (by simp)).1
     have vI:T.length≤1000000:=by
      rw[hT]
      cases l with
      | nil=>simp
      | cons y l=>exact mj y (by simp)
     have hTs:T.length+f.df.length≤1000000:=by
      have:xb [l]=T:=by rw[Cf,← hT]; simp[xb]
      rw[this] at jc; omega
     have ev:∀x∈T,x∉f.D:=λx hx hm=>(tU.1 x hx).2.2 (bG _ (hD▸hm))
     have mE:∃ow,F = .list ow (T.map PV.str):=by
      rcases hF with⟨fL,e⟩|e
      ·subst fL; exact⟨true,by rw[e,hT]; rfl⟩
      ·exact⟨false,e⟩
     obtain⟨ow,rfl⟩:=mE
     simp[vJ]
     refine b9w hL T (by omega) h' q' n o d i dv up f fs t1 ev tU.2 _ _ _ _ _ _ _ _ _ _ _ _ _ _ _ _ _ _ _ ?_
     intro iA y12 kC kB t4
     have n4:=t4.hn
     have ib:=t4.un
     have rF:=t4.ln
     have su:Kp q' h iA:=(cZ.le lG).trans kC
     have iC:f.D++T=f.df++T:=by rw[hD]
     have fin:∀(hh:List PObj) (dv':PV),Kp q' h hh→TopAt hh hh.length q' n o d i dv' up { f with D:=f.D++T,df:=f.df++T } fs→∃h'',((Out.val (PV.tuple [])=wy 1 a b (yI s (d0++f.df) l).1∧hh=h''))∧Kp q' h h''∧((yI s (d0++f.df) l).1=0→∃dv',TopAt h'' h''.length q' n o d i dv' up { O:=f.O,D:=f.df++(yI s (d0++f.df) l).2,I:=f.I,df:=f.df++(yI s (d0++f.df) l).2 } fs):=by
      intro hh dv' hk ht
      refine⟨hh,by rw[iz]; exact⟨rfl,rfl⟩,hk,λ_=>⟨dv',?_⟩⟩
      rw[iC] at ht
      rw[iz]
      exact ht
     have d9:(T.map PV.str).flatMap PV.cells=T.map PV.str:=cells_str T
     have kN:(dem∘PV.str)=PV.str:=rfl
     have pE:xf 1 (T.map PV.str)=true:=by cases T<;>rfl
     rcases t4.row with⟨rfl,gf⟩|⟨kr,gQ,dY,rfl,iw⟩
     ·simp only at gf
      by_cases nE:T=[]
      ·subst nE
       have im:iA.set n (.cells [up,.map (some o),.map (some d),i,.list true []])=iA:=E6 n4
       obtain⟨h5,e5⟩:∃h5,iA.set n (.cells [up,.map (some o),.map (some d),i,.list false []])=h5:=⟨_,rfl⟩
       have n5:h5[n]? = some (.cells [up,.map (some o),.map (some d),i,.list false []]):=by rw[← e5,aZ ib]
       have vL:h5.set n (.cells [up,.map (some o),.map (some d),i,.list true []])=iA:=by rw[← e5,List.set_set]; exact im
       simp[n4,Ax,yk,e5,n5,vL]
       exact fin iA _ su (by simpa using t4)
      ·obtain⟨h5,e5⟩:∃h5,iA.set n (.cells [up,.map (some o),.map (some d),i,.list false []])=h5:=⟨_,rfl⟩
       have gT:h5.length=iA.length:=by rw[← e5]; simp
       have n5:(h5++[PObj.cells (T.map PV.str)])[n]? = some (.cells [up,.map (some o),.map (some d),i,.list false []]):=by
        rw[am (by omega),← e5,aZ ib]
       have kT:=t4.push T h5 gT (λc hc=>by rw[← e5,an (by omega)]) (λc _ _ jQ=>by rw[← e5,an (Ne.symm jQ)])
       have eC:T.length≤2147483648:=by omega
       simp[n4,e5,n5,Ax,d9,pE,nE,eC,kN,yk]
       rw[gT]
       refine fin _ (.rowp iA.length 1 false T.length) ?_ ?_
       ·refine Kp.trans su ⟨by simp[gT],λc hc =>?_⟩
        rw[an (by omega),am (by omega),← e5,an (by omega)]
       ·have:((h5++[PObj.cells (T.map PV.str)]).set n (.cells [up,.map (some o),.map (some d),i,.rowp iA.length 1 false T.length])).length=iA.length+1:=by simp[gT]
        rw[this,gf,aY]
        exact kT
     ·obtain⟨h5,e5⟩:∃h5,iA.set kr .gone=h5:=⟨_,rfl⟩
      have gT:h5.length=iA.length:=by rw[← e5]; simp
      have nH:=(t4.rne _ _ _ _ rfl).1
      simp only at iw
      have n5:(h5++[PObj.cells (f.df.map PV.str++T.map PV.str)])[n]? = some (.cells [up,.map (some o),.map (some d),i,.rowp kr 1 false f.df.length]):=by
       rw[am (by omega),← e5,an nH]; exact n4
      have kT:=t4.push (f.df++T) h5 gT (λc hc=>by rw[← e5,an (by omega)]) (λc hc fp jQ=>by
       have:kr≠c:=by
        intro sd
        exact absurd rfl (fp 1 false f.df.length |> λh=>by subst sd; exact h)
       rw[← e5,an this])
      simp only[a8,ap] at kT
      have eC:f.df.length+T.length≤2147483648:=by omega
      have dy:(f.df.map PV.str).take f.df.length=f.df.map PV.str:=bS (by simp)
      have se:List.map PV.str (f.df.take f.df.length)=List.map PV.str f.df:=by rw[aB]
      simp[n4,Ax,iw,d9,pE,eC,dy,kN,se,e5,n5,yk]
      refine fin _ (.rowp iA.length 1 false (f.df.length+T.length)) ?_ ?_
      ·refine Kp.trans su ⟨by simp[gT],λc hc =>?_⟩
       rw[an (by omega),am (by omega),← e5,an (by omega)]
      ·have:((h5++[PObj.cells (f.df.map PV.str++T.map PV.str)]).set n (.cells [up,.map (some o),.map (some d),i,.rowp iA.length 1 false (f.df.length+T.length)])).length=iA.length+1:=by simp[gT]
       rw[this]
       exact kT
  ·intro hz h' W g2 cZ
   simp
   have iz:yI s (d0++f.df) l=((xA s (d0++f.df) l).1,[]):=by
    unfold yI
    rw[af (by simpa using hn),ah hz]
   exact⟨h',by rw[iz]; simp[wy,hz],cZ.le lG,λh0=>absurd (by rw[iz] at h0; exact h0) hz⟩
 ·intro hn y5 y6 y15 g1
  simp
  have iz:yI s (d0++f.df) l=(7,[]):=by unfold yI; rw[ah hn]
  exact⟨h,by rw[iz]; exact⟨rfl,rfl⟩,Kp.refl _ _,by rw[iz]; simp⟩
end
theorem I4:∀l:List Eqn,(wV l).length≤wl Eqn.parts l
 | []=>by simp[wV,wl]
 | q :: l => by
   have:=I4 l
   have e:wV (q::l)=q.left++wV l:=by simp[wV]
   rw[e]
   simp only[ap,wl,Eqn.parts]
   omega
theorem KD (x:State):(xR x).length≤(zY x).length:=by unfold xR xy; exact List.length_filter_le _ _
theorem I5:∀l:List (List State),(∀a∈l,∀x∈a,(zY x).length≤x.parts)→(xb l).length≤yi l
 | [],_=>by simp[xb,yi]
 | a :: l, h => by
   have:=I5 l (λb hb=>h b (by simp[hb]))
   rw[Cf]
   cases a with
   | nil=>simp[yi,AI]; omega
   | cons y a =>
     have h1:=h (y::a) (by simp) y (by simp)
     have h2:=KD y
     simp only[aC,List.headD_cons,ap,yi,AI]
     omega
theorem Gs (x:State):(zY x).length≤x.parts:=by
 induction x using State.ind with
 | h s ih =>
   cases s with
   | mk n l e a u w =>
     have h1:=I4 e
     have h2:=I5 a ih
     simp only[zY,ap,State.parts]
     omega
section
variable {L:Nat→Option PFunc} (hL:∀k f,LS k=some f→L k=some f) (en:List Enum) (ns:List Node) (a b:Int) (ents:xK)
include hL
theorem c08 (x:State):SW x→x.parts≤1000000→KC L en ns a b ents x:=by
 induction x using State.ind with
 | h x ih =>
   intro hx hp
   have cQ:∀y∈x.autos,∀z∈y,z.parts≤x.parts:=by
    intro y hy z hz
    cases x with
    | mk n l e au u w =>
      have hy:y∈au:=hy
      have h1:AI y≤yi au:=by
       rw[E5,DY]
       have:=Cg (λa=>1+wl State.parts a) hy
       omega
      have h2:z.parts≤AI y:=by rw[DY]; exact Cg _ hz
      simp only[State.parts]
      omega
   intro k dl s eS dV h h2 h3 q' n o d i dv up f fs t dk d0 hD dC
   refine c2I hL en ns a b ents x hx ?_ (aT (Gs x) hp) k dl s eS dV h h2 h3 q' n o d i dv up f fs t dk d0 hD dC
   intro y hy
   refine Ph hL en ns a b ents y (hx.as y hy) (λz hz=>ih y hy z hz (hx.ss y hy z hz) (aT (cQ y hy z hz) hp)) (λz hz =>?_)
   exact aT (KD z) (aT (Gs z) (aT (cQ y hy z hz) hp))
theorem c2J (x:List State) (hl:x.length≤1600) (hx:∀y∈x,SW y) (hp:∀y∈x,y.parts≤1000000):E4 L en ns a b ents x:=
 Ph hL en ns a b ents x hl (λz hz=>c08 hL en ns a b ents z (hx z hz) (hp z hz)) (λz hz=>aT (KD z) (aT (Gs z) (hp z hz)))
end
section
variable {L:Nat→Option PFunc} (hL:∀k f,LS k=some f→L k=some f) (en:List Enum) (ns:List Node) (a b:Int) (ents:xK)
include hL
theorem b6d (k:Nat) (hn:NodesIn ents ns k) (s:Place) (eS:s.before=ns.take k) (l:List Expr) (hl:l.length≤1600) (hw:∀x∈l,XW x) (h:List PObj) (h2:h[2]? = some (wD ents)) (h3:h[3]? = some (wB en ns a b)) (v:PV) (fs:List Fr) (hv:Holds h h.length v fs) (dk:∀x,xr fs x=true↔x∈s.vis)
  (V0 V1 V2 V3 V4 V5 V6 V7 V8 V9:PV) (g:Nat) {Q:PExit→St→Prop} (jF:V0 = .ptr 3 0) (mX:V1 = .int .i64 k) (rX:V4=v)
  (ok:ww (λe=>xg s e 1) l=0→∀h' y6 g',Kp h.length h h'→Q (.exit 2) ⟨[V0,V1,V2,V3,V4,V5,y6,V7,V8,V9,.list false (l.map wq),.int .i64 l.length,.int .i64 l.length],[],g',h'⟩)
  (no:ww (λe=>xg s e 1) l≠0→∀h' W g',Kp h.length h h'→Q (.boom (xC 1 a b (ww (λe=>xg s e 1) l))) ⟨W,[],g',h'⟩):
  wpL L Gp ⟨[V0,V1,V2,V3,V4,V5,V6,V7,V8,V9,.list false (l.map wq),.int .i64 l.length,.int .i64 0],[],g,h⟩ Q:=by
 subst jF
 subst mX
 subst rX
 have ij:=hv.cp
 have ik:=hv.tkv
 have kS:=hv.dem
 rw[Gp]
 refine xk l.length (λj st=>∃y6 g' h',st=⟨[.ptr 3 0,.int .i64 k,V2,V3,V4,V5,y6,V7,V8,V9,.list false (l.map wq),.int .i64 l.length,.int .i64 j],[],g',h'⟩∧Kp h.length h h'∧ww (λe=>xg s e 1) l=ww (λe=>xg s e 1) (l.drop j)) ?_ ?_ ⟨_,_,h,rfl,Kp.refl _ _,rfl⟩
 ·rintro j hj st ⟨y6,g',h',rfl,cZ,dc⟩ ih
  have fV:=wC j (by omega)
  have pn:3<h.length:=(aj.1 h3).1
  have fU:h'[2]? = some (wD ents):=(cZ.2 2 (by omega)).trans h2
  have eO:h'[3]? = some (wB en ns a b):=(cZ.2 3 pn).trans h3
  obtain⟨h'',hx,ff⟩:=Kz hL en ns a b ents k hn s eS l[j] (hw _ (ai hj)).ew 1 h' fU eO h.length cZ.1 V4 fs (hv.keep cZ.2) dk
  have fq:Kp h.length h h'':=cZ.trans (ff.le cZ.1)
  rw[aU hj] at dc
  have gu:ww (λe=>xg s e 1) (l[j]::l.drop (j+1))=if xg s l[j] 1=0 then ww (λe=>xg s e 1) (l.drop (j+1)) else xg s l[j] 1:=rfl
  rw[gu] at dc
  by_cases hz:xg s l[j] 1=0
  ·rw[ah hz] at dc
   rw[hz] at hx
   simp[wy] at hx
   simp[hj,ij,ik,hx,fV]
   exact ih _ ⟨_,_,_,rfl,fq,dc⟩
  ·rw[af hz] at dc
   simp[wy,hz] at hx
   simp[hj,ij,ik,hx]
   rw[← dc]
   exact no (by rw[dc]; exact hz) h'' _ _ fq
 ·rintro st ⟨y6,g',h',rfl,cZ,dc⟩
  rw[be (ao _)] at dc
  simp
  exact ok dc h' _ _ cZ
end
def D0 (sz by':Nat) (z:List PV):PFunc:=⟨2,3,(S (R [t 2 (.c (.list true []))]) (S (B [m v1,b .lss l0 (k 0)] l1 (R [m (.c .dead),r (.mov (.c .dead))]) Z) (S (S (R [m v1,m v0,p (.cap l1),m v0,n l3,b .sub l2 l4,b .sub l0 l5,t 1 l6]) (B [m v1,b .gtr l0 (k 0)] l1 (R [m v0,m v0,p (.cap l1),p (.slice false sz l0 none (some l2)),m v1,p (.h (.happz sz true by' z l3 l4)),m v0,n l6,p (.slice false sz l5 none (some l7)),t 0 l8]) Z)) (S (R [m v0,t 2 l0]) Y)))),[.keep 2],false,none,none⟩
def Jc:PC:=(.loop (S (B [b .lss v8 v7] l0 Z (X 0)) (S (K 1 (S (R [i 1 v6 v8,c l0,t 3 l1]) (S (R [m v2,m v3,n l1,b .add l0 l2,t 2 l3]) (B [m v2,b .lss l0 (k 0)] l1 (R [m (.c .dead),r (.mov (.c .dead))]) Z)))) (R [b .add v8 (k 1),q 8 (.mov l0)]))))
def Jd (sz by':Nat):PC:=(.loop (S (B [b .lss xl xx] l0 Z (X 2)) (S (K 3 (S (R [i 1 v9 xl,c l0,t 5 l1]) (R [p (.take v4),m v5,p (.h (.happ sz true by' l0 l1)),t 4 l2]))) (R [b .add xl (k 1),q 11 (.mov l0)]))))
def Gw (sz by' gr:Nat) (res:PRes):PFunc:=⟨1,12,(S (R [t 1 (.c .nils)]) (S (R [t 2 (k 0)]) (S (S (R [q 6 (.mov v0),q 7 (.len false v6),q 8 (.mov (k 0))]) (K 0 Jc)) (S (R [m v2,fh gr [(.c .nils),l0],t 4 l1]) (S (S (R [q 9 (.mov v0),q 10 (.len false v9),q 11 (.mov (k 0))]) (K 2 (Jd sz by'))) (S (R [m v4,t 1 l0]) Y)))))),[res],false,none,none⟩
structure Enc {α:Type} (e:α→PV) (sz:Nat):Prop where
 agg:∀x,e x = .agg (e x).cells
 len:∀x,(e x).cells.length=sz
 dem:∀x,(e x).cells.map dem=(e x).cells
 pos:0<sz
section
variable {α:Type} {e:α→PV} {sz:Nat} (he:Enc e sz)
def RowOf (e:α→PV) (sz:Nat) (h:List PObj) (b:Nat) (v:PV) (l:List α):Prop:=(v = .nils∧l=[])∨∃k cs,b≤k∧v = .rowp k sz true l.length∧h[k]? = some (.cells cs)∧l.length*sz≤cs.length∧cs.take (l.length*sz)=(l.map e).flatMap PV.cells
def xP (e:α→PV) (gs:List (List α)):List PV:=gs.map λg => .list false (g.map e)
def xB (gs:List (List α)):Nat:=wl List.length gs
theorem Je:∀(a b:List (List α)),xB (a++b)=xB a+xB b
 | [],b=>by simp[xB,wl]
 | x :: a, b => by
   have:=Je a b
   simp only[xB] at this
   simp only[xB,aJ,wl,this]; omega
theorem MH (gs:List (List α)) (j:Nat) (hj:j<gs.length):xB (gs.take (j+1))=xB (gs.take j)+gs[j].length:=by
 rw[yD hj,Je]
 simp[xB,wl]
theorem MI (gs:List (List α)) (j:Nat):xB (gs.take j)≤xB gs:=by
 have:=Je (gs.take j) (gs.drop j)
 rw[b8] at this; omega
theorem Mv (gs:List (List α)):gs.flatten.length=xB gs:=by
 induction gs with
 | nil=>rfl
 | cons x gs ih=>rw[List.flatten_cons,ap,ih]; simp[xB,wl]
include he
theorem Enc.cellsDem:∀l:List α,((l.map e).flatMap PV.cells).map PI.dem=(l.map e).flatMap PV.cells
 | []=>rfl
 | x :: l => by
   rw[aC,bc,a8,Enc.cellsDem l,he.dem]
theorem Enc.cellsLen:∀l:List α,((l.map e).flatMap PV.cells).length=l.length*sz
 | []=>by simp
 | x :: l => by
   rw[aC,bc,ap,Enc.cellsLen l,he.len,aP,Nat.succ_mul]; omega
theorem Enc.head (l:List α):xf sz (l.map e)=true:=by
 cases l with
 | nil=>rfl
 | cons x l=>simp[xf,he.len]
theorem Enc.els (l:List α) (cs:List PV) (hc:cs.take (l.length*sz)=(l.map e).flatMap PV.cells):zj sz true cs l.length 0=some (l.map e):=by
 have key:∀(l:List α) (pre post:List PV),zj sz true (pre++((l.map e).flatMap PV.cells++post)) l.length pre.length=some (l.map e):=by
  intro l
  induction l with
  | nil=>intro pre post; rfl
  | cons x l ih =>
    intro pre post
    have h1:=ih (pre++(e x).cells) post
    rw[ap,he.len] at h1
    have h2:pre++(e x).cells++((l.map e).flatMap PV.cells++post)=pre++(((x::l).map e).flatMap PV.cells++post):=by simp
    rw[h2] at h1
    have h3:wz sz true (pre++(((x::l).map e).flatMap PV.cells++post)) pre.length=some (e x):=by
     have hl:=he.len x
     have h4:pre.length+sz≤(pre++(((x::l).map e).flatMap PV.cells++post)).length:=by
      rw[ap,ap,aC,bc,ap]; omega
     simp only[wz,if_true,h4,List.drop_left']
     rw[aC,bc,az,List.take_left' hl,he.dem,← he.agg]
    rw[aP,zj,h3,aw,h1]
    rfl
 have:=key l [] (cs.drop (l.length*sz))
 rw[← hc,b8] at this
 exact this
theorem Enc.happ {by':Nat} (gh:by'≤16384) (h:List PObj) (b:Nat) (hb:b≤h.length) (v:PV) (l m:List α) (hv:RowOf e sz h b v l) (hl:l.length+m.length≤4800):∃v' h',(∀st:St,st.heap=h→Ax h sz true by' (m.map e) v st=some (v',{ st with heap:=h' }))∧Kp b h h'∧RowOf e sz h' b v' (l++m):=by
 have tg:=he.head m
 rcases hv with⟨rfl,rfl⟩|⟨k,cs,hk,rfl,hc,dN,rE⟩
 ·by_cases hm:m=[]
  ·subst hm
   refine⟨.nils,h,?_,Kp.refl _ _,.inl ⟨rfl,rfl⟩⟩
   intro st du
   simp[Ax,← du]
  ·refine⟨.rowp h.length sz true m.length,h++[.cells ((m.map e).flatMap PV.cells)],?_,Kp.app hb,.inr ⟨h.length,(m.map e).flatMap PV.cells,hb,by simp,by simp,?_,?_⟩⟩
   ·intro st du
    have h1:m.length≤2147483648:=by simp at hl; omega
    have rT:¬m.map e=[]:=by simpa using hm
    simp only[Ax,rT,if_false,tg,aN,h1,he.cellsDem,gh]
    simp[du]
   ·rw[he.cellsLen]; simp
   ·rw[aY,bS (by rw[he.cellsLen]; omega)]
 ·have jR:k<h.length:=(aj.1 hc).1
  refine⟨.rowp h.length sz true (l.length+m.length),h.set k .gone++[.cells ((l.map e).flatMap PV.cells++(m.map e).flatMap PV.cells)],?_,⟨by simp,λn hn =>?_⟩,.inr ⟨h.length,(l.map e).flatMap PV.cells++(m.map e).flatMap PV.cells,hb,by simp,?_,?_,?_⟩⟩
  ·intro st du
   have h1:l.length+m.length≤2147483648:=by omega
   simp only[Ax,hc,tg,aN,h1,dN,rE,he.cellsDem,gh]
   simp
  ·rw[am (by simp; omega),an (by omega)]
  ·have:(h.set k .gone).length=h.length:=by simp
   rw[← this,ar (ao _)]
   simp
  ·rw[ap,ap,he.cellsLen,he.cellsLen,aQ]; omega
  ·rw[a8,bu,bS (by rw[ap,ap,he.cellsLen,he.cellsLen,aQ]; omega)]
end
theorem RowOf.cp {α:Type} {e:α→PV} {sz:Nat} {h:List PObj} {b:Nat} {v:PV} {l:List α} (hv:RowOf e sz h b v l):cp v=some v∧tkv v=some (v,false)∧dem v=v:=by
 rcases hv with⟨rfl,_⟩|⟨k,cs,_,rfl,_⟩<;>exact⟨rfl,rfl,rfl⟩
section
variable {L:Nat→Option PFunc} {α:Type} {e:α→PV} {sz by' gr:Nat} {z:List PV} (he:Enc e sz) (gh:by'≤16384)
theorem MJ {sz by':Nat} {z:List PV} (hf:L gr=some (D0 sz by' z)) (h:List PObj):wn L gr [.nils,.int .i64 0] h=some (.nils,h):=by
 refine wJ hf rfl ?_
 have lU:IntKind.i64.wrap (-IntKind.i64.wrap 0)=0:=by decide
 simp[D0,lU]
theorem MK {sz by':Nat} {z:List PV} (gh:by'≤16384) (hf:L gr=some (D0 sz by' z)) (n:Nat) (h0:0<n) (hn:n≤4800) (h:List PObj):∃cs,wn L gr [.nils,.int .i64 n] h=some (.rowp h.length sz true 0,h++[.cells cs]):=by
 have mL:(0:Int)<n:=by omega
 have uY:(n:Int)≤2147483648:=by omega
 have rU:¬(n:Int)<0:=by omega
 have rV:IntKind.i64.wrap 0=0:=by decide
 have hw:IntKind.i64.wrap (n:Int)=n:=by
  have:=wC (n - 1) (by omega)
  have e:((n - 1:Nat):Int)+1=n:=by omega
  rw[e] at this
  rw[this]
  omega
 refine⟨(List.replicate n (z.map dem)).flatten,?_⟩
 refine wJ hf rfl ?_
 simp[D0,mL,uY,rU,h0,hw,rV,gh]
theorem ML (gs:List (List α)) (hg:gs.length≤1600) (hn:xB gs≤4800) (h:List PObj) (V0 V1 V3 V4 V5 V9 V10 V11:PV) (g:Nat) {Q:PExit→St→Prop}
  (ok:∀y3,Q (.exit 0) ⟨[V0,V1,.int .i64 (xB gs),y3,V4,V5,.list false (xP e gs),.int .i64 gs.length,.int .i64 gs.length,V9,V10,V11],[],g,h⟩):
  wpL L Jc ⟨[V0,V1,.int .i64 0,V3,V4,V5,.list false (xP e gs),.int .i64 gs.length,.int .i64 0,V9,V10,V11],[],g,h⟩ Q:=by
 rw[Jc]
 refine xk gs.length (λj st=>∃y3,st=⟨[V0,V1,.int .i64 (xB (gs.take j)),y3,V4,V5,.list false (xP e gs),.int .i64 gs.length,.int .i64 j,V9,V10,V11],[],g,h⟩) ?_ ?_ ⟨_,by simp[xB,wl]; rfl⟩
 ·rintro j hj st ⟨y3,rfl⟩ ih
  have hw:=wC j (by omega)
  have ht:=MH gs j hj
  have em:=MI gs (j+1)
  obtain⟨A,hA⟩:∃A,A=xB (gs.take j):=⟨_,rfl⟩
  obtain⟨B,hB⟩:∃B,B=xB (gs.take (j+1)):=⟨_,rfl⟩
  rw[← hA,← hB] at ht
  rw[← hB] at em
  have oF:IntKind.i64.wrap ((A:Int)+gs[j].length)=B:=by
   have:=MM (A+gs[j].length) (by omega)
   rw[show (A:Int)+gs[j].length=((A+gs[j].length:Nat):Int) by omega,this,ht]
  have oG:j<(xP e gs).length:=by simpa[xP] using hj
  have mM:(xP e gs)[j]? = some (.list false (gs[j].map e)):=by simp[xP,hj]
  rw[← hA]
  rw[← hB] at ih
  obtain⟨GS,rW⟩:∃GS,GS=xP e gs:=⟨_,rfl⟩
  rw[← rW] at ih oG mM ⊢
  have oH:GS[j] = .list false (gs[j].map e):=(aj.1 mM).2
  have dN:∀es,(PV.list false es).cells=[.list false es]:=λ_=>rfl
  have uZ:¬(B:Int)<0:=by omega
  simp[hj,oG,mM,hw,oF,oH,dN,uZ]
  exact ih _ ⟨_,rfl⟩
 ·rintro st ⟨y3,rfl⟩
  rw[aB]
  simp
  exact ok _
include he gh
theorem Gx (gs:List (List α)) (hg:gs.length≤1600) (hn:xB gs≤4800) (h:List PObj) (b:Nat) (hb:b≤h.length) (V4:PV) (rX:RowOf e sz h b V4 []) (V0 V1 V2 V3 V5 V6 V7 V8:PV) (g:Nat) {Q:PExit→St→Prop}
  (ok:∀h' v y5,Kp b h h'→RowOf e sz h' b v gs.flatten→Q (.exit 2) ⟨[V0,V1,V2,V3,v,y5,V6,V7,V8,.list false (xP e gs),.int .i64 gs.length,.int .i64 gs.length],[],g,h'⟩):
  wpL L (Jd sz by') ⟨[V0,V1,V2,V3,V4,V5,V6,V7,V8,.list false (xP e gs),.int .i64 gs.length,.int .i64 0],[],g,h⟩ Q:=by
 rw[Jd]
 refine xk gs.length (λj st=>∃v y5 h',st=⟨[V0,V1,V2,V3,v,y5,V6,V7,V8,.list false (xP e gs),.int .i64 gs.length,.int .i64 j],[],g,h'⟩∧Kp b h h'∧RowOf e sz h' b v (gs.take j).flatten) ?_ ?_ ⟨_,_,h,rfl,Kp.refl _ _,rX⟩
 ·rintro j hj st ⟨v,y5,h',rfl,cZ,hv⟩ ih
  have hw:=wC j (by omega)
  have ht:=MH gs j hj
  have em:=MI gs (j+1)
  have fS:(gs.take (j+1)).flatten=(gs.take j).flatten++gs[j]:=by
   rw[yD hj,List.flatten_append]; simp
  obtain⟨v',h'',qe,ff,dI⟩:=he.happ gh h' b (aT hb cZ.1) v _ gs[j] hv (by rw[Mv]; omega)
  have mM:(xP e gs)[j]? = some (.list false (gs[j].map e)):=by simp[xP,hj]
  have oG:j<(xP e gs).length:=by simpa[xP] using hj
  obtain⟨GS,rW⟩:∃GS,GS=xP e gs:=⟨_,rfl⟩
  rw[← rW] at ih oG mM ⊢
  have oH:GS[j] = .list false (gs[j].map e):=(aj.1 mM).2
  have dN:∀es,(PV.list false es).cells=[.list false es]:=λ_=>rfl
  have hc:=hv.cp
  have iM:=dI.cp
  rw[← fS] at dI
  simp[hj,oG,mM,hw,oH,dN,hc.1,hc.2.1,hc.2.2,qe,iM.1,iM.2.1,iM.2.2]
  exact ih _ ⟨v',_,h'',rfl,cZ.trans ff,dI⟩
 ·rintro st ⟨v,y5,h',rfl,cZ,hv⟩
  rw[aB] at hv
  simp
  exact ok h' v y5 cZ hv
theorem c19 {k:Nat} (hf:L k=some (Gw sz by' gr (.keep 1))) (jy:L gr=some (D0 sz by' z)) (gs:List (List α)) (hg:gs.length≤1600) (hn:xB gs≤4800) (o:Bool) (h:List PObj):∃v h',wn L k [.list o (xP e gs)] h=some (v,h')∧Kp h.length h h'∧RowOf e sz h' h.length v gs.flatten:=by
 suffices H:∃r,wn L k [.list o (xP e gs)] h=some r∧Kp h.length h r.2∧RowOf e sz r.2 h.length r.1 gs.flatten from by
  obtain⟨⟨v,h'⟩,h1,h2,h3⟩:=H
  exact⟨v,h',h1,h2,h3⟩
 refine zq hf rfl ?_
 have mN:(xP e gs).length=gs.length:=by simp[xP]
 simp[Gw,mN]
 refine ML gs hg hn h _ _ _ _ _ _ _ _ _ ?_
 intro y3
 by_cases h0:xB gs=0
 ·have jy:=MJ jy h
  have mL:(xB gs:Int)=0:=by omega
  simp[mL,jy,mN]
  refine Gx he gh gs hg hn h h.length (ao _) .nils (.inl ⟨rfl,rfl⟩) _ _ _ _ _ _ _ _ _ ?_
  intro h' v y5 hk hv
  have hc:=hv.cp
  simp[hc.1,hc.2.1,hc.2.2,xm]
  exact⟨hk,hv⟩
 ·obtain⟨cs,jy⟩:=MK gh jy (xB gs) (by omega) hn h
  simp[jy,mN]
  refine Gx he gh gs hg hn _ h.length (by simp) (.rowp h.length sz true 0) (.inr ⟨h.length,cs,ao _,rfl,by simp,by simp,by simp⟩) _ _ _ _ _ _ _ _ _ ?_
  intro h' v y5 hk hv
  have hc:=hv.cp
  simp[hc.1,hc.2.1,hc.2.2,xm]
  exact⟨(Kp.app (ao _)).trans hk,hv⟩
theorem MN {k:Nat} (hf:L k=some (Gw sz by' gr (.var 1))) (jy:L gr=some (D0 sz by' z)) (gs:List (List α)) (hg:gs.length≤1600) (hn:xB gs≤4800) (o:Bool) (h:List PObj):∃h',wn L k [.list o (xP e gs)] h=some (.list false (gs.flatten.map e),h'):=by
 suffices H:∃r,wn L k [.list o (xP e gs)] h=some r∧r.1 = .list false (gs.flatten.map e) from by
  obtain⟨⟨v,h'⟩,h1,h2⟩:=H
  simp only at h2; subst h2
  exact⟨h',h1⟩
 refine zq hf rfl ?_
 have mN:(xP e gs).length=gs.length:=by simp[xP]
 obtain⟨F,hF⟩:∃F,F=gs.flatten:=⟨_,rfl⟩
 rw[← hF]
 simp[Gw,mN]
 refine ML gs hg hn h _ _ _ _ _ _ _ _ _ ?_
 intro y3
 by_cases h0:xB gs=0
 ·have jy:=MJ jy h
  have mL:(xB gs:Int)=0:=by omega
  simp[mL,jy,mN]
  refine Gx he gh gs hg hn h h.length (ao _) .nils (.inl ⟨rfl,rfl⟩) _ _ _ _ _ _ _ _ _ ?_
  intro h' v y5 hk hv
  rw[← hF] at hv
  rcases hv with⟨rfl,hn⟩|⟨k,cs,_,rfl,hc,hl,ht⟩
  ·simp[xm,hn]
  ·simp[xm,hc,he.els _ _ ht]
 ·obtain⟨cs,jy⟩:=MK gh jy (xB gs) (by omega) hn h
  simp[jy,mN]
  refine Gx he gh gs hg hn _ h.length (by simp) (.rowp h.length sz true 0) (.inr ⟨h.length,cs,ao _,rfl,by simp,by simp,by simp⟩) _ _ _ _ _ _ _ _ _ ?_
  intro h' v y5 hk hv
  rw[← hF] at hv
  rcases hv with⟨rfl,hn⟩|⟨k,cs,_,rfl,hc,hl,ht⟩
  ·simp[xm,hn]
  ·simp[xm,hc,he.els _ _ ht]
end
theorem Jf:Enc wv 3:=⟨λ_=>rfl,λ_=>rfl,λ_=>rfl,by decide⟩
theorem c4T:Enc wq 6:=⟨λx=>by rw[Br]; rfl,λx=>by simp,λx=>by simp,by decide⟩
theorem c8l:Enc xe 8:=⟨λ_=>rfl,λ_=>rfl,λx=>by simp,by decide⟩
section
variable {L:Nat→Option PFunc} (hL:∀k f,LS k=some f→L k=some f)
include hL
theorem c2K (l:List On) (hl:l.length≤1600) (o:Bool) (h:List PObj):∃r,wn L 34 [.list o (l.map eOn)] h=some (.list r (l.map eOn),h):=by
 refine⟨true,?_⟩
 refine b7C (hL 34 _ rfl) rfl rfl ?_ ?_
 ·intro hv
  cases l with
  | nil=>simp at hv
  | cons x l =>
    rw[aP] at hl
    have h1:l.length+1≤9223372036854775807:=by omega
    have h2:(l.length+1)*32≤140737488355328:=by omega
    have h3:l.length+1≤2147483648:=by omega
    simp[GD,h1,h2,h3]
 ·intro hv
  cases l with
  | nil=>simp[GD]
  | cons x l=>simp at hv
end
section
variable {L:Nat→Option PFunc} (hL:∀k f,LS k=some f→L k=some f)
include hL
theorem Mu (gs:List (List Decl)) (hg:gs.length≤1600) (hn:xB gs≤4800) (o:Bool) (h:List PObj):∃v h',wn L 33 [.list o (xP wv gs)] h=some (v,h')∧Kp h.length h h'∧RowOf wv 3 h' h.length v gs.flatten:=
 c19 Jf (by decide) (k:=33) (by':=48) (gr:=74) (hL 33 _ rfl) (hL 74 _ rfl) gs hg hn o h
theorem Ms (l:List Decl) (cs:List PV) (hc:cs.take (l.length*3)=(l.map wv).flatMap PV.cells) (hl:l.length*3≤cs.length) (j:Nat) (hj:j<l.length):
  j*3+3≤cs.length∧List.map dem (List.take 3 (List.drop (j*3) cs))=[.str l[j].name,.int .i64 l[j].type,.list false (l[j].clock.map eOn)]∧cs.set (j*3+2) (.list false (l[j].clock.map eOn))=cs:=by
 have _:=hL
 have he:=Jf.els l cs hc
 obtain⟨_,hg⟩:=Hr he
 have h1:=hg j (wv l[j]) (by simp[hj])
 simp only[aR,wz,if_true] at h1
 have hb:j*3+3≤cs.length:=by omega
 rw[ah hb,G5] at h1
 simp only[aa,PV.agg.injEq] at h1
 refine⟨hb,h1,?_⟩
 have cQ:j*3+2<cs.length:=by omega
 have hx:cs[j*3+2]? = some (.list false (l[j].clock.map eOn)):=by
  have cU:∀(l:List Decl) (j:Nat) (hj:j<l.length),((l.map wv).flatMap PV.cells)[j*3+2]? = some (.list false (l[j].clock.map eOn)):=by
   intro l
   induction l with
   | nil=>intro j hj; simp at hj
   | cons x l ih =>
     intro j hj
     rw[aC,bc]
     cases j with
     | zero=>rfl
     | succ j =>
       have:=ih j (by simpa using hj)
       have e:(j+1)*3+2=(wv x).cells.length+(j*3+2):=by show _=3+_; omega
       rw[e,ar (by omega),Nat.add_sub_cancel_left]
       simpa using this
  have:=cU l j hj
  rw[← hc,List.getElem?_take_of_lt (by omega)] at this
  exact this
 obtain⟨h2,h3⟩:=aj.1 hx
 rw[← h3]; exact List.set_getElem_self h2
theorem My (n:Node) (h1:n.ins.length≤1600) (h2:n.outs.length≤1600) (h3:n.locals.length≤1600) (hd:∀d∈vars n,d.clock.length≤1600):∃h',wn L 11 [wA n] []=some (.list false ((vars n).map wv),h'):=by
 suffices H:∃r,wn L 11 [wA n] []=some r∧r.1 = .list false ((vars n).map wv) by
  obtain⟨⟨v,h'⟩,h1,h2⟩:=H
  simp only at h2; subst h2
  exact⟨h',h1⟩
 obtain⟨v,h',hc,_,hr⟩:=Mu hL [n.ins,n.outs,n.locals] (by simp) (by simp[xB,wl]; omega) false []
 have hf:[n.ins,n.outs,n.locals].flatten=vars n:=by simp[vars]
 rw[hf] at hr
 have hx:xP wv [n.ins,n.outs,n.locals]=[.list false (n.ins.map wv),.list false (n.outs.map wv),.list false (n.locals.map wv)]:=rfl
 rw[hx] at hc
 have mG:(vars n).length≤4800:=by simp[vars]; omega
 obtain⟨D,hD⟩:∃D,D=vars n:=⟨_,rfl⟩
 rw[← hD] at hr hd mG ⊢
 refine zq (hL 11 _ rfl) rfl ?_
 rcases hr with⟨rfl,rfl⟩|⟨k,cs,_,rfl,hk,hl,ht⟩
 ·simp[GB,hc]
  rw[Jj,Aw]
  simp[xm]
 ·simp[GB,hc]
  rw[Jj]
  refine xk D.length (λj st=>∃y4 y5 g,st=⟨[wA n,.loc 0 (wA n).cells,.list true [],.rowp k 3 true D.length,y4,y5,.rowp k 3 true D.length,.int .i64 D.length,.int .i64 j],[],g,h'⟩) ?_ ?_ ⟨_,_,_,rfl⟩
  ·rintro j hj st ⟨y4,y5,g,rfl⟩ ih
   have hw:=wC j (by omega)
   obtain⟨r1,r2,r3⟩:=Ms hL D cs ht hl j hj
   obtain⟨o,dN⟩:=c2K hL D[j].clock (hd _ (ai hj)) false []
   have wT:h'.set k (.cells cs)=h':=E6 hk
   have r4:j*3+2<cs.length:=by omega
   simp[hj,hw,hk,r1,r2,r3,r4,dN,wT]
   exact ih _ ⟨_,_,_,rfl⟩
  ·rintro st ⟨y4,y5,g,rfl⟩
   simp[xm,hk,Jf.els _ _ ht]
end
section
variable {L:Nat→Option PFunc} (hL:∀k f,LS k=some f→L k=some f) (en:List Enum) (ns:List Node) (a b:Int) (ents:xK)
include hL
theorem Mr (h:List PObj) (hb:4≤h.length):∃h',wn L 58 [.nilptr] h=some (.ptr (h.length+2) 0,h')∧h'.length=h.length+3∧Kp h.length h h'∧TopAt h' h'.length h.length (h.length+2) h.length (h.length+1) (.map none) (.list true []) .nilptr ⟨[],[],[],[]⟩ []:=by
 refine⟨h++[.map [],.map [],.cells [.nilptr,.map (some h.length),.map (some (h.length+1)),.map none,.list true []]],?_,by simp,Kp.app (ao _),?_⟩
 ·refine wJ (hL 58 _ rfl) rfl ?_
  simp[E2,PV.cells]
 ·exact⟨by omega,by omega,by omega,by simp,by simp,by simp,by omega,by omega,by omega,hb,by simp,by simp[bmE],by simp[bmE],.inl ⟨rfl,rfl⟩,.inl ⟨rfl,rfl⟩,λ_ _ _ _ e=>by simp at e,rfl⟩
theorem Gm (l m:List Decl):wm (l++m)=wm l++wm m:=by have _:=hL; simp[wm]
theorem b5H (F:List Decl) (hF:F.length≤4800) (h:List PObj) (q q' n o d:Nat) (i dv up:PV) (fs:List Fr) (t:TopAt h q q' n o d i dv up ⟨[],[],[],[]⟩ fs) (kr:Nat) (td:q≤kr) (cs:List PV) (hk:h[kr]? = some (.cells cs)) (hl:F.length*3≤cs.length) (ht:cs.take (F.length*3)=(F.map wv).flatMap PV.cells)
  (V0 V1 V2 V3 V5 V6 V10 V11 V12:PV) (g:Nat) {Q:PExit→St→Prop}
  (ok:∀y5 g' h' O,h'.length=h.length→Kp q' h h'→TopAt h' q q' n o d i dv up ⟨O,[],[],[]⟩ fs→(∀x,x∈O↔x∈wm F)→Q (.exit 0) ⟨[V0,V1,V2,V3,.ptr n 0,y5,V6,.rowp kr 3 true F.length,.int .i64 F.length,.int .i64 F.length,V10,V11,V12],[],g',h'⟩):
  wpL L Gn ⟨[V0,V1,V2,V3,.ptr n 0,V5,V6,.rowp kr 3 true F.length,.int .i64 F.length,.int .i64 0,V10,V11,V12],[],g,h⟩ Q:=by
 rw[Gn]
 refine xk F.length (λj st=>∃y5 g' h' O,st=⟨[V0,V1,V2,V3,.ptr n 0,y5,V6,.rowp kr 3 true F.length,.int .i64 F.length,.int .i64 j,V10,V11,V12],[],g',h'⟩∧h'.length=h.length∧Kp q' h h'∧h'[kr]? = some (.cells cs)∧TopAt h' q q' n o d i dv up ⟨O,[],[],[]⟩ fs∧∀x,x∈O↔x∈wm (F.take j)) ?_ ?_ ⟨_,_,h,[],rfl,rfl,Kp.refl _ _,hk,t,by simp[wm]⟩
 ·rintro j hj st ⟨y5,g',h',O,rfl,cM,cZ,hk,t,hO⟩ ih
  have hw:=wC j (by omega)
  obtain⟨r1,r2,r3⟩:=Ms hL F cs ht hl j hj
  obtain⟨r,hr,_,gS⟩:=Au F[j].name O
  have e1:=t.hn
  have e2:=t.ho
  have da:t.uo=t.uo:=rfl
  have te:=t.uo
  simp only[] at e1 e2
  simp[hj,hw,hk,r1,r2,e1,e2,hr,wZ]
  refine ih _ ⟨_,_,_,Av O F[j].name,rfl,by simpa using cM,cZ.trans (Kp.set t.lo),by rw[an (by omega)]; exact hk,?_,λx =>?_⟩
  ·rw[gS]
   exact t.setO _
  ·rw[E3,hO,yD hj,Gm hL,ak]
   simp[wm]
 ·rintro st ⟨y5,g',h',O,rfl,cM,cZ,hk,t,hO⟩
  rw[aB] at hO
  simp
  exact ok _ _ _ _ cM cZ t hO
theorem Mt (k:Nat) (dl:NodesIn ents ns k) (s:Place) (eS:s.before=ns.take k) (l:List Expr) (hl:l.length≤1600) (hw:∀x∈l,XW x) (gs:List (List Decl)) (hg:gs.length≤1600) (hn:xB gs≤4800) (dk:∀x,x∈wm gs.flatten↔x∈s.vis) (o1 o2:Bool)
  (h:List PObj) (h4:4≤h.length) (h2:h[2]? = some (wD ents)) (h3:h[3]? = some (wB en ns a b)):
  ∃h',wF L 63 [.ptr 3 0,.int .i64 k,.list o1 (l.map wq),.list o2 (xP wv gs)] h=some (wy 1 a b (ww (λe=>xg s e 1) l),h')∧Kp h.length h h':=by
 suffices H:∃res,wF L 63 [.ptr 3 0,.int .i64 k,.list o1 (l.map wq),.list o2 (xP wv gs)] h=some res∧∃h',res=(wy 1 a b (ww (λe=>xg s e 1) l),h')∧Kp h.length h h' by
  obtain⟨res,e1,h',e2,e3⟩:=H
  exact⟨h',by rw[e1,e2],e3⟩
 obtain⟨h1,c1,dS,k1,t1⟩:=Mr hL h h4
 obtain⟨v,hx,c2,k2,hr⟩:=Mu hL gs hg hn false h1
 have ff:Kp h.length h hx:=k1.trans (k2.le k1.1)
 have tx:TopAt hx h1.length h.length (h.length+2) h.length (h.length+1) (.map none) (.list true []) .nilptr ⟨[],[],[],[]⟩ []:=t1.keep k2.2
 obtain⟨F,hF⟩:∃F,F=gs.flatten:=⟨_,rfl⟩
 have mE:F.length≤4800:=by rw[hF,Mv]; exact hn
 rw[← hF] at hr dk
 have dO:∀(V3 V5 V6 V7 V8 V9:PV) (g:Nat) (h':List PObj) (O:List Str),h1.length≤h'.length→Kp h.length hx h'→TopAt h' h1.length h.length (h.length+2) h.length (h.length+1) (.map none) (.list true []) .nilptr ⟨O,[],[],[]⟩ []→(∀x,x∈O↔x∈wm F) →
   wpL L Gp ⟨[.ptr 3 0,.int .i64 k,.list false (l.map wq),V3,.ptr (h.length+2) 0,V5,V6,V7,V8,V9,.list false (l.map wq),.int .i64 l.length,.int .i64 0],[],g,h'⟩ (Bp 2 (Da L DV λres=>∃h',res=(wy 1 a b (ww (λe=>xg s e 1) l),h')∧Kp h.length h h')):=by
  intro V3 V5 V6 V7 V8 V9 g h' O em cZ t hO
  have dh:=ff.trans cZ
  refine b6d hL en ns a b ents k dl s eS l hl hw h' ((dh.2 2 (by omega)).trans h2) ((dh.2 3 (by omega)).trans h3) (.ptr (h.length+2) 0) [⟨O,[],[],[]⟩] (t.holds.up em) (λx=>by simp[xr,hO,dk]) _ _ _ _ _ _ _ _ _ _ _ rfl rfl rfl ?_ ?_
  ·intro hz h'' y6 g' hk''
   rw[hz]
   simp[wy,DV]
   exact dh.trans (hk''.le dh.1)
  ·intro hz h'' W g' hk''
   simp[wy,hz]
   exact dh.trans (hk''.le dh.1)
 refine BR (hL 63 _ rfl) rfl ?_
 rcases hr with⟨rfl,rfl⟩|⟨kr,cs,td,rfl,hk,dN,rE⟩
 ·simp[DV,c1,c2]
  rw[Gn,Aw]
  simp
  exact dO _ _ _ _ _ _ _ hx [] (by have:=k2.1; omega) (Kp.refl _ _) tx (by simp[wm])
 ·simp[DV,c1,c2]
  refine b5H hL F mE hx h1.length h.length _ _ _ _ _ _ [] tx kr td cs hk dN rE _ _ _ _ _ _ _ _ _ _ ?_
  intro y5 g' h' O cM cZ t hO
  simp
  exact dO _ _ _ _ _ _ _ h' O (by have:=k2.1; omega) cZ t hO
end
section
variable {h:List PObj} {b b' n o d:Nat} {dv up:PV} {f:Fr} {fs:List Fr}
theorem TopAt.newI (t:TopAt h h.length b' n o d (.map none) dv up f fs) (hd:dv = .list true []) (hI:f.I=[]):
  TopAt ((h++[PObj.map []]).set n (PObj.cells [up,.map (some o),.map (some d),.map (some h.length),dv])) (h.length+1) b' n o d (.map (some h.length)) dv up f fs:=by
 have ib:=t.un
 have te:=t.uo
 have uN:=t.ud
 have rF:=t.ln
 have key:∀k,k<h.length→k≠n→((h++[PObj.map []]).set n (PObj.cells [up,.map (some o),.map (some d),.map (some h.length),dv]))[k]? = h[k]? := λk h1 h2=>by
  rw[an (Ne.symm h2),am h1]
 refine⟨t.ln,t.lo,t.ld,by omega,by omega,by omega,t.no,t.nd,t.od,t.four,?_,?_,?_,.inr ⟨h.length,rfl,by omega,by omega,by omega,by omega,by omega,?_⟩,?_,?_,?_⟩
 ·rw[aZ (by simp; omega)]
 ·rw[key o te (Ne.symm t.no)]; exact t.ho
 ·rw[key d uN (Ne.symm t.nd)]; exact t.hd
 ·rw[hI,an (by omega)]; simp[bmE]
 ·rcases t.row with h1|⟨k,e1,e2,e3,e4⟩
  ·exact .inl h1
  ·rw[hd] at e3; simp at e3
 ·intro k s a len e; rw[hd] at e; simp at e
 ·exact t.hup.keep λk hk=>key k (by omega) (by omega)
theorem TopAt.setI {m:Nat} (t:TopAt h b b' n o d (.map (some m)) dv up f fs) (I:List Str):h[m]? = some (.map (bmE f.I))∧b'≤m∧TopAt (h.set m (.map (bmE I))) b b' n o d (.map (some m)) dv up { f with I:=I } fs:=by
 have hi:=t.hi
 rcases hi with⟨h1,_⟩|⟨m',e1,e2,e3,e4,e5,e6,e7⟩
 ·simp at h1
 ·simp only[PV.map.injEq,aa] at e1
  subst e1
  have hl:=(aj.1 e7).1
  refine⟨e7,e2,t.ln,t.lo,t.ld,t.un,t.uo,t.ud,t.no,t.nd,t.od,t.four,?_,?_,?_,.inr ⟨m,rfl,e2,e3,e4,e5,e6,by rw[aZ hl]⟩,?_,t.rne,t.hup.keep λk dh=>an (by omega)⟩
  ·rw[an e4]; exact t.hn
  ·rw[an e5]; exact t.ho
  ·rw[an e6]; exact t.hd
  ·rcases t.row with h1|⟨k,e1,e2,e3,e4⟩
   ·exact .inl h1
   ·exact .inr ⟨k,e1,e2,e3,by rw[an (λe=>(t.rne _ _ _ _ e3).2.2.2 (by rw[e]))]; exact e4⟩
end
section
variable {L:Nat→Option PFunc} (hL:∀k f,LS k=some f→L k=some f)
include hL
theorem b81 (l:List Decl) (hl:l.length≤1600) (h:List PObj) (q q' n o d m:Nat) (dv up:PV) (f:Fr) (fs:List Fr) (t:TopAt h q q' n o d (.map (some m)) dv up f fs) (hI:f.I=[])
  (V0 V1 V2 V4 V5 V6 V7 V8 V12 V13 V14 V15 V16 V17 V18 V19 V20:PV) (g:Nat) {Q:PExit→St→Prop}
  (ok:∀y4 g' h' I,h'.length=h.length→Kp q' h h'→TopAt h' q q' n o d (.map (some m)) dv up { f with I:=I } fs→(∀x,x∈I↔x∈wm l)→Q (.exit 0) ⟨[V0,V1,V2,.ptr n 0,y4,V5,V6,V7,V8,.list false (l.map wv),.int .i64 l.length,.int .i64 l.length,V12,V13,V14,V15,V16,V17,V18,V19,V20],[],g',h'⟩):
  wpL L IW ⟨[V0,V1,V2,.ptr n 0,V4,V5,V6,V7,V8,.list false (l.map wv),.int .i64 l.length,.int .i64 0,V12,V13,V14,V15,V16,V17,V18,V19,V20],[],g,h⟩ Q:=by
 rw[IW]
 refine xk l.length (λj st=>∃y4 g' h' I,st=⟨[V0,V1,V2,.ptr n 0,y4,V5,V6,V7,V8,.list false (l.map wv),.int .i64 l.length,.int .i64 j,V12,V13,V14,V15,V16,V17,V18,V19,V20],[],g',h'⟩∧h'.length=h.length∧Kp q' h h'∧TopAt h' q q' n o d (.map (some m)) dv up { f with I:=I } fs∧∀x,x∈I↔x∈wm (l.take j)) ?_ ?_ ⟨_,_,h,[],rfl,rfl,Kp.refl _ _,by rw[← hI]; exact t,by simp[wm]⟩
 ·rintro j hj st ⟨y4,g',h',I,rfl,cM,cZ,t,hI⟩ ih
  have hw:=wC j (by omega)
  obtain⟨r,hr,_,gS⟩:=Au l[j].name I
  have e1:=t.hn
  obtain⟨e2,e3,t2⟩:=t.setI (Av I l[j].name)
  simp only[] at e1 e2
  simp[hj,hw,e1,e2,hr,wZ]
  refine ih _ ⟨_,_,_,Av I l[j].name,rfl,by simpa using cM,cZ.trans (Kp.set e3),by rw[gS]; exact t2,λx =>?_⟩
  rw[E3,hI,yD hj,Gm hL,ak]
  simp[wm]
 ·rintro st ⟨y4,g',h',I,rfl,cM,cZ,t,hI⟩
  rw[aB] at hI
  simp
  exact ok _ _ _ _ cM cZ t hI
theorem b7b (s:Place) (q:Eqn) (qs:List Eqn) (k:Nat) (d:List Str):zI s (q::qs) k d=if (yn s q d).1=0 then zI s qs (k+1) (yn s q d).2 else .inl (k,(yn s q d).1):=by have _:=hL; rfl
variable (en:List Enum) (ns:List Node) (ents:xK)
theorem b82 (i:Nat) (dl:NodesIn ents ns i) (s:Place) (eS:s.before=ns.take i) (l:List Eqn) (hl:l.length≤1600) (hq:∀q∈l,QW q) (h:List PObj) (h2:h[2]? = some (wD ents)) (c:Int) (h3:h[3]? = some (wB en ns i c)) (q' n o d:Nat) (iv dv up:PV) (f:Fr) (t:TopAt h h.length q' n o d iv dv up f []) (dk:∀x,xr [f] x=true↔x∈s.vis)
  (hD:f.D=f.df) (dC:∀x,x∈f.I↔x∈s.inputs) (jc:f.df.length+(wV l).length≤1000000) (h0:f.df=[])
  (V2 V4 V5 V6 V7 V8 V9 V10 V11 V15 V16 V17 V18 V19 V20:PV) (g:Nat) {Q:PExit→St→Prop}
  (ok:∀df,zI s l 0 [] = .inr df→∀y5 y6 g' h' c' dv',Kp q' h (h'.set 3 (wB en ns i c))→h'[3]? = some (wB en ns i c')→TopAt h' h'.length q' n o d iv dv' up { f with D:=df,df:=df } []→Q (.exit 2) ⟨[.ptr 3 0,.int .i64 i,V2,.ptr n 0,V4,y5,y6,V7,V8,V9,V10,V11,.list false (l.map wH),.int .i64 l.length,.int .i64 l.length,V15,V16,V17,V18,V19,V20],[],g',h'⟩)
  (no:∀k e,zI s l 0 [] = .inl (k,e)→∀W g' h',Kp q' h (h'.set 3 (wB en ns i c))→Q (.boom (xC 1 i k e)) ⟨W,[],g',h'⟩):
  wpL L IX ⟨[.ptr 3 0,.int .i64 i,V2,.ptr n 0,V4,V5,V6,V7,V8,V9,V10,V11,.list false (l.map wH),.int .i64 l.length,.int .i64 0,V15,V16,V17,V18,V19,V20],[],g,h⟩ Q:=by
 rw[IX]
 have uO:∀{h':List PObj},Kp q' h (h'.set 3 (wB en ns i c))→h'[2]? = some (wD ents):=λ{h'} hk=>by
  have:=hk.2 2 (by have:=t.four; omega)
  rw[an (by decide)] at this
  exact this.trans h2
 have h4q:=t.four
 refine xk l.length (λj st=>∃y5 y6 g' h' c' dv' df,st=⟨[.ptr 3 0,.int .i64 i,V2,.ptr n 0,V4,y5,y6,V7,V8,V9,V10,V11,.list false (l.map wH),.int .i64 l.length,.int .i64 j,V15,V16,V17,V18,V19,V20],[],g',h'⟩∧Kp q' h (h'.set 3 (wB en ns i c))∧h'[3]? = some (wB en ns i c')∧TopAt h' h'.length q' n o d iv dv' up { f with D:=df,df:=df } []∧zI s l 0 []=zI s (l.drop j) j df∧df.length+(wV (l.drop j)).length≤1000000) ?_ ?_ ⟨_,_,_,h,c,dv,[],rfl,⟨by simp,λk hk=>by
   by_cases iw:k=3
   ·subst iw; rw[aZ (aj.1 h3).1]; exact h3.symm
   ·rw[an (Ne.symm iw)]⟩,h3,by
   have:({ f with D:=[],df:=[] }:Fr)=f:=by cases f; simp only at hD h0; subst h0; subst hD; rfl
   rw[this]; exact t,rfl,by rw[h0] at jc; simpa using jc⟩
 ·rintro j hj st ⟨y5,y6,g',h',c',dv',df,rfl,cZ,eO,t,hd,em⟩ ih
  have hw:=wC j (by omega)
  have rG:=(aj.1 eO).1
  rw[aU hj] at hd em
  rw[b7b hL] at hd
  have nZ:wV (l[j]::l.drop (j+1))=l[j].left++wV (l.drop (j+1)):=by unfold wV; rw[bc]
  rw[nZ,ap] at em
  have mF:(h'.set 3 (wB en ns i j))[3]? = some (wB en ns i j):=by rw[aZ rG]
  have lg:(h'.set 3 (wB en ns i j))[2]? = some (wD ents):=by rw[an (by decide)]; exact uO cZ
  have tH:TopAt (h'.set 3 (wB en ns i j)) (h'.set 3 (wB en ns i j)).length q' n o d iv dv' up { f with D:=df,df:=df } []:=by
   rw[bM]
   have key:∀k,4≤k→(h'.set 3 (wB en ns i j))[k]? = h'[k]? := λk hk=>an (by omega)
   exact⟨t.ln,t.lo,t.ld,t.un,t.uo,t.ud,t.no,t.nd,t.od,t.four,(key _ (by have:=t.ln; omega)).trans t.hn,(key _ (by have:=t.lo; omega)).trans t.ho,(key _ (by have:=t.ld; omega)).trans t.hd,t.hi.imp id (fun⟨m,e1,e2,e3,e4,e5,e6,e7⟩=>⟨m,e1,e2,e3,e4,e5,e6,(key _ (by omega)).trans e7⟩),t.row.imp id (fun⟨k,e1,e2,e3,e4⟩=>⟨k,e1,e2,e3,(key _ (by omega)).trans e4⟩),t.rne,t.hup⟩
  obtain⟨h'',hx,ff,dt⟩:=Mw hL en ns i j ents i dl s eS l[j] (hq _ (ai hj)) _ lg mF q' n o d iv dv' up { f with D:=df,df:=df } [] tH (λx=>by have:=dk x; simpa[xr] using this) [] rfl (λx=>by simp[yP,dC]) (by simp only; omega)
  simp only[aY] at hx dt
  have fq:Kp q' h (h''.set 3 (wB en ns i c)):=by
   refine⟨by have:=cZ.1; have:=ff.1; simp at *; omega,λk hk =>?_⟩
   by_cases iw:k=3
   ·subst iw
    have:=ff.1
    rw[aZ (by simp at this; omega)]; exact h3.symm
   ·rw[an (Ne.symm iw),ff.2 k hk,an (Ne.symm iw)]
    have:=cZ.2 k hk
    rwa [an (Ne.symm iw)] at this
  have h3'':h''[3]? = some (wB en ns i j):=(ff.2 3 (by omega)).trans mF
  have du:h'.set 3 (.cells [.list false (en.map wE),.list false (ns.map wA),.int .i64 i,.int .i64 j,.map (some 2)])=h'.set 3 (wB en ns i j):=rfl
  have lR:h'[3]? = some (.cells [.list false (en.map wE),.list false (ns.map wA),.int .i64 i,.int .i64 c',.map (some 2)]):=eO
  by_cases hz:(yn s l[j] df).1=0
  ·rw[ah hz] at hd
   obtain⟨dv2,df2,e1,t2⟩:=dt hz
   rw[hz] at hx
   simp[wy] at hx
   simp[hj,lR,du,hx,hw]
   have uP:df2.length=df.length+l[j].left.length:=by
    have h1:=(Gq.1 (Prod.ext hz e1:yn s l[j] df=(0,df2))).1
    rw[h1,ap]
   exact ih _ ⟨_,_,_,h'',j,dv2,df2,rfl,fq,h3'',t2,by rw[hd,e1],by omega⟩
  ·rw[af hz] at hd
   simp[wy,hz] at hx
   simp[hj,lR,du,hx]
   exact no _ _ hd _ _ _ fq
 ·rintro st ⟨y5,y6,g',h',c',dv',df,rfl,cZ,eO,t,hd,em⟩
  rw[be (ao _)] at hd
  simp
  exact ok df hd _ _ _ _ _ _ cZ eO t
end
section
variable {L:Nat→Option PFunc} (hL:∀k f,LS k=some f→L k=some f) (en:List Enum) (ns:List Node) (a b:Int) (ents:xK)
include hL
theorem b83 (k:Nat) (dl:NodesIn ents ns k) (s:Place) (eS:s.before=ns.take k) (dV:Bq ents s.tags) (l:List (List State)) (hl:l.length≤1600) (hq:∀x∈l,E4 L en ns a b ents x) (h:List PObj) (h2:h[2]? = some (wD ents)) (h3:h[3]? = some (wB en ns a b)) (q' n o d:Nat) (i dv up:PV) (f:Fr) (fs:List Fr) (t:TopAt h h.length q' n o d i dv up f fs) (dk:∀x,xr (f::fs) x=true↔x∈s.vis)
  (d0:List Str) (hD:f.D=f.df) (dC:∀x,(x∈f.I∨yP fs x=true)↔(x∈s.inputs∨x∈d0)) (jc:f.df.length+(xb l).length≤1000000)
  (V2 V4 V5 V6 V7 V8 V9 V10 V11 V12 V13 V14 V18 V19 V20:PV) (g:Nat) {Q:PExit→St→Prop}
  (ok:(xj s (d0++f.df) l).1=0→∀h' dv' df' y7 g',Kp q' h h'→(xj s (d0++f.df) l).2=d0++df'→TopAt h' h'.length q' n o d i dv' up { f with D:=df',df:=df' } fs→Q (.exit 4) ⟨[.ptr 3 0,.int .i64 k,V2,.ptr n 0,V4,V5,V6,y7,V8,V9,V10,V11,V12,V13,V14,.list false (l.map wI),.int .i64 l.length,.int .i64 l.length,V18,V19,V20],[],g',h'⟩)
  (no:(xj s (d0++f.df) l).1≠0→∀h' W g',Kp q' h h'→Q (.boom (xC 1 a b (xj s (d0++f.df) l).1)) ⟨W,[],g',h'⟩):
  wpL L IY ⟨[.ptr 3 0,.int .i64 k,V2,.ptr n 0,V4,V5,V6,V7,V8,V9,V10,V11,V12,V13,V14,.list false (l.map wI),.int .i64 l.length,.int .i64 0,V18,V19,V20],[],g,h⟩ Q:=by
 have _:=hL
 rw[IY]
 refine xk l.length (λj st=>∃y7 g' h' dv' df',st=⟨[.ptr 3 0,.int .i64 k,V2,.ptr n 0,V4,V5,V6,y7,V8,V9,V10,V11,V12,V13,V14,.list false (l.map wI),.int .i64 l.length,.int .i64 j,V18,V19,V20],[],g',h'⟩∧Kp q' h h'∧TopAt h' h'.length q' n o d i dv' up { f with D:=df',df:=df' } fs∧xj s (d0++f.df) l=xj s (d0++df') (l.drop j)∧df'.length+(xb (l.drop j)).length=f.df.length+(xb l).length) ?_ ?_ ⟨_,_,h,dv,f.df,rfl,Kp.refl _ _,by rw[Fr.same hD]; exact t,rfl,rfl⟩
 ·rintro j hj st ⟨y7,g',h',dv',df',rfl,cZ,ht,dc,cM⟩ ih
  have hw:=wC j (by omega)
  have fU:h'[2]? = some (wD ents):=(cZ.2 2 (by have:=ht.four; omega)).trans h2
  have eO:h'[3]? = some (wB en ns a b):=(cZ.2 3 (by have:=ht.four; omega)).trans h3
  have rH:(xb (l.drop j)).length=(xb [l[j]]).length+(xb (l.drop (j+1))).length:=by
   rw[aU hj,Cf,Cf]; simp[xb]
  obtain⟨h'',hx,ff,kP⟩:=hq _ (ai hj) k dl s eS dV h' fU eO q' n o d i dv' up _ fs ht (by intro x; exact dk x) d0 rfl dC (by simp only; omega)
  simp only at hx kP
  rw[aU hj,IZ] at dc
  by_cases hz:(yI s (d0++df') l[j]).1=0
  ·obtain⟨dv'',df'',eu,gy⟩:=kP hz
   have gu:xj s (d0++f.df) l=xj s (d0++df'') (l.drop (j+1)):=by
    rw[dc]
    unfold yt
    rw[ah hz]
    exact aE (λz=>xj s z (l.drop (j+1))) eu
   have d7:df''.length=df'.length+(xb [l[j]]).length:=by
    rw[Mx hz] at eu
    have:=aE List.length eu
    simp at this
    omega
   rw[hz] at hx
   simp[wy] at hx
   simp[hj,hx,hw]
   exact ih _ ⟨_,_,h'',dv'',df'',rfl,cZ.trans ff,gy,gu,by omega⟩
  ·rw[zO hz] at dc
   simp[wy,hz] at hx
   simp[hj,hx]
   have:=no (by rw[dc]; exact hz) h''
   rw[dc] at this
   exact this _ _ (cZ.trans ff)
 ·rintro st ⟨y7,g',h',dv',df',rfl,cZ,ht,dc,cM⟩
  rw[be (ao _)] at dc
  simp
  exact ok (by rw[dc]; simp[xj]) h' dv' df' y7 g' cZ (by rw[dc]; simp[xj]) ht
theorem b84 (l:List Decl) (hl:l.length≤4800) (h:List PObj) (h3:h[3]? = some (wB en ns a b)) (q q' n o d:Nat) (i dv up:PV) (f:Fr) (fs:List Fr) (t:TopAt h q q' n o d i dv up f fs)
  (V1 V2 V4 V5 V6 V7 V8 V9 V10 V11 V12 V13 V14 V15 V16 V17:PV) (g:Nat) {Q:PExit→St→Prop}
  (ok:(∀x∈wm l,x∈f.D)→∀y8 g',Q (.exit 6) ⟨[.ptr 3 0,V1,V2,.ptr n 0,V4,V5,V6,V7,y8,V9,V10,V11,V12,V13,V14,V15,V16,V17,.list false (l.map wv),.int .i64 l.length,.int .i64 l.length],[],g',h⟩)
  (no:¬(∀x∈wm l,x∈f.D)→∀W g',Q (.boom (xC 1 a b 8)) ⟨W,[],g',h⟩):
  wpL L I0 ⟨[.ptr 3 0,V1,V2,.ptr n 0,V4,V5,V6,V7,V8,V9,V10,V11,V12,V13,V14,V15,V16,V17,.list false (l.map wv),.int .i64 l.length,.int .i64 0],[],g,h⟩ Q:=by
 have hT:=BS hL en ns a b h h3 8
 have hF:=BT hL en ns a b h h3 8
 have hn:=t.hn
 have hd:=t.hd
 rw[I0]
 refine xk l.length (λj st=>∃y8 g',st=⟨[.ptr 3 0,V1,V2,.ptr n 0,V4,V5,V6,V7,y8,V9,V10,V11,V12,V13,V14,V15,V16,V17,.list false (l.map wv),.int .i64 l.length,.int .i64 j],[],g',h⟩∧∀x∈wm (l.take j),x∈f.D) ?_ ?_ ⟨_,_,rfl,by simp[wm]⟩
 ·rintro j hj st ⟨y8,g',rfl,dp⟩ ih
  have hw:=wC j (by omega)
  obtain⟨r,hr,el,_⟩:=Au l[j].name f.D
  have gg:wm (l.take (j+1))=wm (l.take j)++[l[j].name]:=by rw[yD hj,Gm hL]; rfl
  by_cases hx:l[j].name∈f.D
  ·simp[hx] at el
   obtain⟨c,rfl⟩:=el
   simp[hj,hn,hd,hr,wZ,hT,hw]
   refine ih _ ⟨_,_,rfl,?_⟩
   rw[gg]
   intro x hm
   rcases ak.1 hm with h1|h1
   ·exact dp x h1
   ·rw[aO.1 h1]; exact hx
  ·simp[hx] at el
   subst el
   simp[hj,hn,hd,hr,wZ,hF]
   exact no (λdm=>hx (dm _ (by unfold wm; exact bl.2 ⟨_,ai hj,rfl⟩))) _ _
 ·rintro st ⟨y8,g',rfl,dp⟩
  rw[aB] at dp
  simp
  exact ok dp _ _
end
end PI.Sc
