import Derived.Test.YtljbhgpanekomaaGreatPiCaRun28
import Derived.Test.YtljbhgpanekomaaGreatPiCaRun18
import Derived.Test.YtljbhgpanekomaaGreatPiCaSpec
set_option maxRecDepth 100000
set_option linter.unusedSimpArgs false
set_option linter.unusedVariables false
set_option linter.unusedSectionVars false
namespace PI.Sc
open Go (IntKind BinOp UnOp)
open Short
theorem b5t {en:List Enum} {n:Node} (h:yx en n=0):∀d∈n.ins++n.outs,d.clock=[]:=by
 unfold yx at h
 simp only[yy] at h
 obtain⟨_,_,_,h1,h2,_⟩:=h
 have key:∀d,yT en true d=0→d.clock=[]:=by
  intro d hd
  unfold yT at hd
  simp only[yy] at hd
  obtain⟨_,_,h3,_⟩:=hd
  refine cG λhn =>?_
  simp[need,hn] at h3
 intro d hd
 rcases ay.1 hd with hd|hd
 ·exact key d (yS.1 h1 d hd)
 ·exact key d (yS.1 h2 d hd)
theorem b78 {p:Prog} (h:zM p=none):∀n∈p.nodes,∀d∈n.ins++n.outs,d.clock=[]:=by
 unfold zM at h
 split at h
 ·simp at h
 ·split at h
  ·simp at h
  ·intro n hn
   exact b5t (b6x.1 ((Mo p.enums p.nodes 0).1 h n hn 0)).1
theorem NodesIn.step {ents:xJ} {ns:List Node} {i:Nat} (hi:i<ns.length) (h:NodesIn ents ns i) (hk:GC ents ns i) (hd:ns[i].name∉(ns.take i).map (·.name)):
  NodesIn (ents++[((1,ns[i].name),(i:Int))]) ns (i+1)∧GC (ents++[((1,ns[i].name),(i:Int))]) ns (i+1):=by
 have jr:∀x:Str,yw (1,x) (ents++[((1,ns[i].name),(i:Int))])=(yw (1,x) ents).or (if x=ns[i].name then some (i:Int) else none):=by
  intro x
  generalize ents=l
  induction l with
  | nil=>by_cases hx:x=ns[i].name<;>simp[yw,hx]
  | cons y l ih =>
    simp only[aL,yw]
    by_cases hy:((1:Int),x)=y.1
    ·rw[ah hy,ah hy]; rfl
    ·rw[af hy,af hy]; exact ih
 have kY:∀x,callee (ns.take (i+1)) x=(callee (ns.take i) x).or (if ns[i].name=x then some ns[i] else none):=by
  intro x
  unfold callee
  rw[zL hi,List.find?_append]
  congr 1
  by_cases hx:ns[i].name=x<;>simp[hx]
 constructor
 ·intro x
  have hx:=h x
  rw[kY]
  cases hc:callee (ns.take i) x with
  | some m =>
    rw[hc] at hx
    obtain⟨j,e1,e2,e3⟩:=hx
    exact⟨j,by rw[jr,e1]; rfl,by omega,e3⟩
  | none =>
    have gH:((1:Int),x)∉yR ents:=by
     rw[hk]
     unfold callee at hc
     rw[List.find?_eq_none] at hc
     intro hm
     obtain⟨n,h1,h2⟩:=bc.1 hm
     exact hc n h1 (by simpa using h2)
    have jP:=Dh.2 gH
    by_cases nf:ns[i].name=x
    ·rw[ah nf]
     exact⟨i,by rw[jr,jP,ah nf.symm]; rfl,by omega,al hi⟩
    ·rw[af nf]
     intro c eL
     rw[jr,jP,af (λe=>nf e.symm)] at eL
     simp at eL
 ·intro x
  rw[zL hi,aU,ay,← hk x]
  simp[yR]
section
variable {L:Nat→Option PFunc} (hL:∀k f,LS k=some f→L k=some f)
include hL
theorem rec27 (a b e:Int) (h:List PObj) (w1 w2 c:Int) (h0:h[0]? = some (.cells [.int .i64 w1,.int .i64 w2])) (h1:h[1]? = some (.cells [.int .i64 c])):yt L 27 [xx 1 a b e,.ptr 0 0,.ptr 1 0] h=some ((h.set 0 (.cells [.int .i64 a,.int .i64 b])).set 1 (.cells [.int .i64 e])):=by
 unfold yt
 rw[hL 27 _ rfl]
 simp[IW,AZ,xx,h0,h1]
theorem d0b (h:List PObj):yt L 27 [.nilIface,.ptr 0 0,.ptr 1 0] h=some h:=by
 unfold yt
 rw[hL 27 _ rfl]
 simp[IW,AZ]
theorem Mp (p:Prog) (hp:PW p) (hs:parts p≤1100000):∃h',wj L 8 [xw p] []=some (ze (zQ (Ab p)),h'):=by
 suffices H:∃r,wj L 8 [xw p] []=some r∧r.1=ze (zQ (Ab p)) by
  obtain⟨⟨v,h'⟩,h1,h2⟩:=H
  exact⟨h',by rw[h1]; simp only at h2; rw[h2]⟩
 refine Mq (hL 8 _ rfl) rfl ?_
 obtain⟨ul,dY⟩:=c4c hL p hp
 unfold Ab
 cases hS:zM p with
 | some b =>
   have mj:=b8m hS
   rw[hS] at dY
   simp only[zQ,bO,ze] at dY ⊢
   simp[GF,dY,mj,wO,wq]
 | none =>
   have fg:=b78 hS
   rw[hS] at dY
   simp only[zQ,Option.getD_none,Ck,ze] at dY
   simp only
   obtain⟨RES,et⟩:∃RES,RES=(if BV p.enums then Ac (zz p.enums) [] p.nodes else some (⟨-1,-1,7⟩:Bad)):=⟨_,rfl⟩
   rw[← et]
   simp[GF,dY]
   rw[Mr (cs:=[.ptr 0 0,.ptr 1 0]) _ _ _ rfl (by simp)]
   have eG:PObj.cells [PV.list false (p.enums.map wA),PV.list false (p.nodes.map wE),.int .i64 (-1),.int .i64 (-1),.map (some 2)]=ww p.enums p.nodes (-1) (-1):=rfl
   have ml:PObj.map []=wC []:=rfl
   have gg:(PV.map (some 2)).cells=[.map (some 2)]:=rfl
   have gI:=hp.nodes
   simp[gg,eG,ml]
   refine b77 hL p.enums p.nodes hp.enums hp.tags _ _ _ _ _ _ _ _ _ _ _ _ _ _ _ _ _ _ _ ?_ ?_
   ·intro dc y7 y8 y9 y15 y16 y17 g' ents' hk
    rw[ah dc] at et
    simp
    rw[Ms]
    refine xc p.nodes.length (λj st=>∃y10 h' ents a b,st=⟨[xw p,.loc 0 [.list false (p.enums.map wA),.list false (p.nodes.map wE)],.ptr 0 0,.ptr 1 0,.loc 1 [.int .i64 0,.int .i64 0],.int .i64 0,.ptr 3 0,y7,y8,y9,y10,.ptr 3 0,.list false (p.enums.map wA),.int .i64 p.enums.length,.int .i64 p.enums.length,y15,y16,y17,.int .i64 p.nodes.length,.int .i64 j],[],g',h'⟩ ∧
     h'[0]? = some (.cells [.int .i64 0,.int .i64 0])∧h'[1]? = some (.cells [.int .i64 0])∧4≤h'.length∧h'[2]? = some (wC ents)∧h'[3]? = some (ww p.enums p.nodes a b)∧Bt ents (zz p.enums)∧NodesIn ents p.nodes j∧GC ents p.nodes j∧RES=Ac (zz p.enums) (p.nodes.take j) (p.nodes.drop j)) ?_ ?_
     ⟨_,_,ents',-1,-1,rfl,rfl,rfl,by simp,rfl,rfl,hk.tags,λx=>by
      have:yw (1,x) ents'=none:=Dh.2 (hk.nodes x)
      simp[callee,this],λx=>by simp[hk.nodes x],by simpa using et⟩
    ·rintro j hj st ⟨y10,h',ents,a,b,rfl,e0,e1,e4,e2,e3,d3,dr,ja,hR⟩ ih
     have hw:=wF j (by omega)
     rw[aZ hj] at hR
     have nK:p.nodes[j].parts≤1100000:=by
      have:=Ci Node.parts (aj hj)
      unfold parts at hs; omega
     obtain⟨h2,hx,k0,k1,k4,kn⟩:=c6t hL p.enums p.nodes a b ents j hj hp.nodes (hp.ns _ (aj hj)) nK (fg _ (aj hj)) (zz p.enums) d3 dr ja h' e4 e2 e3
     cases hN:zk (p.nodes.take j) (zz p.enums) p.nodes[j] with
     | none =>
       have hd:p.nodes[j].name∉(p.nodes.take j).map (·.name):=by
        intro hm
        unfold zk at hN
        rw[ah hm] at hN
        simp at hN
       obtain⟨n2,n3⟩:=NodesIn.step hj dr ja hd
       obtain⟨q2,q3⟩:=kn hN
       rw[hN] at hx
       simp only[Ac,hN] at hR
       rw[← zL hj] at hR
       simp[xK] at hx
       simp[hj,hx,hw]
       refine ih _ ⟨_,h2,_,_,_,rfl,k0.trans e0,k1.trans e1,k4,q2,q3,λx =>?_,n2,n3,hR⟩
       rw[← d3 x]
       simp[yR]
     | some bd =>
       rw[hN] at hx
       simp only[Ac,hN] at hR
       have ef:=rec27 hL bd.node bd.eq bd.err h2 0 0 0 (k0.trans e0) (k1.trans e1)
       have jb:0<h2.length:=by omega
       have ee:1<h2.length:=by omega
       simp[xK] at hx
       simp[hj,hx,ef,hR,zQ,ze,wq,jb,ee]
       rfl
    ·rintro st ⟨y10,h',ents,a,b,rfl,e0,e1,e4,e2,e3,d3,dr,ja,hR⟩
     rw[bj (ao _)] at hR
     simp only[Ac] at hR
     have ef:=d0b hL h'
     have jb:0<h'.length:=by omega
     have ee:1<h'.length:=by omega
     have qz:h'.set 0 (.cells [.int .i64 0,.int .i64 0])=h':=Cl e0
     have jQ:h'.set 1 (.cells [.int .i64 0])=h':=Cl e1
     simp[e0,e1,qz,jQ,ef,hR,zQ,Ck,ze,wq]
     rfl
   ·intro dc W g' o2 o3 qx qy
    rw[dc] at et
    simp only[aH,if_false] at et
    have ef:=rec27 hL (-1) (-1) 7 [.cells [.int .i64 0,.int .i64 0],.cells [.int .i64 0],o2,o3] 0 0 0 rfl rfl
    simp[ef,et,zQ,ze,wq,qx,qy]
    rfl
end
section
variable {L:Nat→Option PFunc} (hL:∀k f,LS k=some f→L k=some f)
include hL
theorem b6t (s:Str) (h:List PObj):wj L 208 [.str s] h=some (wl (.mk 2 0 0 0 s []),h):=by
 refine wD (hL 208 _ rfl) rfl ?_
 simp[JI,Ay]
theorem c6L (n:Node) (h:List PObj):wj L 212 [wE n] h=some (.bool (!decide (n.autos=[])),h):=by
 refine wD (hL 212 _ rfl) rfl ?_
 have:(0<n.autos.length)↔¬n.autos=[]:=by cases n.autos<;>simp
 simp[JW,this]
theorem NJ (p:Prog) (hn:p.nodes.length≤2000000000) (h:List PObj):wj L 201 [xw p] h=some (.bool (plain p),h):=by
 obtain⟨P,hP⟩:∃P:Node→Bool,∀n,P n = !decide (n.autos=[]):=⟨_,λ_=>rfl⟩
 have hi:wj L 115 [.list false (p.nodes.map wE),.func 212 [] []] []=some (.int .i64 (A0 P p.nodes),[]):=by
  refine wD (hL 115 _ rfl) rfl ?_
  simp[GV]
  rw[ME]
  refine xc p.nodes.length (λj st=>∃y3,st=⟨[.list false (p.nodes.map wE),.func 212 [] [],.int .i64 0,y3,.int .i64 p.nodes.length,.int .i64 j],[],0,[]⟩∧∀i (hi:i<p.nodes.length),i<j→P p.nodes[i]=false) ?_ ?_ ⟨_,rfl,λi _ hi=>by omega⟩
  ·rintro j hj st ⟨y3,rfl,jc⟩ ih
   have hw:=wF j (by omega)
   have hc:wj L 212 [wE p.nodes[j]] []=some (.bool (P p.nodes[j]),[]):=by rw[hP]; exact c6L hL p.nodes[j] []
   cases hp:P p.nodes[j] with
   | false =>
     rw[hp] at hc
     simp[hj,hw,hc]
     refine ih _ ⟨_,rfl,λi hi mo =>?_⟩
     by_cases he:i=j
     ·subst he; exact hp
     ·exact jc i hi (by omega)
   | true =>
     rw[hp] at hc
     simp[hj,hw,hc,Fx hj hp jc]
  ·rintro st ⟨y3,rfl,jc⟩
   simp[GV,Fy (λi hi=>jc i hi hi)]
 have du:wj L 211 [.list false (p.nodes.map wE),.func 212 [] []] []=some (.bool (p.nodes.any P),[]):=by
  refine wD (hL 211 _ rfl) rfl ?_
  simp[JV,hi,← Hi]
 have e:plain p = !(p.nodes.any P):=by
  unfold plain
  rw[List.not_any_eq_all_not]
  congr 1
  funext n
  rw[hP]; simp
 refine wD (hL 201 _ rfl) rfl ?_
 simp[JF,du,e]
theorem c3O (p:Prog) (hp:PW p) (hs:parts p≤1100000):∃h',wj L 204 [xw p] []=some (ze (D7 p),h'):=by
 obtain⟨h1,hc⟩:=Mp hL p hp hs
 unfold ze at hc
 have eA:=NJ hL p (by have:=hp.nodes; omega) []
 suffices H:∃r,wj L 204 [xw p] []=some r∧r.1=ze (D7 p) by
  obtain⟨⟨v,h'⟩,h1,h2⟩:=H
  simp only at h2; subst h2
  exact⟨h',h1⟩
 refine Be (hL 204 _ rfl) rfl ?_
 unfold D7
 generalize zQ (Ab p)=b at *
 by_cases he:b.err=0
 ·cases fc:plain p with
  | true =>
    rw[fc] at eA
    simp[Fo,ze,hc,eA,he,xR,Ck]
  | false =>
    rw[fc] at eA
    simp[Fo,ze,hc,eA,he,xR]
 ·simp[Fo,ze,hc,eA,he,xR]
end
section
variable {L:Nat→Option PFunc} (hL:∀k f,LS k=some f→L k=some f)
include hL
theorem c1A (nm:Str) (e:Expr):e.parts≤1100000→wj L 203 [wl e,.str nm] []=some (wl (yp nm e),[]):=by
 induction e using Expr.ind with
 | h e ih=>
 intro hp
 have dH:=J6 e
 have hv:=b6t hL nm []
 have qH:=Hj nm e
 have nU:=Hk nm e.kind e.args 0
 refine wD (hL 203 _ rfl) rfl ?_
 simp[JH]
 rw[MP]
 refine xc e.args.length (λj st=>∃y6 g',st=⟨[wl e,.str nm,.loc 0 [.int .i64 e.kind,.int .i64 e.op,.int .i64 e.t,.int .i64 e.v,.str e.name,.list false (e.args.map wl)],.loc 1 [.int .i64 0,.int .i64 0,.int .i64 0,.int .i64 0,.str [],.list true []],.list true (((yJ nm e.kind 0 e.args).take j).map wl),.int .i64 j,y6],[],g',[]⟩) ?_ ?_ ⟨_,_,rfl⟩
 ·rintro j hj st ⟨y6,g',rfl⟩ ih2
  have hw:=wF j (by omega)
  have nS:=J7 (aj hj)
  have hc:=ih e.args[j] (aj hj) (by omega)
  have ec:=b8w nm e hj
  have cO:((yJ nm e.kind 0 e.args).take j).length+1≤2147483648:=by rw[bk]; omega
  have ih3:=λy6 g'=>ih2 _ ⟨y6,g',rfl⟩
  rw[ec] at ih3
  generalize (yJ nm e.kind 0 e.args).take j=z at *
  unfold NK at ih3
  by_cases h5:e.kind=5
  ·rw[ah (.inl h5)] at ih3
   simp only[aU,ax,ba,Ay] at ih3
   simp[hj,hc,hv,tf h5,hw,cO]
   simpa using ih3 _ _
  ·by_cases h7:e.kind=7
   ·by_cases h1:j=1
    ·rw[ah (.inr ⟨h7,h1⟩)] at ih3
     simp only[aU,ax,ba,Ay] at ih3
     have ni:(j:Int)=1:=by omega
     simp[hj,hc,hv,h5,tf h7,tf ni,hw,cO]
     simpa using ih3 _ _
    ·rw[af (by omega)] at ih3
     simp only[aU,ax,ba] at ih3
     have ni:¬(j:Int)=1:=by omega
     simp[hj,hc,hv,h5,tf h7,ni,hw,cO]
     exact ih3 _ _
   ·rw[af (by omega)] at ih3
    simp only[aU,ax,ba] at ih3
    simp[hj,hc,hv,h5,h7,hw,cO]
    exact ih3 _ _
 ·rintro st ⟨y6,g',rfl⟩
  have:(yJ nm e.kind 0 e.args).take e.args.length=yJ nm e.kind 0 e.args:=by rw[← nU,aP]
  rw[this]
  simp[qH]
  simp only[Ay (.mk _ _ _ _ _ _)]
  rfl
theorem c1B (l:List (Int×Int)) (hl:l.length≤2000000000) (h:List PObj):wj L 202 [.list false (l.map λx => .agg (wV x)),.list false (l.map λx => .agg (wV x))] h=some (.bool true,h):=by
 refine wD (hL 202 _ rfl) rfl ?_
 simp[JG]
 rw[MO]
 refine xc l.length (λj st=>st=⟨[.list false (l.map λx => .agg (wV x)),.list false (l.map λx => .agg (wV x)),.bool false,.int .i64 j],[],0,h⟩) ?_ ?_ rfl
 ·rintro j hj st rfl ih
  have hw:=wF j (by omega)
  simp[hj,hw,wV,PV.cells,yO,zi]
  exact ih _ rfl
 ·rintro st rfl
  simp
end
@[simp] theorem d4l (n sz:Nat) (ag:Bool) (o l:Nat):cp (.rows n sz ag o l)=some (.rows n sz ag o l):=rfl
@[simp] theorem d2Q (n sz:Nat) (ag:Bool) (o l:Nat):dem (.rows n sz ag o l) = .rows n sz ag o l:=rfl
@[simp] theorem d2R (n sz:Nat) (ag:Bool) (o l:Nat):tkv (.rows n sz ag o l)=some (.rows n sz ag o l,false):=rfl
section
variable {L:Nat→Option PFunc} (hL:∀k f,LS k=some f→L k=some f)
include hL
def NL (h:List PObj) (n:Nat) (len:Nat) (l:List Pr):Prop:=l.length=len∧∃rest,h[n]? = some (.cells (l.flatMap wV++rest))
theorem c0j (l:List Pr) (hl:l.length≤2000000000) (n:Nat) (h:List PObj) (cs:List PV) (hn:h[n]? = some (.cells cs)) (dW:Prs cs l) (q:Nat) (h1:1≤q) (lH:q<l.length) (hc:yK (l.take q)=l.take q) (he:l[q]=l[q - 1])
  {Q:PExit→St→Prop} (hk:∀cs' cur k y4,Prs cs' cur→cur.length=l.length→k≤l.length→1≤k→cur.take k=yK l→Q (.exit 2) ⟨[.rowp n 2 true l.length,.list true [],.int .i64 (k:Nat),.rows n 2 true q (l.length - q),y4],[],0,h.set n (.cells cs')⟩):
  wpL L JY ⟨[.rowp n 2 true l.length,.list true [],.int .i64 q,.rows n 2 true q (l.length - q),.int .i64 1],[],0,h⟩ Q:=by
 have gI:n<h.length:=(ai.1 hn).1
 have wG:h.set n (.cells cs)=h:=Cl hn
 have lI:q - 1<l.length:=by omega
 have ig:(l.take q).getLast? = some l[q - 1]:=by
  have:=J8 l lI
  rw[show q - 1+1=q by omega,hc] at this
  exact this
 have mr:l.take q=yK (l.take (q+1)):=by rw[Fz l lH,hc,A1,ah (by rw[ig,he])]
 rw[JY]
 refine xc (l.length - q - 1) (λj st=>∃k2 k cs' cur,k2=j+1∧st=⟨[.rowp n 2 true l.length,.list true [],.int .i64 (k:Nat),.rows n 2 true q (l.length - q),.int .i64 (k2:Nat)],[],0,h.set n (.cells cs')⟩∧Prs cs' cur∧cur.length=l.length∧cur.take k=yK (l.take (q+k2))∧1≤k∧k≤q+k2 - 1∧∀i,q+k2 - 1≤i→cur[i]? = l[i]?) ?_ ?_ ⟨1,q,cs,l,rfl,by rw[wG]; rfl,dW,rfl,mr,h1,by omega,λ_ _=>rfl⟩
 ·rintro j hj st ⟨k2,k,cs',cur,ey,rfl,hp,dt,ec,fX,mt,dD⟩ ih
  have cS:k2<l.length - q:=by omega
  have fm:q+k2<l.length:=by omega
  have hi:q+k2<cur.length:=by omega
  have fY:q+(k2 - 1)<cur.length:=by omega
  have jd:k<cur.length:=by omega
  have eW:k<l.length:=by omega
  obtain⟨g1,g3⟩:=hp.get hi
  obtain⟨g2,g4⟩:=hp.get fY
  have hw:=wF k2 (by omega)
  have ur:=wF k (by omega)
  have hs:IntKind.i64.wrap ((k2:Int) - 1)=((k2 - 1:Nat):Int):=by rw[show ((k2:Int) - 1)=((k2 - 1:Nat):Int) by omega]; exact E2 _ (by omega)
  have nV:k2 - 1<l.length - q:=by omega
  have e1:cur[q+k2]=l[q+k2]:=by
   have:=dD (q+k2) (by omega)
   rw[al hi,al fm] at this
   simpa using this
  have e2':cur[q+(k2 - 1)]=l[q+(k2 - 1)]:=by
   have:=dD (q+(k2 - 1)) (by omega)
   rw[al fY,al (by omega)] at this
   simpa using this
  have sR:=Fz l fm
  have pM:(yK (l.take (q+k2))).getLast? = some l[q+(k2 - 1)]:=by
   have:=J8 l (i:=q+(k2 - 1)) (by omega)
   rwa [show q+(k2 - 1)+1=q+k2 by omega] at this
  rw[e1] at g3
  rw[e2'] at g4
  by_cases hd:l[q+k2]=l[q+(k2 - 1)]
  ·simp[cS,hw,gI,hs,nV,g1,g2,g3,g4,yO,zi,hd]
   refine ih _ ⟨k2+1,k,cs',cur,by omega,rfl,hp,dt,?_,fX,by omega,λi hi=>dD i (by omega)⟩
   ·rw[show q+(k2+1)=q+k2+1 by omega,sR,A1,ah (by rw[pM,hd])]
    exact ec
  ·have gm:¬l[q+k2].1=l[q+(k2 - 1)].1∨¬l[q+k2].2=l[q+(k2 - 1)].2:=by
    by_cases ha:l[q+k2].1=l[q+(k2 - 1)].1
    ·exact .inr λhb=>hd (Prod.ext ha hb)
    ·exact .inl ha
   have dT:=hp.set jd l[q+k2]
   have mu:k*2+2≤cs'.length:=by rw[hp.len]; omega
   simp[cS,hw,ur,gI,hs,nV,eW,g1,g2,g3,g4,yO,zi,gm,mu]
   refine ih _ ⟨k2+1,k+1,_,cur.set k l[q+k2],by omega,rfl,dT,by rw[bp]; exact dt,?_,by omega,by omega,λi hi =>?_⟩
   ·rw[show q+(k2+1)=q+k2+1 by omega,sR,A1,af (by rw[pM]; intro e; exact hd (by simpa using e.symm)),← ec]
    rw[bl,a8 jd]
    simp only[Option.toList_some]
    congr 1
    rw[List.take_set_of_le (ao k)]
   ·rw[aq (by omega)]
    exact dD i (by omega)
 ·rintro st ⟨k2,k,cs',cur,ey,rfl,hp,dt,ec,fX,mt,dD⟩
  have e:q+k2=l.length:=by omega
  have jR:¬k2<l.length - q:=by omega
  rw[e,aP] at ec
  simp[jR]
  exact hk cs' cur k _ hp dt (by omega) fX ec
theorem c0k (l:List Pr) (hl:l.length≤2000000000) (n:Nat) (h:List PObj) (cs:List PV) (hn:h[n]? = some (.cells cs)) (dW:Prs cs l):
  ∃h',wj L 220 [.rowp n 2 true l.length] h=some (.rowp n 2 true (yK l).length,h')∧NL h' n (yK l).length (yK l):=by
 suffices H:∃r,wj L 220 [.rowp n 2 true l.length] h=some r∧r.1 = .rowp n 2 true (yK l).length∧NL r.2 n (yK l).length (yK l) by
  obtain⟨⟨v,h'⟩,h1,h2,h3⟩:=H
  simp only at h2 h3; subst h2
  exact⟨h',h1,h3⟩
 have gI:n<h.length:=(ai.1 hn).1
 refine Be (hL 220 _ rfl) rfl ?_
 by_cases h2:l.length<2
 ·have fl:(l.length:Int)<2:=by omega
  have e:yK l=l:=by
   match l,h2 with
   | [],_=>rfl
   | [x],_=>rfl
  simp[Ft,tf fl,xR,e]
  exact⟨rfl,[],by rw[bh,← dW.eq]; exact hn⟩
 ·have fl:¬(l.length:Int)<2:=by omega
  simp[Ft,fl]
  rw[M3]
  have dE:0<l.length:=by omega
  refine xc (l.length - 1) (λj st=>∃y3 y4 q,q=j+1∧st=⟨[.rowp n 2 true l.length,.list true [],.int .i64 q,y3,y4],[],0,h⟩∧yK (l.take q)=l.take q) ?_ ?_ ⟨_,_,1,rfl,rfl,?_⟩
  ·rintro j hj st ⟨y3,y4,q,hq,rfl,hc⟩ ih
   have lH:q<l.length:=by omega
   have hw:=wF q (by omega)
   have hs:IntKind.i64.wrap ((q:Int) - 1)=((q - 1:Nat):Int):=by rw[show ((q:Int) - 1)=((q - 1:Nat):Int) by omega]; exact E2 _ (by omega)
   have lI:q - 1<l.length:=by omega
   obtain⟨g1,g3⟩:=dW.get lH
   obtain⟨g2,g4⟩:=dW.get lI
   have gl:yK (l.take (q+1))=A1 (l.take q) l[q]:=by rw[Fz l lH,hc]
   have ig:(l.take q).getLast? = some l[q - 1]:=by
    have:=J8 l lI
    rw[show q - 1+1=q by omega,hc] at this
    exact this
   have qI:q≤l.length:=by omega
   have nj:¬q=0:=by omega
   by_cases he:l[q]=l[q - 1]
   ·simp[lH,hw,hn,hs,lI,g1,g2,g3,g4,yO,zi,he,qI,nj]
    refine c0j hL l hl n h cs hn dW q (by omega) lH hc he ?_
    intro cs' cur k y4 hp dt eW fX ec
    have kJ:¬k=0:=by omega
    have ey:k*2≤cs'.length:=by rw[hp.len]; omega
    have jd:(yK l).length=k:=by rw[← ec,bk]; omega
    simp[eW,gI,kJ,ey,xR,jd]
    refine⟨jd,[],?_⟩
    rw[← ec,← J9,← hp.eq]
    simp[gI]
   ·have gm:¬(l[q].1=l[q - 1].1∧l[q].2=l[q - 1].2):=λe=>he (Prod.ext e.1 e.2)
    simp[lH,hw,hn,hs,lI,g1,g2,g3,g4,yO,zi,gm]
    refine ih _ ⟨_,_,q+1,by omega,rfl,?_⟩
    rw[gl,A1,af (by rw[ig]; intro e; exact he (by simpa using e.symm)),bl,al lH]
    rfl
  ·rintro st ⟨y3,y4,q,hq,rfl,hc⟩
   have ut:q=l.length:=by omega
   subst ut
   rw[aP] at hc
   simp[xR,hc]
   exact⟨rfl,[],by rw[bh,← dW.eq]; exact hn⟩
  ·rw[show (1:Nat)=0+1 from rfl,Fz l dE]
   rw[bl,al dE]
   rfl
end
end PI.Sc
set_option maxRecDepth 100000
set_option linter.unusedSimpArgs false
set_option linter.unusedVariables false
namespace PI.Sc
open Go (IntKind BinOp UnOp)
section
variable {α:Type}
def xt (m:List (Str×α)) (x:Str):Option α:=(m.find? λe=>decide (e.1=x)).map (·.2)
def zU:List (Str×α)→Str→α→List (Str×α)
 | [],x,v=>[(x,v)]
 | e::m,x,v=>if e.1=x then(x,v)::m else e::zU m x v
theorem c31 (m:List (Str×α)) (x:Str) (v:α) (y:Str):xt (zU m x v) y=if y=x then some v else xt m y:=by
 induction m with
 | nil =>
   by_cases h:y=x
   ·subst h; simp[zU,xt]
   ·have h':¬x=y:=λe=>h e.symm
    simp[zU,xt,h,h']
 | cons e m ih =>
   unfold zU
   by_cases h:e.1=x
   ·rw[ah h]
    by_cases h2:y=x
    ·subst h2; simp[xt]
    ·have fl:¬x=y:=λe=>h2 e.symm
     have h3:¬e.1=y:=by rw[h]; exact fl
     simp[xt,h2,fl,h3]
   ·rw[af h]
    by_cases h3:e.1=y
    ·have h2:¬y=x:=by rw[← h3]; exact h
     simp[xt,h3,h2]
    ·have:xt (e::zU m x v) y=xt (zU m x v) y:=by simp[xt,h3]
     rw[this,ih]
     have:xt (e::m) y=xt m y:=by simp[xt,h3]
     rw[this]
def Az (emb:α→PV) (m:List (Str×α)):List (PV×PV):=m.map λe=>(.str e.1,emb e.2)
theorem Ob (emb:α→PV) (x:Str):∀(m:List (Str×α)) (i:Nat),∃r0:Option (Nat×PV),xo false [.s] (.str x) (Az emb m) i=some (r0.map λq=>(i+q.1,q.2))∧r0.map (·.2)=(xt m x).map emb∧∀v,Cq (Az emb m) (.str x) (emb v) r0=Az emb (zU m x v)
 | [],i=>⟨none,rfl,rfl,λv=>rfl⟩
 | e :: m, i => by
   obtain⟨r0,h1,h2,h3⟩:=Ob emb x m (i+1)
   have hp:peq false [.s] (.str x) (.str e.1)=some (decide (x=e.1)):=by
    simp only[peq,zi]
    congr 1
    by_cases h:x=e.1<;>simp[h]
   by_cases h:e.1=x
   ·refine⟨some (0,emb e.2),?_,?_,?_⟩
    ·have eM:decide (x=e.1)=true:=by simp[h]
     simp only[Az,ax,xo,hp,an,eM,if_true]; rfl
    ·simp[xt,h]
    ·intro v; simp[Cq,Az,zU,h]
   ·have h':¬x=e.1:=λq=>h q.symm
    refine⟨r0.map λq=>(q.1+1,q.2),?_,?_,?_⟩
    ·have e1:xo false [.s] (.str x) (Az emb (e::m)) i=xo false [.s] (.str x) (Az emb m) (i+1):=by
      simp only[Az,ax,xo,hp,an,h',decide_false,aH,if_false]
     rw[e1,h1]
     cases r0 with
     | none=>rfl
     | some q=>simp; omega
    ·have:xt (e::m) x=xt m x:=by simp[xt,h]
     rw[this,← h2]
     cases r0<;>rfl
    ·intro v
     have h3:=h3 v
     have e2:zU (e::m) x v=e::zU m x v:=by rw[zU,af h]
     rw[e2]
     cases r0 with
     | none =>
       simp only[Cq,cd] at h3 ⊢
       simp only[Az,ax,aL] at h3 ⊢
       rw[h3]
     | some q =>
       simp only[Cq,aB] at h3 ⊢
       simp only[Az,ax,List.set_cons_succ] at h3 ⊢
       rw[h3]
theorem Hl (emb:α→PV) (x:Str) (m:List (Str×α)):∃r,xo false [.s] (.str x) (Az emb m) 0=some r∧r.map (·.2)=(xt m x).map emb∧∀v,Cq (Az emb m) (.str x) (emb v) r=Az emb (zU m x v):=by
 obtain⟨r0,h1,h2,h3⟩:=Ob emb x m 0
 have e:(r0.map λq=>(0+q.1,q.2))=r0:=by cases r0<;>simp
 rw[e] at h1
 exact⟨r0,h1,h2,h3⟩
end
def byL (i:Nat) (m:List (Str×Int)) (l:List Str):List (Str×Int):=l.foldl (λm s=>zU m s (i:Int)) m
def byE:List (List Str)→Nat→List (Str×Int)→List (Str×Int)
 | [],_,m=>m
 | l::ls,i,m=>byE ls (i+1) (byL i m l)
def clk (m:List (Str×List On)) (l:List Decl):List (Str×List On):=l.foldl (λm d=>zU m d.name d.clock) m
def zl (by':List (Str×Int)) (j:Nat) (s:Str):List Pr:=match xt by' s with
 | some i=>[(i,(j:Int))]
 | none=>[]
def yW (c:List (Str×List On)) (s:Str):List Str:=((xt c s).getD []).map (·.name)
def CQ (by':List (Str×Int)) (c:List (Str×List On)) (j:Nat) (ns left:List Str):List Pr:=(ns++left.flatMap (yW c)).flatMap (zl by' j)
def yq (by':List (Str×Int)) (c:List (Str×List On)):List (List Str×List Str)→Nat→List Pr
 | [],_=>[]
 | q::qs,j=>CQ by' c j q.2 q.1++yq by' c qs (j+1)
def N1 (vs:List Decl) (qs:List (List Str×List Str)):List Pr:=yK (zC yX (yq (byE (qs.map (·.1)) 0 []) (clk [] vs) qs 0))
def xP (n:Node):List (List Str×List Str):=n.eqs.map λq=>(q.left,yV [] q.right)
def A2 (n:Node):List Pr:=N1 (vars n) (xP n)
end PI.Sc
set_option linter.unusedSimpArgs false
set_option linter.unusedVariables false
namespace PI.Sc
structure Like (x y:Expr):Prop where
 kind:x.kind=y.kind
 op:x.op=y.op
 t:x.t=y.t
 v:x.v=y.v
 name:x.name=y.name
 args:x.args.length=y.args.length
def vr (nm:Str):Expr := .mk 2 0 0 0 nm []
theorem Like.argsOK {x y:Expr} (h:Like x y):argsOK x=argsOK y:=by unfold PI.Sc.argsOK; simp only[h.kind,h.op,h.t,h.v,h.args]
theorem Like.typedOK {x y:Expr} (h:Like x y):typedOK x=typedOK y:=by unfold PI.Sc.typedOK; simp only[h.kind,h.t,h.v]
theorem Like.one {x y:Expr} (h:Like x y):AC x=AC y:=by
 unfold AC Ed Ds FG
 rw[h.argsOK,h.typedOK]
 simp only[h.kind,h.op,h.name,h.args]
theorem Like.inside {x y:Expr} (en:List Enum) (h:Like x y):Af en x=Af en y:=by
 unfold Af
 simp only[h.kind,h.t,h.v,h.args]
theorem d03 {nm:Str} (h:zY nm=true):AC (vr nm)=0:=by
 unfold AC Ed argsOK typedOK Ds FG yh vr
 simp[h,Expr.kind,Expr.args,Expr.op,Expr.t,Expr.v,Expr.name]
theorem c2d (en:List Enum) (nm:Str):Af en (vr nm)=0:=by
 unfold Af vr
 simp[Expr.kind]
theorem Pd (nm:Str):(vr nm).list=[vr nm]:=by simp[vr,Expr.list,z6]
mutual
theorem FC (nm:Str):∀e:Expr,(∀x∈(yp nm e).list,x=vr nm∨∃y∈e.list,Like x y)∧(yp nm e).list.length≤e.list.length
 | .mk k o t v n as => by
   obtain⟨h1,h2⟩:=KC nm k 0 as
   simp only[yp,Expr.list,aI]
   refine⟨λx hx =>?_,by omega⟩
   rcases aC.1 hx with rfl|hx
   ·exact .inr ⟨_,b8 ..,⟨rfl,rfl,rfl,rfl,rfl,by simp[Expr.args,Hk]⟩⟩
   ·rcases h1 x hx with h|⟨y,hy,hl⟩
    ·exact .inl h
    ·exact .inr ⟨y,bx _ hy,hl⟩
theorem KC (nm:Str) (k:Int) (i:Nat):∀as:List Expr,(∀x∈z6 (yJ nm k i as),x=vr nm∨∃y∈z6 as,Like x y)∧(z6 (yJ nm k i as)).length≤(z6 as).length
 | []=>by simp[yJ,z6]
 | a :: as => by
   obtain⟨h1,h2⟩:=KC nm k (i+1) as
   obtain⟨h3,h4⟩:=FC nm a
   have dE:1≤a.list.length:=by rw[Expr.list_eq]; simp
   simp only[yJ,z6,ap]
   split
   ·refine⟨λx hx =>?_,?_⟩
    ·rcases ay.1 hx with hx|hx
     ·have hx:x∈(vr nm).list:=hx
      rw[Pd] at hx
      exact .inl (by simpa using hx)
     ·rcases h1 x hx with h|⟨y,hy,hl⟩
      ·exact .inl h
      ·exact .inr ⟨y,b6 _ hy,hl⟩
    ·have:(vr nm).list.length=1:=by rw[Pd]; rfl
     have e:(Expr.mk 2 0 0 0 nm []).list.length=1:=this
     omega
   ·refine⟨λx hx =>?_,by omega⟩
    rcases ay.1 hx with hx|hx
    ·rcases h3 x hx with h|⟨y,hy,hl⟩
     ·exact .inl h
     ·exact .inr ⟨y,b9 _ hy,hl⟩
    ·rcases h1 x hx with h|⟨y,hy,hl⟩
     ·exact .inl h
     ·exact .inr ⟨y,b6 _ hy,hl⟩
end
mutual
def dep:Expr→Nat
 | .mk k o t v n as=>AD 0 as+1
def AD (m:Nat):List Expr→Nat
 | []=>m
 | x::xs=>AD (if m<dep x then dep x else m) xs
end
mutual
theorem d04:∀e:Expr,dep e≤e.list.length
 | .mk k o t v n as => by
   simp only[dep,Expr.list,aI]
   have:=KD 0 as
   omega
theorem KD (m:Nat):∀as:List Expr,AD m as≤m+(z6 as).length
 | []=>by simp[AD]
 | x :: xs => by
   simp only[AD,z6,ap]
   have h1:=d04 x
   have h2:=KD (if m<dep x then dep x else m) xs
   split at h2<;>rename_i hm<;>simp only[hm,if_true,if_false]<;>omega
end
theorem KE (n:Nat) (h:n≤9223372036854775807):wrap (n:Int)=n:=by
 unfold wrap
 exact CP _ (by omega) (by omega)
mutual
theorem KF:∀e:Expr,e.list.length≤9000000000000000000→e.depth=dep e
 | .mk k o t v n as, h => by
   simp only[Expr.depth,dep]
   simp only[Expr.list,aI] at h
   have:=KG 0 as (by omega)
   have hb:=KD 0 as
   rw[show (0:Int)=((0:Nat):Int) from rfl,this]
   exact KE (AD 0 as+1) (by omega)
theorem KG (m:Nat):∀as:List Expr,(z6 as).length≤9000000000000000000→Dz (m:Int) as=AD m as
 | [],_=>rfl
 | x :: xs, h => by
   simp only[z6,ap] at h
   simp only[Dz,AD]
   rw[KF x (by omega)]
   by_cases hm:m<dep x
   ·rw[ah hm,ah (by omega)]
    exact KG (dep x) xs (by omega)
   ·rw[af hm,af (by omega)]
    exact KG m xs (by omega)
end
theorem c7k (e:Expr):1≤dep e:=by cases e; simp[dep]
theorem c2f:∀(as:List Expr) (m m':Nat),m≤m'→AD m as≤AD m' as
 | [],m,m',h=>h
 | x :: xs, m, m', h => by
   simp only[AD]
   refine c2f xs _ _ ?_
   split<;>split<;>omega
mutual
theorem Pe (nm:Str):∀e:Expr,dep (yp nm e)≤dep e
 | .mk k o t v n as => by
   simp only[yp,dep]
   have:=Pf nm k 0 as 0 0 (ao 0)
   omega
theorem Pf (nm:Str) (k:Int) (i:Nat):∀(as:List Expr) (m m':Nat),m≤m'→AD m (yJ nm k i as)≤AD m' as
 | [],m,m',h=>h
 | x :: xs, m, m', h => by
   simp only[yJ,AD]
   have h1:=Pe nm x
   have h2:=c7k x
   have h3:dep (Expr.mk 2 0 0 0 nm [])=1:=by simp[dep,AD]
   refine Pf nm k (i+1) xs _ _ ?_
   split
   ·rw[h3]; split<;>split<;>omega
   ·split<;>split<;>omega
end
theorem HE {α:Type} {f:α→Int} {l:List α} (h:∀x∈l,f x=0):wr f l=0:=yS.2 h
theorem b8C {nm:Str} (fO:zY nm=true) {e:Expr} (hp:e.parts≤1100000) (h:Cr e=0):Cr (yp nm e)=0:=by
 unfold Cr at h ⊢
 rw[yy] at h ⊢
 obtain⟨h1,h2⟩:=h
 obtain⟨hl,cO⟩:=FC nm e
 unfold Expr.parts at hp
 refine⟨?_,HE λx hx =>?_⟩
 ·have ei:e.size=e.list.length:=KE _ (by omega)
  have jS:(yp nm e).size=(yp nm e).list.length:=KE _ (by omega)
  have jA:=KF e (by omega)
  have gV:=KF (yp nm e) (by omega)
  have hd:=Pe nm e
  have hc:e.size≤400∧e.depth≤32:=by
   apply cG
   intro hn
   rw[show decide (e.size≤400∧e.depth≤32)=false by simpa using hn] at h1
   simp at h1
  rw[show decide ((yp nm e).size≤400∧(yp nm e).depth≤32)=true by simp; omega]
  rfl
 ·rcases hl x hx with rfl|⟨y,hy,jT⟩
  ·exact d03 fO
  ·rw[jT.one]; exact yS.1 h2 y hy
theorem c0C {nm:Str} (fO:zY nm=true) (en:List Enum) {e:Expr} (hp:e.parts≤1100000) (h:Ae en e=0):Ae en (yp nm e)=0:=by
 unfold Ae at h ⊢
 rw[yy] at h ⊢
 refine⟨b8C fO hp h.1,HE λx hx =>?_⟩
 rcases(FC nm e).1 x hx with rfl|⟨y,hy,jT⟩
 ·exact c2d en nm
 ·rw[jT.inside]; exact yS.1 h.2 y hy
def zV (n:Node):Str:=(wk n.outs).headD []
def zD (nm:Str) (q:Eqn):Eqn:=⟨q.left,yp nm q.right⟩
def xz (n:Node):Node:={ n with eqs:=n.eqs.map (zD (zV n)) }
theorem c0D (nm:Str) (e:Expr):(yp nm e).kind=e.kind:=by rw[Hj]; rfl
theorem Pg {α:Type} {f:α→Int}:∀(l:List α) (i:Nat),zh f l i=none↔wr f l=0
 | [],i=>by simp[zh,wr]
 | x :: l, i => by
   unfold zh wr
   by_cases h:f x=0
   ·rw[ah h,ah h]; exact Pg l (i+1)
   ·rw[af h,af h]; simp[h]
def CU (en:List Enum) (n:Node):Prop:=yx en n=0∧wr (zm en) n.eqs=0∧An en n=0
theorem Ph {en:List Enum} {n:Node} {i:Nat}:yr en n i=none↔CU en n:=by
 unfold yr CU
 rw[← Pg n.eqs 0]
 by_cases h:yx en n=0
 ·cases hf:zh (zm en) n.eqs 0 with
  | none=>by_cases ht:An en n=0<;>simp[h,ht]
  | some r=>simp[h]
 ·simp[h]
theorem FD {en:List Enum}:∀{l:List Node} {i:Nat},zg en l i=none↔∀n∈l,CU en n
 | [],i=>by simp[zg]
 | n :: l, i => by
   unfold zg
   cases h:yr en n i with
   | some b =>
     have:¬CU en n:=λhn=>by rw[Ph.2 hn] at h; cases h
     simp[this]
   | none =>
     have:=Ph.1 h
     simp only[aC,forall_eq_or_imp]
     exact⟨λh2=>⟨this,(FD (l:=l)).1 h2⟩,λh2=>(FD (l:=l)).2 h2.2⟩
theorem c2g {nm:Str} (fO:zY nm=true) {en:List Enum} {q:Eqn} (hp:q.right.parts≤1100000) (h:zm en q=0):zm en (zD nm q)=0:=by
 unfold zm zD at *
 simp only[yy] at h ⊢
 obtain⟨h1,h2,h3,h4,h5⟩:=h
 refine⟨h1,h2,h3,c0C fO en hp h4,?_⟩
 rw[c0D]; exact h5
theorem Eb {b:Bool} {e:Int} (he:e≠0) (h:need b e=0):b=true:=by
 cases b with
 | true=>rfl
 | false=>exact absurd h he
theorem Kd {en:List Enum} {n:Node} (h:yx en n=0):n.outs≠[]∧zY (zV n)=true:=by
 unfold yx at h
 simp only[yy] at h
 obtain⟨_,_,h3,_,h5,_⟩:=h
 have ho:n.outs≠[]:=by simpa using Eb (by decide) h3
 refine⟨ho,?_⟩
 match hn:n.outs,ho with
 | d :: l, _ =>
   rw[hn] at h5
   have h6:=yS.1 h5 d (by simp)
   unfold yT at h6
   simp only[yy] at h6
   have:=Eb (by decide) h6.1
   simpa[zV,wk,hn] using this
theorem b4u {en:List Enum} {n:Node} (hp:∀q∈n.eqs,q.right.parts≤1100000) (h:CU en n):CU en (xz n):=by
 obtain⟨h1,h2,h3⟩:=h
 have fO:=(Kd h1).2
 refine⟨?_,?_,h3⟩
 ·have:yx en (xz n)=yx en n:=by unfold yx xz; simp
  rw[this]; exact h1
 ·refine HE λq hq =>?_
  obtain⟨q0,nj,rfl⟩:=bc.1 hq
  exact c2g fO (hp q0 nj) (yS.1 h2 q0 nj)
def sig (n:Node):Str×Nat×Nat:=(n.name,n.ins.length,n.outs.length)
theorem c0E {b b':List Node} (h:b.map sig=b'.map sig) (x:Str):(callee b x).map sig=(callee b' x).map sig:=by
 have key:∀b:List Node,(callee b x).map sig=(b.map sig).find? λs=>decide (s.1=x):=by
  intro b
  unfold callee
  rw[List.find?_map]; rfl
 rw[key,key,h]
theorem b8D {s s':Place} (h:s.before.map sig=s'.before.map sig) (e:Expr) (o:Nat):CX s e o=CX s' e o:=by
 have:=c0E h e.name
 unfold CX
 cases h1:callee s.before e.name<;>cases h2:callee s'.before e.name<;>rw[h1,h2] at this<;>simp[sig] at this ⊢
 obtain⟨_,a,b⟩:=this
 rw[a,b]
theorem Pj {s s':Place} (h:s.before.map sig=s'.before.map sig) (hv:s.vis=s'.vis) (o:Nat) (e:Expr):oneN s o e=oneN s' o e:=by
 unfold oneN; rw[hv,b8D h]
theorem Pk {s s':Place} (h:s.before.map sig=s'.before.map sig) (hv:s.vis=s'.vis) (e:Expr) (o:Nat):w7 s e o=w7 s' e o:=by
 unfold w7
 rw[Pj h hv,show oneN s 1=oneN s' 1 from funext λx=>Pj h hv 1 x]
theorem Pl {s s':Place} (hv:s.vis=s'.vis) (hi:s.inputs=s'.inputs):∀(l d:List Str),Ad s l d=Ad s' l d
 | [],d=>rfl
 | x::l,d=>by simp only[Ad,hv,hi,Pl hv hi l]
theorem Pm {s s':Place} (h:s.before.map sig=s'.before.map sig) (hv:s.vis=s'.vis) (hi:s.inputs=s'.inputs):∀(l:List Eqn) (k:Nat) (d:List Str),yP s l k d=yP s' l k d
 | [],k,d=>rfl
 | q :: l, k, d => by
   have e:x5 s q d=x5 s' q d:=by
    unfold x5
    rw[Pl hv hi]
    congr 1
    funext d
    rw[Pk h hv]
   simp only[yP,e,Pm h hv hi l]
theorem Pn {b b':List Node} (h:b.map sig=b'.map sig) (tags:List Str) (n:Node) (ha:n.autos=[]):zk b tags n=zk b' tags n:=by
 have hl:b.length=b'.length:=by simpa using aF List.length h
 have hn:b.map (·.name)=b'.map (·.name):=by
  have:=aF (List.map Prod.fst) h
  simpa[List.map_map,sig,Function.comp_def] using this
 unfold zk
 simp only[hl,hn,ha,xe]
 rw[Pm (s:=⟨b,(xM [] tags (vars n)).2,wk n.ins,tags⟩) (s':=⟨b',(xM [] tags (vars n)).2,wk n.ins,tags⟩) h rfl rfl]
 have e1:∀(vis:List Str) (e:Expr),w7 (Place.at ⟨b,(xM [] tags (vars n)).2,wk n.ins,tags⟩ vis) e 1=w7 (Place.at ⟨b',(xM [] tags (vars n)).2,wk n.ins,tags⟩ vis) e 1:=λvis e=>Pk (s:=Place.at ⟨b,_,_,_⟩ vis) (s':=Place.at ⟨b',_,_,_⟩ vis) h rfl e 1
 simp only[e1]
theorem Like.oneN {x y:Expr} (s:Place) (o:Nat) (h:Like x y):oneN s o x=oneN s o y:=by
 unfold PI.Sc.oneN CX
 simp only[h.kind,h.name,h.v,h.args]
theorem b8E {s:Place} {nm:Str} (hn:nm∈s.vis) {e:Expr} {o:Nat} (h:w7 s e o=0):w7 s (yp nm e) o=0:=by
 unfold w7 at h ⊢
 rw[yy] at h ⊢
 obtain⟨h1,h2⟩:=h
 have oH:Like (yp nm e) e:=by rw[Hj]; exact⟨rfl,rfl,rfl,rfl,rfl,by simp[Expr.args,Hk]⟩
 refine⟨by rw[oH.oneN]; exact h1,HE λx hx =>?_⟩
 have ha:(yp nm e).args=yJ nm e.kind 0 e.args:=by rw[Hj]; rfl
 rw[ha,← HD] at hx
 rcases(KC nm e.kind 0 e.args).1 x hx with rfl|⟨y,hy,jT⟩
 ·unfold PI.Sc.oneN vr
  simp[Expr.kind,Expr.name,hn]
 ·rw[jT.oneN]
  rw[HD] at hy
  exact yS.1 h2 y hy
theorem Po {s:Place} {nm:Str} (hn:nm∈s.vis):∀(l:List Eqn) (k:Nat) (d d':List Str),yP s l k d = .inr d'→yP s (l.map (zD nm)) k d = .inr d'
 | [],k,d,d',h=>h
 | q :: l, k, d, d', h => by
   simp only[yP] at h
   split at h
   ·rename_i he
    have e:x5 s (zD nm q) d=x5 s q d:=by
     unfold zD
     unfold x5 yd at he ⊢
     by_cases h0:(Ad s q.left d).1=0
     ·simp only[h0,if_true] at he ⊢
      rw[he,b8E hn he]
     ·simp only[h0,if_false] at he ⊢
    simp only[ax,yP,e,he,if_true]
    exact Po hn l (k+1) _ d' h
   ·cases h
theorem Pp {tags:List Str}:∀(l:List Decl) (v:List Str),(xj tags l v).1=0→(xj tags l v).2=v++wk l
 | [],v,_=>by simp[xj,wk]
 | d :: l, v, h => by
   unfold xj at h ⊢
   split at h
   ·simp at h
   ·rename_i hc
    rw[af hc,Pp l _ h]
    simp[wk]
theorem b8F {tags:List Str} {l:List Decl} {vis:List Str} (h:(xM vis tags l).1=0):(xM vis tags l).2=vis++wk l:=by
 unfold xM yd at h ⊢
 by_cases h0:(xj tags l vis).1=0
 ·simp only[h0,if_true]; exact Pp l vis h0
 ·simp only[h0,if_false] at h
theorem c7l {n:Node} (ho:n.outs≠[]):zV n∈wk (vars n):=by
 match hn:n.outs,ho with
 | d :: l, _ =>
   simp[zV,wk,vars,hn]
theorem b8G {b:List Node} {tags:List Str} {n:Node} (ho:n.outs≠[]) (h:zk b tags n=none):zk b tags (xz n)=none:=by
 unfold zk at h ⊢
 have hv:vars (xz n)=vars n:=rfl
 simp only[hv] at h ⊢
 have e1:(xz n).name=n.name:=rfl
 have e2:(xz n).ins=n.ins:=rfl
 have e3:(xz n).outs=n.outs:=rfl
 have e4:(xz n).locals=n.locals:=rfl
 have e5:(xz n).autos=n.autos:=rfl
 have e6:(xz n).assume=n.assume:=rfl
 have e7:(xz n).ensure=n.ensure:=rfl
 have e8:(xz n).eqs=n.eqs.map (zD (zV n)):=rfl
 simp only[e1,e2,e3,e4,e5,e6,e7,e8]
 split at h
 ·cases h
 ·rename_i h1
  rw[af h1]
  split at h
  ·cases h
  ·rename_i h2
   rw[af h2]
   have fl:(xM [] tags (vars n)).1=0:=by simpa using h2
   have dn:=b8F fl
   cases hq:yP ⟨b,(xM [] tags (vars n)).2,wk n.ins,tags⟩ n.eqs 0 [] with
   | inl r=>rw[hq] at h; cases h
   | inr d =>
     rw[hq] at h
     rw[Po (s:=⟨b,(xM [] tags (vars n)).2,wk n.ins,tags⟩) (by rw[dn]; simpa using c7l ho) n.eqs 0 [] d hq]
     exact h
def AP (p:Prog) (k:Nat) (hk:k<p.nodes.length):Prog:={ p with nodes:=p.nodes.set k (xz p.nodes[k]) }
theorem KH {tags:List Str}:∀(l:List Node) (b b':List Node) (k:Nat) (n':Node),b.map sig=b'.map sig→(∀n∈l,n.autos=[])→Ac tags b l=none →
  (∀(hk:k<l.length),sig n'=sig l[k]∧n'.autos=[]∧∀b,zk b tags l[k]=none→zk b tags n'=none)→Ac tags b' (l.set k n')=none
 | [],b,b',k,n',_,_,_,_=>by simp[Ac]
 | n :: l, b, b', k, n', hb, ha, h, hn => by
   simp only[Ac] at h
   cases h1:zk b tags n with
   | some x=>rw[h1] at h; cases h
   | none =>
     rw[h1] at h
     cases k with
     | zero =>
       obtain⟨s1,s2,s3⟩:=hn (by simp)
       simp only[List.set_cons_zero,Ac]
       have e:=s3 b h1
       rw[Pn hb tags n' s2] at e
       rw[e]
       have hl:l.set l.length n'=l:=List.set_eq_of_length_le (ao _)
       have:=KH l (b++[n]) (b'++[n']) l.length n' (by simp only[aU,hb,ax,ba]; rw[s1]; rfl) (λx hx=>ha x (by simp[hx])) h (λhk=>absurd hk (Nat.lt_irrefl _))
       rw[hl] at this
       exact this
     | succ k =>
       simp only[List.set_cons_succ,Ac]
       have e:=h1
       rw[Pn hb tags n (ha n (by simp))] at e
       rw[e]
       exact KH l (b++[n]) (b'++[n]) k n' (by simp only[aU,hb]) (λx hx=>ha x (by simp[hx])) h (λhk=>by
        have:=hn (by simpa using hk)
        simpa using this)
theorem b8H {p:Prog} (h:plain p=true):∀n∈p.nodes,n.autos=[]:=λn hn=>by
 have:=aK.1 h n hn
 simpa using this
theorem b6W {p:Prog} {k:Nat} (hk:k<p.nodes.length) (hp:∀n∈p.nodes,∀q∈n.eqs,q.right.parts≤1100000) (h:Ab p=none) (eA:plain p=true):Ab (AP p k hk)=none∧plain (AP p k hk)=true:=by
 have ha:=b8H eA
 unfold Ab at h ⊢
 cases hs:zM p with
 | some b=>rw[hs] at h; cases h
 | none =>
   rw[hs] at h
   simp only at h
   split at h
   ·rename_i jP
    unfold zM at hs
    split at hs
    ·cases hs
    ·rename_i h1
     split at hs
     ·cases hs
     ·rename_i h2
      have d4:=FD.1 hs
      have pU:=d4 _ (aj hk)
      have hq:zM (AP p k hk)=none:=by
       unfold zM AP
       simp only[bp]
       rw[af h1,af h2]
       refine FD.2 λn hn =>?_
       rcases List.mem_or_eq_of_mem_set hn with hn|rfl
       ·exact d4 n hn
       ·exact b4u (hp _ (aj hk)) pU
      refine⟨?_,?_⟩
      ·rw[hq]
       show (if BV p.enums=true then _ else _)=none
       rw[ah jP]
       exact KH p.nodes [] [] k (xz p.nodes[k]) rfl ha h (λ_=>⟨rfl,(show (xz p.nodes[k]).autos=[] from ha p.nodes[k] (aj hk)),λb hb=>b8G (Kd pU.1).1 hb⟩)
      ·unfold plain AP
       refine aK.2 λn hn =>?_
       rcases List.mem_or_eq_of_mem_set hn with hn|rfl
       ·simpa using ha n hn
       ·have e:(xz p.nodes[k]).autos=[]:=ha p.nodes[k] (aj hk)
        simp[e]
   ·cases h
theorem b8I (n:Node):A2 (xz n)=A2 n:=by
 unfold A2
 have h1:vars (xz n)=vars n:=rfl
 have h2:xP (xz n)=xP n:=by
  unfold xP xz
  simp only[List.map_map]
  refine List.map_congr_left λq _ =>?_
  simp only[Function.comp,zD,O8]
 rw[h1,h2]
end PI.Sc
set_option maxRecDepth 100000
set_option linter.unusedSimpArgs false
set_option linter.unusedVariables false
namespace PI.Sc
open Go (IntKind BinOp UnOp)
open Short
def B0 (m:List (Str×Int)):PObj := .map (Az (λi=>PV.int .i64 i) m)
def Dn (m:List (Str×List On)):PObj := .map (Az (λc=>PV.list false (c.map eOn)) m)
structure EH (h:List PObj) (b:List (Str×Int)) (c:List (Str×List On)) (l:List Pr):Prop where
 by':h[0]? = some (B0 b)
 ck:h[1]? = some (Dn c)
 out:∃v,h[2]? = some (.cells [v])∧((v = .list true []∧l=[])∨∃k cs,3≤k∧v = .rowp k 2 true l.length∧h[k]? = some (.cells cs)∧Prs cs l)
section
variable {L:Nat→Option PFunc} (hL:∀k f,LS k=some f→L k=some f)
include hL
theorem NM {h:List PObj} {b:List (Str×Int)} {c:List (Str×List On)} (h0:h[0]? = some (B0 b)) (h1:h[1]? = some (Dn c)) (cO:2<h.length) (a:Nat) (ha:2≤a) (o:PObj) (l:List Pr) (hl:l≠[]) (cs:List PV) (hp:Prs cs l):EH ((h.set a o++[PObj.cells cs]).set 2 (PObj.cells [.rowp h.length 2 true l.length])) b c l:=by
 have _:=hL
 refine⟨?_,?_,_,?_,.inr ⟨h.length,cs,cO,rfl,?_,hp⟩⟩
 ·rw[aq (by omega),am (by simp; omega),aq (by omega)]; exact h0
 ·rw[aq (by omega),am (by simp; omega),aq (by omega)]; exact h1
 ·rw[a8 (by simp; omega)]
 ·rw[aq (by omega),ar (by simp)]; simp
theorem NN (b:List (Str×Int)) (c:List (Str×List On)) (l:List Pr) (hl:l.length≤2000000000) (s:Str) (j:Nat) (h:List PObj) (eh:EH h b c l):
  ∃h',wj L 216 [.str s,.cptr [.map (some 0)],.ptr 2 0,.cptr [.int .i64 j]] h=some (.tuple [],h')∧EH h' b c (l++zl b j s):=by
 suffices H:∃r,wj L 216 [.str s,.cptr [.map (some 0)],.ptr 2 0,.cptr [.int .i64 j]] h=some r∧r.1 = .tuple []∧EH r.2 b c (l++zl b j s) by
  obtain⟨⟨v,h'⟩,h1,h2,h3⟩:=H
  simp only at h2 h3; subst h2
  exact⟨h',h1,h3⟩
 obtain⟨h0,h1,v,h2,hv⟩:=eh
 obtain⟨r,f1,f2,_⟩:=Hl (λi=>PV.int .i64 i) s b
 have cO:2<h.length:=(ai.1 h2).1
 unfold B0 at h0
 refine Be (hL 216 _ rfl) rfl ?_
 cases hk:xt b s with
 | none =>
   rw[hk] at f2
   have hr:r=none:=by cases r with | none=>rfl | some q=>simp at f2
   subst hr
   have e:zl b j s=[]:=by simp[zl,hk]
   simp[Fs,h0,f1,xR,e]
   exact⟨h0,h1,v,h2,hv⟩
 | some i =>
   rw[hk] at f2
   obtain⟨q,hr⟩:∃q,r=some (q,.int .i64 i):=by
    cases r with
    | none=>simp at f2
    | some q=>obtain⟨q1,q2⟩:=q; simp at f2; exact⟨q1,by rw[f2]⟩
   subst hr
   have e:zl b j s=[(i,(j:Int))]:=by simp[zl,hk]
   rcases hv with⟨rfl,rfl⟩|⟨k,cs,gE,rfl,jd,hp⟩
   ·have jS:∀x:PObj,(h.set 2 x)[2]? = some x:=λx=>by rw[a8 cO]
    have qJ:∀(x:PObj) (y:List PObj),(h.set 2 x++y)[2]? = some x:=λx y=>by rw[am (by simpa using cO),jS]
    simp[Fs,h0,f1,h2,jS,qJ,xR,e,AH,Ag,w6,PV.cells,zj,AL]
    exact NM hL h0 h1 cO 2 (by omega) _ [(i,(j:Int))] (by simp) _ ⟨rfl⟩
   ·have jS:∀x:PObj,(h.set 2 x)[2]? = some x:=λx=>by rw[a8 cO]
    have qJ:∀(n:Nat) (x:PObj) (y:List PObj),3≤n→(h.set n x++y)[2]? = h[2]? := λn x y hn=>by rw[am (by simpa using cO),aq (by omega)]
    have mu:l.length*2≤cs.length:=by rw[hp.len]; exact ao _
    have ee:l.length+1≤2147483648:=by omega
    simp[Fs,h0,f1,h2,jd,qJ k _ _ gE,mu,ee,xR,e,AH,Ag,w6,PV.cells,zj,AL]
    have e2:l.length+1=(l++[(i,(j:Int))]).length:=by simp
    rw[e2]
    refine NM hL h0 h1 cO k (by omega) _ _ (by simp) _ ⟨?_⟩
    rw[bP,← hp.eq]
    have e3:cs.map dem=cs:=by
     rw[hp.eq]
     have:∀l:List Pr,(l.flatMap wV).map dem=l.flatMap wV:=by
      intro l
      induction l with
      | nil=>rfl
      | cons x l ih=>rw[aG,aU,ih]; rfl
     exact this l
    rw[e3,bW (by rw[hp.len]; exact ao _)]
    rfl
end
theorem c0l (b:List (Str×Int)) (j:Nat) (s:Str):(zl b j s).length≤1:=by unfold zl; split<;>simp
theorem Do (b:List (Str×Int)) (j:Nat):∀ns:List Str,(ns.flatMap (zl b j)).length≤ns.length
 | []=>by simp
 | s :: ns => by
   have:=Do b j ns
   have:=c0l b j s
   simp only[aG,ap,aI]; omega
theorem NO:∀(a:List (List Str)) (l:List Str) (k:Nat) (m:List (Str×Int)),byE (a++[l]) k m=byL (k+a.length) (byE a k m) l
 | [],l,k,m=>by simp[byE]
 | x :: a, l, k, m => by
   simp only[aL,byE,aI]
   rw[NO a l (k+1)]
   congr 1; omega
theorem c3P (ls:List (List Str)) {i:Nat} (h:i<ls.length) (m:List (Str×Int)):byE (ls.take (i+1)) 0 m=byL i (byE (ls.take i) 0 m) ls[i]:=by
 rw[bl,al h]
 show byE (ls.take i++[ls[i]]) 0 m=_
 rw[NO,aM,bk,Nat.min_eq_left (by omega)]
theorem NP (b:List (Str×Int)) (c:List (Str×List On)):∀(a:List (List Str×List Str)) (q:List Str×List Str) (k:Nat),yq b c (a++[q]) k=yq b c a k++CQ b c (k+a.length) q.2 q.1
 | [],q,k=>by simp[yq]
 | x :: a, q, k => by
   simp only[aL,yq,aI]
   rw[NP b c a q (k+1),aJ]
   congr 3; omega
theorem c1E (b:List (Str×Int)) (c:List (Str×List On)) (qs:List (List Str×List Str)) {i:Nat} (h:i<qs.length):yq b c (qs.take (i+1)) 0=yq b c (qs.take i) 0++CQ b c i qs[i].2 qs[i].1:=by
 rw[bl,al h]
 show yq b c (qs.take i++[qs[i]]) 0=_
 rw[NP,aM,bk,Nat.min_eq_left (by omega)]
section
variable {L:Nat→Option PFunc} (hL:∀k f,LS k=some f→L k=some f)
include hL
theorem c3Q (b:List (Str×Int)) (c:List (Str×List On)) (j:Nat) (ns:List Str) (o:Bool) (l:List Pr) (hl:l.length+ns.length≤2000000000) (h:List PObj) (eh:EH h b c l) (V0 V1 V2 V3 V4 V5 V6 V7 V8 V9 V10 V11 V13 V14 V15 V16 V17 V18 V19 V20 V21 V22 V23 V24 V25 V26 V27 V31 V32 V33 V34 V35 V36:PV) (g:Nat) {Q:PExit→St→Prop}
  (hk:∀y13 y30 h',EH h' b c (l++ns.flatMap (zl b j))→Q (.exit 8) ⟨[V0,V1,V2,V3,V4,V5,V6,V7,V8,V9,V10,V11,.func 216 [] [.cptr [.map (some 0)],.ptr 2 0,.cptr [.int .i64 j]],y13,V14,V15,V16,V17,V18,V19,V20,V21,V22,V23,V24,V25,V26,V27,.list o (ns.map PV.str),.int .i64 ns.length,y30,V31,V32,V33,V34,V35,V36],[],g,h'⟩):
  wpL L JM ⟨[V0,V1,V2,V3,V4,V5,V6,V7,V8,V9,V10,V11,.func 216 [] [.cptr [.map (some 0)],.ptr 2 0,.cptr [.int .i64 j]],V13,V14,V15,V16,V17,V18,V19,V20,V21,V22,V23,V24,V25,V26,V27,.list o (ns.map PV.str),.int .i64 ns.length,.int .i64 0,V31,V32,V33,V34,V35,V36],[],g,h⟩ Q:=by
 rw[JM]
 refine xc ns.length (λi st=>∃y13 h',st=⟨[V0,V1,V2,V3,V4,V5,V6,V7,V8,V9,V10,V11,.func 216 [] [.cptr [.map (some 0)],.ptr 2 0,.cptr [.int .i64 j]],y13,V14,V15,V16,V17,V18,V19,V20,V21,V22,V23,V24,V25,V26,V27,.list o (ns.map PV.str),.int .i64 ns.length,.int .i64 i,V31,V32,V33,V34,V35,V36],[],g,h'⟩∧EH h' b c (l++(ns.take i).flatMap (zl b j))) ?_ ?_ ⟨V13,h,rfl,by simpa using eh⟩
 ·rintro i hi st ⟨y13,h1,rfl,e1⟩ ih
  have hw:=wF i (by omega)
  have m9:=Do b j (ns.take i)
  have cS:(ns.take i).length≤ns.length:=by rw[bk]; omega
  obtain⟨h2,hc,e2⟩:=NN hL b c _ (by rw[ap]; omega) ns[i] j h1 e1
  simp[hi,hw,hc]
  refine ih _ ⟨_,h2,rfl,?_⟩
  rw[zL hi,bP,List.flatMap_singleton,← aJ]
  exact e2
 ·rintro st ⟨y13,h1,rfl,e1⟩
  rw[aP] at e1
  simp
  exact hk _ _ h1 e1
theorem NQ (b:List (Str×Int)) (c:List (Str×List On)) (j:Nat) (cl:List On) (o:Bool) (l:List Pr) (hl:l.length+cl.length≤2000000000) (h:List PObj) (eh:EH h b c l) (V0 V1 V2 V3 V4 V5 V6 V7 V8 V9 V10 V11 V13 V14 V15 V16 V17 V18 V19 V20 V21 V22 V23 V24 V25 V26 V27 V28 V29 V30 V31 V32 V33:PV) (g:Nat) {Q:PExit→St→Prop}
  (hk:∀y15 y36 g' h',EH h' b c (l++(cl.map (·.name)).flatMap (zl b j))→Q (.exit 12) ⟨[V0,V1,V2,V3,V4,V5,V6,V7,V8,V9,V10,V11,.func 216 [] [.cptr [.map (some 0)],.ptr 2 0,.cptr [.int .i64 j]],V13,V14,y15,V16,V17,V18,V19,V20,V21,V22,V23,V24,V25,V26,V27,V28,V29,V30,V31,V32,V33,.list o (cl.map eOn),.int .i64 cl.length,y36],[],g',h'⟩):
  wpL L JO ⟨[V0,V1,V2,V3,V4,V5,V6,V7,V8,V9,V10,V11,.func 216 [] [.cptr [.map (some 0)],.ptr 2 0,.cptr [.int .i64 j]],V13,V14,V15,V16,V17,V18,V19,V20,V21,V22,V23,V24,V25,V26,V27,V28,V29,V30,V31,V32,V33,.list o (cl.map eOn),.int .i64 cl.length,.int .i64 0],[],g,h⟩ Q:=by
 rw[JO]
 refine xc cl.length (λi st=>∃y15 g' h',st=⟨[V0,V1,V2,V3,V4,V5,V6,V7,V8,V9,V10,V11,.func 216 [] [.cptr [.map (some 0)],.ptr 2 0,.cptr [.int .i64 j]],V13,V14,y15,V16,V17,V18,V19,V20,V21,V22,V23,V24,V25,V26,V27,V28,V29,V30,V31,V32,V33,.list o (cl.map eOn),.int .i64 cl.length,.int .i64 i],[],g',h'⟩∧EH h' b c (l++((cl.take i).map (·.name)).flatMap (zl b j))) ?_ ?_ ⟨V15,g,h,rfl,by simpa using eh⟩
 ·rintro i hi st ⟨y15,g',h1,rfl,e1⟩ ih
  have hw:=wF i (by omega)
  have m9:=Do b j ((cl.take i).map (·.name))
  have cS:((cl.take i).map (·.name)).length≤cl.length:=by rw[aA,bk]; omega
  obtain⟨h2,hc,e2⟩:=NN hL b c _ (by rw[ap]; omega) cl[i].name j h1 e1
  simp[hi,hw,hc]
  refine ih _ ⟨_,_,h2,rfl,?_⟩
  rw[zL hi,aU,ax,ba,bP,List.flatMap_singleton,← aJ]
  exact e2
 ·rintro st ⟨y15,g',h1,rfl,e1⟩
  rw[aP] at e1
  simp
  exact hk _ _ _ h1 e1
theorem c3R (b:List (Str×Int)) (c:List (Str×List On)) (dt:∀s cl,xt c s=some cl→cl.length≤4) (j:Nat) (ls:List Str) (qK:ls.length≤1000) (o:Bool) (l:List Pr) (hl:l.length+ls.length*4≤2000000000) (h:List PObj) (eh:EH h b c l) (V0 V1 V2 V3 V4 V5 V6 V8 V9 V10 V11 V13 V14 V15 V16 V17 V18 V19 V20 V21 V22 V23 V24 V25 V26 V27 V28 V29 V30 V34 V35 V36:PV) (g:Nat) {Q:PExit→St→Prop}
  (hk:∀y14 y15 y33 y34 y35 y36 g' h',EH h' b c (l++(ls.flatMap (yW c)).flatMap (zl b j))→Q (.exit 10) ⟨[V0,V1,V2,V3,V4,V5,V6,.map (some 1),V8,V9,V10,V11,.func 216 [] [.cptr [.map (some 0)],.ptr 2 0,.cptr [.int .i64 j]],V13,y14,y15,V16,V17,V18,V19,V20,V21,V22,V23,V24,V25,V26,V27,V28,V29,V30,.list o (ls.map PV.str),.int .i64 ls.length,y33,y34,y35,y36],[],g',h'⟩):
  wpL L JQ ⟨[V0,V1,V2,V3,V4,V5,V6,.map (some 1),V8,V9,V10,V11,.func 216 [] [.cptr [.map (some 0)],.ptr 2 0,.cptr [.int .i64 j]],V13,V14,V15,V16,V17,V18,V19,V20,V21,V22,V23,V24,V25,V26,V27,V28,V29,V30,.list o (ls.map PV.str),.int .i64 ls.length,.int .i64 0,V34,V35,V36],[],g,h⟩ Q:=by
 rw[JQ]
 have mw:∀s,(yW c s).length≤4:=by
  intro s
  unfold yW
  cases hs:xt c s with
  | none=>simp
  | some cl=>simpa using dt s cl hs
 have my:∀k,((ls.take k).flatMap (yW c)).length≤(ls.take k).length*4:=by
  intro k
  generalize ls.take k=q
  induction q with
  | nil=>simp
  | cons x q ih=>have:=mw x; simp only[aG,ap,aI]; omega
 refine xc ls.length (λi st=>∃y14 y15 y34 y35 y36 g' h',st=⟨[V0,V1,V2,V3,V4,V5,V6,.map (some 1),V8,V9,V10,V11,.func 216 [] [.cptr [.map (some 0)],.ptr 2 0,.cptr [.int .i64 j]],V13,y14,y15,V16,V17,V18,V19,V20,V21,V22,V23,V24,V25,V26,V27,V28,V29,V30,.list o (ls.map PV.str),.int .i64 ls.length,.int .i64 i,y34,y35,y36],[],g',h'⟩∧EH h' b c (l++((ls.take i).flatMap (yW c)).flatMap (zl b j))) ?_ ?_ ⟨V14,V15,V34,V35,V36,g,h,rfl,by simpa using eh⟩
 ·rintro i hi st ⟨y14,y15,y34,y35,y36,g',h1,rfl,e1⟩ ih
  have hw:=wF i (by omega)
  have m9:=Do b j ((ls.take i).flatMap (yW c))
  have jS:=my i
  have cS:(ls.take i).length=i:=by rw[bk]; omega
  obtain⟨r,f1,f2,_⟩:=Hl (λc:List On=>PV.list false (c.map eOn)) ls[i] c
  have ic:=e1.ck
  unfold Dn at ic
  have fin:∀h2,EH h2 b c ((l++((ls.take i).flatMap (yW c)).flatMap (zl b j))++(yW c ls[i]).flatMap (zl b j))→EH h2 b c (l++((ls.take (i+1)).flatMap (yW c)).flatMap (zl b j)):=by
   intro h2 e2
   rw[zL hi,bP,List.flatMap_singleton,bP,← aJ]
   exact e2
  cases jT:xt c ls[i] with
  | none =>
    rw[jT] at f2
    have hr:r=none:=by cases r with | none=>rfl | some q=>simp at f2
    subst hr
    have e0:yW c ls[i]=[]:=by simp[yW,jT]
    simp[hi,hw,ic,f1]
    refine NQ hL b c j [] true _ (by simp only[ap,bB]; omega) h1 e1 _ _ _ _ _ _ _ _ _ _ _ _ _ _ _ _ _ _ _ _ _ _ _ _ _ _ _ _ _ _ _ _ _ _ ?_
    intro y15 y36 g2 h2 e2
    simp[hw]
    refine ih _ ⟨_,_,_,_,_,_,h2,rfl,fin h2 ?_⟩
    rw[e0]; simpa using e2
  | some cl =>
    rw[jT] at f2
    obtain⟨q,hr⟩:∃q,r=some (q,.list false (cl.map eOn)):=by
     cases r with
     | none=>simp at f2
     | some q=>obtain⟨q1,q2⟩:=q; simp at f2; exact⟨q1,by rw[f2]⟩
    subst hr
    have uu:=dt _ _ jT
    have e0:yW c ls[i]=cl.map (·.name):=by simp[yW,jT]
    simp[hi,hw,ic,f1]
    refine NQ hL b c j cl false _ (by simp only[ap]; omega) h1 e1 _ _ _ _ _ _ _ _ _ _ _ _ _ _ _ _ _ _ _ _ _ _ _ _ _ _ _ _ _ _ _ _ _ _ ?_
    intro y15 y36 g2 h2 e2
    simp[hw]
    refine ih _ ⟨_,_,_,_,_,_,h2,rfl,fin h2 ?_⟩
    rw[e0]; exact e2
 ·rintro st ⟨y14,y15,y34,y35,y36,g',h1,rfl,e1⟩
  rw[aP] at e1
  simp
  exact hk _ _ _ _ _ _ _ h1 e1
theorem c3S (i0:Nat) (ls:List Str) (qK:ls.length≤2000000000) (o:Bool) (m:List (Str×Int)) (h:List PObj) (hb:h[0]? = some (B0 m)) (V0 V1 V2 V5 V6 V7 V8 V9 V10 V11 V12 V13 V14 V15 V16 V17 V18 V22 V23 V24 V25 V26 V27 V28 V29 V30 V31 V32 V33 V34 V35 V36:PV) (g:Nat) {Q:PExit→St→Prop}
  (hk:∀y6 y21,Q (.exit 2) ⟨[V0,V1,V2,.loc 1 [.map (some 0)],.int .i64 i0,V5,y6,V7,V8,V9,V10,V11,V12,V13,V14,V15,V16,V17,V18,.list o (ls.map PV.str),.int .i64 ls.length,y21,V22,V23,V24,V25,V26,V27,V28,V29,V30,V31,V32,V33,V34,V35,V36],[],g,h.set 0 (B0 (byL i0 m ls))⟩):
  wpL L JJ ⟨[V0,V1,V2,.loc 1 [.map (some 0)],.int .i64 i0,V5,V6,V7,V8,V9,V10,V11,V12,V13,V14,V15,V16,V17,V18,.list o (ls.map PV.str),.int .i64 ls.length,.int .i64 0,V22,V23,V24,V25,V26,V27,V28,V29,V30,V31,V32,V33,V34,V35,V36],[],g,h⟩ Q:=by
 rw[JJ]
 have _:=hL
 have cO:0<h.length:=(ai.1 hb).1
 refine xc ls.length (λi st=>∃y6,st=⟨[V0,V1,V2,.loc 1 [.map (some 0)],.int .i64 i0,V5,y6,V7,V8,V9,V10,V11,V12,V13,V14,V15,V16,V17,V18,.list o (ls.map PV.str),.int .i64 ls.length,.int .i64 i,V22,V23,V24,V25,V26,V27,V28,V29,V30,V31,V32,V33,V34,V35,V36],[],g,h.set 0 (B0 (byL i0 m (ls.take i)))⟩) ?_ ?_ ⟨V6,by rw[cz]; simp only[byL,List.foldl_nil]; rw[Cl hb]; rfl⟩
 ·rintro i hi st ⟨y6,rfl⟩ ih
  have hw:=wF i (by omega)
  obtain⟨r,f1,_,f3⟩:=Hl (λi=>PV.int .i64 i) ls[i] (byL i0 m (ls.take i))
  have f3:=f3 (i0:Int)
  have e:byL i0 m (ls.take (i+1))=zU (byL i0 m (ls.take i)) ls[i] i0:=by rw[zL hi]; unfold byL; rw[List.foldl_append]; rfl
  have ih2:=λy6=>ih _ ⟨y6,rfl⟩
  rw[e] at ih2
  unfold B0 at ih2 ⊢
  rw[← f3] at ih2
  simp[hi,hw,cO,f1]
  exact ih2 _
 ·rintro st ⟨y6,rfl⟩
  rw[aP]
  simp
  exact hk _ _
theorem c3T (n:Node) (he:n.eqs.length≤1100000) (qK:∀q∈n.eqs,q.left.length≤1100000) (h:List PObj) (hb:h[0]? = some (B0 [])) (V0 V1 V2 V4 V5 V6 V7 V8 V9 V10 V11 V12 V13 V14 V15 V19 V20 V21 V22 V23 V24 V25 V26 V27 V28 V29 V30 V31 V32 V33 V34 V35 V36:PV) (g:Nat) {Q:PExit→St→Prop}
  (hk:∀y4 y5 y6 y18 y19 y20 y21 g',Q (.exit 0) ⟨[V0,V1,V2,.loc 1 [.map (some 0)],y4,y5,y6,V7,V8,V9,V10,V11,V12,V13,V14,V15,.list false (n.eqs.map wX),.int .i64 n.eqs.length,y18,y19,y20,y21,V22,V23,V24,V25,V26,V27,V28,V29,V30,V31,V32,V33,V34,V35,V36],[],g',h.set 0 (B0 (byE (n.eqs.map (·.left)) 0 []))⟩):
  wpL L JK ⟨[V0,V1,V2,.loc 1 [.map (some 0)],V4,V5,V6,V7,V8,V9,V10,V11,V12,V13,V14,V15,.list false (n.eqs.map wX),.int .i64 n.eqs.length,.int .i64 0,V19,V20,V21,V22,V23,V24,V25,V26,V27,V28,V29,V30,V31,V32,V33,V34,V35,V36],[],g,h⟩ Q:=by
 rw[JK]
 have cO:0<h.length:=(ai.1 hb).1
 refine xc n.eqs.length (λi st=>∃y4 y5 y6 y19 y20 y21 g',st=⟨[V0,V1,V2,.loc 1 [.map (some 0)],y4,y5,y6,V7,V8,V9,V10,V11,V12,V13,V14,V15,.list false (n.eqs.map wX),.int .i64 n.eqs.length,.int .i64 i,y19,y20,y21,V22,V23,V24,V25,V26,V27,V28,V29,V30,V31,V32,V33,V34,V35,V36],[],g',h.set 0 (B0 (byE ((n.eqs.map (·.left)).take i) 0 []))⟩) ?_ ?_ ⟨V4,V5,V6,V19,V20,V21,g,by rw[cz]; simp only[byE]; rw[Cl hb]; rfl⟩
 ·rintro i hi st ⟨y4,y5,y6,y19,y20,y21,g',rfl⟩ ih
  have hw:=wF i (by omega)
  have qL:=qK n.eqs[i] (aj hi)
  have ii:i<(n.eqs.map (·.left)).length:=by simpa using hi
  have e:=c3P (n.eqs.map (·.left)) ii []
  rw[List.getElem_map] at e
  simp[hi,hw]
  refine c3S hL i n.eqs[i].left (by omega) false (byE ((n.eqs.map (·.left)).take i) 0 []) _ (by rw[a8 cO]) _ _ _ _ _ _ _ _ _ _ _ _ _ _ _ _ _ _ _ _ _ _ _ _ _ _ _ _ _ _ _ _ _ ?_
  intro y6 y21
  simp[hw]
  rw[← e]
  exact ih _ ⟨_,_,_,_,_,_,_,rfl⟩
 ·rintro st ⟨y4,y5,y6,y19,y20,y21,g',rfl⟩
  rw[← aA (f:=(·.left)),aP]
  simp
  exact hk _ _ _ _ _ _ _ _
theorem c3U (ds:List Decl) (hd:ds.length≤2000000000) (h:List PObj) (hb:h[1]? = some (Dn [])) (V0 V1 V2 V3 V4 V5 V6 V8 V9 V10 V11 V12 V13 V14 V15 V16 V17 V18 V19 V20 V21 V25 V26 V27 V28 V29 V30 V31 V32 V33 V34 V35 V36:PV) (g:Nat) {Q:PExit→St→Prop}
  (hk:∀y8 y24 g',Q (.exit 4) ⟨[V0,V1,V2,V3,V4,V5,V6,.map (some 1),y8,V9,V10,V11,V12,V13,V14,V15,V16,V17,V18,V19,V20,V21,.list false (ds.map wo),.int .i64 ds.length,y24,V25,V26,V27,V28,V29,V30,V31,V32,V33,V34,V35,V36],[],g',h.set 1 (Dn (clk [] ds))⟩):
  wpL L JL ⟨[V0,V1,V2,V3,V4,V5,V6,.map (some 1),V8,V9,V10,V11,V12,V13,V14,V15,V16,V17,V18,V19,V20,V21,.list false (ds.map wo),.int .i64 ds.length,.int .i64 0,V25,V26,V27,V28,V29,V30,V31,V32,V33,V34,V35,V36],[],g,h⟩ Q:=by
 rw[JL]
 have _:=hL
 have cO:1<h.length:=(ai.1 hb).1
 refine xc ds.length (λi st=>∃y8 g',st=⟨[V0,V1,V2,V3,V4,V5,V6,.map (some 1),y8,V9,V10,V11,V12,V13,V14,V15,V16,V17,V18,V19,V20,V21,.list false (ds.map wo),.int .i64 ds.length,.int .i64 i,V25,V26,V27,V28,V29,V30,V31,V32,V33,V34,V35,V36],[],g',h.set 1 (Dn (clk [] (ds.take i)))⟩) ?_ ?_ ⟨V8,g,by rw[cz]; simp only[clk,List.foldl_nil]; rw[Cl hb]; rfl⟩
 ·rintro i hi st ⟨y8,g',rfl⟩ ih
  have hw:=wF i (by omega)
  obtain⟨r,f1,_,f3⟩:=Hl (λc:List On=>PV.list false (c.map eOn)) ds[i].name (clk [] (ds.take i))
  have f3:=f3 ds[i].clock
  have e:clk [] (ds.take (i+1))=zU (clk [] (ds.take i)) ds[i].name ds[i].clock:=by rw[zL hi]; unfold clk; rw[List.foldl_append]; rfl
  have ih2:=λy8 g'=>ih _ ⟨y8,g',rfl⟩
  rw[e] at ih2
  unfold Dn at ih2 ⊢
  rw[← f3] at ih2
  simp[hi,hw,cO,f1]
  exact ih2 _ _
 ·rintro st ⟨y8,g',rfl⟩
  rw[aP]
  simp
  exact hk _ _ _
end
structure EdN (n:Node):Prop where
 eqs:n.eqs.length≤256
 left:∀q∈n.eqs,q.left.length≤64
 right:∀q∈n.eqs,q.right.parts≤400
 ins:n.ins.length≤64
 outs:n.outs.length≤64
 locals:n.locals.length≤256
 clock:∀d∈vars n,d.clock.length≤4
theorem Ka {K:Nat}:∀(ds:List Decl) (m:List (Str×List On)),(∀d∈ds,d.clock.length≤K)→(∀s cl,xt m s=some cl→cl.length≤K)→∀s cl,xt (clk m ds) s=some cl→cl.length≤K
 | [],m,_,hm,s,cl,h=>hm s cl h
 | d :: ds, m, hd, hm, s, cl, h => by
   refine Ka ds (zU m d.name d.clock) (λx hx=>hd x (by simp[hx])) (λs' cl' h' =>?_) s cl h
   rw[c31] at h'
   split at h'
   ·simp at h'; subst h'; exact hd d (by simp)
   ·exact hm s' cl' h'
section
variable {L:Nat→Option PFunc} (hL:∀k f,LS k=some f→L k=some f)
include hL
theorem c3V (n:Node) (hn:EdN n) (b:List (Str×Int)) (c:List (Str×List On)) (dt:∀s cl,xt c s=some cl→cl.length≤4) (h:List PObj) (eh:EH h b c []) (V0 V1 V2 V4 V5 V6 V8 V10 V11 V12 V13 V14 V15 V16 V17 V18 V19 V20 V21 V22 V23 V24 V28 V29 V30 V31 V32 V33 V34 V35 V36:PV) (y3:PV) (hy:y3 = .loc 1 [.map (some 0)]∨y3 = .cptr [.map (some 0)]) (g:Nat) {Q:PExit→St→Prop}
  (hk:∀y3 y10 y11 y12 y13 y14 y15 y28 y29 y30 y31 y32 y33 y34 y35 y36 y27 g' h',EH h' b c (yq b c (xP n) 0)→(yq b c (xP n) 0).length≤256000→Q (.exit 6) ⟨[V0,V1,V2,y3,V4,V5,V6,.map (some 1),V8,.ptr 2 0,y10,y11,y12,y13,y14,y15,V16,V17,V18,V19,V20,V21,V22,V23,V24,.list false (n.eqs.map wX),.int .i64 n.eqs.length,y27,y28,y29,y30,y31,y32,y33,y34,y35,y36],[],g',h'⟩):
  wpL L JS ⟨[V0,V1,V2,y3,V4,V5,V6,.map (some 1),V8,.ptr 2 0,V10,V11,V12,V13,V14,V15,V16,V17,V18,V19,V20,V21,V22,V23,V24,.list false (n.eqs.map wX),.int .i64 n.eqs.length,.int .i64 0,V28,V29,V30,V31,V32,V33,V34,V35,V36],[],g,h⟩ Q:=by
 rw[JS]
 have ju:(xP n).length=n.eqs.length:=by simp[xP]
 refine xc n.eqs.length (λi st=>∃y3 y10 y11 y12 y13 y14 y15 y28 y29 y30 y31 y32 y33 y34 y35 y36 g' h',(y3 = .loc 1 [.map (some 0)]∨y3 = .cptr [.map (some 0)])∧st=⟨[V0,V1,V2,y3,V4,V5,V6,.map (some 1),V8,.ptr 2 0,y10,y11,y12,y13,y14,y15,V16,V17,V18,V19,V20,V21,V22,V23,V24,.list false (n.eqs.map wX),.int .i64 n.eqs.length,.int .i64 i,y28,y29,y30,y31,y32,y33,y34,y35,y36],[],g',h'⟩∧EH h' b c (yq b c ((xP n).take i) 0)∧(yq b c ((xP n).take i) 0).length≤i*1000) ?_ ?_ ⟨y3,V10,V11,V12,V13,V14,V15,V28,V29,V30,V31,V32,V33,V34,V35,V36,g,h,hy,rfl,by simpa[yq] using eh,by simp[yq]⟩
 ·rintro i hi st ⟨y3,y10,y11,y12,y13,y14,y15,y28,y29,y30,y31,y32,y33,y34,y35,y36,g',h1,hy,rfl,e1,fe⟩ ih
  have dL:=hn.eqs
  have hw:=wF i (by omega)
  have hm:=aj hi
  have ii:i<(xP n).length:=by omega
  have ert:yq b c ((xP n).take (i+1)) 0=yq b c ((xP n).take i) 0++CQ b c i (yV [] n.eqs[i].right) n.eqs[i].left:=by
   have:=c1E b c (xP n) ii
   rw[show (xP n)[i]=(n.eqs[i].left,yV [] n.eqs[i].right) by simp[xP]] at this
   exact this
  have qj:=hn.left _ hm
  have uv:=hn.right _ hm
  have dI:=Fw [] n.eqs[i].right
  unfold Expr.parts at uv
  have hc:=c0i hL n.eqs[i].right (by unfold Expr.parts; omega)
  have mw:∀s,(yW c s).length≤4:=by
   intro s
   unfold yW
   cases hs:xt c s with
   | none=>simp
   | some cl=>simpa using dt s cl hs
  have my:∀q:List Str,(q.flatMap (yW c)).length≤q.length*4:=by
   intro q
   induction q with
   | nil=>simp
   | cons x q ih=>have:=mw x; simp only[aG,ap,aI]; omega
  have nk:(CQ b c i (yV [] n.eqs[i].right) n.eqs[i].left).length≤1000:=by
   unfold CQ
   have h2:=Do b i (yV [] n.eqs[i].right++n.eqs[i].left.flatMap (yW c))
   have h3:=my n.eqs[i].left
   simp only[ap,bB] at h2 dI
   omega
  have key:∀(y:PV),y = .cptr [.map (some 0)]→∀h2,EH h2 b c ((yq b c ((xP n).take i) 0++(yV [] n.eqs[i].right).flatMap (zl b i))++(n.eqs[i].left.flatMap (yW c)).flatMap (zl b i))→EH h2 b c (yq b c ((xP n).take (i+1)) 0):=by
   intro y _ h2 e2
   rw[ert,CQ,bP,← aJ]
   exact e2
  have dO:(yq b c ((xP n).take (i+1)) 0).length≤(i+1)*1000:=by rw[ert,ap]; omega
  have nn:=Do b i (yV [] n.eqs[i].right)
  have uw:(yV [] n.eqs[i].right).length≤400:=by simp only[bB] at dI; omega
  rcases hy with rfl|rfl
  all_goals
   simp[hi,hw,hc]
   refine c3Q hL b c i (yV [] n.eqs[i].right) false _ (by omega) h1 e1 _ _ _ _ _ _ _ _ _ _ _ _ _ _ _ _ _ _ _ _ _ _ _ _ _ _ _ _ _ _ _ _ _ _ ?_
   intro y13 y30 h2 e2
   simp
   refine c3R hL b c dt i n.eqs[i].left (by omega) false _ (by rw[ap]; omega) h2 e2 _ _ _ _ _ _ _ _ _ _ _ _ _ _ _ _ _ _ _ _ _ _ _ _ _ _ _ _ _ _ _ _ _ ?_
   intro y14 y15 y33 y34 y35 y36 g2 h3 e3
   simp[hw]
   exact ih _ ⟨_,_,_,_,_,_,_,_,_,_,_,_,_,_,_,_,_,h3,.inr rfl,rfl,key _ rfl h3 e3,dO⟩
 ·rintro st ⟨y3,y10,y11,y12,y13,y14,y15,y28,y29,y30,y31,y32,y33,y34,y35,y36,g',h1,hy,rfl,e1,fe⟩
  have dL:=hn.eqs
  rw[← ju,aP] at e1 fe
  simp
  exact hk _ _ _ _ _ _ _ _ _ _ _ _ _ _ _ _ _ _ h1 e1 (by omega)
end
theorem Kb:∀l:List Pr,wz (l.map λx=>PV.agg (wV x))=true
 | []=>rfl
 | x :: l => by
   simp only[ax,wz,Kb l,bQ]
   rfl
theorem NS:∀l:List Pr,CT (l.flatMap wV)=some l
 | []=>rfl
 | x :: l => by
   have:=NS l
   simp only[aG,wV,aL,aY,CT] at this ⊢
   rw[this]; rfl
section
variable {L:Nat→Option PFunc} (hL:∀k f,LS k=some f→L k=some f)
include hL
theorem c3W (l:List Pr) (hl:l.length≤2000000000) (n:Nat) (h:List PObj) (cs:List PV) (hn:h[n]? = some (.cells cs)) (hp:Prs cs l):wj L 218 [.rowp n 2 true l.length,.func 219 [] []] h=some (.tuple [],h.set n (.cells ((zC yX l).flatMap wV))):=by
 rw[Kc (hL 218 _ rfl) rfl rfl]
 have hx:CM 219 [.rowp n 2 true l.length,.func 219 [] []] h=some (.tuple [],h.set n (.cells ((zC yX l).flatMap wV))):=by
  have cO:=hp.len
  simp only[CM,hn]
  rw[ah ⟨trivial,by omega,by omega⟩,bW (by omega),bj (by omega),hp.eq,NS]
  simp
 have eB:(M1.prim.getD λ_ _=>none) [.rowp n 2 true l.length,.func 219 [] []] h=some (.tuple [],h.set n (.cells ((zC yX l).flatMap wV))):=hx
 simp[hx]
theorem c1F (h:List PObj):wj L 218 [.list false [],.func 219 [] []] h=some (.tuple [],h):=by
 rw[Kc (hL 218 _ rfl) rfl rfl]
 have hx:CM 219 [.list false [],.func 219 [] []] h=some (.tuple [],h):=rfl
 simp[hx]
theorem b6u (h:List PObj):wj L 220 [.list false []] h=some (.list false [],h):=by
 refine wD (hL 220 _ rfl) rfl ?_
 simp[Ft]
theorem c3X (n:Node) (hn:EdN n):∃h',wj L 209 [wE n] []=some (.list false ((A2 n).map λx => .agg (wV x)),h'):=by
 suffices H:∃r,wj L 209 [wE n] []=some r∧r.1 = .list false ((A2 n).map λx => .agg (wV x)) by
  obtain⟨⟨v,h'⟩,h1,h2⟩:=H
  simp only at h2; subst h2
  exact⟨h',h1⟩
 have h1:=hn.ins; have h2:=hn.outs; have h3:=hn.locals; have h4:=hn.eqs
 obtain⟨hv,kK⟩:=Mh hL n (by omega) (by omega) (by omega) (λd hd=>by have:=hn.clock d hd; omega)
 have mf:(vars n).length≤2000000000:=by simp[vars]; omega
 refine Be (hL 209 _ rfl) rfl ?_
 simp[JU]
 refine c3T hL n (by omega) (λq hq=>by have:=hn.left q hq; omega) _ (by rfl) _ _ _ _ _ _ _ _ _ _ _ _ _ _ _ _ _ _ _ _ _ _ _ _ _ _ _ _ _ _ _ _ _ _ ?_
 intro y4 y5 y6 y18 y19 y20 y21 g1
 simp[kK]
 refine c3U hL (vars n) mf _ (by rfl) _ _ _ _ _ _ _ _ _ _ _ _ _ _ _ _ _ _ _ _ _ _ _ _ _ _ _ _ _ _ _ _ _ _ ?_
 intro y8 y24 g2
 simp
 obtain⟨b,hb⟩:∃b,b=byE (n.eqs.map (·.left)) 0 []:=⟨_,rfl⟩
 obtain⟨c,hc⟩:∃c,c=clk [] (vars n):=⟨_,rfl⟩
 rw[← hb,← hc]
 have dt:∀s cl,xt c s=some cl→cl.length≤4:=by
  rw[hc]
  exact Ka (vars n) [] hn.clock (by intro s cl h; simp[xt] at h)
 have qM:A2 n=yK (zC yX (yq b c (xP n) 0)):=by
  have:(xP n).map (·.1)=n.eqs.map (·.left):=by simp[xP]
  rw[hb,hc,← this]; rfl
 refine c3V hL n hn b c dt _ ⟨rfl,rfl,_,rfl,.inl ⟨rfl,rfl⟩⟩ _ _ _ _ _ _ _ _ _ _ _ _ _ _ _ _ _ _ _ _ _ _ _ _ _ _ _ _ _ _ _ _ (.inl rfl) _ ?_
 intro y3 y10 y11 y12 y13 y14 y15 y28 y29 y30 y31 y32 y33 y34 y35 y36 y27 g3 h3 e3 lJ
 obtain⟨_,_,v,gJ,hv⟩:=e3
 obtain⟨l,hl⟩:∃l,l=yq b c (xP n) 0:=⟨_,rfl⟩
 rw[← hl] at hv qM
 rcases hv with⟨rfl,rfl⟩|⟨k,cs,gE,rfl,jd,hp⟩
 ·have e:A2 n=[]:=qM
  simp[gJ,c1F hL,b6u hL,xR,e]
 ·have qL:l.length≤2000000000:=by rw[hl]; omega
  have ey:(h3.set k (.cells ((zC yX l).flatMap wV)))[2]? = some (.cells [.rowp k 2 true l.length]):=by rw[aq (by omega)]; exact gJ
  have hs:=c3W hL l qL k h3 cs jd hp
  have dL:(zC yX l).length=l.length:=(Hm yX l).length_eq
  have eW:k<h3.length:=(ai.1 jd).1
  obtain⟨h4,gg,qN,rest,eY⟩:=c0k hL (zC yX l) (by omega) k (h3.set k (.cells ((zC yX l).flatMap wV))) _ (by rw[a8 eW]) ⟨rfl⟩
  rw[dL] at gg
  have gK:=NT (yK (zC yX l)) rest (yK (zC yX l)).length 0 (by omega)
  rw[Nat.zero_mul,List.drop_zero] at gK
  simp[gJ,hs,ey,gg,xR,eY,qM]
  rw[gK]
  rfl
theorem NU (p:Prog) (hp:PW p) (hs:parts p≤1100000) (hb:D7 p=Ck) (i:Nat) (hi:i<p.nodes.length) (hn:EdN p.nodes[i]):∃h',wj L 199 [xw p,.int .i64 i] []=some (.tuple [.list false ((A2 p.nodes[i]).map λx => .agg (wV x)),.int .i64 0],h'):=by
 obtain⟨h1,hw⟩:=c3O hL p hp hs
 rw[hb] at hw
 unfold ze Ck at hw
 obtain⟨h2,he⟩:=c3X hL p.nodes[i] hn
 suffices H:∃r,wj L 199 [xw p,.int .i64 i] []=some r∧r.1 = .tuple [.list false ((A2 p.nodes[i]).map λx => .agg (wV x)),.int .i64 0] by
  obtain⟨⟨v,h'⟩,h1,h2⟩:=H
  simp only at h2; subst h2
  exact⟨h',h1⟩
 have ux:¬(i:Int)<0:=by omega
 have fY:¬((p.nodes.length:Int)≤i):=by omega
 refine Be (hL 199 _ rfl) rfl ?_
 simp[JE,hw,he,hi,ux,fY,xR,Kb]
end
end PI.Sc
