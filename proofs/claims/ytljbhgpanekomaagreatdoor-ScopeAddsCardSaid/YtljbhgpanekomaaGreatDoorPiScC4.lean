import Derived.Test.YtljbhgpanekomaaGreatDoorPiScRun26
import Derived.Test.YtljbhgpanekomaaGreatDoorPiScLaw1
import Derived.Test.YtljbhgpanekomaaGreatDoorPiScD1
set_option maxRecDepth 100000
set_option linter.unusedSimpArgs false
set_option linter.unusedVariables false
set_option linter.unusedSectionVars false
namespace PI.Sc
open Go (IntKind BinOp UnOp)
open Short
theorem TopAt.low {h:List PObj} {b b' n o d:Nat} {i dv up:PV} {f:Fr} (t:TopAt h b b' n o d i dv up f []) (k:Nat) (hk:k<4) (ob:PObj):TopAt (h.set k ob) b b' n o d i dv up f []:=by
 have key:∀j,4≤j→(h.set k ob)[j]? = h[j]? := λj hj=>an (by omega)
 have h4:=t.four
 exact⟨t.ln,t.lo,t.ld,t.un,t.uo,t.ud,t.no,t.nd,t.od,t.four,(key _ (by have:=t.ln; omega)).trans t.hn,(key _ (by have:=t.lo; omega)).trans t.ho,(key _ (by have:=t.ld; omega)).trans t.hd,t.hi.imp id (fun⟨m,e1,e2,e3,e4,e5,e6,e7⟩=>⟨m,e1,e2,e3,e4,e5,e6,(key _ (by omega)).trans e7⟩),t.row.imp id (fun⟨k,e1,e2,e3,e4⟩=>⟨k,e1,e2,e3,(key _ (by omega)).trans e4⟩),t.rne,t.hup⟩
def Gr (ents:xK) (ns:List Node) (i:Nat):Prop:=∀x,((1:Int),x)∈yJ ents↔x∈(ns.take i).map (·.name)
section
variable {L:Nat→Option PFunc} (hL:∀k f,LS k=some f→L k=some f) (en:List Enum) (ns:List Node) (a b:Int) (ents:xK)
include hL
theorem c4Q (i:Nat) (hi:i<ns.length) (ja:ns.length≤1600) (hn:NW ns[i]) (nX:ns[i].parts≤1600) (eV:∀d∈ns[i].ins++ns[i].outs,d.clock=[]) (tags:List Str) (dV:Bq ents tags) (dl:NodesIn ents ns i) (i7:Gr ents ns i) (h:List PObj) (h4:4≤h.length) (h2:h[2]? = some (wD ents)) (h3:h[3]? = some (wB en ns a b)):
  ∃h',wF L 29 [.ptr 3 0,.int .i64 i] h=some (xQ 1 (zc (ns.take i) tags ns[i]),h')∧h'[0]? = h[0]?∧h'[1]? = h[1]?∧4≤h'.length∧(zc (ns.take i) tags ns[i]=none→h'[2]? = some (wD (ents++[((1,ns[i].name),(i:Int))]))∧h'[3]? = some (wB en ns i (-1))):=by
 obtain⟨N,hN⟩:∃N,N=ns[i]:=⟨_,rfl⟩
 rw[← hN] at hn nX eV ⊢
 have cM:(ns.take i).length=i:=by simp; omega
 obtain⟨R,hR⟩:∃R,R=zc (ns.take i) tags N:=⟨_,rfl⟩
 rw[← hR]
 suffices H:∃res,wF L 29 [.ptr 3 0,.int .i64 i] h=some res∧∃h',res=(xQ 1 R,h')∧h'[0]? = h[0]?∧h'[1]? = h[1]?∧4≤h'.length∧(R=none→h'[2]? = some (wD (ents++[((1,N.name),(i:Int))]))∧h'[3]? = some (wB en ns i (-1))) by
  obtain⟨res,e1,h',e2,e3⟩:=H
  exact⟨h',by rw[e1,e2],e3⟩
 have lR:h[3]? = some (.cells [.list false (en.map wE),.list false (ns.map wA),.int .i64 a,.int .i64 b,.map (some 2)]):=h3
 have hA:∀X:PObj,(h++[X])[3]? = some (.cells [.list false (en.map wE),.list false (ns.map wA),.int .i64 a,.int .i64 b,.map (some 2)]):=λX=>by rw[am (by omega)]; exact lR
 obtain⟨H1,lS⟩:∃H1,(h++[PObj.cells [.str N.name,.list false (N.ins.map wv),.list false (N.outs.map wv),.list false (N.locals.map wv),.list false (N.eqs.map wH),.list false (N.autos.map wI),.list false (N.assume.map wq),.list false (N.ensure.map wq)]]).set 3 (PObj.cells [.list false (en.map wE),.list false (ns.map wA),.int .i64 i,.int .i64 (-1),.map (some 2)])=H1:=⟨_,rfl⟩
 have H1l:H1.length=h.length+1:=by rw[← lS]; simp
 have H1k:∀k,k<h.length→k≠3→H1[k]? = h[k]? := λk h1 h2=>by rw[← lS,an (Ne.symm h2),am h1]
 have H13:H1[3]? = some (wB en ns i (-1)):=by rw[← lS,aZ (by simp; omega)]; rfl
 have H12:H1[2]? = some (wD ents):=(H1k 2 (by omega) (by decide)).trans h2
 have H1n:H1[h.length]? = some (.cells [.str N.name,.list false (N.ins.map wv),.list false (N.outs.map wv),.list false (N.locals.map wv),.list false (N.eqs.map wH),.list false (N.autos.map wI),.list false (N.assume.map wq),.list false (N.ensure.map wq)]):=by rw[← lS,an (by omega)]; simp
 have jd:∀d∈vars N,DW d:=by
  intro d hd
  unfold vars at hd
  rcases ak.1 hd with hd|hd
  ·rcases ak.1 hd with hd|hd
   ·exact hn.is d hd
   ·exact hn.os d hd
  ·exact hn.ls d hd
 have mG:(vars N).length≤4800:=by have:=hn.ins; have:=hn.outs; have:=hn.locals; simp[vars]; omega
 by_cases lh:N.name∈(ns.take i).map (·.name)
 ·have uQ:R=some ⟨i,-1,7⟩:=by rw[hR]; unfold zc; rw[ah lh,cM]
  have dD:=I1 hL en ns i (-1) H1 H13 ents H12 (1,N.name) i ((i7 _).2 lh)
  have eT:zo (1,N.name) = .agg [.int .i64 1,.str N.name]:=rfl
  rw[eT] at dD
  refine BR (hL 29 _ rfl) rfl ?_
  simp[DX,lR,hi,← hN,hA,lS,H1n,dD,uQ,xQ]
  exact⟨H1k 0 (by omega) (by decide),H1k 1 (by omega) (by decide),by omega⟩
 have dD:=I2 hL en ns i (-1) H1 H13 ents H12 (1,N.name) i (λhh=>lh ((i7 _).1 hh))
 have eT:zo (1,N.name) = .agg [.int .i64 1,.str N.name]:=rfl
 rw[eT] at dD
 obtain⟨ents',kh⟩:∃e,e=ents++[((1,N.name),(i:Int))]:=⟨_,rfl⟩
 rw[← kh] at dD ⊢
 obtain⟨H3,mF⟩:∃H3,H3=H1.set 2 (wD ents'):=⟨_,rfl⟩
 rw[← mF] at dD
 have H3l:H3.length=h.length+1:=by rw[mF]; simpa using H1l
 have H3k:∀k,k<H1.length→k≠2→H3[k]? = H1[k]? := λk h1 h2=>by rw[mF,an (Ne.symm h2)]
 have H32:H3[2]? = some (wD ents'):=by rw[mF,aZ (by omega)]
 have H33:H3[3]? = some (wB en ns i (-1)):=(H3k 3 (by omega) (by decide)).trans H13
 have H3n:=(H3k h.length (by omega) (by omega)).trans H1n
 have H30:H3[0]? = h[0]? := (H3k 0 (by omega) (by decide)).trans (H1k 0 (by omega) (by decide))
 have H31:H3[1]? = h[1]? := (H3k 1 (by omega) (by decide)).trans (H1k 1 (by omega) (by decide))
 have oD:Bq ents' tags:=by
  intro x
  rw[kh,← dV x]
  simp[yJ]
 have gz:NodesIn ents' ns i:=by
  have jx:∀x:Str,yu (1,x) ents'=(yu (1,x) ents).or (if x=N.name then some (i:Int) else none):=by
   intro x
   rw[kh]
   generalize ents=l
   induction l with
   | nil=>by_cases hx:x=N.name<;>simp[yu,hx]
   | cons y l ih =>
     simp only[aJ,yu]
     by_cases hy:((1:Int),x)=y.1
     ·rw[ah hy,ah hy]; rfl
     ·rw[af hy,af hy]; exact ih
  intro x
  have hx:=dl x
  cases hc:callee (ns.take i) x with
  | none =>
    rw[hc] at hx
    simp only at hx ⊢
    intro c eF
    rw[jx] at eF
    cases he:yu (1,x) ents with
    | some z =>
      rw[he] at eF
      have eF:z=c:=by simpa using eF
      subst eF
      exact hx z he
    | none =>
      rw[he] at eF
      rw[Option.none_or] at eF
      split at eF
      ·have:(i:Int)=c:=by simpa using eF
       omega
      ·simp at eF
  | some m =>
    rw[hc] at hx
    obtain⟨j,e1,e2,e3⟩:=hx
    exact⟨j,by rw[jx,e1]; rfl,e2,e3⟩
 obtain⟨H4,dC,H4l,K4,t4⟩:=Mr hL H3 (by omega)
 obtain⟨H5,nu⟩:∃H5,(H4++[PObj.map []]).set (H3.length+2) (PObj.cells [.nilptr,.map (some H3.length),.map (some (H3.length+1)),.map (some H4.length),.list true []])=H5:=⟨_,rfl⟩
 have e5:(H4++[PObj.map []])[H3.length+2]? = some (.cells [.nilptr,.map (some H3.length),.map (some (H3.length+1)),.map none,.list true []]):=by rw[am (by omega)]; exact t4.hn
 have t5:=t4.newI rfl rfl
 rw[nu] at t5
 have H5l:H5.length=H4.length+1:=by rw[← nu]; simp
 rw[← H5l] at t5
 have K5:Kp H3.length H3 H5:=by
  refine⟨by omega,λk hk =>?_⟩
  rw[← nu,an (by omega),am (by omega)]
  exact K4.2 k hk
 have at5:∀{H:List PObj},Kp H3.length H3 H→H[2]? = some (wD ents')∧H[3]? = some (wB en ns i (-1))∧H[0]? = h[0]?∧H[1]? = h[1]?∧4≤H.length∧H[h.length]? = some (.cells [.str N.name,.list false (N.ins.map wv),.list false (N.outs.map wv),.list false (N.locals.map wv),.list false (N.eqs.map wH),.list false (N.autos.map wI),.list false (N.assume.map wq),.list false (N.ensure.map wq)]):=λ{H} hk=>
  ⟨(hk.2 2 (by omega)).trans H32,(hk.2 3 (by omega)).trans H33,(hk.2 0 (by omega)).trans H30,(hk.2 1 (by omega)).trans H31,by have:=hk.1; omega,(hk.2 _ (by omega)).trans H3n⟩
 obtain⟨a52,a53,a50,a51,a54,a5n⟩:=at5 K5
 obtain⟨hv,v1⟩:=My hL N hn.ins hn.outs hn.locals (λd hd=>(jd d hd).clock)
 obtain⟨H6,O,gA,K6,H6l,t6,rI⟩:=Mz hL en ns i (-1) ents' tags oD (vars N) mG false H5 a52 a53 _ _ _ _ _ _ _ _ _ _ t5 [] (λx=>by simp[xr])
 have K6':=K5.trans K6
 obtain⟨a62,a63,a60,a61,a64,a6n⟩:=at5 K6'
 have hE:zc (ns.take i) tags N=if (yE [] tags (vars N)).1≠0 then some ⟨i,-1,(yE [] tags (vars N)).1⟩ else match zI ⟨ns.take i,(yE [] tags (vars N)).2,wm N.ins,tags⟩ N.eqs 0 [] with
   | .inl (k,e)=>some ⟨i,k,e⟩
   | .inr d =>
     if (xj ⟨ns.take i,(yE [] tags (vars N)).2,wm N.ins,tags⟩ d N.autos).1≠0 then some ⟨i,-1,(xj ⟨ns.take i,(yE [] tags (vars N)).2,wm N.ins,tags⟩ d N.autos).1⟩
     else if ww (λe=>xg ⟨ns.take i,wm N.ins,wm N.ins,tags⟩ e 1) N.assume≠0 then some ⟨i,-1,ww (λe=>xg ⟨ns.take i,wm N.ins,wm N.ins,tags⟩ e 1) N.assume⟩
     else if ww (λe=>xg ⟨ns.take i,wm N.ins++wm N.outs,wm N.ins,tags⟩ e 1) N.ensure≠0 then some ⟨i,-1,ww (λe=>xg ⟨ns.take i,wm N.ins++wm N.outs,wm N.ins,tags⟩ e 1) N.ensure⟩
     else if xy (wm N.outs++wm N.locals) (xj ⟨ns.take i,(yE [] tags (vars N)).2,wm N.ins,tags⟩ d N.autos).2=[] then none else some ⟨i,-1,8⟩:=by
  unfold zc
  rw[af lh,cM]
  rfl
 rw[hE] at hR
 refine BR (hL 29 _ rfl) rfl ?_
 by_cases nx:(xI tags (vars N) []).1=0
 ·obtain⟨rJ,hO6⟩:=rI nx
  obtain⟨vis,dk⟩:∃vis,vis=(xI tags (vars N) []).2:=⟨_,rfl⟩
  rw[← dk] at rJ
  have ki:=MA hL en ns i (-1) N.locals (by have:=hn.locals; omega) hn.ls false H6 a63 _ _ _ t6.holds vis rJ
  have mH:AZ vis (vars N)=AZ vis N.locals:=by
   unfold AZ vars
   rw[I3]
   have:ww (λd:Decl=>ww (λo:On=>need (decide (o.name∈vis)) 6) d.clock) (N.ins++N.outs)=0:=zd.2 λd hd=>by rw[eV d hd]; rfl
   rw[this]; rfl
  have rK:yE [] tags (vars N)=(AZ vis N.locals,vis):=by
   unfold yE yt
   rw[ah nx,← dk]
   exact aE (λz=>(z,vis)) mH
  rw[rK] at hR
  rw[nx] at gA
  simp[wy] at gA
  by_cases rL:AZ vis N.locals=0
  ·rw[rL] at hR ki
   simp only[ne_eq,bi,if_false] at hR
   simp[wy] at ki
   obtain⟨S,hS⟩:∃S:Place,S=⟨ns.take i,vis,wm N.ins,tags⟩:=⟨_,rfl⟩
   rw[← hS] at hR
   simp[DX,lR,hi,← hN,hA,lS,H1n,dD,dC,e5,nu,a5n,v1,gA,a6n,ki]
   have t6':TopAt H6 H5.length H3.length (H3.length+2) H3.length (H3.length+1) (.map (some H4.length)) (.list true []) .nilptr ⟨O,[],[],[]⟩ []:=t6
   have rM:N.parts=1+wl Decl.parts N.ins+wl Decl.parts N.outs+wl Decl.parts N.locals+wl Eqn.parts N.eqs+wl (λe=>1+Expr.parts e) N.assume+wl (λe=>1+Expr.parts e) N.ensure+yi N.autos:=rfl
   have je:=I4 N.eqs
   have hdp:=I5 N.autos (λa ha x hx=>Gs x)
   refine b81 hL N.ins hn.ins H6 H5.length H3.length _ _ _ H4.length _ _ _ [] t6' rfl _ _ _ _ _ _ _ _ _ _ _ _ _ _ _ _ _ _ ?_
   intro y4 g7 H7 I H7l K7 t7 hI
   obtain⟨a72,a73,a70,a71,a74,a7n⟩:=at5 (K6'.trans K7)
   have H7l':H5.length=H7.length:=by omega
   rw[H7l'] at t7
   have t7':TopAt H7 H7.length H3.length (H3.length+2) H3.length (H3.length+1) (.map (some H4.length)) (.list true []) .nilptr ⟨O,[],I,[]⟩ []:=t7
   have jP:∀D df x,xr [(⟨O,D,I,df⟩:Fr)] x=true↔x∈S.vis:=λD df x=>by have:=rJ x; rw[hS]; simpa[xr] using this
   simp[a7n]
   refine b82 hL en ns ents' i gz S (by rw[hS]) N.eqs hn.eqs hn.es H7 a72 (-1) a73 H3.length _ _ _ _ _ _ _ t7' (jP _ _) rfl (λx=>by rw[hS]; exact hI x) (by simp only[bF]; omega) rfl _ _ _ _ _ _ _ _ _ _ _ _ _ _ _ _ ?_ ?_
   ·intro df ed y5 y6 g8 H8 c8 dv8 K8 uR t8
    rw[ed] at hR
    simp only at hR
    have uS:df.length≤1600:=by
     have h1:=((A0 S N.eqs [] df).1 ((Gt S N.eqs 0 [] df).1 ed)).1
     rw[h1,aY]; omega
    have rN:H8[3]? = some (.cells [.list false (en.map wE),.list false (ns.map wA),.int .i64 i,.int .i64 c8,.map (some 2)]):=uR
    obtain⟨H9,qd⟩:∃H9,H8.set 3 (PObj.cells [.list false (en.map wE),.list false (ns.map wA),.int .i64 i,.int .i64 (-1),.map (some 2)])=H9:=⟨_,rfl⟩
    have K9:Kp H3.length H7 H9:=by rw[← qd]; exact K8
    have t9:TopAt H9 H9.length H3.length (H3.length+2) H3.length (H3.length+1) (.map (some H4.length)) dv8 .nilptr ⟨O,df,I,df⟩ []:=by
     have:=t8.low 3 (by decide) (PObj.cells [.list false (en.map wE),.list false (ns.map wA),.int .i64 i,.int .i64 (-1),.map (some 2)])
     rw[qd] at this
     have hl:H8.length=H9.length:=by rw[← qd]; simp
     rw[hl] at this
     exact this
    obtain⟨a92,a93,a90,a91,a94,a9n⟩:=at5 ((K6'.trans K7).trans K9)
    simp[rN,qd,a9n]
    refine b83 hL en ns i (-1) ents' i gz S (by rw[hS]) (by rw[hS]; exact oD) N.autos hn.autos.len (λx hx=>c2J hL en ns i (-1) ents' x (hn.autos.as x hx) (hn.autos.ss x hx) (λy hy=>by
     have h1:AI x≤yi N.autos:=by
      rw[E5,DY]
      have:=Cg (λa=>1+wl State.parts a) hx
      omega
     have h2:y.parts≤AI x:=by rw[DY]; exact Cg _ hy
     omega)) H9 a92 a93 H3.length _ _ _ _ _ _ _ [] t9 (jP _ _) [] rfl (λx=>by rw[hS]; simp[yP,hI]) (by simp only; omega) _ _ _ _ _ _ _ _ _ _ _ _ _ _ _ _ ?_ ?_
    ·intro hz li dv10 df10 y7 g10 K10 lT t10
     simp only[aY] at hz lT
     have t10':TopAt li li.length H3.length (H3.length+2) H3.length (H3.length+1) (.map (some H4.length)) dv10 .nilptr ⟨O,df10,I,df10⟩ []:=t10
     rw[hz,lT] at hR
     simp only[ne_eq,bi,if_false] at hR
     have K10':=((K6'.trans K7).trans K9).trans K10
     obtain⟨a102,a103,a100,a101,a104,a10n⟩:=at5 K10'
     obtain⟨H11,c11,K11⟩:=Mt hL en ns i (-1) ents' i gz ⟨ns.take i,wm N.ins,wm N.ins,tags⟩ rfl N.assume hn.assume hn.as [N.ins] (by simp) (by simp[xB,wl]; have:=hn.ins; omega) (λx=>by simp) false false li a104 a102 a103
     have lJ:xP wv [N.ins]=[.list false (N.ins.map wv)]:=rfl
     rw[lJ] at c11
     have K11':=K10'.trans (K11.le K10'.1)
     by_cases mI:ww (λe=>xg ⟨ns.take i,wm N.ins,wm N.ins,tags⟩ e 1) N.assume=0
     ·rw[mI] at hR c11
      simp only[bi,if_false] at hR
      simp[wy] at c11
      obtain⟨a112,a113,a110,a111,a114,a11n⟩:=at5 K11'
      obtain⟨H12,c12,K12⟩:=Mt hL en ns i (-1) ents' i gz ⟨ns.take i,wm N.ins++wm N.outs,wm N.ins,tags⟩ rfl N.ensure hn.ensure hn.gs [N.ins,N.outs] (by simp) (by simp[xB,wl]; have:=hn.ins; have:=hn.outs; omega) (λx=>by simp[wm]) false false H11 a114 a112 a113
      have gK:xP wv [N.ins,N.outs]=[.list false (N.ins.map wv),.list false (N.outs.map wv)]:=rfl
      rw[gK] at c12
      have K12':=K11'.trans (K12.le K11'.1)
      by_cases mJ:ww (λe=>xg ⟨ns.take i,wm N.ins++wm N.outs,wm N.ins,tags⟩ e 1) N.ensure=0
      ·rw[mJ] at hR c12
       simp only[bi,if_false] at hR
       simp[wy] at c12
       obtain⟨a122,a123,a120,a121,a124,a12n⟩:=at5 K12'
       have t12:=t10'.keep (K11.trans (K12.le K11.1)).2
       have rO:N.ins.length≤(vars N).length:=by simp[vars]
       have oE:List.drop N.ins.length (List.take (vars N).length (List.map wv (vars N)))=(N.outs++N.locals).map wv:=by
        rw[bS (by simp),← List.map_drop]
        congr 1
        simp[vars]
       obtain⟨G,hG⟩:∃G,G=N.outs++N.locals:=⟨_,rfl⟩
       have uT:wm G=wm N.outs++wm N.locals:=by rw[hG,Gm hL]
       have uU:G.length≤4800:=by rw[hG]; have:=hn.outs; have:=hn.locals; simp; omega
       rw[← hG] at oE
       rw[← uT] at hR
       simp[a10n,c11,a11n,c12,a12n,v1,rO,oE]
       refine b84 hL en ns i (-1) G uU H12 a123 _ _ _ _ _ _ _ _ _ _ t12 _ _ _ _ _ _ _ _ _ _ _ _ _ _ _ _ _ ?_ ?_
       ·intro dm y8 g'
        rw[ah (CM.2 dm)] at hR
        simp[hR,xQ]
        exact⟨a120,a121,a124,a122,a123⟩
       ·intro dm W g'
        rw[af (λhh=>dm (CM.1 hh))] at hR
        simp[hR,xQ]
        exact⟨a120,a121,a124⟩
      ·rw[ah mJ] at hR
       simp[wy,mJ] at c12
       simp[a10n,c11,a11n,c12,hR,xQ]
       obtain⟨_,_,b0,b1,b4,_⟩:=at5 K12'
       exact⟨b0,b1,b4⟩
     ·rw[ah mI] at hR
      simp[wy,mI] at c11
      simp[a10n,c11,hR,xQ]
      obtain⟨_,_,b0,b1,b4,_⟩:=at5 K11'
      exact⟨b0,b1,b4⟩
    ·intro hz h' W g' K'
     simp only[aY] at hz
     rw[ah hz] at hR
     obtain⟨b2,b3,b0,b1,b4,bn⟩:=at5 (((K6'.trans K7).trans K9).trans K')
     simp[hR,xQ]
     exact⟨b0,b1,b4⟩
   ·intro k e rP W g' H' K'
    rw[rP] at hR
    simp only at hR
    obtain⟨b2,b3,b0,b1,b4,bn⟩:=at5 ((K6'.trans K7).trans K')
    rw[an (by decide)] at b0 b1
    simp[hR,xQ]
    exact⟨b0,b1,by simpa using b4⟩
  ·simp only[ne_eq,rL,cm,if_true] at hR
   simp[wy,rL] at ki
   simp[DX,lR,hi,← hN,hA,lS,H1n,dD,dC,e5,nu,a5n,v1,gA,a6n,ki,hR,xQ]
   exact⟨a60,a61,a64⟩
 ·have rK:(yE [] tags (vars N)).1=(xI tags (vars N) []).1:=by unfold yE yt; rw[af nx]
  rw[rK,ah nx] at hR
  simp[wy,nx] at gA
  simp[DX,lR,hi,← hN,hA,lS,H1n,dD,dC,e5,nu,a5n,v1,gA,hR,xQ]
  exact⟨a60,a61,a64⟩
end
structure EnumKeys (ents:xK) (T Nm:List Str):Prop where
 tags:∀x,((0:Int),x)∈yJ ents↔x∈T
 nodes:∀x,((1:Int),x)∉yJ ents
 types:∀x,((2:Int),x)∈yJ ents↔x∈Nm
theorem EnumKeys.tag {ents:xK} {T Nm:List Str} (h:EnumKeys ents T Nm) (s:Str) (i:Int):EnumKeys (ents++[((0,s),i)]) (T++[s]) Nm:=by
 have hk:∀k,k∈yJ (ents++[(((0:Int),s),i)])↔k∈yJ ents∨k=(0,s):=by simp[yJ]
 refine⟨λx =>?_,λx =>?_,λx =>?_⟩
 ·rw[hk,h.tags]; simp
 ·rw[hk]; simp[h.nodes x]
 ·rw[hk,h.types]; simp
theorem EnumKeys.type {ents:xK} {T Nm:List Str} (h:EnumKeys ents T Nm) (s:Str) (i:Int):EnumKeys (ents++[((2,s),i)]) T (Nm++[s]):=by
 have hk:∀k,k∈yJ (ents++[(((2:Int),s),i)])↔k∈yJ ents∨k=(2,s):=by simp[yJ]
 refine⟨λx =>?_,λx =>?_,λx =>?_⟩
 ·rw[hk,h.tags]; simp
 ·rw[hk]; simp[h.nodes x]
 ·rw[hk,h.types]; simp
section
variable {L:Nat→Option PFunc} (hL:∀k f,LS k=some f→L k=some f) (en:List Enum) (ns:List Node)
include hL
theorem b7c (i:Nat) (l:List Str) (hl:l.length≤1600) (T Nm:List Str) (hT:T.Nodup) (ents:xK) (hk:EnumKeys ents T Nm) (c0 c1:PObj) (V0 V1 V2 V3 V4 V5 V8 V9 V10 V11 V12 V13 V14 V18 V19:PV) (g:Nat) {Q:PExit→St→Prop}
  (ok:(T++l).Nodup→∀y9 ents',EnumKeys ents' (T++l) Nm→Q (.exit 2) ⟨[V0,V1,V2,V3,V4,V5,.ptr 3 0,.int .i64 i,V8,y9,V10,V11,V12,V13,V14,.list false (l.map .str),.int .i64 l.length,.int .i64 l.length,V18,V19],[],g,[c0,c1,wD ents',wB en ns (-1) (-1)]⟩)
  (no:¬(T++l).Nodup→∀W o2 o3,W[2]? = some V2→W[3]? = some V3→Q (.boom (xC 1 (-1) (-1) 7)) ⟨W,[],g,[c0,c1,o2,o3]⟩):
  wpL L I6 ⟨[V0,V1,V2,V3,V4,V5,.ptr 3 0,.int .i64 i,V8,V9,V10,V11,V12,V13,V14,.list false (l.map .str),.int .i64 l.length,.int .i64 0,V18,V19],[],g,[c0,c1,wD ents,wB en ns (-1) (-1)]⟩ Q:=by
 rw[I6]
 refine xk l.length (λj st=>∃y9 ents',st=⟨[V0,V1,V2,V3,V4,V5,.ptr 3 0,.int .i64 i,V8,y9,V10,V11,V12,V13,V14,.list false (l.map .str),.int .i64 l.length,.int .i64 j,V18,V19],[],g,[c0,c1,wD ents',wB en ns (-1) (-1)]⟩∧EnumKeys ents' (T++l.take j) Nm∧∀k (hk:k<l.length),k<j→l[k]∉T++l.take k) ?_ ?_ ⟨_,ents,rfl,by simpa using hk,λk _ h=>by omega⟩
 ·rintro j hj st ⟨y9,ents',rfl,hk,dp⟩ ih
  have hw:=wC j (by omega)
  by_cases hd:l[j]∈T++l.take j
  ·have dD:=I1 hL en ns (-1) (-1) [c0,c1,wD ents',wB en ns (-1) (-1)] rfl ents' rfl (0,l[j]) i ((hk.tags _).2 hd)
   have eT:zo (0,l[j]) = .agg [.int .i64 0,.str l[j]]:=rfl
   rw[eT] at dD
   simp[hj,dD]
   exact no (λhn=>(MB.1 hn).2 j hj hd) _ _ _ rfl rfl
  ·have dD:=I2 hL en ns (-1) (-1) [c0,c1,wD ents',wB en ns (-1) (-1)] rfl ents' rfl (0,l[j]) i (λhh=>hd ((hk.tags _).1 hh))
   have eT:zo (0,l[j]) = .agg [.int .i64 0,.str l[j]]:=rfl
   have du:[c0,c1,wD ents',wB en ns (-1) (-1)].set 2 (wD (ents'++[((0,l[j]),(i:Int))]))=[c0,c1,wD (ents'++[((0,l[j]),(i:Int))]),wB en ns (-1) (-1)]:=rfl
   rw[eT,du] at dD
   simp[hj,dD,hw]
   refine ih _ ⟨_,_,rfl,?_,λk jR uV =>?_⟩
   ·rw[yD hj,← az]; exact hk.tag _ _
   ·by_cases he:k=j
    ·subst he; exact hd
    ·exact dp k jR (by omega)
 ·rintro st ⟨y9,ents',rfl,hk,dp⟩
  rw[aB] at hk
  simp
  exact ok (MB.2 ⟨hT,λk hk=>dp k hk hk⟩) _ _ hk
theorem b7d (he:en.length≤1600) (nk:∀u∈en,u.tags.length≤1600) (c0 c1:PObj) (V0 V1 V2 V3 V4 V5 V7 V8 V9 V10 V11 V15 V16 V17 V18 V19:PV) (g:Nat) {Q:PExit→St→Prop}
  (ok:BU en=true→∀y7 y8 y9 y15 y16 y17 g' ents',EnumKeys ents' (xL en) (en.map (·.name))→Q (.exit 0) ⟨[V0,V1,V2,V3,V4,V5,.ptr 3 0,y7,y8,y9,V10,V11,.list false (en.map wE),.int .i64 en.length,.int .i64 en.length,y15,y16,y17,V18,V19],[],g',[c0,c1,wD ents',wB en ns (-1) (-1)]⟩)
  (no:BU en=false→∀W g' o2 o3,W[2]? = some V2→W[3]? = some V3→Q (.boom (xC 1 (-1) (-1) 7)) ⟨W,[],g',[c0,c1,o2,o3]⟩):
  wpL L I7 ⟨[V0,V1,V2,V3,V4,V5,.ptr 3 0,V7,V8,V9,V10,V11,.list false (en.map wE),.int .i64 en.length,.int .i64 0,V15,V16,V17,V18,V19],[],g,[c0,c1,wD [],wB en ns (-1) (-1)]⟩ Q:=by
 have kj:∀j (hj:j<en.length),Ch en j en[j]=false→BU en=false:=by
  intro j hj h1
  cases h:BU en with
  | false=>rfl
  | true=>rw[MC.1 h j hj] at h1; simp at h1
 rw[I7]
 refine xk en.length (λj st=>∃y7 y8 y9 y15 y16 y17 g' ents',st=⟨[V0,V1,V2,V3,V4,V5,.ptr 3 0,y7,y8,y9,V10,V11,.list false (en.map wE),.int .i64 en.length,.int .i64 j,y15,y16,y17,V18,V19],[],g',[c0,c1,wD ents',wB en ns (-1) (-1)]⟩∧EnumKeys ents' (xL (en.take j)) ((en.take j).map (·.name))∧∀k (hk:k<en.length),k<j→Ch en k en[k]=true) ?_ ?_ ⟨_,_,_,_,_,_,_,[],rfl,⟨by simp[yJ,xL],by simp[yJ],by simp[yJ]⟩,λk _ h=>by omega⟩
 ·rintro j hj st ⟨y7,y8,y9,y15,y16,y17,g',ents',rfl,hk,dp⟩ ih
  have hw:=wC j (by omega)
  have uW:=nk _ (ai hj)
  by_cases hd:en[j].name∈(en.take j).map (·.name)
  ·have dD:=I1 hL en ns (-1) (-1) [c0,c1,wD ents',wB en ns (-1) (-1)] rfl ents' rfl (2,en[j].name) j ((hk.types _).2 hd)
   have eT:zo (2,en[j].name) = .agg [.int .i64 2,.str en[j].name]:=rfl
   rw[eT] at dD
   simp[hj,dD]
   exact no (kj j hj (by unfold Ch; simp only[bN]; exact λh=>h.1 hd)) _ _ _ _ rfl rfl
  ·have dD:=I2 hL en ns (-1) (-1) [c0,c1,wD ents',wB en ns (-1) (-1)] rfl ents' rfl (2,en[j].name) j (λhh=>hd ((hk.types _).1 hh))
   have eT:zo (2,en[j].name) = .agg [.int .i64 2,.str en[j].name]:=rfl
   have du:[c0,c1,wD ents',wB en ns (-1) (-1)].set 2 (wD (ents'++[((2,en[j].name),(j:Int))]))=[c0,c1,wD (ents'++[((2,en[j].name),(j:Int))]),wB en ns (-1) (-1)]:=rfl
   rw[eT,du] at dD
   simp[hj,dD]
   refine b7c hL en ns j en[j].tags uW (xL (en.take j)) ((en.take j).map (·.name)++[en[j].name]) (b9l (by omega) dp) _ (hk.type _ _) c0 c1 _ _ _ _ _ _ _ _ _ _ _ _ _ _ _ _ ?_ ?_
   ·intro dl y9' ents'' dh
    simp[hw]
    refine ih _ ⟨_,_,_,_,_,_,_,_,rfl,?_,λk jR uV =>?_⟩
    ·rw[Gu hj,yD hj,a8]; exact dh
    ·by_cases rP:k=j
     ·subst rP
      unfold Ch
      simp only[aq]
      exact⟨hd,dl⟩
     ·exact dp k jR (by omega)
   ·intro dl W o2 o3 rQ rR
    simp
    exact no (kj j hj (by unfold Ch; simp only[bN]; exact λh=>dl h.2)) _ _ _ _ rQ rR
 ·rintro st ⟨y7,y8,y9,y15,y16,y17,g',ents',rfl,hk,dp⟩
  rw[aB] at hk
  simp
  exact ok (MC.2 λk hk=>dp k hk hk) _ _ _ _ _ _ _ _ hk
end
theorem b4m {en:List Enum} {n:Node} (h:zB en n=0):∀d∈n.ins++n.outs,d.clock=[]:=by
 unfold zB at h
 simp only[yK] at h
 obtain⟨_,_,_,h1,h2,_⟩:=h
 have key:∀d,yQ en true d=0→d.clock=[]:=by
  intro d hd
  unfold yQ at hd
  simp only[yK] at hd
  obtain⟨_,_,h3,_⟩:=hd
  refine cC λhn =>?_
  simp[need,hn] at h3
 intro d hd
 rcases ak.1 hd with hd|hd
 ·exact key d (zd.1 h1 d hd)
 ·exact key d (zd.1 h2 d hd)
theorem b7e {p:Prog} (h:zV p=none):∀n∈p.nodes,∀d∈n.ins++n.outs,d.clock=[]:=by
 unfold zV at h
 split at h
 ·simp at h
 ·split at h
  ·simp at h
  ·intro n hn
   exact b4m (I8.1 ((I9 p.enums p.nodes 0).1 h n hn 0)).1
theorem NodesIn.step {ents:xK} {ns:List Node} {i:Nat} (hi:i<ns.length) (h:NodesIn ents ns i) (hk:Gr ents ns i) (hd:ns[i].name∉(ns.take i).map (·.name)):
  NodesIn (ents++[((1,ns[i].name),(i:Int))]) ns (i+1)∧Gr (ents++[((1,ns[i].name),(i:Int))]) ns (i+1):=by
 have jx:∀x:Str,yu (1,x) (ents++[((1,ns[i].name),(i:Int))])=(yu (1,x) ents).or (if x=ns[i].name then some (i:Int) else none):=by
  intro x
  generalize ents=l
  induction l with
  | nil=>by_cases hx:x=ns[i].name<;>simp[yu,hx]
  | cons y l ih =>
    simp only[aJ,yu]
    by_cases hy:((1:Int),x)=y.1
    ·rw[ah hy,ah hy]; rfl
    ·rw[af hy,af hy]; exact ih
 have lj:∀x,callee (ns.take (i+1)) x=(callee (ns.take i) x).or (if ns[i].name=x then some ns[i] else none):=by
  intro x
  unfold callee
  rw[yD hi,List.find?_append]
  congr 1
  by_cases hx:ns[i].name=x<;>simp[hx]
 constructor
 ·intro x
  have hx:=h x
  rw[lj]
  cases hc:callee (ns.take i) x with
  | some m =>
    rw[hc] at hx
    obtain⟨j,e1,e2,e3⟩:=hx
    exact⟨j,by rw[jx,e1]; rfl,by omega,e3⟩
  | none =>
    have gw:((1:Int),x)∉yJ ents:=by
     rw[hk]
     unfold callee at hc
     rw[List.find?_eq_none] at hc
     intro hm
     obtain⟨n,h1,h2⟩:=bl.1 hm
     exact hc n h1 (by simpa using h2)
    have lk:=Db.2 gw
    by_cases ny:ns[i].name=x
    ·rw[ah ny]
     exact⟨i,by rw[jx,lk,ah ny.symm]; rfl,by omega,av hi⟩
    ·rw[af ny]
     intro c eF
     rw[jx,lk,af (λe=>ny e.symm)] at eF
     simp at eF
 ·intro x
  rw[yD hi,a8,ak,← hk x]
  simp[yJ]
section
variable {L:Nat→Option PFunc} (hL:∀k f,LS k=some f→L k=some f)
include hL
theorem rec27 (a b e:Int) (h:List PObj) (w1 w2 c:Int) (h0:h[0]? = some (.cells [.int .i64 w1,.int .i64 w2])) (h1:h[1]? = some (.cells [.int .i64 c])):yp L 27 [xC 1 a b e,.ptr 0 0,.ptr 1 0] h=some ((h.set 0 (.cells [.int .i64 a,.int .i64 b])).set 1 (.cells [.int .i64 e])):=by
 unfold yp
 rw[hL 27 _ rfl]
 simp[Ja,AH,xC,h0,h1]
theorem c8i (h:List PObj):yp L 27 [.nilIface,.ptr 0 0,.ptr 1 0] h=some h:=by
 unfold yp
 rw[hL 27 _ rfl]
 simp[Ja,AH]
theorem Jb (p:Prog) (hp:PW p) (hs:parts p≤1600):∃h',wn L 8 [xd p] []=some (zP (zQ (A1 p)),h'):=by
 suffices H:∃r,wn L 8 [xd p] []=some r∧r.1=zP (zQ (A1 p)) by
  obtain⟨⟨v,h'⟩,h1,h2⟩:=H
  exact⟨h',by rw[h1]; simp only at h2; rw[h2]⟩
 refine MD (hL 8 _ rfl) rfl ?_
 obtain⟨uX,d8⟩:=c2G hL p hp
 unfold A1
 cases hS:zV p with
 | some b =>
   have ll:=ME hS
   rw[hS] at d8
   simp only[zQ,bI,zP] at d8 ⊢
   simp[Gv,d8,ll,wS,wz]
 | none =>
   have eV:=b7e hS
   rw[hS] at d8
   simp only[zQ,cD,DZ,zP] at d8
   simp only
   obtain⟨RES,ek⟩:∃RES,RES=(if BU p.enums then zp (xL p.enums) [] p.nodes else some (⟨-1,-1,7⟩:Bad)):=⟨_,rfl⟩
   rw[← ek]
   simp[Gv,d8]
   rw[MF (cs:=[.ptr 0 0,.ptr 1 0]) _ _ _ rfl (by simp)]
   have eB:PObj.cells [PV.list false (p.enums.map wE),PV.list false (p.nodes.map wA),.int .i64 (-1),.int .i64 (-1),.map (some 2)]=wB p.enums p.nodes (-1) (-1):=rfl
   have mK:PObj.map []=wD []:=rfl
   have f0:(PV.map (some 2)).cells=[.map (some 2)]:=rfl
   have jN:=hp.nodes
   simp[f0,eB,mK]
   refine b7d hL p.enums p.nodes hp.enums hp.tags _ _ _ _ _ _ _ _ _ _ _ _ _ _ _ _ _ _ _ ?_ ?_
   ·intro cY y7 y8 y9 y15 y16 y17 g' ents' hk
    rw[ah cY] at ek
    simp
    rw[MG]
    refine xk p.nodes.length (λj st=>∃y10 h' ents a b,st=⟨[xd p,.loc 0 [.list false (p.enums.map wE),.list false (p.nodes.map wA)],.ptr 0 0,.ptr 1 0,.loc 1 [.int .i64 0,.int .i64 0],.int .i64 0,.ptr 3 0,y7,y8,y9,y10,.ptr 3 0,.list false (p.enums.map wE),.int .i64 p.enums.length,.int .i64 p.enums.length,y15,y16,y17,.int .i64 p.nodes.length,.int .i64 j],[],g',h'⟩ ∧
     h'[0]? = some (.cells [.int .i64 0,.int .i64 0])∧h'[1]? = some (.cells [.int .i64 0])∧4≤h'.length∧h'[2]? = some (wD ents)∧h'[3]? = some (wB p.enums p.nodes a b)∧Bq ents (xL p.enums)∧NodesIn ents p.nodes j∧Gr ents p.nodes j∧RES=zp (xL p.enums) (p.nodes.take j) (p.nodes.drop j)) ?_ ?_
     ⟨_,_,ents',-1,-1,rfl,rfl,rfl,by simp,rfl,rfl,hk.tags,λx=>by
      have:yu (1,x) ents'=none:=Db.2 (hk.nodes x)
      simp[callee,this],λx=>by simp[hk.nodes x],by simpa using ek⟩
    ·rintro j hj st ⟨y10,h',ents,a,b,rfl,e0,e1,e4,e2,e3,dV,dl,i7,hR⟩ ih
     have hw:=wC j (by omega)
     rw[aU hj] at hR
     have nX:p.nodes[j].parts≤1600:=by
      have:=Cg Node.parts (ai hj)
      unfold parts at hs; omega
     obtain⟨h2,hx,k0,k1,k4,kn⟩:=c4Q hL p.enums p.nodes a b ents j hj hp.nodes (hp.ns _ (ai hj)) nX (eV _ (ai hj)) (xL p.enums) dV dl i7 h' e4 e2 e3
     cases hN:zc (p.nodes.take j) (xL p.enums) p.nodes[j] with
     | none =>
       have hd:p.nodes[j].name∉(p.nodes.take j).map (·.name):=by
        intro hm
        unfold zc at hN
        rw[ah hm] at hN
        simp at hN
       obtain⟨n2,n3⟩:=NodesIn.step hj dl i7 hd
       obtain⟨q2,q3⟩:=kn hN
       rw[hN] at hx
       simp only[zp,hN] at hR
       rw[← yD hj] at hR
       simp[xQ] at hx
       simp[hj,hx,hw]
       refine ih _ ⟨_,h2,_,_,_,rfl,k0.trans e0,k1.trans e1,k4,q2,q3,λx =>?_,n2,n3,hR⟩
       rw[← dV x]
       simp[yJ]
     | some bd =>
       rw[hN] at hx
       simp only[zp,hN] at hR
       have dR:=rec27 hL bd.node bd.eq bd.err h2 0 0 0 (k0.trans e0) (k1.trans e1)
       have fL:0<h2.length:=by omega
       have dS:1<h2.length:=by omega
       simp[xQ] at hx
       simp[hj,hx,dR,hR,zQ,zP,wz,fL,dS]
       rfl
    ·rintro st ⟨y10,h',ents,a,b,rfl,e0,e1,e4,e2,e3,dV,dl,i7,hR⟩
     rw[be (ao _)] at hR
     simp only[zp] at hR
     have dR:=c8i hL h'
     have fL:0<h'.length:=by omega
     have dS:1<h'.length:=by omega
     have rS:h'.set 0 (.cells [.int .i64 0,.int .i64 0])=h':=E6 e0
     have j4:h'.set 1 (.cells [.int .i64 0])=h':=E6 e1
     simp[e0,e1,rS,j4,dR,hR,zQ,DZ,zP,wz]
     rfl
   ·intro cY W g' o2 o3 rQ rR
    rw[cY] at ek
    simp only[aH,if_false] at ek
    have dR:=rec27 hL (-1) (-1) 7 [.cells [.int .i64 0,.int .i64 0],.cells [.int .i64 0],o2,o3] 0 0 0 rfl rfl
    simp[dR,ek,zQ,zP,wz,rQ,rR]
    rfl
end
theorem Oz {tags:List Str}:∀{l b:List Node} {x:Bad},zp tags b l=some x→x.err≠0
 | [],b,x,h=>by simp[zp] at h
 | n :: l, b, x, h => by
   simp only[zp] at h
   cases hn:zc b tags n with
   | some y=>rw[hn] at h; simp only[aa] at h; subst h; exact(b9k hn).2
   | none=>rw[hn] at h; exact Oz h
theorem b7q {p:Prog} {x:Bad} (h:A1 p=some x):x.err≠0:=by
 unfold A1 at h
 cases hs:zV p with
 | some b=>rw[hs] at h; simp only[aa] at h; subst h; exact ME hs
 | none =>
   rw[hs] at h
   simp only at h
   split at h
   ·exact Oz h
   ·simp only[aa] at h; subst h; simp
theorem b4o {l:List Eqn} {i:Nat} (h:i<l.length):(l.take (i+1)).flatMap (·.left)=(l.take i).flatMap (·.left)++l[i].left:=by rw[yD h,bu,cJ]
theorem b9d (s:State):Cl s=s.name::Bu s.locals++(s.eqs.flatMap (·.left)++yL s.autos):=by cases s; simp[Cl,State.name,State.locals,State.eqs,State.autos]
def A7 (l:List Expr):List Str:=(l.filter λx=>G8 x.kind).map (·.name)
theorem b7j (a b:List Expr):A7 (a++b)=A7 a++A7 b:=by simp[A7]
structure Takes (L:Nat→Option PFunc) (kf:Nat) (cs:List PV) (Inv:List Expr→List PObj→Prop):Prop where
 run:∀e l h,e.parts≤1600→EW e→Inv l h→∃h',wn L kf (wq e::cs) h=some (.tuple [],h')∧Inv (l++[e]) h'
section
variable {L:Nat→Option PFunc} (hL:∀k f,LS k=some f→L k=some f) {kf:Nat} {cs:List PV} {Inv:List Expr→List PObj→Prop} (hT:Takes L kf cs Inv)
include hL
theorem c5e (a b:List Trn) (hn:a.length+b.length≤4800) (o:Bool) (h:List PObj):∃h',wn L 112 [.list o [.list false (a.map xe),.list false (b.map xe)]] h=some (.list false ((a++b).map xe),h'):=by
 have:=MN c8l (by decide) (k:=112) (by':=88) (gr:=140) (hL 112 _ rfl) (hL 140 _ rfl) [a,b] (by simp) (by simp[xB,wl]; omega) o h
 simpa[xP] using this
theorem c2x (a b:List Expr) (hn:a.length+b.length≤4800) (o:Bool) (h:List PObj):∃h',wn L 80 [.list o [.list false (a.map wq),.list false (b.map wq)]] h=some (.list false ((a++b).map wq),h'):=by
 have:=MN c4T (by decide) (k:=80) (by':=72) (gr:=113) (hL 80 _ rfl) (hL 113 _ rfl) [a,b] (by simp) (by simp[xB,wl]; omega) o h
 simpa[xP] using this
include hT
theorem c2y (ts:List Trn) (hl:ts.length≤4800) (hw:∀t∈ts,XW t.cond) (l:List Expr) (h:List PObj) (hi:Inv l h) (V0 V1 V3 V4 V5 V6 V7 V8 V9 V10 V11 V12 V13 V14 V15:PV) (g:Nat) {Q:PExit→St→Prop}
  (ok:∀y6 g' h',Inv (l++ts.map (·.cond)) h'→Q (.exit 6) ⟨[V0,V1,.func kf [] cs,V3,V4,V5,y6,V7,V8,V9,V10,V11,V12,V13,V14,V15,.list false (ts.map xe),.int .i64 ts.length,.int .i64 ts.length],[],g',h'⟩):
  wpL L JA ⟨[V0,V1,.func kf [] cs,V3,V4,V5,V6,V7,V8,V9,V10,V11,V12,V13,V14,V15,.list false (ts.map xe),.int .i64 ts.length,.int .i64 0],[],g,h⟩ Q:=by
 have _:=hL
 rw[JA]
 refine xk ts.length (λj st=>∃y6 g' h',st=⟨[V0,V1,.func kf [] cs,V3,V4,V5,y6,V7,V8,V9,V10,V11,V12,V13,V14,V15,.list false (ts.map xe),.int .i64 ts.length,.int .i64 j],[],g',h'⟩∧Inv (l++(ts.take j).map (·.cond)) h') ?_ ?_ ⟨_,_,h,rfl,by simpa using hi⟩
 ·rintro j hj st ⟨y6,g',h',rfl,hi⟩ ih
  have fV:=wC j (by omega)
  have hx:=hw _ (ai hj)
  obtain⟨h2,hc,dM⟩:=hT.run ts[j].cond _ h' hx.parts hx.ew hi
  simp[hj,fV,hc]
  exact ih _ ⟨_,_,h2,rfl,by rw[yD hj,a8,← az]; exact dM⟩
 ·rintro st ⟨y6,g',h',rfl,hi⟩
  rw[aB] at hi
  simp
  exact ok _ _ _ hi
def OC (L:Nat→Option PFunc) (kf:Nat) (cs:List PV) (Inv:List Expr→List PObj→Prop) (s:State):Prop:=∀l h,Inv l h→∃h',wn L 79 [.list false (s.eqs.map wH),.list false (s.autos.map wI),.func kf [] cs] h=some (.tuple [],h')∧Inv (l++(s.eqs.map (·.right)++zL s.autos)) h'
theorem OD (eqs:List Eqn) (autos:List (List State)) (hq:eqs.length≤1600) (vd:∀q∈eqs,QW q) (ha:AsW autos) (dR:∀a∈autos,∀x∈a,OC L kf cs Inv x) (l:List Expr) (h:List PObj) (hi:Inv l h):
  ∃h',wn L 79 [.list false (eqs.map wH),.list false (autos.map wI),.func kf [] cs] h=some (.tuple [],h')∧Inv (l++(eqs.map (·.right)++zL autos)) h':=by
 suffices H:∃r,wn L 79 [.list false (eqs.map wH),.list false (autos.map wI),.func kf [] cs] h=some r∧r.1 = .tuple []∧Inv (l++(eqs.map (·.right)++zL autos)) r.2 by
  obtain⟨⟨v,h'⟩,h1,h2,h3⟩:=H
  simp only at h2; subst h2
  exact⟨h',h1,h3⟩
 refine zq (hL 79 _ rfl) rfl ?_
 simp[JB]
 rw[Ng]
 refine xk eqs.length (λj st=>∃y3 g h',st=⟨[.list false (eqs.map wH),.list false (autos.map wI),.func kf [] cs,y3,.dead,.dead,.dead,.list false (eqs.map wH),.int .i64 eqs.length,.int .i64 j,.dead,.dead,.dead,.dead,.dead,.dead,.dead,.dead,.dead],[],g,h'⟩∧Inv (l++(eqs.take j).map (·.right)) h') ?_ ?_ ⟨_,_,h,rfl,by simpa using hi⟩
 ·rintro j hj st ⟨y3,g,h',rfl,hi⟩ ih
  have fV:=wC j (by omega)
  have hx:=(vd _ (ai hj)).right
  obtain⟨h2,hc,dM⟩:=hT.run eqs[j].right _ h' hx.parts hx.ew hi
  simp[hj,fV,hc]
  exact ih _ ⟨_,_,h2,rfl,by rw[yD hj,a8,← az]; exact dM⟩
 ·rintro st ⟨y3,g,h',rfl,hi⟩
  rw[aB] at hi
  simp
  rw[Ni]
  refine xk autos.length (λj st=>∃acc y4 y5 y6 y13 y14 y15 y16 y17 y18 g h',st=⟨[.list false (eqs.map wH),.list false (autos.map wI),.func kf [] cs,y3,y4,y5,y6,.list false (eqs.map wH),.int .i64 eqs.length,.int .i64 eqs.length,.list false (autos.map wI),.int .i64 autos.length,.int .i64 j,y13,y14,y15,y16,y17,y18],[],g,h'⟩∧Inv acc h'∧acc++zL (autos.drop j)=l++(eqs.map (·.right)++zL autos)) ?_ ?_ ⟨_,_,_,_,_,_,_,_,_,_,_,h',rfl,hi,by simp⟩
  ·rintro j hj st ⟨acc,y4,y5,y6,y13,y14,y15,y16,y17,y18,g,h',rfl,hi,hd⟩ ih
   have fV:=wC j (by have:=ha.len; omega)
   rw[aU hj] at hd
   have dX:=ai hj
   have dp:=ha.as _ dX
   have rY:=ha.ss _ dX
   have oI:=dR _ dX
   simp only[zL] at hd
   simp[hj]
   rw[Nh]
   refine xk autos[j].length (λi st=>∃acc y5 y6 y16 y17 y18 g4 g h',st=⟨[.list false (eqs.map wH),.list false (autos.map wI),.func kf [] cs,y3,.loc g4 (wI autos[j]).cells,y5,y6,.list false (eqs.map wH),.int .i64 eqs.length,.int .i64 eqs.length,.list false (autos.map wI),.int .i64 autos.length,.int .i64 j,.list false (autos[j].map wX),.int .i64 autos[j].length,.int .i64 i,y16,y17,y18],[],g,h'⟩∧Inv acc h'∧acc++(CQ (autos[j].drop i)++zL (autos.drop (j+1)))=l++(eqs.map (·.right)++zL autos)) ?_ ?_ ⟨acc,_,_,_,_,_,_,_,h',rfl,hi,by simpa using hd⟩
   ·rintro i it st ⟨acc,y5,y6,y16,y17,y18,g4,g,h',rfl,hi,hd⟩ ih2
    have lq:=wC i (by omega)
    rw[aU it] at hd
    obtain⟨x,hx⟩:∃x,x=autos[j][i]:=⟨_,rfl⟩
    have kl:=rY _ (ai it)
    have oJ:=oI _ (ai it)
    rw[← hx] at hd kl oJ
    simp only[CQ,b9j] at hd
    obtain⟨h2,hc,dM⟩:=oJ _ h' hi
    obtain⟨nq,ku⟩:=c5e hL x.unl x.til (by have:=kl.unl; have:=kl.til; omega) false []
    simp at ku
    simp[hj,it,← hx,hc,ku]
    have ve:x.unl.length+x.til.length=(x.unl++x.til).length:=by simp
    have oP:x.unl.map xe++x.til.map xe=(x.unl++x.til).map xe:=by simp
    have iP:(x.unl.length:Int)+x.til.length=((x.unl++x.til).length:Nat):=by simp
    rw[oP,iP]
    refine c2y hL hT (x.unl++x.til) (by have:=kl.unl; have:=kl.til; simp; omega) (λt ht=>(ak.1 ht).elim (kl.us t) (kl.ts t)) _ h2 dM _ _ _ _ _ _ _ _ _ _ _ _ _ _ _ _ ?_
    intro y6' g' h3 vf
    simp[lq]
    exact ih2 _ ⟨_,_,_,_,_,_,_,_,h3,rfl,vf,by simpa using hd⟩
   ·rintro st ⟨acc,y5,y6,y16,y17,y18,g4,g,h',rfl,hi,hd⟩
    rw[be (ao _)] at hd
    simp only[CQ,aY] at hd
    simp[hj,fV]
    exact ih _ ⟨acc,_,_,_,_,_,_,_,_,_,_,h',rfl,hi,hd⟩
  ·rintro st ⟨acc,y4,y5,y6,y13,y14,y15,y16,y17,y18,g,h',rfl,hi,hd⟩
   rw[be (ao _)] at hd
   simp only[zL,aV] at hd
   rw[← hd]
   simp[xm,xa,xT,wM]
   exact hi
theorem c82 (s:State) (hs:SW s):OC L kf cs Inv s:=by
 induction s using State.ind with
 | h s ih =>
   intro l h hi
   exact OD hL hT s.eqs s.autos hs.eqs hs.es hs.asW (λa ha x hx=>ih a ha x hx (hs.ss a ha x hx)) l h hi
theorem c2z (n:Node) (hn:NW n) (l:List Expr) (h:List PObj) (hi:Inv l h):∃h',wn L 37 [wA n,.func kf [] cs] h=some (.tuple [],h')∧Inv (l++Dh n) h':=by
 suffices H:∃r,wn L 37 [wA n,.func kf [] cs] h=some r∧r.1 = .tuple []∧Inv (l++Dh n) r.2 by
  obtain⟨⟨v,h'⟩,h1,h2,h3⟩:=H
  simp only at h2; subst h2
  exact⟨h',h1,h3⟩
 obtain⟨h2,hc,dM⟩:=OD hL hT n.eqs n.autos hn.eqs hn.es hn.autos (λa ha x hx=>c82 hL hT x (hn.autos.ss a ha x hx)) l h hi
 obtain⟨nq,ku⟩:=c2x hL n.assume n.ensure (by have:=hn.assume; have:=hn.ensure; omega) false []
 refine zq (hL 37 _ rfl) rfl ?_
 simp at ku
 simp[Jn,hc,ku]
 obtain⟨M,hM⟩:∃M,M=n.assume++n.ensure:=⟨_,rfl⟩
 have oP:n.assume.map wq++n.ensure.map wq=M.map wq:=by rw[hM]; simp
 have iP:(n.assume.length:Int)+n.ensure.length=(M.length:Nat):=by rw[hM]; simp
 have vg:∀e∈M,XW e:=λe he=>by rw[hM] at he; exact(ak.1 he).elim (hn.as e) (hn.gs e)
 have hMl:M.length≤3200:=by rw[hM]; have:=hn.assume; have:=hn.ensure; simp; omega
 rw[oP,iP]
 have he:l++Dh n=l++(n.eqs.map (·.right)++zL n.autos)++M:=by rw[hM]; simp[Dh]
 rw[he]
 generalize l++(n.eqs.map (·.right)++zL n.autos)=l2 at *
 rw[M4]
 refine xk M.length (λj st=>∃y3 g h',st=⟨[wA n,.func kf [] cs,.loc 0 (wA n).cells,y3,.list false (M.map wq),.int .i64 M.length,.int .i64 j],[],g,h'⟩∧Inv (l2++M.take j) h') ?_ ?_ ⟨_,_,h2,rfl,by simpa using dM⟩
 ·rintro j hj st ⟨y3,g,h',rfl,hi⟩ ih
  have fV:=wC j (by omega)
  have hx:=vg _ (ai hj)
  obtain⟨h2,hc,dM⟩:=hT.run M[j] _ h' hx.parts hx.ew hi
  simp[hj,fV,hc]
  exact ih _ ⟨_,_,h2,rfl,by rw[yD hj,← az]; exact dM⟩
 ·rintro st ⟨y3,g,h',rfl,hi⟩
  rw[aB] at hi
  simp[xm,xa,xT,wM]
  exact hi
end
def OB (l:List Nat):List PV:=l.map λn:Nat => .int .i64 n
section
variable {L:Nat→Option PFunc} (hL:∀k f,LS k=some f→L k=some f)
include hL
theorem c0M {V l:List PV} {g:Nat} {h:List PObj} {Q:PExit→St→Prop} {x:PX} {kb:Nat} {caps:List PX} {cs:List PV} (e:Expr) (he:EW e) (hx:rd ⟨V,l,g,h⟩ x=some (.func 114 [] [.cptr (wq e).cells])) (hc:rdAll ⟨V,l,g,h⟩ caps=some cs) (d9:∀p∈cs,cp p=some p)
  (I:List Expr→List PObj→Prop) (l0:List Expr) (h0:I l0 (h++[.loop true]))
  (step:∀x∈e.list,∀l h',I l h'→∃h'',wF L kb (.ptr h.length 0::(cs++[wq x])) h'=some (.val (.bool true),h'')∧I (l++[x]) h'')
  (last:∀h',I (l0++e.list) h'→h'[h.length]? = some (.loop true)∧Q .normal ⟨V,l,g,h'.set h.length .gone⟩):wpL L (.rangeF x kb caps) ⟨V,l,g,h⟩ Q:=by
 obtain⟨y,hy⟩:∃y:Expr→List PObj→Option (Out×List PObj),∀x h',y x h'=match wF L kb (.ptr h.length 0::(cs++[wq x])) h' with
  | some (.val (.bool b),h'')=>some (.val (.bool b),h'')
  | _=>none:=⟨_,λ_ _=>rfl⟩
 have key:∀(m:List Expr),(∀x∈m,x∈e.list)→∀l h',I l h'→∃h'',yw y m h'=some (.val (.bool true),h'')∧I (l++m) h'':=by
  intro m
  induction m with
  | nil=>intro _ l h' hi; exact⟨h',rfl,by simpa using hi⟩
  | cons z m ih =>
    intro hm l h' hi
    obtain⟨h2,h3,h4⟩:=step z (hm z (by simp)) l h' hi
    obtain⟨h5,h6,h7⟩:=ih (λx hx=>hm x (by simp[hx])) _ h2 h4
    refine⟨h5,?_,by simpa using h7⟩
    simp only[yw,hy,h3]
    exact h6
 obtain⟨h',h1,h2⟩:=key e.list (λ_ h=>h) l0 _ h0
 obtain⟨h3,h4⟩:=last h' h2
 refine Ek hL e he hx hc d9 y ?_ ?_ _ h1 ?_
 ·intro x _ h' r hr
  rw[hy] at hr
  split at hr
  ·rename_i ho; rw[ho]; exact hr
  ·simp at hr
 ·intro x h' r hr
  rw[hy] at hr
  split at hr
  ·exact .inl ⟨_,_,(cE hr).symm⟩
  ·simp at hr
 ·simp only[At,h3]; exact h4
end
def CallsH (p:Prog) (n:Nat) (l:List Nat) (h:List PObj):Prop:=h[0]? = some (.cells (xd p).cells)∧∃rv,h[1]? = some (.cells [rv])∧((rv = .list true []∧l=[])∨∃k,2≤k∧k≠n∧rv = .rowp k 1 false l.length∧h[k]? = some (.cells (OB l)))
section
variable {L:Nat→Option PFunc}
def Hq (n:Nat) (P:Out×List PObj→Prop):PExit→St→Prop
 | .normal,st=>st.heap[n]? = some (.loop false)∧P (.val (.bool true),st.heap.set n (.loop true))
 | .boom v,st=>P (.boom v,st.heap)
 | .exit id,st=>st.heap[n]? = some (.loop false)∧P (.val (.bool false),st.heap.set n (.over (some id)))
 | .ret,st=>st.heap[n]? = some (.loop false)∧P (.val (.bool false),st.heap.set n (.over none))
 | .after ..,_=>False
@[simp] theorem c1D {V l:List PV} {g:Nat} {h:List PObj} (n:Nat) (P:Out×List PObj→Prop):Hq n P .normal ⟨V,l,g,h⟩=(h[n]? = some (.loop false)∧P (.val (.bool true),h.set n (.loop true))):=rfl
@[simp] theorem c3M {V l:List PV} {g:Nat} {h:List PObj} (n:Nat) (P:Out×List PObj→Prop) (v:PV):Hq n P (.boom v) ⟨V,l,g,h⟩=P (.boom v,h):=rfl
def OE (L:Nat→Option PFunc) (b:PC) (n:Nat) (P:Out×List PObj→Prop):PExit→St→Prop
 | .normal,st=>st.heap[n]? = some (.loop true)∧wpL L b { st with heap:=st.heap.set n (.loop false) } (Hq n P)
 | _,_=>False
@[simp] theorem c1E {V l:List PV} {g:Nat} {h:List PObj} (b:PC) (n:Nat) (P:Out×List PObj→Prop):OE L b n P .normal ⟨V,l,g,h⟩=(h[n]? = some (.loop true)∧wpL L b ⟨V,l,g,h.set n (.loop false)⟩ (Hq n P)):=rfl
theorem b7r {k:Nat} {f:PFunc} {a b:PC} {n:Nat} {as:List PV} {hp:List PObj} {P:Out×List PObj→Prop} (hf:L k=some f) (ig:f.code = .round a b) (hl:as.length+1=f.params) (hn:hp[n]? = some (.loop true))
  (hw:wpL L a ⟨as.map dem++List.replicate (f.nv - as.length) .dead,[],0,hp⟩ (OE L b n P)) (hs:f.split=false:=by rfl) (fw:f.prim=none:=by rfl):∃r,wF L k (.ptr n 0::as) hp=some r∧P r:=by
 rw[Bm] at hw
 obtain⟨e,st,h1,h2⟩:=hw
 have key:∀r,Af (λc st=>evL L c st) f.nv a b (.ptr n 0::as) hp=some r→wF L k (.ptr n 0::as) hp=some r:=by
  intro r hr
  refine IP hf (by simpa using hl) ?_ hs fw
  unfold yX
  rw[ig]
  exact hr
 cases e with
 | normal =>
   obtain⟨h3,h4⟩:=h2
   rw[Bm] at h4
   obtain⟨e2,st2,h5,h6⟩:=h4
   cases e2 with
   | normal=>exact⟨_,key _ (by simp only[Af,hn,h1,h3,h5,h6.1]),h6.2⟩
   | boom v=>exact⟨_,key _ (by simp only[Af,hn,h1,h3,h5]),h6⟩
   | exit id=>exact⟨_,key _ (by simp only[Af,hn,h1,h3,h5,h6.1]),h6.2⟩
   | ret=>exact⟨_,key _ (by simp only[Af,hn,h1,h3,h5,h6.1]),h6.2⟩
   | after kd cs v=>exact h6.elim
 | exit id=>exact h2.elim
 | ret=>exact h2.elim
 | boom v=>exact h2.elim
 | after kd cs v=>exact h2.elim
end
theorem CallsH.gone {p:Prog} {n:Nat} {l:List Nat} {h:List PObj} (hh:CallsH p n l h) (hn:2≤n):CallsH p (h.set n .gone).length l (h.set n .gone):=by
 obtain⟨h0,rv,h1,hr⟩:=hh
 refine⟨by rw[an (by omega)]; exact h0,rv,by rw[an (by omega)]; exact h1,?_⟩
 rcases hr with h|⟨k,e1,e2,e3,e4⟩
 ·exact .inl h
 ·have:=(aj.1 e4).1
  exact .inr ⟨k,e1,by simp; omega,e3,by rw[an (Ne.symm e2)]; exact e4⟩
theorem CallsH.loop {p:Prog} {l:List Nat} {h:List PObj} (hh:CallsH p h.length l h):CallsH p h.length l (h++[.loop true]):=by
 obtain⟨h0,rv,h1,hr⟩:=hh
 have b0:=(aj.1 h0).1
 have b1:=(aj.1 h1).1
 refine⟨by rw[am b0]; exact h0,rv,by rw[am b1]; exact h1,?_⟩
 rcases hr with h|⟨k,e1,e2,e3,e4⟩
 ·exact .inl h
 ·have:=(aj.1 e4).1
  exact .inr ⟨k,e1,e2,e3,by rw[am this]; exact e4⟩
theorem CallsH.push {p:Prog} {n m q:Nat} {l:List Nat} {H:List PObj} {vs:List PV} (nz:2≤n) (hm:m=H.length) (hq:q=l.length) (hv:vs=OB l) (h0:H[0]? = some (.cells (xd p).cells)) (hn:H[n]? = some (.loop false)):
  ((H++[PObj.cells vs]).set 1 (PObj.cells [.rowp m 1 false q]))[n]? = some (.loop false)∧CallsH p n l (((H++[PObj.cells vs]).set 1 (PObj.cells [.rowp m 1 false q])).set n (.loop true))∧(((H++[PObj.cells vs]).set 1 (PObj.cells [.rowp m 1 false q])).set n (.loop true))[n]? = some (.loop true):=by
 subst hm hq hv
 have cQ:=(aj.1 hn).1
 refine⟨?_,⟨?_,_,?_,.inr ⟨H.length,by omega,by omega,rfl,?_⟩⟩,?_⟩
 ·rw[an (by omega),am cQ]; exact hn
 ·rw[an (by omega),an (by omega),am (by omega)]; exact h0
 ·rw[an (by omega),aZ (by simp; omega)]
 ·rw[an (by omega),an (by omega),ar (ao _)]; simp
 ·rw[aZ (by simp; omega)]
structure KN (h:List PObj) (S:List Str):Prop where
 map:∃l,h[0]? = some (.map (bmE l))∧∀x,x∈l↔x∈S
 box:h[1]? = some (.cells [.map (some 0)])
theorem KN.congr {h:List PObj} {S T:List Str} (k:KN h S) (he:∀x,x∈S↔x∈T):KN h T:=by
 obtain⟨⟨l,h0,hm⟩,h1⟩:=k
 exact⟨⟨l,h0,λx=>(hm x).trans (he x)⟩,h1⟩
theorem KN.add {h:List PObj} {S:List Str} (k:KN h S) (x:Str):∃l r,h[0]? = some (.map (bmE l))∧xN false [.s] (.str x) (bmE l) 0=some r∧KN (h.set 0 (.map (Fs (bmE l) (.str x) (.bool true) r))) (S++[x]):=by
 obtain⟨⟨l,h0,hm⟩,h1⟩:=k
 obtain⟨r,hr,_,he⟩:=Au x l
 have cQ:=(aj.1 h0).1
 refine⟨l,r,h0,hr,⟨⟨Av l x,by rw[he,aZ cQ],λy =>?_⟩,by rw[an (by decide)]; exact h1⟩⟩
 rw[E3,hm,ak,aO]
def Ay (l:List Decl):List Str:=l.flatMap λd=>d.name::d.clock.map (·.name)
theorem N7 (l:List Decl) (x:Str):x∈Ay l↔x∈Bu l:=by
 simp only[Ay,Bu,wm,bJ,ak,bl,ay]
 constructor
 ·rintro⟨d,hd,rfl|⟨o,ho,rfl⟩⟩
  ·exact .inl ⟨d,hd,rfl⟩
  ·exact .inr ⟨d,hd,o,ho,rfl⟩
 ·rintro(⟨d,hd,rfl⟩|⟨d,hd,o,ho,rfl⟩)
  ·exact⟨d,hd,.inl rfl⟩
  ·exact⟨d,hd,.inr ⟨o,ho,rfl⟩⟩
section
variable {L:Nat→Option PFunc} (hL:∀k f,LS k=some f→L k=some f)
include hL
theorem N8 (l:List Decl) (hl:l.length≤4800) (dN:∀d∈l,d.clock.length≤1600) (o:Bool) (S:List Str) (h:List PObj) (hk:KN h S):∃h',wn L 86 [.map (some 0),.list o (l.map wv)] h=some (.tuple [],h')∧KN h' (S++Ay l):=by
 suffices H:∃r,wn L 86 [.map (some 0),.list o (l.map wv)] h=some r∧r.1 = .tuple []∧KN r.2 (S++Ay l) by
  obtain⟨⟨v,h'⟩,h1,h2,h3⟩:=H
  simp only at h2; subst h2
  exact⟨h',h1,h3⟩
 refine zq (hL 86 _ rfl) rfl ?_
 simp[JD]
 rw[No]
 refine xk l.length (λj st=>∃y2 y3 y7 y8 y9 g h',st=⟨[.map (some 0),.list false (l.map wv),y2,y3,.list false (l.map wv),.int .i64 l.length,.int .i64 j,y7,y8,y9],[],g,h'⟩∧KN h' (S++Ay (l.take j))) ?_ ?_ ⟨_,_,_,_,_,_,h,rfl,by simpa[Ay] using hk⟩
 ·rintro j hj st ⟨y2,y3,y7,y8,y9,g,h',rfl,hk⟩ ih
  have hw:=wC j (by omega)
  have mB:=dN _ (ai hj)
  obtain⟨m,r,h0,hr,dY⟩:=hk.add l[j].name
  simp[hj,h0,hr,wZ]
  rw[Nn]
  refine xk l[j].clock.length (λi st=>∃y3 g1 g h',st=⟨[.map (some 0),.list false (l.map wv),.loc g1 (wv l[j]).cells,y3,.list false (l.map wv),.int .i64 l.length,.int .i64 j,.list false (l[j].clock.map eOn),.int .i64 l[j].clock.length,.int .i64 i],[],g,h'⟩∧KN h' (S++Ay (l.take j)++l[j].name::(l[j].clock.take i).map (·.name))) ?_ ?_ ⟨_,_,_,_,rfl,by simpa using dY⟩
  ·rintro i hi st ⟨y3,g1,g,h',rfl,hk⟩ ih2
   have lq:=wC i (by omega)
   obtain⟨m,r,h0,hr,dY⟩:=hk.add l[j].clock[i].name
   simp[hj,hi,h0,hr,wZ,lq]
   have e:S++Ay (l.take j)++l[j].name::(l[j].clock.take (i+1)).map (·.name)=S++Ay (l.take j)++l[j].name::(l[j].clock.take i).map (·.name)++[l[j].clock[i].name]:=by
    rw[yD hi,a8,az (S++Ay (l.take j))]; rfl
   exact ih2 _ ⟨_,_,_,_,rfl,by rw[e]; exact dY⟩
  ·rintro st ⟨y3,g1,g,h',rfl,hk⟩
   rw[aB] at hk
   simp[hw]
   have e:Ay (l.take (j+1))=Ay (l.take j)++l[j].name::l[j].clock.map (·.name):=by unfold Ay; rw[yD hj,bu,cJ]
   exact ih _ ⟨_,_,_,_,_,_,h',rfl,by rw[e,← az]; exact hk⟩
 ·rintro st ⟨y2,y3,y7,y8,y9,g,h',rfl,hk⟩
  rw[aB] at hk
  simp[xm,xa,xT,wM]
  exact hk
def N9 (L:Nat→Option PFunc) (s:State):Prop:=∀S h,KN h S→∃h',wn L 87 [.map (some 0),.list false (s.eqs.map wH),.list false (s.autos.map wI)] h=some (.tuple [],h')∧KN h' (S++(s.eqs.flatMap (·.left)++yL s.autos))
theorem Oa (eqs:List Eqn) (autos:List (List State)) (hq:eqs.length≤1600) (u3:∀q∈eqs,q.left.length≤1600) (ha:AsW autos) (dR:∀a∈autos,∀x∈a,N9 L x) (S:List Str) (h:List PObj) (hk:KN h S):
  ∃h',wn L 87 [.map (some 0),.list false (eqs.map wH),.list false (autos.map wI)] h=some (.tuple [],h')∧KN h' (S++(eqs.flatMap (·.left)++yL autos)):=by
 suffices H:∃r,wn L 87 [.map (some 0),.list false (eqs.map wH),.list false (autos.map wI)] h=some r∧r.1 = .tuple []∧KN r.2 (S++(eqs.flatMap (·.left)++yL autos)) by
  obtain⟨⟨v,h'⟩,h1,h2,h3⟩:=H
  simp only at h2; subst h2
  exact⟨h',h1,h3⟩
 refine zq (hL 87 _ rfl) rfl ?_
 simp[JE]
 rw[Nq]
 refine xk eqs.length (λj st=>∃y3 y4 y10 y11 y12 g h',st=⟨[.map (some 0),.list false (eqs.map wH),.list false (autos.map wI),y3,y4,.dead,.dead,.list false (eqs.map wH),.int .i64 eqs.length,.int .i64 j,y10,y11,y12,.dead,.dead,.dead,.dead,.dead,.dead],[],g,h'⟩∧KN h' (S++(eqs.take j).flatMap (·.left))) ?_ ?_ ⟨_,_,_,_,_,_,h,rfl,by simpa using hk⟩
 ·rintro j hj st ⟨y3,y4,y10,y11,y12,g,h',rfl,hk⟩ ih
  have hw:=wC j (by omega)
  have hlj:=u3 _ (ai hj)
  simp[hj]
  rw[Np]
  refine xk eqs[j].left.length (λi st=>∃y4 g1 g h',st=⟨[.map (some 0),.list false (eqs.map wH),.list false (autos.map wI),.loc g1 (wH eqs[j]).cells,y4,.dead,.dead,.list false (eqs.map wH),.int .i64 eqs.length,.int .i64 j,.list false (eqs[j].left.map .str),.int .i64 eqs[j].left.length,.int .i64 i,.dead,.dead,.dead,.dead,.dead,.dead],[],g,h'⟩∧KN h' (S++(eqs.take j).flatMap (·.left)++eqs[j].left.take i)) ?_ ?_ ⟨_,_,_,h',rfl,by simpa using hk⟩
  ·rintro i hi st ⟨y4,g1,g,h',rfl,hk⟩ ih2
   have lq:=wC i (by omega)
   obtain⟨m,r,h0,hr,dY⟩:=hk.add eqs[j].left[i]
   simp[hj,hi,h0,hr,wZ,lq]
   exact ih2 _ ⟨_,_,_,_,rfl,by rw[yD hi,← az]; exact dY⟩
  ·rintro st ⟨y4,g1,g,h',rfl,hk⟩
   rw[aB] at hk
   simp[hw]
   exact ih _ ⟨_,_,_,_,_,_,h',rfl,by rw[b4o hj,← az]; exact hk⟩
 ·rintro st ⟨y3,y4,y10,y11,y12,g,h',rfl,hk⟩
  rw[aB] at hk
  simp
  rw[Ns]
  refine xk autos.length (λj st=>∃acc y5 y6 y16 y17 y18 g h',st=⟨[.map (some 0),.list false (eqs.map wH),.list false (autos.map wI),y3,y4,y5,y6,.list false (eqs.map wH),.int .i64 eqs.length,.int .i64 eqs.length,y10,y11,y12,.list false (autos.map wI),.int .i64 autos.length,.int .i64 j,y16,y17,y18],[],g,h'⟩∧KN h' acc∧∀x,x∈acc++yL (autos.drop j)↔x∈S++(eqs.flatMap (·.left)++yL autos)) ?_ ?_ ⟨_,_,_,_,_,_,_,h',rfl,hk,by simp⟩
  ·rintro j hj st ⟨acc,y5,y6,y16,y17,y18,g,h',rfl,hk,hd⟩ ih
   have fV:=wC j (by have:=ha.len; omega)
   rw[aU hj] at hd
   have dX:=ai hj
   have dp:=ha.as _ dX
   have rY:=ha.ss _ dX
   have oI:=dR _ dX
   simp only[yL] at hd
   simp[hj]
   rw[Nr]
   refine xk autos[j].length (λi st=>∃acc y6 g1 g h',st=⟨[.map (some 0),.list false (eqs.map wH),.list false (autos.map wI),y3,y4,.loc g1 (wI autos[j]).cells,y6,.list false (eqs.map wH),.int .i64 eqs.length,.int .i64 eqs.length,y10,y11,y12,.list false (autos.map wI),.int .i64 autos.length,.int .i64 j,.list false (autos[j].map wX),.int .i64 autos[j].length,.int .i64 i],[],g,h'⟩∧KN h' acc∧∀x,x∈acc++(A8 (autos[j].drop i)++yL (autos.drop (j+1)))↔x∈S++(eqs.flatMap (·.left)++yL autos)) ?_ ?_ ⟨acc,_,_,_,h',rfl,hk,by simpa using hd⟩
   ·rintro i hi st ⟨acc,y6,g1,g,h',rfl,hk,hd⟩ ih2
    have lq:=wC i (by omega)
    rw[aU hi] at hd
    obtain⟨x,hx⟩:∃x,x=autos[j][i]:=⟨_,rfl⟩
    have kl:=rY _ (ai hi)
    have oJ:=oI _ (ai hi)
    rw[← hx] at hd kl oJ
    simp only[A8,b9d] at hd
    obtain⟨m,r,h0,hr,dY⟩:=hk.add x.name
    obtain⟨h3,c3,k3⟩:=N8 hL x.locals (by have:=kl.locals; omega) (λd hd=>(kl.ls d hd).clock) false _ _ dY
    obtain⟨h4,c4,k4⟩:=oJ _ _ k3
    simp[hj,hi,← hx,h0,hr,wZ,c3,c4,lq]
    refine ih2 _ ⟨_,_,_,_,h4,rfl,k4,λy =>?_⟩
    have:=hd y
    simp only[ak,ay,aO,N7] at this ⊢
    rw[← this]
    simp only[or_assoc,List.not_mem_nil,or_false,false_or]
   ·rintro st ⟨acc,y6,g1,g,h',rfl,hk,hd⟩
    rw[be (ao _)] at hd
    simp only[A8,aY] at hd
    simp[hj,fV]
    exact ih _ ⟨acc,_,_,_,_,_,_,h',rfl,hk,hd⟩
  ·rintro st ⟨acc,y5,y6,y16,y17,y18,g,h',rfl,hk,hd⟩
   rw[be (ao _)] at hd
   simp only[yL,aV] at hd
   simp[xm,xa,xT,wM]
   exact hk.congr hd
theorem c0C (s:State) (hs:SW s):N9 L s:=by
 induction s using State.ind with
 | h s ih =>
   intro S h hk
   exact Oa hL s.eqs s.autos hs.eqs (λq hq=>(hs.es q hq).left) hs.asW (λa ha x hx=>ih a ha x hx (hs.ss a ha x hx)) S h hk
end
theorem KN.gone {n:Nat} {S:List Str} {h:List PObj} (hk:KN h S) (hn:2≤n) (o:PObj):KN (h.set n o) S:=by
 obtain⟨⟨l,h0,hm⟩,h1⟩:=hk
 exact⟨⟨l,by rw[an (by omega)]; exact h0,hm⟩,by rw[an (by omega)]; exact h1⟩
theorem KN.loop {S:List Str} {h:List PObj} (hk:KN h S) (o:PObj):KN (h++[o]) S:=by
 obtain⟨⟨l,h0,hm⟩,h1⟩:=hk
 have b0:=(aj.1 h0).1
 have b1:=(aj.1 h1).1
 exact⟨⟨l,by rw[am b0]; exact h0,hm⟩,by rw[am b1]; exact h1⟩
section
variable {L:Nat→Option PFunc} (hL:∀k f,LS k=some f→L k=some f)
include hL
theorem b5W (n:Nat) (nz:2≤n) (x:Expr) (S:List Str) (h:List PObj) (hk:KN h S) (je:h[n]? = some (.loop true)):
  ∃h',wF L 188 [.ptr n 0,.ptr 1 0,wq x] h=some (.val (.bool true),h')∧KN h' (S++A7 [x])∧h'[n]? = some (.loop true):=by
 suffices H:∃r,wF L 188 [.ptr n 0,.ptr 1 0,wq x] h=some r∧r.1 = .val (.bool true)∧KN r.2 (S++A7 [x])∧r.2[n]? = some (.loop true) by
  obtain⟨⟨v,h'⟩,h1,h2,h3⟩:=H
  simp only at h2; subst h2
  exact⟨h',h1,h3⟩
 have cQ:=(aj.1 je).1
 refine b7r (as:=[.ptr 1 0,wq x]) (hL 188 _ rfl) rfl rfl je ?_
 have HK:=hk.gone nz (.loop false)
 obtain⟨H,hH⟩:∃H,H=h.set n (.loop false):=⟨_,rfl⟩
 rw[← hH] at HK
 have Hn:H[n]? = some (.loop false):=by rw[hH,aZ cQ]
 have Hl:n<H.length:=by rw[hH]; simpa using cQ
 have same:KN (H.set n (.loop true)) S∧(H.set n (.loop true))[n]? = some (.loop true):=⟨HK.gone nz _,by rw[aZ Hl]⟩
 have jQ:G8 x.kind = !decide (x.kind=1∨x.kind=3∨x.kind=4∨x.kind=5∨x.kind=6∨x.kind=7∨x.kind=11):=rfl
 by_cases hc:G8 x.kind=true
 ·have iM:=hc
  rw[jQ] at iM
  simp only[bz,bN] at iM
  have c1:¬x.kind=1:=by omega
  have c3:¬x.kind=3:=by omega
  have c4:¬x.kind=4:=by omega
  have c5:¬x.kind=5:=by omega
  have c6:¬x.kind=6:=by omega
  have c7:¬x.kind=7:=by omega
  have c11:¬x.kind=11:=by omega
  have gx:A7 [x]=[x.name]:=by simp[A7,hc]
  rw[gx]
  obtain⟨m,r,h0,hr,dY⟩:=HK.add x.name
  have h1:=HK.box
  have e1:∀o,(H.set 0 o)[n]? = some (.loop false):=λo=>by rw[an (by omega)]; exact Hn
  simp[BX,je,← hH,c1,c3,c4,c5,c6,c7,c11,h0,h1,hr,wZ,e1]
  exact⟨dY.gone nz _,by simp[Hl]⟩
 ·have iM:=hc
  rw[jQ] at iM
  simp only[bz,bN,Classical.not_not] at iM
  have gx:A7 [x]=[]:=by simp[A7,hc]
  rw[gx,aV]
  by_cases c1:x.kind=1
  ·simp[BX,je,← hH,c1,Hn]
   exact same
  by_cases c3:x.kind=3
  ·simp[BX,je,← hH,c3,Hn]
   exact same
  by_cases c4:x.kind=4
  ·simp[BX,je,← hH,c4,Hn]
   exact same
  by_cases c5:x.kind=5
  ·simp[BX,je,← hH,c5,Hn]
   exact same
  by_cases c6:x.kind=6
  ·simp[BX,je,← hH,c6,Hn]
   exact same
  by_cases c7:x.kind=7
  ·simp[BX,je,← hH,c7,Hn]
   exact same
  have c11:x.kind=11:=by omega
  simp[BX,je,← hH,c11,Hn]
  exact same
theorem b9e (e:Expr) (he:EW e) (S:List Str) (h:List PObj) (hk:KN h S):∃h',wn L 88 [wq e,.ptr 1 0] h=some (.tuple [],h')∧KN h' (S++AM e):=by
 suffices H:∃r,wn L 88 [wq e,.ptr 1 0] h=some r∧r.1 = .tuple []∧KN r.2 (S++AM e) by
  obtain⟨⟨v,h'⟩,h1,h2,h3⟩:=H
  simp only at h2; subst h2
  exact⟨h',h1,h3⟩
 have b1:=(aj.1 hk.box).1
 have hE:=Ed hL e h
 refine zq (hL 88 _ rfl) rfl ?_
 simp[JF,hE]
 refine c0M hL e he (cs:=[.ptr 1 0]) (by simp) (by simp) (by simp) (λm h'=>KN h' (S++A7 m)∧h'[h.length]? = some (.loop true)) [] ⟨by simpa[A7] using hk.loop _,by simp⟩ ?_ ?_
 ·rintro x hx m h' ⟨h1,h2⟩
  obtain⟨h3,h4,h5,h6⟩:=b5W hL h.length (by omega) x _ h' h1 h2
  exact⟨h3,h4,by rw[b7j,← az]; exact h5,h6⟩
 ·rintro h' ⟨h1,h2⟩
  refine⟨h2,?_⟩
  simp[xm,xa,xT,wM]
  exact h1.gone (by omega) _
theorem c2m (p:Prog) (hw:PW p):∃h',wn L 43 [xd p] []=some (.map (some 0),h')∧KN h' (Az p):=by
 suffices H:∃r,wn L 43 [xd p] []=some r∧r.1 = .map (some 0)∧KN r.2 (Az p) by
  obtain⟨⟨v,h'⟩,h1,h2,h3⟩:=H
  simp only at h2; subst h2
  exact⟨h',h1,h3⟩
 refine zq (hL 43 _ rfl) rfl ?_
 have f0:(PV.map none).cells=[.map none]:=rfl
 simp[Jo,f0]
 rw[M7]
 refine xk p.enums.length (λj st=>∃y4 y5 y10 y11 y12 g h',st=⟨[xd p,.loc 0 (xd p).cells,.map none,.ptr 1 0,y4,y5,.dead,.list false (p.enums.map wE),.int .i64 p.enums.length,.int .i64 j,y10,y11,y12,.dead,.dead,.dead],[],g,h'⟩∧KN h' ((p.enums.take j).flatMap λu=>u.name::u.tags)) ?_ ?_ ⟨_,_,_,_,_,_,[.map [],.cells [.map (some 0)]],rfl,⟨⟨[],rfl,by simp⟩,rfl⟩⟩
 ·rintro j hj st ⟨y4,y5,y10,y11,y12,g,h',rfl,hk⟩ ih
  have fV:=wC j (by have:=hw.enums; omega)
  have nk:=hw.tags _ (ai hj)
  obtain⟨m,r,h0,hr,dY⟩:=hk.add p.enums[j].name
  have h1:=hk.box
  simp[hj,h0,h1,hr,wZ]
  rw[M6]
  refine xk p.enums[j].tags.length (λi st=>∃y5 g1 g h',st=⟨[xd p,.loc 0 (xd p).cells,.map none,.ptr 1 0,.loc g1 (wE p.enums[j]).cells,y5,.dead,.list false (p.enums.map wE),.int .i64 p.enums.length,.int .i64 j,.list false (p.enums[j].tags.map .str),.int .i64 p.enums[j].tags.length,.int .i64 i,.dead,.dead,.dead],[],g,h'⟩∧KN h' ((p.enums.take j).flatMap (λu=>u.name::u.tags)++p.enums[j].name::p.enums[j].tags.take i)) ?_ ?_ ⟨_,_,_,_,rfl,by simpa using dY⟩
  ·rintro i hi st ⟨y5,g1,g,h',rfl,hk⟩ ih2
   have lq:=wC i (by omega)
   obtain⟨m,r,h0,hr,dY⟩:=hk.add p.enums[j].tags[i]
   have h1:=hk.box
   simp[hj,hi,h0,h1,hr,wZ,lq]
   have e:(p.enums.take j).flatMap (λu=>u.name::u.tags)++p.enums[j].name::p.enums[j].tags.take (i+1)=(p.enums.take j).flatMap (λu=>u.name::u.tags)++p.enums[j].name::p.enums[j].tags.take i++[p.enums[j].tags[i]]:=by
    rw[yD hi,az]; rfl
   exact ih2 _ ⟨_,_,_,_,rfl,by rw[e]; exact dY⟩
  ·rintro st ⟨y5,g1,g,h',rfl,hk⟩
   rw[aB] at hk
   simp[fV]
   exact ih _ ⟨_,_,_,_,_,_,h',rfl,by rw[yD hj,bu,cJ]; exact hk⟩
 ·rintro st ⟨y4,y5,y10,y11,y12,g,h',rfl,hk⟩
  rw[aB] at hk
  simp
  rw[M8]
  refine xk p.nodes.length (λj st=>∃y6 g h',st=⟨[xd p,.loc 0 (xd p).cells,.map none,.ptr 1 0,y4,y5,y6,.list false (p.enums.map wE),.int .i64 p.enums.length,.int .i64 p.enums.length,y10,y11,y12,.list false (p.nodes.map wA),.int .i64 p.nodes.length,.int .i64 j],[],g,h'⟩∧KN h' (p.enums.flatMap (λu=>u.name::u.tags)++(p.nodes.take j).flatMap Cm)) ?_ ?_ ⟨_,_,h',rfl,by simpa using hk⟩
  ·rintro j hj st ⟨y6,g,h',rfl,hk⟩ ih
   have fV:=wC j (by have:=hw.nodes; omega)
   obtain⟨N,hN⟩:∃N,N=p.nodes[j]:=⟨_,rfl⟩
   have hn:=hw.ns _ (ai hj)
   rw[← hN] at hn
   have dN:∀d∈vars N,d.clock.length≤1600:=by
    intro d hd
    unfold vars at hd
    rcases ak.1 hd with hd|hd
    ·rcases ak.1 hd with hd|hd
     ·exact(hn.is d hd).clock
     ·exact(hn.os d hd).clock
    ·exact(hn.ls d hd).clock
   have mG:(vars N).length≤4800:=by have:=hn.ins; have:=hn.outs; have:=hn.locals; simp[vars]; omega
   obtain⟨dI,v1⟩:=My hL N hn.ins hn.outs hn.locals dN
   obtain⟨m,r,h0,hr,dY⟩:=hk.add N.name
   obtain⟨h3,c3,k3⟩:=N8 hL (vars N) mG dN false _ _ dY
   obtain⟨h4,c4,k4⟩:=Oa hL N.eqs N.autos hn.eqs (λq hq=>(hn.es q hq).left) hn.autos (λa ha x hx=>c0C hL x (hn.autos.ss a ha x hx)) _ _ k3
   obtain⟨T,hT⟩:∃T,T=p.enums.flatMap (λu=>u.name::u.tags)++(p.nodes.take j).flatMap Cm++[N.name]++Ay (vars N)++(N.eqs.flatMap (·.left)++yL N.autos):=⟨_,rfl⟩
   rw[← hT] at k4
   have u4:Takes L 88 [.ptr 1 0] (λE h=>KN h (T++E.flatMap AM)):=⟨λe l h _ he hi=>by
    obtain⟨h',h1,h2⟩:=b9e hL e he _ h hi
    exact⟨h',h1,by rw[bu,cJ,← az]; exact h2⟩⟩
   obtain⟨h5,c5,k5⟩:=c2z hL u4 N hn [] h4 (by simpa using k4)
   have h1:=hk.box
   have b2:=dY.box
   have b3:=k3.box
   simp[hj,← hN,h0,h1,hr,wZ,v1,b2,b3,c3,c4,c5,fV]
   refine ih _ ⟨_,_,h5,rfl,k5.congr λy =>?_⟩
   rw[yD hj,← hN,bu (xs:=p.nodes.take j),cJ,hT]
   have e1:Cm N=N.name::Bu (vars N)++(N.eqs.flatMap (·.left)++yL N.autos)++(Dh N).flatMap AM:=rfl
   rw[e1]
   simp only[aY,ak,ay,aO,N7,or_assoc,List.not_mem_nil,or_false,false_or]
  ·rintro st ⟨y6,g,h',rfl,hk⟩
   rw[aB] at hk
   have h1:=hk.box
   simp[xm,h1]
   exact hk
theorem c2n (n:Nat) (hn:n≤1000000) (h:List PObj):wn L 44 [.int .i64 n] h=some (.str (Go.Lib.decDigits n),h):=by
 rw[Ob (hL 44 _ rfl) rfl rfl]
 have h1 : -9223372036854775808≤(n:Int)∧(n:Int)≤9223372036854775807:=by omega
 have h2:Go.Lib.itoa (n:Int)=Go.Lib.decDigits n:=by
  unfold Go.Lib.itoa
  rw[af (by omega)]; rfl
 have hx:DR [.int .i64 n] h=some (.str (Go.Lib.decDigits n),h):=by
  simp only[DR]
  rw[ah h1,h2]
 have hm:[PV.int .i64 n].map dem=[PV.int .i64 n]:=rfl
 rw[hm,hx]; rfl
theorem c2o (p:Prog) (hw:PW p) (hp:parts p≤1600) (base:Str) (hb:base.length≤50):∃h',wn L 19 [xd p,.str base] []=some (.str (BH p base),h'):=by
 suffices H:∃r,wn L 19 [xd p,.str base] []=some r∧r.1 = .str (BH p base) by
  obtain⟨⟨v,h'⟩,h1,h2⟩:=H
  simp only at h2; subst h2
  exact⟨h',h1⟩
 obtain⟨h',hc,hk⟩:=c2m hL p hw
 obtain⟨⟨l,h0,hm⟩,_⟩:=hk
 have dp:=NM p
 obtain⟨m,m1,m2,dC,mO,hf⟩:=J8 p base
 rw[hf]
 have key:∀k:Nat,k≤1700→wn L 44 [.int .i64 k] []=some (.str (Go.Lib.decDigits k),[])∧base.length+1≤4611686018427387904∧base.length+1+(Go.Lib.decDigits k).length≤4611686018427387904∧base.length+((Go.Lib.decDigits k).length+1)≤4611686018427387904:=by
  intro k hk
  have:=Kd 3 k (by have:(10:Nat) ^ (3+1)=10000:=rfl; omega)
  exact⟨c2n hL k (by omega) [],by omega,by omega,by omega⟩
 refine zq (hL 19 _ rfl) rfl ?_
 simp[Jk,hc]
 rw[MZ]
 refine xk (m - 1) (λj st=>∃y6,st=⟨[xd p,.str base,.loc 0 (xd p).cells,.str [],.map (some 0),.int .i64 (j+1:Nat),y6],[],1,h'⟩) ?_ ?_ ⟨_,rfl⟩
 ·rintro j hj st ⟨y6,rfl⟩ ih
  obtain⟨k1,k2,k3,k4⟩:=key (j+1) (by omega)
  have i8:=wC (j+1) (by omega)
  have dC:=dC (j+1) (by omega) (by omega)
  have hx:x8 base (j+1)=base++95::Go.Lib.decDigits (j+1):=rfl
  obtain⟨r,hr,el,_⟩:=Au (x8 base (j+1)) l
  rw[ah ((hm _).2 dC)] at el
  rw[hx] at hr
  cases r with
  | none=>simp at el
  | some q =>
    obtain⟨i,v⟩:=q
    simp only[aA,aa] at el
    subst el
    try simp at k1
    try simp at i8
    have qf:((j+1+1:Nat):Int)=(j:Int)+1+1:=by omega
    rw[qf] at ih
    simp[k1,k2,k3,k4,i8,h0,hr,wZ]
    exact ih _ ⟨_,rfl⟩
 ·rintro st ⟨y6,rfl⟩
  have rT:m - 1+1=m:=by omega
  rw[rT]
  obtain⟨k1,k2,k3,k4⟩:=key m (by omega)
  have hx:x8 base m=base++95::Go.Lib.decDigits m:=rfl
  obtain⟨r,hr,el,_⟩:=Au (x8 base m) l
  rw[af (λhh=>mO ((hm _).1 hh))] at el
  simp only[Option.map_eq_none_iff] at el
  subst el
  rw[hx] at hr
  simp[k1,k2,k3,k4,h0,hr,wZ,xm,hx]
end
theorem B0:Enc wA 8:=⟨λ_=>rfl,λ_=>rfl,λ_=>rfl,by decide⟩
theorem Oy (en:List Enum) (l:List Node) (h:List PObj) (k:Nat) (C:List PV) (hk:h[k]? = some (.cells C)) (hC:C.take (l.length*8)=(l.map wA).flatMap PV.cells):
  AS h [.agg [.list false (en.map wE),.rowp k 8 true l.length]]=some [xd ⟨en,l⟩]:=by
 have h1:BF h (.rowp k 8 true l.length)=some (.list false (l.map wA)):=by simp only[BF,true_or,if_true,hk,B0.els l C hC,aA]
 have h2:BF h (.list false (en.map wE))=some (.list false (en.map wE)):=rfl
 simp only[AS,xF,Ad,h1,h2,aw,aA]
 rfl
theorem b9i (ns:List Node) (m:Node) (ja:ns.length≤1600):∃(v0:PV) (H0 H1:List PObj) (k:Nat),(∀V l g,Ax [] 8 true 184 (ns.map wA) (.list true []) ⟨V,l,g,[]⟩=some (v0,⟨V,l,g,H0⟩)) ∧
  (∀V l g,Ax H0 8 true 184 [wA m] v0 ⟨V,l,g,H0⟩=some (.rowp k 8 true (ns.length+1),⟨V,l,g,H1⟩))∧H1[k]? = some (.cells ((ns.map wA).flatMap PV.cells++(wA m).cells)):=by
 by_cases h:ns=[]
 ·subst h
  exact⟨.list true [],[],[.cells (wA m).cells],0,λ_ _ _=>rfl,λ_ _ _=>rfl,rfl⟩
 ·have hm:¬ns.map wA=[]:=by simpa using h
  have h1:ns.length≤2147483648:=by omega
  have h2:=B0.head ns
  have h3:=B0.cellsLen ns
  refine⟨.rowp 0 8 true ns.length,[.cells ((ns.map wA).flatMap PV.cells)],[.gone,.cells ((ns.map wA).flatMap PV.cells++(wA m).cells)],1,?_,?_,rfl⟩
  ·intro V l g
   simp only[Ax,af hm,h2,aN,h1,B0.cellsDem]
   rfl
  ·intro V l g
   have h4:ns.length*8≤((ns.map wA).flatMap PV.cells).length:=by omega
   have h5:ns.length+[wA m].length≤2147483648:=by simp only[ck]; omega
   have h6:xf 8 [wA m]=true:=B0.head [m]
   have h7:([wA m].flatMap PV.cells).map PI.dem=(wA m).cells:=by have:=B0.cellsDem [m]; simp
   have h8:List.take (ns.length*8) ((ns.map wA).flatMap PV.cells)=(ns.map wA).flatMap PV.cells:=bS (by omega)
   simp only[Ax,bZ,h4,h5,h6,h7,h8,B0.cellsDem]
   rfl
theorem b51 (p:Prog) (hp:PF p) (base:Str):∃h',wn LS 5 [xd p,.str base] []=some (.bool true,h'):=by
 have hL:∀k f,LS k=some f→LS k=some f:=λ_ _ h=>h
 suffices H:∃r,wn LS 5 [xd p,.str base] []=some r∧r.1 = .bool true by
  obtain⟨⟨r,h⟩,h1,h2⟩:=H
  simp only at h2; subst h2
  exact⟨h,h1⟩
 have hh:=c0E hL p hp []
 have ko:=c0D
 refine zq rfl rfl ?_
 cases hv:Ft p with
 | true =>
   rw[hv] at hh
   simp[Bs,xm,xa,xT,ym,wM,hh,ko]
 | false =>
   rw[hv] at hh
   by_cases h0:p.nodes=[]
   ·have va:p.nodes.length=0:=by rw[h0]; rfl
    have mL:(p.nodes.length:Int)=0:=by omega
    simp[Bs,xm,xa,xT,ym,wM,hh,ko,va,mL]
   have iP:¬(p.nodes.length:Int)=0:=by
    have:p.nodes.length≠0:=λe=>h0 (bj.1 e)
    omega
   by_cases eC:30<base.length
   ·have ii:(30:Int)<base.length:=by omega
    simp[Bs,xm,xa,xT,ym,wM,hh,ko,h0,iP,eC,ii]
   have ii:¬(30:Int)<base.length:=by omega
   by_cases dy:base=[]
   ·subst dy
    simp[Bs,xm,xa,xT,ym,wM,hh,ko,h0,iP]
   have fI:0<base.length:=by have:base.length≠0:=λe=>dy (bj.1 e); omega
   have jA:¬(base.length:Int)=0:=by omega
   have jB:(0:Int)<base.length:=by omega
   have fL:=J6 hL base[0] []
   cases oL:low base[0] with
   | false =>
     rw[oL] at fL
     simp[Bs,xm,xa,xT,ym,wM,hh,ko,h0,iP,eC,ii,dy,jA,fI,jB,fL]
   | true =>
     rw[oL] at fL
     obtain⟨ns,n,hn⟩:∃ns n,p.nodes=ns++[n]:=⟨p.nodes.dropLast,p.nodes.getLast h0,(List.dropLast_concat_getLast h0).symm⟩
     have cM:p.nodes.length=ns.length+1:=by rw[hn]; simp
     have hs:parts p<1500:=by unfold Ft at hv; simpa using hv
     have hw:=hp.pw (by omega:parts p≤1600)
     have em:=hw.nodes
     have fV:IntKind.i64.wrap ((p.nodes.length:Int) - 1)=ns.length:=by
      rw[show (p.nodes.length:Int) - 1=ns.length by omega]
      exact xD _ (by omega) (by omega)
     have cQ:ns.length<p.nodes.length:=by omega
     have xh:p.nodes[ns.length]'cQ=n:=(List.getElem_of_eq hn cQ).trans (by simp)
     obtain⟨h1,c1⟩:=Jb hL p hw (by omega)
     have qh:=c0u p []
     cases hb:A1 p with
     | some b =>
       rw[hb] at c1
       have ll:=b7q hb
       simp only[zQ,bI,zP] at c1
       simp[Bs,xm,xa,xT,ym,wM,hh,ko,h0,iP,eC,ii,dy,jA,fI,jB,fL,fV,cQ,xh,qh,c1,ll,Ae,BG]
     | none =>
       rw[hb] at c1
       simp only[zQ,cD,DZ,zP] at c1
       by_cases oM:200<n.locals.length
       ·have lr:(200:Int)<n.locals.length:=by omega
        simp[Bs,xm,xa,xT,ym,wM,hh,ko,h0,iP,eC,ii,dy,jA,fI,jB,fL,fV,cQ,xh,qh,c1,Ae,BG,oM,lr]
       have lr:¬(200:Int)<n.locals.length:=by omega
       by_cases lI:200<n.eqs.length
       ·have mP:(200:Int)<n.eqs.length:=by omega
        simp[Bs,xm,xa,xT,ym,wM,hh,ko,h0,iP,eC,ii,dy,jA,fI,jB,fL,fV,cQ,xh,qh,c1,Ae,BG,oM,lr,lI,mP]
       have mP:¬(200:Int)<n.eqs.length:=by omega
       simp[Bs,xm,xa,xT,ym,wM,hh,ko,h0,iP,eC,ii,dy,jA,fI,jB,fL,fV,cQ,xh,qh,c1,Ae,BG,oM,lr,lI,mP]
       refine Kq base (λb=>if low b then 0 else 1) (λi (_:Unit)=>[(8,.int .i64 i)]) () ?_ ?_ ?_ rfl
       ·intro i hi jz x ih
        have mQ:(i:Int)<base.length:=by omega
        have r5:low base[i]=true:=by
         cases e:low base[i] with
         | true=>rfl
         | false=>simp[e] at jz
        have dS:=J6 hL base[i] []
        rw[r5] at dS
        have oF:=wC i (by omega)
        simp[hi,mQ,dS,oF]
        have:=ih ()
        simpa using this
       ·intro i hi jz nA x
        have mQ:(i:Int)<base.length:=by omega
        have r5:low base[i]=false:=by
         cases e:low base[i] with
         | false=>rfl
         | true=>simp[e] at jz
        have dS:=J6 hL base[i] []
        rw[r5] at dS
        simp[hi,mQ,dS,ko,xm,xa,xT,ym,wM]
       ·intro dm x
        have lW:base.all low=true:=by
         rw[aD]
         intro b hb
         have:=zd.1 dm b hb
         cases e:low b with
         | true=>rfl
         | false=>simp[e] at this
        obtain⟨ge,mR⟩:=b7g p base dy (by omega) lW (by omega)
        obtain⟨h3,c3⟩:=c2o hL p hw (by omega) base (by omega)
        have ev:=c0I p base
        obtain⟨s,fx⟩:∃s,s=BH p base:=⟨_,rfl⟩
        rw[← fx] at ge mR c3 ev
        have mS:(⟨p.enums,ns++[n]⟩:Prog)=p:=by rw[← hn]
        obtain⟨ga,gb⟩:=c2v (en:=p.enums) (ns:=ns) (n:=n) (s:=s) (by rw[mS]; exact hb) (by rw[mS]; exact ev) ge (by omega) (by omega)
        have kq:=NJ (en:=p.enums) (ns:=ns) (n:=n) (s:=s) (k:=1) (by rw[mS]; exact hw) (by omega) (by omega) (by omega)
        have mT:=NJ (en:=p.enums) (ns:=ns) (n:=n) (s:=s) (k:=2) (by rw[mS]; exact hw) (by omega) (by omega) (by omega)
        have mn:=NL (en:=p.enums) (ns:=ns) (n:=n) (k:=1) mR (by omega)
        have lV:=NL (en:=p.enums) (ns:=ns) (n:=n) (k:=2) mR (by omega)
        rw[mS] at mn lV
        obtain⟨h4,c4⟩:=Jb hL _ kq (by omega)
        obtain⟨h5,c5⟩:=Jb hL _ mT (by omega)
        rw[ga] at c4
        rw[gb] at c5
        simp only[zQ,cD,bI,DZ,zP] at c4 c5
        have qi:¬((base.length:Nat):Int)<base.length:=by omega
        clear hh oL fL dm lW ge ev ga gb kq mT mn lV hb hw hs fI jB eC ii dy jA hv hp
        have k1:n.locals.length≤2147483648:=by omega
        have k2:n.locals.length+1≤2147483648:=by omega
        have k3:n.eqs.length≤2147483648:=by omega
        have k4:n.eqs.length+1≤2147483648:=by omega
        have ej:List.take ns.length (List.map wA p.nodes)=List.map wA ns:=by rw[hn]; simp
        have r6:ns.length≤p.nodes.length:=by omega
        have jg:PV.agg [.str n.name,.list false (n.ins.map wv),.list false (n.outs.map wv),.list false (n.locals.map wv++[.agg [.str s,.int .i64 1,.list false []]]),.list false (n.eqs.map wH++[.agg [.list false [.str s],.int .i64 1,.int .i64 0,.int .i64 1,.int .i64 0,.str [],.list false []]]),.list false (n.autos.map wI),.list false (n.assume.map wq),.list false (n.ensure.map wq)]=wA (wL n s 1):=by
         unfold wA wL
         simp only[a8]
         rfl
        have jh:PV.agg [.str n.name,.list false (n.ins.map wv),.list false (n.outs.map wv),.list false (n.locals.map wv++[.agg [.str s,.int .i64 1,.list false []]]),.list false (n.eqs.map wH++[.agg [.list false [.str s],.int .i64 1,.int .i64 0,.int .i64 1,.int .i64 0,.str [],.list false []],.agg [.list false [.str s],.int .i64 1,.int .i64 0,.int .i64 1,.int .i64 0,.str [],.list false []]]),.list false (n.autos.map wI),.list false (n.assume.map wq),.list false (n.ensure.map wq)]=wA (wL n s 2):=by
         unfold wA wL
         simp only[a8]
         rfl
        have hQ:xf 7 (n.eqs.map wH++[.agg [.list false [.str s],.int .i64 1,.int .i64 0,.int .i64 1,.int .i64 0,.str [],.list false []]])=true:=by cases n.eqs<;>rfl
        have k5:n.eqs.length≤2147483646:=by omega
        have k6:(ns.length:Int)<(ns.length:Int)+1:=by omega
        obtain⟨v0,H0,H1,k,a1,a2,a3⟩:=b9i ns (wL n s 1) (by omega)
        have hC:((ns++[wL n s 1]).map wA).flatMap PV.cells=(ns.map wA).flatMap PV.cells++(wA (wL n s 1)).cells:=by simp only[a8,bu,aC,bw,bc,List.flatMap_nil,aV]
        have th:=B0.cellsLen (ns++[wL n s 1])
        have de:=Oy p.enums (ns++[wL n s 1]) H1 k _ a3 (by rw[← hC]; exact bS (by rw[th]; omega))
        rw[ap,ck] at de
        obtain⟨C,qj⟩:∃C,C=(ns.map wA).flatMap PV.cells++(wA (wL n s 1)).cells:=⟨_,rfl⟩
        rw[← qj] at a3
        obtain⟨C2,r7⟩:∃C2,C2=(ns.map wA).flatMap PV.cells++(wA (wL n s 2)).cells:=⟨_,rfl⟩
        have oN:=B0.cellsLen ns
        have du:wS 8 true C (ns.length*8) (wA (wL n s 2))=some C2:=by
         have e1:∀v:List PV,v.length=8→(C.take (ns.length*8)++(v++C.drop (ns.length*8+8)))=(ns.map wA).flatMap PV.cells++v:=by
          intro v hv
          rw[qj,List.take_left' oN,List.drop_of_length_le (by rw[ap,oN]; exact ao _),aV]
         have e2:ns.length*8+8≤C.length:=by rw[qj,ap,oN]; exact ao _
         have e3:wA (wL n s 2) = .agg (wA (wL n s 2)).cells:=rfl
         rw[e3]
         simp only[wS,if_true]
         rw[ah ⟨rfl,e2⟩,e1 _ rfl,r7]
        have jR:k<H1.length:=(aj.1 a3).1
        have a4:(H1.set k (.cells C2))[k]? = some (.cells C2):=aZ jR
        have tj:((ns++[wL n s 2]).map wA).flatMap PV.cells=C2:=by rw[r7]; simp only[a8,bu,aC,bw,bc,List.flatMap_nil,aV]
        have oO:=B0.cellsLen (ns++[wL n s 2])
        have ix:=Oy p.enums (ns++[wL n s 2]) _ k _ a4 (by rw[← tj]; exact bS (by rw[oO]; exact ao _))
        rw[ap,ck] at ix
        have vb:IntKind.i64.wrap ((n.eqs.length:Int)+2 - 1)=(n.eqs.length:Int)+1:=by
         rw[show (n.eqs.length:Int)+2 - 1=(n.eqs.length:Int)+1 by omega]
         exact xD _ (by omega) (by omega)
        clear qj r7 tj oO th hC oN
        simp[qi,c3,k1,k2,k3,k4,ej,r6,a1,a2,jg,jh,hQ,k5,k6,de,c4,a3,Ae,BG,du,ix,c5,vb,ko,zD,Ac,xm,xa,xT,ym,wM]
end PI.Sc
