import Derived.Test.YtljbhgpanekomaaGreatPiCaSpec
import Derived.Test.YtljbhgpanekomaaGreatPiPrimSortF
import Derived.Test.YtljbhgpanekomaaGreatPiLaw
import Derived.Test.YtljbhgpanekomaaGreatPiCaCode
import Derived.Carry
import Derived.ChangeSame
import Derived.OpenShut
import Derived.Test.YtljbhgpanekomaaGreatPiFunc
import Derived.Shelf.Strings.OnBuilder
import Derived.Shelf.Strings.BuilderK
import Derived.Shelf.Strings.Search1
import Derived.Shelf.Strconv.Itoa3
import Derived.Shelf.Strconv.ErrVarAll
import Derived.Shelf.Sort.Plain
import Derived.Shelf.Slices.In.SortNone
import Derived.Sort.OwnSortedInts
set_option maxRecDepth 100000
set_option linter.unusedSimpArgs false
set_option linter.unusedVariables false
set_option linter.unusedSectionVars false
namespace PI.Sc
open Go (IntKind BinOp UnOp)
open Short
theorem TopAt.low {h:List PObj} {b b' n o d:Nat} {i dv up:PV} {f:Fr} (t:TopAt h b b' n o d i dv up f []) (k:Nat) (hk:k<4) (ob:PObj):TopAt (h.set k ob) b b' n o d i dv up f []:=by
 have key:∀j,4≤j→(h.set k ob)[j]? = h[j]? := λj hj=>ai (by omega)
 have h4:=t.four
 exact⟨t.ln,t.lo,t.ld,t.un,t.uo,t.ud,t.no,t.nd,t.od,t.four,(key _ (by have:=t.ln; omega)).trans t.hn,(key _ (by have:=t.lo; omega)).trans t.ho,(key _ (by have:=t.ld; omega)).trans t.hd,t.hi.imp id (fun⟨m,e1,e2,e3,e4,e5,e6,e7⟩=>⟨m,e1,e2,e3,e4,e5,e6,(key _ (by omega)).trans e7⟩),t.row.imp id (fun⟨k,e1,e2,e3,e4⟩=>⟨k,e1,e2,e3,(key _ (by omega)).trans e4⟩),t.rne,t.hup⟩
def IZ (ents:zV) (ns:List Node) (i:Nat):Prop:=∀x,((1:Int),x)∈A0 ents↔x∈(ns.take i).map (·.name)
section
variable {L:Nat→Option PFunc} (hL:∀k f,LS k=some f→L k=some f) (en:List Enum) (ns:List Node) (a b:Int) (ents:zV)
include hL
theorem c6u (i:Nat) (hi:i<ns.length) (eO:ns.length≤1100000) (hn:NW ns[i]) (pQ:ns[i].parts≤1100000) (fL:∀d∈ns[i].ins++ns[i].outs,d.clock=[]) (tags:List Str) (ej:Do ents tags) (dx:NodesIn ents ns i) (jU:IZ ents ns i) (h:List PObj) (h4:4≤h.length) (h2:h[2]? = some (yF ents)) (h3:h[3]? = some (yA en ns a b)):
  ∃h',yI L 29 [.ptr 3 0,.int .i64 i] h=some (zW 1 (C5 (ns.take i) tags ns[i]),h')∧h'[0]? = h[0]?∧h'[1]? = h[1]?∧4≤h'.length∧(C5 (ns.take i) tags ns[i]=none→h'[2]? = some (yF (ents++[((1,ns[i].name),(i:Int))]))∧h'[3]? = some (yA en ns i (-1))):=by
 obtain⟨N,hN⟩:∃N,N=ns[i]:=⟨_,rfl⟩
 rw[← hN] at hn pQ fL ⊢
 have cY:(ns.take i).length=i:=by simp; omega
 obtain⟨R,hR⟩:∃R,R=C5 (ns.take i) tags N:=⟨_,rfl⟩
 rw[← hR]
 suffices H:∃res,yI L 29 [.ptr 3 0,.int .i64 i] h=some res∧∃h',res=(zW 1 R,h')∧h'[0]? = h[0]?∧h'[1]? = h[1]?∧4≤h'.length∧(R=none→h'[2]? = some (yF (ents++[((1,N.name),(i:Int))]))∧h'[3]? = some (yA en ns i (-1))) by
  obtain⟨res,e1,h',e2,e3⟩:=H
  exact⟨h',by rw[e1,e2],e3⟩
 have mY:h[3]? = some (.cells [.list false (en.map yG),.list false (ns.map yL),.int .i64 a,.int .i64 b,.map (some 2)]):=h3
 have hA:∀X:PObj,(h++[X])[3]? = some (.cells [.list false (en.map yG),.list false (ns.map yL),.int .i64 a,.int .i64 b,.map (some 2)]):=λX=>by rw[al (by omega)]; exact mY
 obtain⟨H1,fP⟩:∃H1,(h++[PObj.cells [.str N.name,.list false (N.ins.map yw),.list false (N.outs.map yw),.list false (N.locals.map yw),.list false (N.eqs.map yZ),.list false (N.autos.map zk),.list false (N.assume.map yq),.list false (N.ensure.map yq)]]).set 3 (PObj.cells [.list false (en.map yG),.list false (ns.map yL),.int .i64 i,.int .i64 (-1),.map (some 2)])=H1:=⟨_,rfl⟩
 have H1l:H1.length=h.length+1:=by rw[← fP]; simp
 have H1k:∀k,k<h.length→k≠3→H1[k]? = h[k]? := λk h1 h2=>by rw[← fP,ai (Ne.symm h2),al h1]
 have H13:H1[3]? = some (yA en ns i (-1)):=by rw[← fP,av (by simp; omega)]; rfl
 have H12:H1[2]? = some (yF ents):=(H1k 2 (by omega) (by decide)).trans h2
 have H1n:H1[h.length]? = some (.cells [.str N.name,.list false (N.ins.map yw),.list false (N.outs.map yw),.list false (N.locals.map yw),.list false (N.eqs.map yZ),.list false (N.autos.map zk),.list false (N.assume.map yq),.list false (N.ensure.map yq)]):=by rw[← fP,ai (by omega)]; simp
 have pR:∀d∈vars N,DW d:=by
  intro d hd
  unfold vars at hd
  rcases aw.1 hd with hd|hd
  ·rcases aw.1 hd with hd|hd
   ·exact hn.is d hd
   ·exact hn.os d hd
  ·exact hn.ls d hd
 have nE:(vars N).length≤3300000:=by have:=hn.ins; have:=hn.outs; have:=hn.locals; simp[vars]; omega
 by_cases mt:N.name∈(ns.take i).map (·.name)
 ·have vY:R=some ⟨i,-1,7⟩:=by rw[hR]; unfold C5; rw[af mt,cY]
  have eb:=KZ hL en ns i (-1) H1 H13 ents H12 (1,N.name) i ((jU _).2 mt)
  have fH:Br (1,N.name) = .agg [.int .i64 1,.str N.name]:=rfl
  rw[fH] at eb
  refine DP (hL 29 _ rfl) rfl ?_
  simp[FV,mY,hi,← hN,hA,fP,H1n,eb,vY,zW]
  exact⟨H1k 0 (by omega) (by decide),H1k 1 (by omega) (by decide),by omega⟩
 have eb:=K0 hL en ns i (-1) H1 H13 ents H12 (1,N.name) i (λhh=>mt ((jU _).1 hh))
 have fH:Br (1,N.name) = .agg [.int .i64 1,.str N.name]:=rfl
 rw[fH] at eb
 obtain⟨ents',kX⟩:∃e,e=ents++[((1,N.name),(i:Int))]:=⟨_,rfl⟩
 rw[← kX] at eb ⊢
 obtain⟨H3,kW⟩:∃H3,H3=H1.set 2 (yF ents'):=⟨_,rfl⟩
 rw[← kW] at eb
 have H3l:H3.length=h.length+1:=by rw[kW]; simpa using H1l
 have H3k:∀k,k<H1.length→k≠2→H3[k]? = H1[k]? := λk h1 h2=>by rw[kW,ai (Ne.symm h2)]
 have H32:H3[2]? = some (yF ents'):=by rw[kW,av (by omega)]
 have H33:H3[3]? = some (yA en ns i (-1)):=(H3k 3 (by omega) (by decide)).trans H13
 have H3n:=(H3k h.length (by omega) (by omega)).trans H1n
 have H30:H3[0]? = h[0]? := (H3k 0 (by omega) (by decide)).trans (H1k 0 (by omega) (by decide))
 have H31:H3[1]? = h[1]? := (H3k 1 (by omega) (by decide)).trans (H1k 1 (by omega) (by decide))
 have pS:Do ents' tags:=by
  intro x
  rw[kX,← ej x]
  simp[A0]
 have j8:NodesIn ents' ns i:=by
  have j9:∀x:Str,AC (1,x) ents'=(AC (1,x) ents).or (if x=N.name then some (i:Int) else none):=by
   intro x
   rw[kX]
   generalize ents=l
   induction l with
   | nil=>by_cases hx:x=N.name<;>simp[AC,hx]
   | cons y l ih =>
     simp only[aK,AC]
     by_cases hy:((1:Int),x)=y.1
     ·rw[af hy,af hy]; rfl
     ·rw[ae hy,ae hy]; exact ih
  intro x
  have hx:=dx x
  cases hc:callee (ns.take i) x with
  | none =>
    rw[hc] at hx
    simp only at hx ⊢
    intro c fy
    rw[j9] at fy
    cases he:AC (1,x) ents with
    | some z =>
      rw[he] at fy
      have fy:z=c:=by simpa using fy
      subst fy
      exact hx z he
    | none =>
      rw[he] at fy
      rw[Option.none_or] at fy
      split at fy
      ·have:(i:Int)=c:=by simpa using fy
       omega
      ·simp at fy
  | some m =>
    rw[hc] at hx
    obtain⟨j,e1,e2,e3⟩:=hx
    exact⟨j,by rw[j9,e1]; rfl,e2,e3⟩
 obtain⟨H4,dQ,H4l,K4,t4⟩:=O6 hL H3 (by omega)
 obtain⟨H5,o5⟩:∃H5,(H4++[PObj.map []]).set (H3.length+2) (PObj.cells [.nilptr,.map (some H3.length),.map (some (H3.length+1)),.map (some H4.length),.list true []])=H5:=⟨_,rfl⟩
 have e5:(H4++[PObj.map []])[H3.length+2]? = some (.cells [.nilptr,.map (some H3.length),.map (some (H3.length+1)),.map none,.list true []]):=by rw[al (by omega)]; exact t4.hn
 have t5:=t4.newI rfl rfl
 rw[o5] at t5
 have H5l:H5.length=H4.length+1:=by rw[← o5]; simp
 rw[← H5l] at t5
 have K5:Kp H3.length H3 H5:=by
  refine⟨by omega,λk hk =>?_⟩
  rw[← o5,ai (by omega),al (by omega)]
  exact K4.2 k hk
 have at5:∀{H:List PObj},Kp H3.length H3 H→H[2]? = some (yF ents')∧H[3]? = some (yA en ns i (-1))∧H[0]? = h[0]?∧H[1]? = h[1]?∧4≤H.length∧H[h.length]? = some (.cells [.str N.name,.list false (N.ins.map yw),.list false (N.outs.map yw),.list false (N.locals.map yw),.list false (N.eqs.map yZ),.list false (N.autos.map zk),.list false (N.assume.map yq),.list false (N.ensure.map yq)]):=λ{H} hk=>
  ⟨(hk.2 2 (by omega)).trans H32,(hk.2 3 (by omega)).trans H33,(hk.2 0 (by omega)).trans H30,(hk.2 1 (by omega)).trans H31,by have:=hk.1; omega,(hk.2 _ (by omega)).trans H3n⟩
 obtain⟨a52,a53,a50,a51,a54,a5n⟩:=at5 K5
 obtain⟨hv,v1⟩:=Pd hL N hn.ins hn.outs hn.locals (λd hd=>(pR d hd).clock)
 obtain⟨H6,O,it,K6,H6l,t6,sf⟩:=Pe hL en ns i (-1) ents' tags pS (vars N) nE false H5 a52 a53 _ _ _ _ _ _ _ _ _ _ t5 [] (λx=>by simp[zr])
 have K6':=K5.trans K6
 obtain⟨a62,a63,a60,a61,a64,a6n⟩:=at5 K6'
 have hE:C5 (ns.take i) tags N=if (A6 [] tags (vars N)).1≠0 then some ⟨i,-1,(A6 [] tags (vars N)).1⟩ else match Cf ⟨ns.take i,(A6 [] tags (vars N)).2,yp N.ins,tags⟩ N.eqs 0 [] with
   | .inl (k,e)=>some ⟨i,k,e⟩
   | .inr d =>
     if (zt ⟨ns.take i,(A6 [] tags (vars N)).2,yp N.ins,tags⟩ d N.autos).1≠0 then some ⟨i,-1,(zt ⟨ns.take i,(A6 [] tags (vars N)).2,yp N.ins,tags⟩ d N.autos).1⟩
     else if yy (λe=>zx ⟨ns.take i,yp N.ins,yp N.ins,tags⟩ e 1) N.assume≠0 then some ⟨i,-1,yy (λe=>zx ⟨ns.take i,yp N.ins,yp N.ins,tags⟩ e 1) N.assume⟩
     else if yy (λe=>zx ⟨ns.take i,yp N.ins++yp N.outs,yp N.ins,tags⟩ e 1) N.ensure≠0 then some ⟨i,-1,yy (λe=>zx ⟨ns.take i,yp N.ins++yp N.outs,yp N.ins,tags⟩ e 1) N.ensure⟩
     else if zH (yp N.outs++yp N.locals) (zt ⟨ns.take i,(A6 [] tags (vars N)).2,yp N.ins,tags⟩ d N.autos).2=[] then none else some ⟨i,-1,8⟩:=by
  unfold C5
  rw[ae mt,cY]
  rfl
 rw[hE] at hR
 refine DP (hL 29 _ rfl) rfl ?_
 by_cases o6:(zO tags (vars N) []).1=0
 ·obtain⟨sg,hO6⟩:=sf o6
  obtain⟨vis,dI⟩:∃vis,vis=(zO tags (vars N) []).2:=⟨_,rfl⟩
  rw[← dI] at sg
  have kY:=Pf hL en ns i (-1) N.locals (by have:=hn.locals; omega) hn.ls false H6 a63 _ _ _ t6.holds vis sg
  have jh:C6 vis (vars N)=C6 vis N.locals:=by
   unfold C6 vars
   rw[Pg]
   have:yy (λd:Decl=>yy (λo:On=>need (decide (o.name∈vis)) 6) d.clock) (N.ins++N.outs)=0:=BW.2 λd hd=>by rw[fL d hd]; rfl
   rw[this]; rfl
  have sh:A6 [] tags (vars N)=(C6 vis N.locals,vis):=by
   unfold A6 AB
   rw[af o6,← dI]
   exact aL (λz=>(z,vis)) jh
  rw[sh] at hR
  rw[o6] at it
  simp[yx] at it
  by_cases si:C6 vis N.locals=0
  ·rw[si] at hR kY
   simp only[ne_eq,bB,if_false] at hR
   simp[yx] at kY
   obtain⟨S,hS⟩:∃S:Place,S=⟨ns.take i,vis,yp N.ins,tags⟩:=⟨_,rfl⟩
   rw[← hS] at hR
   simp[FV,mY,hi,← hN,hA,fP,H1n,eb,dQ,e5,o5,a5n,v1,it,a6n,kY]
   have t6':TopAt H6 H5.length H3.length (H3.length+2) H3.length (H3.length+1) (.map (some H4.length)) (.list true []) .nilptr ⟨O,[],[],[]⟩ []:=t6
   have sj:N.parts=1+yE Decl.parts N.ins+yE Decl.parts N.outs+yE Decl.parts N.locals+yE Eqn.parts N.eqs+yE (λe=>1+Expr.parts e) N.assume+yE (λe=>1+Expr.parts e) N.ensure+B1 N.autos:=rfl
   have nF:=K1 N.eqs
   have hdp:=K2 N.autos (λa ha x hx=>I0 x)
   refine c0g hL N.ins hn.ins H6 H5.length H3.length _ _ _ H4.length _ _ _ [] t6' rfl _ _ _ _ _ _ _ _ _ _ _ _ _ _ _ _ _ _ ?_
   intro y4 g7 H7 I H7l K7 t7 hI
   obtain⟨a72,a73,a70,a71,a74,a7n⟩:=at5 (K6'.trans K7)
   have H7l':H5.length=H7.length:=by omega
   rw[H7l'] at t7
   have t7':TopAt H7 H7.length H3.length (H3.length+2) H3.length (H3.length+1) (.map (some H4.length)) (.list true []) .nilptr ⟨O,[],I,[]⟩ []:=t7
   have kG:∀D df x,zr [(⟨O,D,I,df⟩:Fr)] x=true↔x∈S.vis:=λD df x=>by have:=sg x; rw[hS]; simpa[zr] using this
   simp[a7n]
   refine c0h hL en ns ents' i j8 S (by rw[hS]) N.eqs hn.eqs hn.es H7 a72 (-1) a73 H3.length _ _ _ _ _ _ _ t7' (kG _ _) rfl (λx=>by rw[hS]; exact hI x) (by simp only[bq]; omega) rfl _ _ _ _ _ _ _ _ _ _ _ _ _ _ _ _ ?_ ?_
   ·intro df fF y5 y6 g8 H8 c8 dv8 K8 vZ t8
    rw[fF] at hR
    simp only at hR
    have wc:df.length≤1100000:=by
     have h1:=((Fh S N.eqs [] df).1 ((Ph S N.eqs 0 [] df).1 fF)).1
     rw[h1,be]; omega
    have sk:H8[3]? = some (.cells [.list false (en.map yG),.list false (ns.map yL),.int .i64 i,.int .i64 c8,.map (some 2)]):=vZ
    obtain⟨H9,rC⟩:∃H9,H8.set 3 (PObj.cells [.list false (en.map yG),.list false (ns.map yL),.int .i64 i,.int .i64 (-1),.map (some 2)])=H9:=⟨_,rfl⟩
    have K9:Kp H3.length H7 H9:=by rw[← rC]; exact K8
    have t9:TopAt H9 H9.length H3.length (H3.length+2) H3.length (H3.length+1) (.map (some H4.length)) dv8 .nilptr ⟨O,df,I,df⟩ []:=by
     have:=t8.low 3 (by decide) (PObj.cells [.list false (en.map yG),.list false (ns.map yL),.int .i64 i,.int .i64 (-1),.map (some 2)])
     rw[rC] at this
     have hl:H8.length=H9.length:=by rw[← rC]; simp
     rw[hl] at this
     exact this
    obtain⟨a92,a93,a90,a91,a94,a9n⟩:=at5 ((K6'.trans K7).trans K9)
    simp[sk,rC,a9n]
    refine c0i hL en ns i (-1) ents' i j8 S (by rw[hS]) (by rw[hS]; exact pS) N.autos hn.autos.len (λx hx=>c4s hL en ns i (-1) ents' x (hn.autos.as x hx) (hn.autos.ss x hx) (λy hy=>by
     have h1:DS x≤B1 N.autos:=by
      rw[G9,FW]
      have:=Ei (λa=>1+yE State.parts a) hx
      omega
     have h2:y.parts≤DS x:=by rw[FW]; exact Ei _ hy
     omega)) H9 a92 a93 H3.length _ _ _ _ _ _ _ [] t9 (kG _ _) [] rfl (λx=>by rw[hS]; simp[A5,hI]) (by simp only; omega) _ _ _ _ _ _ _ _ _ _ _ _ _ _ _ _ ?_ ?_
    ·intro hz kZ dv10 df10 y7 g10 K10 mZ t10
     simp only[be] at hz mZ
     have t10':TopAt kZ kZ.length H3.length (H3.length+2) H3.length (H3.length+1) (.map (some H4.length)) dv10 .nilptr ⟨O,df10,I,df10⟩ []:=t10
     rw[hz,mZ] at hR
     simp only[ne_eq,bB,if_false] at hR
     have K10':=((K6'.trans K7).trans K9).trans K10
     obtain⟨a102,a103,a100,a101,a104,a10n⟩:=at5 K10'
     obtain⟨H11,c11,K11⟩:=O8 hL en ns i (-1) ents' i j8 ⟨ns.take i,yp N.ins,yp N.ins,tags⟩ rfl N.assume hn.assume hn.as [N.ins] (by simp) (by simp[Ad,yE]; have:=hn.ins; omega) (λx=>by simp) false false kZ a104 a102 a103
     have mb:AA yw [N.ins]=[.list false (N.ins.map yw)]:=rfl
     rw[mb] at c11
     have K11':=K10'.trans (K11.le K10'.1)
     by_cases nG:yy (λe=>zx ⟨ns.take i,yp N.ins,yp N.ins,tags⟩ e 1) N.assume=0
     ·rw[nG] at hR c11
      simp only[bB,if_false] at hR
      simp[yx] at c11
      obtain⟨a112,a113,a110,a111,a114,a11n⟩:=at5 K11'
      obtain⟨H12,c12,K12⟩:=O8 hL en ns i (-1) ents' i j8 ⟨ns.take i,yp N.ins++yp N.outs,yp N.ins,tags⟩ rfl N.ensure hn.ensure hn.gs [N.ins,N.outs] (by simp) (by simp[Ad,yE]; have:=hn.ins; have:=hn.outs; omega) (λx=>by simp[yp]) false false H11 a114 a112 a113
      have iH:AA yw [N.ins,N.outs]=[.list false (N.ins.map yw),.list false (N.outs.map yw)]:=rfl
      rw[iH] at c12
      have K12':=K11'.trans (K12.le K11'.1)
      by_cases nH:yy (λe=>zx ⟨ns.take i,yp N.ins++yp N.outs,yp N.ins,tags⟩ e 1) N.ensure=0
      ·rw[nH] at hR c12
       simp only[bB,if_false] at hR
       simp[yx] at c12
       obtain⟨a122,a123,a120,a121,a124,a12n⟩:=at5 K12'
       have t12:=t10'.keep (K11.trans (K12.le K11.1)).2
       have sl:N.ins.length≤(vars N).length:=by simp[vars]
       have pT:List.drop N.ins.length (List.take (vars N).length (List.map yw (vars N)))=(N.outs++N.locals).map yw:=by
        rw[bW (by simp),← List.map_drop]
        congr 1
        simp[vars]
       obtain⟨G,hG⟩:∃G,G=N.outs++N.locals:=⟨_,rfl⟩
       have wd:yp G=yp N.outs++yp N.locals:=by rw[hG,IU hL]
       have we:G.length≤3300000:=by rw[hG]; have:=hn.outs; have:=hn.locals; simp; omega
       rw[← hG] at pT
       rw[← wd] at hR
       simp[a10n,c11,a11n,c12,a12n,v1,sl,pT]
       refine c0j hL en ns i (-1) G we H12 a123 _ _ _ _ _ _ _ _ _ _ t12 _ _ _ _ _ _ _ _ _ _ _ _ _ _ _ _ _ ?_ ?_
       ·intro dT y8 g'
        rw[af (FX.2 dT)] at hR
        simp[hR,zW]
        exact⟨a120,a121,a124,a122,a123⟩
       ·intro dT W g'
        rw[ae (λhh=>dT (FX.1 hh))] at hR
        simp[hR,zW]
        exact⟨a120,a121,a124⟩
      ·rw[af nH] at hR
       simp[yx,nH] at c12
       simp[a10n,c11,a11n,c12,hR,zW]
       obtain⟨_,_,b0,b1,b4,_⟩:=at5 K12'
       exact⟨b0,b1,b4⟩
     ·rw[af nG] at hR
      simp[yx,nG] at c11
      simp[a10n,c11,hR,zW]
      obtain⟨_,_,b0,b1,b4,_⟩:=at5 K11'
      exact⟨b0,b1,b4⟩
    ·intro hz h' W g' K'
     simp only[be] at hz
     rw[af hz] at hR
     obtain⟨b2,b3,b0,b1,b4,bn⟩:=at5 (((K6'.trans K7).trans K9).trans K')
     simp[hR,zW]
     exact⟨b0,b1,b4⟩
   ·intro k e m5 W g' H' K'
    rw[m5] at hR
    simp only at hR
    obtain⟨b2,b3,b0,b1,b4,bn⟩:=at5 ((K6'.trans K7).trans K')
    rw[ai (by decide)] at b0 b1
    simp[hR,zW]
    exact⟨b0,b1,by simpa using b4⟩
  ·simp only[ne_eq,si,cH,if_true] at hR
   simp[yx,si] at kY
   simp[FV,mY,hi,← hN,hA,fP,H1n,eb,dQ,e5,o5,a5n,v1,it,a6n,kY,hR,zW]
   exact⟨a60,a61,a64⟩
 ·have sh:(A6 [] tags (vars N)).1=(zO tags (vars N) []).1:=by unfold A6 AB; rw[ae o6]
  rw[sh,af o6] at hR
  simp[yx,o6] at it
  simp[FV,mY,hi,← hN,hA,fP,H1n,eb,dQ,e5,o5,a5n,v1,it,hR,zW]
  exact⟨a60,a61,a64⟩
end
structure EnumKeys (ents:zV) (T Nm:List Str):Prop where
 tags:∀x,((0:Int),x)∈A0 ents↔x∈T
 nodes:∀x,((1:Int),x)∉A0 ents
 types:∀x,((2:Int),x)∈A0 ents↔x∈Nm
theorem EnumKeys.tag {ents:zV} {T Nm:List Str} (h:EnumKeys ents T Nm) (s:Str) (i:Int):EnumKeys (ents++[((0,s),i)]) (T++[s]) Nm:=by
 have hk:∀k,k∈A0 (ents++[(((0:Int),s),i)])↔k∈A0 ents∨k=(0,s):=by simp[A0]
 refine⟨λx =>?_,λx =>?_,λx =>?_⟩
 ·rw[hk,h.tags]; simp
 ·rw[hk]; simp[h.nodes x]
 ·rw[hk,h.types]; simp
theorem EnumKeys.type {ents:zV} {T Nm:List Str} (h:EnumKeys ents T Nm) (s:Str) (i:Int):EnumKeys (ents++[((2,s),i)]) T (Nm++[s]):=by
 have hk:∀k,k∈A0 (ents++[(((2:Int),s),i)])↔k∈A0 ents∨k=(2,s):=by simp[A0]
 refine⟨λx =>?_,λx =>?_,λx =>?_⟩
 ·rw[hk,h.tags]; simp
 ·rw[hk]; simp[h.nodes x]
 ·rw[hk,h.types]; simp
section
variable {L:Nat→Option PFunc} (hL:∀k f,LS k=some f→L k=some f) (en:List Enum) (ns:List Node)
include hL
theorem b8f (i:Nat) (l:List Str) (hl:l.length≤1100000) (T Nm:List Str) (hT:T.Nodup) (ents:zV) (hk:EnumKeys ents T Nm) (c0 c1:PObj) (V0 V1 V2 V3 V4 V5 V8 V9 V10 V11 V12 V13 V14 V18 V19:PV) (g:Nat) {Q:PExit→St→Prop}
  (ok:(T++l).Nodup→∀y9 ents',EnumKeys ents' (T++l) Nm→Q (.exit 2) ⟨[V0,V1,V2,V3,V4,V5,.ptr 3 0,.int .i64 i,V8,y9,V10,V11,V12,V13,V14,.list false (l.map .str),.int .i64 l.length,.int .i64 l.length,V18,V19],[],g,[c0,c1,yF ents',yA en ns (-1) (-1)]⟩)
  (no:¬(T++l).Nodup→∀W o2 o3,W[2]? = some V2→W[3]? = some V3→Q (.boom (zK 1 (-1) (-1) 7)) ⟨W,[],g,[c0,c1,o2,o3]⟩):
  wpL L K3 ⟨[V0,V1,V2,V3,V4,V5,.ptr 3 0,.int .i64 i,V8,V9,V10,V11,V12,V13,V14,.list false (l.map .str),.int .i64 l.length,.int .i64 0,V18,V19],[],g,[c0,c1,yF ents,yA en ns (-1) (-1)]⟩ Q:=by
 rw[K3]
 refine yU l.length (λj st=>∃y9 ents',st=⟨[V0,V1,V2,V3,V4,V5,.ptr 3 0,.int .i64 i,V8,y9,V10,V11,V12,V13,V14,.list false (l.map .str),.int .i64 l.length,.int .i64 j,V18,V19],[],g,[c0,c1,yF ents',yA en ns (-1) (-1)]⟩∧EnumKeys ents' (T++l.take j) Nm∧∀k (hk:k<l.length),k<j→l[k]∉T++l.take k) ?_ ?_ ⟨_,ents,rfl,by simpa using hk,λk _ h=>by omega⟩
 ·rintro j hj st ⟨y9,ents',rfl,hk,dS⟩ ih
  have hw:=yz j (by omega)
  by_cases hd:l[j]∈T++l.take j
  ·have eb:=KZ hL en ns (-1) (-1) [c0,c1,yF ents',yA en ns (-1) (-1)] rfl ents' rfl (0,l[j]) i ((hk.tags _).2 hd)
   have fH:Br (0,l[j]) = .agg [.int .i64 0,.str l[j]]:=rfl
   rw[fH] at eb
   simp[hj,eb]
   exact no (λhn=>(Pj.1 hn).2 j hj hd) _ _ _ rfl rfl
  ·have eb:=K0 hL en ns (-1) (-1) [c0,c1,yF ents',yA en ns (-1) (-1)] rfl ents' rfl (0,l[j]) i (λhh=>hd ((hk.tags _).1 hh))
   have fH:Br (0,l[j]) = .agg [.int .i64 0,.str l[j]]:=rfl
   have dz:[c0,c1,yF ents',yA en ns (-1) (-1)].set 2 (yF (ents'++[((0,l[j]),(i:Int))]))=[c0,c1,yF (ents'++[((0,l[j]),(i:Int))]),yA en ns (-1) (-1)]:=rfl
   rw[fH,dz] at eb
   simp[hj,eb,hw]
   refine ih _ ⟨_,_,rfl,?_,λk fe wh =>?_⟩
   ·rw[AH hj,← aI]; exact hk.tag _ _
   ·by_cases he:k=j
    ·subst he; exact hd
    ·exact dS k fe (by omega)
 ·rintro st ⟨y9,ents',rfl,hk,dS⟩
  rw[aD] at hk
  simp
  exact ok (Pj.2 ⟨hT,λk hk=>dS k hk hk⟩) _ _ hk
theorem b8g (he:en.length≤1100000) (pU:∀u∈en,u.tags.length≤1100000) (c0 c1:PObj) (V0 V1 V2 V3 V4 V5 V7 V8 V9 V10 V11 V15 V16 V17 V18 V19:PV) (g:Nat) {Q:PExit→St→Prop}
  (ok:Ej en=true→∀y7 y8 y9 y15 y16 y17 g' ents',EnumKeys ents' (Bs en) (en.map (·.name))→Q (.exit 0) ⟨[V0,V1,V2,V3,V4,V5,.ptr 3 0,y7,y8,y9,V10,V11,.list false (en.map yG),.int .i64 en.length,.int .i64 en.length,y15,y16,y17,V18,V19],[],g',[c0,c1,yF ents',yA en ns (-1) (-1)]⟩)
  (no:Ej en=false→∀W g' o2 o3,W[2]? = some V2→W[3]? = some V3→Q (.boom (zK 1 (-1) (-1) 7)) ⟨W,[],g',[c0,c1,o2,o3]⟩):
  wpL L La ⟨[V0,V1,V2,V3,V4,V5,.ptr 3 0,V7,V8,V9,V10,V11,.list false (en.map yG),.int .i64 en.length,.int .i64 0,V15,V16,V17,V18,V19],[],g,[c0,c1,yF [],yA en ns (-1) (-1)]⟩ Q:=by
 have pV:∀j (hj:j<en.length),Ek en j en[j]=false→Ej en=false:=by
  intro j hj h1
  cases h:Ej en with
  | false=>rfl
  | true=>rw[Pk.1 h j hj] at h1; simp at h1
 rw[La]
 refine yU en.length (λj st=>∃y7 y8 y9 y15 y16 y17 g' ents',st=⟨[V0,V1,V2,V3,V4,V5,.ptr 3 0,y7,y8,y9,V10,V11,.list false (en.map yG),.int .i64 en.length,.int .i64 j,y15,y16,y17,V18,V19],[],g',[c0,c1,yF ents',yA en ns (-1) (-1)]⟩∧EnumKeys ents' (Bs (en.take j)) ((en.take j).map (·.name))∧∀k (hk:k<en.length),k<j→Ek en k en[k]=true) ?_ ?_ ⟨_,_,_,_,_,_,_,[],rfl,⟨by simp[A0,Bs],by simp[A0],by simp[A0]⟩,λk _ h=>by omega⟩
 ·rintro j hj st ⟨y7,y8,y9,y15,y16,y17,g',ents',rfl,hk,dS⟩ ih
  have hw:=yz j (by omega)
  have wi:=pU _ (ak hj)
  by_cases hd:en[j].name∈(en.take j).map (·.name)
  ·have eb:=KZ hL en ns (-1) (-1) [c0,c1,yF ents',yA en ns (-1) (-1)] rfl ents' rfl (2,en[j].name) j ((hk.types _).2 hd)
   have fH:Br (2,en[j].name) = .agg [.int .i64 2,.str en[j].name]:=rfl
   rw[fH] at eb
   simp[hj,eb]
   exact no (pV j hj (by unfold Ek; simp only[cu]; exact λh=>h.1 hd)) _ _ _ _ rfl rfl
  ·have eb:=K0 hL en ns (-1) (-1) [c0,c1,yF ents',yA en ns (-1) (-1)] rfl ents' rfl (2,en[j].name) j (λhh=>hd ((hk.types _).1 hh))
   have fH:Br (2,en[j].name) = .agg [.int .i64 2,.str en[j].name]:=rfl
   have dz:[c0,c1,yF ents',yA en ns (-1) (-1)].set 2 (yF (ents'++[((2,en[j].name),(j:Int))]))=[c0,c1,yF (ents'++[((2,en[j].name),(j:Int))]),yA en ns (-1) (-1)]:=rfl
   rw[fH,dz] at eb
   simp[hj,eb]
   refine b8f hL en ns j en[j].tags wi (Bs (en.take j)) ((en.take j).map (·.name)++[en[j].name]) (c0E (by omega) dS) _ (hk.type _ _) c0 c1 _ _ _ _ _ _ _ _ _ _ _ _ _ _ _ _ ?_ ?_
   ·intro dx y9' ents'' dt
    simp[hw]
    refine ih _ ⟨_,_,_,_,_,_,_,_,rfl,?_,λk fe wh =>?_⟩
    ·rw[I1 hj,AH hj,bm]; exact dt
    ·by_cases m5:k=j
     ·subst m5
      unfold Ek
      simp only[ay]
      exact⟨hd,dx⟩
     ·exact dS k fe (by omega)
   ·intro dx W o2 o3 sn so
    simp
    exact no (pV j hj (by unfold Ek; simp only[cu]; exact λh=>dx h.2)) _ _ _ _ sn so
 ·rintro st ⟨y7,y8,y9,y15,y16,y17,g',ents',rfl,hk,dS⟩
  rw[aD] at hk
  simp
  exact ok (Pk.2 λk hk=>dS k hk hk) _ _ _ _ _ _ _ _ hk
end
theorem b5p {en:List Enum} {n:Node} (h:Bg en n=0):∀d∈n.ins++n.outs,d.clock=[]:=by
 unfold Bg at h
 simp only[Bt] at h
 obtain⟨_,_,_,h1,h2,_⟩:=h
 have key:∀d,A7 en true d=0→d.clock=[]:=by
  intro d hd
  unfold A7 at hd
  simp only[Bt] at hd
  obtain⟨_,_,h3,_⟩:=hd
  refine cw λhn =>?_
  simp[need,hn] at h3
 intro d hd
 rcases aw.1 hd with hd|hd
 ·exact key d (BW.1 h1 d hd)
 ·exact key d (BW.1 h2 d hd)
theorem b8h {p:Prog} (h:Cg p=none):∀n∈p.nodes,∀d∈n.ins++n.outs,d.clock=[]:=by
 unfold Cg at h
 split at h
 ·simp at h
 ·split at h
  ·simp at h
  ·intro n hn
   exact b5p (b6N.1 ((Pl p.enums p.nodes 0).1 h n hn 0)).1
theorem NodesIn.step {ents:zV} {ns:List Node} {i:Nat} (hi:i<ns.length) (h:NodesIn ents ns i) (hk:IZ ents ns i) (hd:ns[i].name∉(ns.take i).map (·.name)):
  NodesIn (ents++[((1,ns[i].name),(i:Int))]) ns (i+1)∧IZ (ents++[((1,ns[i].name),(i:Int))]) ns (i+1):=by
 have j9:∀x:Str,AC (1,x) (ents++[((1,ns[i].name),(i:Int))])=(AC (1,x) ents).or (if x=ns[i].name then some (i:Int) else none):=by
  intro x
  generalize ents=l
  induction l with
  | nil=>by_cases hx:x=ns[i].name<;>simp[AC,hx]
  | cons y l ih =>
    simp only[aK,AC]
    by_cases hy:((1:Int),x)=y.1
    ·rw[af hy,af hy]; rfl
    ·rw[ae hy,ae hy]; exact ih
 have mu:∀x,callee (ns.take (i+1)) x=(callee (ns.take i) x).or (if ns[i].name=x then some ns[i] else none):=by
  intro x
  unfold callee
  rw[AH hi,List.find?_append]
  congr 1
  by_cases hx:ns[i].name=x<;>simp[hx]
 constructor
 ·intro x
  have hx:=h x
  rw[mu]
  cases hc:callee (ns.take i) x with
  | some m =>
    rw[hc] at hx
    obtain⟨j,e1,e2,e3⟩:=hx
    exact⟨j,by rw[j9,e1]; rfl,by omega,e3⟩
  | none =>
    have iI:((1:Int),x)∉A0 ents:=by
     rw[hk]
     unfold callee at hc
     rw[List.find?_eq_none] at hc
     intro hm
     obtain⟨n,h1,h2⟩:=bh.1 hm
     exact hc n h1 (by simpa using h2)
    have mw:=Fi.2 iI
    by_cases o7:ns[i].name=x
    ·rw[af o7]
     exact⟨i,by rw[j9,mw,af o7.symm]; rfl,by omega,an hi⟩
    ·rw[ae o7]
     intro c fy
     rw[j9,mw,ae (λe=>o7 e.symm)] at fy
     simp at fy
 ·intro x
  rw[AH hi,bm,aw,← hk x]
  simp[A0]
section
variable {L:Nat→Option PFunc} (hL:∀k f,LS k=some f→L k=some f)
include hL
theorem rec27 (a b e:Int) (h:List PObj) (w1 w2 c:Int) (h0:h[0]? = some (.cells [.int .i64 w1,.int .i64 w2])) (h1:h[1]? = some (.cells [.int .i64 c])):Ay L 27 [zK 1 a b e,.ptr 0 0,.ptr 1 0] h=some ((h.set 0 (.cells [.int .i64 a,.int .i64 b])).set 1 (.cells [.int .i64 e])):=by
 unfold Ay
 rw[hL 27 _ rfl]
 simp[Lb,CN,zK,h0,h1]
theorem c98 (h:List PObj):Ay L 27 [.nilIface,.ptr 0 0,.ptr 1 0] h=some h:=by
 unfold Ay
 rw[hL 27 _ rfl]
 simp[Lb,CN]
theorem Pm (p:Prog) (hp:PW p) (hs:parts p≤1100000):∃h',ym L 8 [zA p] []=some (A1 (BL (Cz p)),h'):=by
 suffices H:∃r,ym L 8 [zA p] []=some r∧r.1=A1 (BL (Cz p)) by
  obtain⟨⟨v,h'⟩,h1,h2⟩:=H
  exact⟨h',by rw[h1]; simp only at h2; rw[h2]⟩
 refine Pn (hL 8 _ rfl) rfl ?_
 obtain⟨wj,ep⟩:=c4q hL p hp
 unfold Cz
 cases hS:Cg p with
 | some b =>
   have nI:=b8E hS
   rw[hS] at ep
   simp only[BL,bX,A1] at ep ⊢
   simp[I2,ep,nI,yM,yu]
 | none =>
   have fL:=b8h hS
   rw[hS] at ep
   simp only[BL,Option.getD_none,CO,A1] at ep
   simp only
   obtain⟨RES,eS⟩:∃RES,RES=(if Ej p.enums then Dp (Bs p.enums) [] p.nodes else some (⟨-1,-1,7⟩:Bad)):=⟨_,rfl⟩
   rw[← eS]
   simp[I2,ep]
   rw[Po (cs:=[.ptr 0 0,.ptr 1 0]) _ _ _ rfl (by simp)]
   have fk:PObj.cells [PV.list false (p.enums.map yG),PV.list false (p.nodes.map yL),.int .i64 (-1),.int .i64 (-1),.map (some 2)]=yA p.enums p.nodes (-1) (-1):=rfl
   have nJ:PObj.map []=yF []:=rfl
   have gQ:(PV.map (some 2)).cells=[.map (some 2)]:=rfl
   have fA:=hp.nodes
   simp[gQ,fk,nJ]
   refine b8g hL p.enums p.nodes hp.enums hp.tags _ _ _ _ _ _ _ _ _ _ _ _ _ _ _ _ _ _ _ ?_ ?_
   ·intro dm y7 y8 y9 y15 y16 y17 g' ents' hk
    rw[af dm] at eS
    simp
    rw[Pp]
    refine yU p.nodes.length (λj st=>∃y10 h' ents a b,st=⟨[zA p,.loc 0 [.list false (p.enums.map yG),.list false (p.nodes.map yL)],.ptr 0 0,.ptr 1 0,.loc 1 [.int .i64 0,.int .i64 0],.int .i64 0,.ptr 3 0,y7,y8,y9,y10,.ptr 3 0,.list false (p.enums.map yG),.int .i64 p.enums.length,.int .i64 p.enums.length,y15,y16,y17,.int .i64 p.nodes.length,.int .i64 j],[],g',h'⟩ ∧
     h'[0]? = some (.cells [.int .i64 0,.int .i64 0])∧h'[1]? = some (.cells [.int .i64 0])∧4≤h'.length∧h'[2]? = some (yF ents)∧h'[3]? = some (yA p.enums p.nodes a b)∧Do ents (Bs p.enums)∧NodesIn ents p.nodes j∧IZ ents p.nodes j∧RES=Dp (Bs p.enums) (p.nodes.take j) (p.nodes.drop j)) ?_ ?_
     ⟨_,_,ents',-1,-1,rfl,rfl,rfl,by simp,rfl,rfl,hk.tags,λx=>by
      have:AC (1,x) ents'=none:=Fi.2 (hk.nodes x)
      simp[callee,this],λx=>by simp[hk.nodes x],by simpa using eS⟩
    ·rintro j hj st ⟨y10,h',ents,a,b,rfl,e0,e1,e4,e2,e3,ej,dx,jU,hR⟩ ih
     have hw:=yz j (by omega)
     rw[bg hj] at hR
     have pQ:p.nodes[j].parts≤1100000:=by
      have:=Ei Node.parts (ak hj)
      unfold parts at hs; omega
     obtain⟨h2,hx,k0,k1,k4,kn⟩:=c6u hL p.enums p.nodes a b ents j hj hp.nodes (hp.ns _ (ak hj)) pQ (fL _ (ak hj)) (Bs p.enums) ej dx jU h' e4 e2 e3
     cases hN:C5 (p.nodes.take j) (Bs p.enums) p.nodes[j] with
     | none =>
       have hd:p.nodes[j].name∉(p.nodes.take j).map (·.name):=by
        intro hm
        unfold C5 at hN
        rw[af hm] at hN
        simp at hN
       obtain⟨n2,n3⟩:=NodesIn.step hj dx jU hd
       obtain⟨q2,q3⟩:=kn hN
       rw[hN] at hx
       simp only[Dp,hN] at hR
       rw[← AH hj] at hR
       simp[zW] at hx
       simp[hj,hx,hw]
       refine ih _ ⟨_,h2,_,_,_,rfl,k0.trans e0,k1.trans e1,k4,q2,q3,λx =>?_,n2,n3,hR⟩
       rw[← ej x]
       simp[A0]
     | some bd =>
       rw[hN] at hx
       simp only[Dp,hN] at hR
       have eC:=rec27 hL bd.node bd.eq bd.err h2 0 0 0 (k0.trans e0) (k1.trans e1)
       have jV:0<h2.length:=by omega
       have ei:1<h2.length:=by omega
       simp[zW] at hx
       simp[hj,hx,eC,hR,BL,A1,yu,jV,ei]
       rfl
    ·rintro st ⟨y10,h',ents,a,b,rfl,e0,e1,e4,e2,e3,ej,dx,jU,hR⟩
     rw[bl (am _)] at hR
     simp only[Dp] at hR
     have eC:=c98 hL h'
     have jV:0<h'.length:=by omega
     have ei:1<h'.length:=by omega
     have nK:h'.set 0 (.cells [.int .i64 0,.int .i64 0])=h':=Ch e0
     have lc:h'.set 1 (.cells [.int .i64 0])=h':=Ch e1
     simp[e0,e1,nK,lc,eC,hR,BL,CO,A1,yu]
     rfl
   ·intro dm W g' o2 o3 sn so
    rw[dm] at eS
    simp only[aJ,if_false] at eS
    have eC:=rec27 hL (-1) (-1) 7 [.cells [.int .i64 0,.int .i64 0],.cells [.int .i64 0],o2,o3] 0 0 0 rfl rfl
    simp[eC,eS,BL,A1,yu,sn,so]
    rfl
end
section
variable {L:Nat→Option PFunc} (hL:∀k f,LS k=some f→L k=some f)
include hL
theorem c6M (n:Node) (h:List PObj):ym L 212 [yL n] h=some (.bool (!decide (n.autos=[])),h):=by
 refine yB (hL 212 _ rfl) rfl ?_
 have:(0<n.autos.length)↔¬n.autos=[]:=by cases n.autos<;>simp
 simp[Ml,this]
theorem Qz (p:Prog) (hn:p.nodes.length≤2000000000) (h:List PObj):ym L 201 [zA p] h=some (.bool (plain p),h):=by
 obtain⟨P,hP⟩:∃P:Node→Bool,∀n,P n = !decide (n.autos=[]):=⟨_,λ_=>rfl⟩
 have hi:ym L 115 [.list false (p.nodes.map yL),.func 212 [] []] []=some (.int .i64 (CQ P p.nodes),[]):=by
  refine yB (hL 115 _ rfl) rfl ?_
  simp[Ji]
  rw[PJ]
  refine yU p.nodes.length (λj st=>∃y3,st=⟨[.list false (p.nodes.map yL),.func 212 [] [],.int .i64 0,y3,.int .i64 p.nodes.length,.int .i64 j],[],0,[]⟩∧∀i (hi:i<p.nodes.length),i<j→P p.nodes[i]=false) ?_ ?_ ⟨_,rfl,λi _ hi=>by omega⟩
  ·rintro j hj st ⟨y3,rfl,ig⟩ ih
   have hw:=yz j (by omega)
   have hc:ym L 212 [yL p.nodes[j]] []=some (.bool (P p.nodes[j]),[]):=by rw[hP]; exact c6M hL p.nodes[j] []
   cases hp:P p.nodes[j] with
   | false =>
     rw[hp] at hc
     simp[hj,hw,hc]
     refine ih _ ⟨_,rfl,λi hi m8 =>?_⟩
     by_cases he:i=j
     ·subst he; exact hp
     ·exact ig i hi (by omega)
   | true =>
     rw[hp] at hc
     simp[hj,hw,hc,HD hj hp ig]
  ·rintro st ⟨y3,rfl,ig⟩
   simp[Ji,HE (λi hi=>ig i hi hi)]
 have dO:ym L 211 [.list false (p.nodes.map yL),.func 212 [] []] []=some (.bool (p.nodes.any P),[]):=by
  refine yB (hL 211 _ rfl) rfl ?_
  simp[Mk,hi,← JE]
 have e:plain p = !(p.nodes.any P):=by
  unfold plain
  rw[List.not_any_eq_all_not]
  congr 1
  funext n
  rw[hP]; simp
 refine yB (hL 201 _ rfl) rfl ?_
 simp[LY,dO,e]
theorem QA (p:Prog) (hp:PW p) (hs:parts p≤1100000):∃h',ym L 204 [zA p] []=some (A1 (Ep p),h'):=by
 obtain⟨h1,hc⟩:=Pm hL p hp hs
 unfold A1 at hc
 have fl:=Qz hL p (by have:=hp.nodes; omega) []
 suffices H:∃r,ym L 204 [zA p] []=some r∧r.1=A1 (Ep p) by
  obtain⟨⟨v,h'⟩,h1,h2⟩:=H
  simp only at h2; subst h2
  exact⟨h',h1⟩
 refine AP (hL 204 _ rfl) rfl ?_
 unfold Ep
 generalize BL (Cz p)=b at *
 by_cases he:b.err=0
 ·cases fq:plain p with
  | true =>
    rw[fq] at fl
    simp[Hr,A1,hc,fl,he,yJ,CO]
  | false =>
    rw[fq] at fl
    simp[Hr,A1,hc,fl,he,yJ]
 ·simp[Hr,A1,hc,fl,he,yJ]
end
def yn (l:List Nat):List PV:=l.map λ(x:Nat)=>PV.int .i64 (x:Int)
theorem Ar (l:List Nat):(yn l).length=l.length:=by simp[yn]
theorem Dw {l:List Nat} {i:Nat} (h:i<l.length) (rest:List PV):(yn l++rest)[i]? = some (.int .i64 (l[i]:Int)):=by
 rw[al (by rw[Ar]; exact h)]
 simp[yn,h]
theorem M7 {l:List Nat} {i:Nat} (h:i<l.length) (rest:List PV) (x:Nat):(yn l++rest).set i (.int .i64 (x:Int))=yn (l.set i x)++rest:=by
 rw[List.set_append_left _ _ (by rw[Ar]; exact h)]
 simp[yn,List.map_set]
theorem HM {L:Nat→Option PFunc} {c:PC} {Q:PExit→St→Prop} (Inv:Nat→St→Prop)
  (step:∀k st,Inv k st→(∀k' st',k'<k→Inv k' st'→wpL L (.loop c) st' Q)→wpL L c st (z6 L c Q)) (k:Nat) {st:St} (h:Inv k st):wpL L (.loop c) st Q:=by
 induction k using Nat.strongRecOn generalizing st with
 | _ k ih =>
   rw[Cy]
   exact step k st h λk' st' hk h'=>ih k' hk h'
section
variable {L:Nat→Option PFunc} (hL:∀k f,LS k=some f→L k=some f)
include hL
theorem M8 {k n:Nat} {R:List Nat} (hn:R.length=n) {rest:List PV} {h:List PObj} (hk:h[k]? = some (.cells (yn R++rest))) {i j:Nat} (hi:i<R.length) (hj:j<R.length):
  ym L 226 [.rowp k 1 false n,.int .i64 (i:Int),.int .i64 (j:Int)] h=some (.bool (decide (R[i]<R[j])),h):=by
 subst hn
 have g1:=Dw hi rest
 have g2:=Dw hj rest
 refine yB (hL 226 _ rfl) rfl ?_
 simp[My,hk,hi,hj,g1,g2,yJ]
theorem M9 {k n:Nat} {h:List PObj}:ym L 224 [.rowp k 1 false n] h=some (.int .i64 (n:Int),h):=by
 refine yB (hL 224 _ rfl) rfl ?_
 simp[Mw,yJ]
theorem Na {k n:Nat} {R:List Nat} (hn:R.length=n) {rest:List PV} {h:List PObj} (hk:h[k]? = some (.cells (yn R++rest))) {i j:Nat} (hi:i<R.length) (hj:j<R.length):
  ym L 229 [.rowp k 1 false n,.int .i64 (i:Int),.int .i64 (j:Int)] h=some (.tuple [],h.set k (.cells (yn ((R.set i R[j]).set j R[i])++rest))):=by
 subst hn
 have g1:=Dw hi rest
 have g2:=Dw hj rest
 obtain⟨fe,m5⟩:=ah.1 hk
 have s1:=M7 hi rest R[j]
 have s2:=M7 (l:=R.set i R[j]) (i:=j) (by rw[aZ]; exact hj) rest R[i]
 refine yB (hL 229 _ rfl) rfl ?_
 have lj:j<(yn (R.set i R[j])++rest).length:=by rw[ao,Ar,aZ]; omega
 generalize yn R++rest=cs at *
 generalize yn (R.set i R[j])++rest=cs1 at *
 generalize yn ((R.set i R[j]).set j R[i])++rest=cs2 at *
 obtain⟨l1',e1⟩:=ah.1 g1
 obtain⟨l2',e2⟩:=ah.1 g2
 simp[MB,m5,hi,hj,e1,e2,s1,s2,fe,l1',l2',lj,Ax]
theorem d0M {rb k:Nat} {R:List Nat} {rest:List PV} {h:List PObj} (dh:rb≠k) (hb:h[rb]? = some (.cells [.rowp k 1 false R.length])) (hk:h[k]? = some (.cells (yn R++rest))) {j:Nat} (hj:j<R.length) (hR:R.length≤100000):
  ∃R',R'.Perm R∧ym L 238 [.iface 4 (.ptr rb 0),.int .i64 (j:Int)] h=some (.tuple [],h.set k (.cells (yn R'++rest))):=by
 suffices H:∃r,ym L 238 [.iface 4 (.ptr rb 0),.int .i64 (j:Int)] h=some r∧r.1 = .tuple []∧∃R',R'.Perm R∧r.2=h.set k (.cells (yn R'++rest)) by
  obtain⟨⟨v,h'⟩,h1,h2,R',h3,h4⟩:=H
  simp only at h2 h4; subst h2 h4
  exact⟨R',h3,h1⟩
 have fe:k<h.length:=(ah.1 hk).1
 refine AP (hL 238 _ rfl) rfl ?_
 simp[MI]
 rw[Qc]
 refine HM (λm st=>∃y R',m<R.length∧R'.Perm R∧st=⟨[.iface 4 (.ptr rb 0),.int .i64 (m:Int),y],[],0,h.set k (.cells (yn R'++rest))⟩) ?_ j ⟨_,R,hj,List.Perm.refl _,by rw[Ch hk]⟩
 rintro m st ⟨y,R',hm,hp,rfl⟩ ih
 have hl:=hp.length_eq
 have dn:(h.set k (.cells (yn R'++rest)))[rb]? = some (.cells [.rowp k 1 false R.length]):=by rw[ai (λe=>dh e.symm)]; exact hb
 have dt:(h.set k (.cells (yn R'++rest)))[k]? = some (.cells (yn R'++rest)):=by rw[av fe]
 by_cases h0:m=0
 ·subst h0
  have wz:IntKind.i64.wrap (-1) = -1:=by decide
  have pZ:(-1:Int).tdiv 2=0:=by decide
  have m7:IntKind.i64.wrap 0=0:=by decide
  simp[dn,wz,pZ,m7,yJ]
  exact⟨R',hp,rfl⟩
 ·have hw:IntKind.i64.wrap ((m:Int) - 1)=((m - 1:Nat):Int):=by rw[show ((m:Int) - 1)=((m - 1:Nat):Int) by omega]; exact BB _ (by omega)
  obtain⟨i,hi⟩:∃i,i=(m - 1) / 2:=⟨_,rfl⟩
  have na:i<m:=by omega
  have kJ:=M8 hL hl dt (i:=m) (j:=i) (by omega) (by omega)
  have rI:=Na hL hl dt (i:=i) (j:=m) (by omega) (by omega)
  have hq:((m - 1:Nat):Int).tdiv 2=(i:Int):=by rw[Int.tdiv_eq_ediv_of_nonneg (by omega)]; omega
  have sO:=BB i (by omega)
  have sP:¬(i:Int)=(m:Int):=by omega
  have sQ:¬i=m:=by omega
  simp[dn,hw,hq,sO,sP,sQ,BV,Cw,CJ,kJ]
  by_cases eF:R'[i]≤R'[m]
  ·simp[eF,yJ]
   exact⟨R',hp,rfl⟩
  ·simp[eF,rI]
   refine ih i _ na ⟨_,_,by omega,?_,rfl⟩
   exact(List.set_set_perm (by omega) (by omega)).trans hp
theorem c4b {rb k:Nat} {R:List Nat} {rest:List PV} {h:List PObj} (dh:rb≠k) (hb:h[rb]? = some (.cells [.rowp k 1 false R.length])) (hk:h[k]? = some (.cells (yn R++rest))) {n:Nat} (hn:n<R.length) (hR:R.length≤100000):
  ∃R' b,R'.Perm R∧ym L 239 [.iface 4 (.ptr rb 0),.int .i64 0,.int .i64 (n:Int)] h=some (.bool b,h.set k (.cells (yn R'++rest))):=by
 suffices H:∃r,ym L 239 [.iface 4 (.ptr rb 0),.int .i64 0,.int .i64 (n:Int)] h=some r∧∃R' b,r.1 = .bool b∧R'.Perm R∧r.2=h.set k (.cells (yn R'++rest)) by
  obtain⟨⟨v,h'⟩,h1,R',b,h2,h3,h4⟩:=H
  simp only at h2 h4; subst h2 h4
  exact⟨R',b,h3,h1⟩
 have fe:k<h.length:=(ah.1 hk).1
 refine AP (hL 239 _ rfl) rfl ?_
 simp[MJ]
 rw[Qd]
 refine HM (λm st=>∃i y3 y5 y6 y7 R',i+m=R.length∧0<m∧R'.Perm R∧st=⟨[.iface 4 (.ptr rb 0),.int .i64 0,.int .i64 (n:Int),y3,.int .i64 (i:Nat),y5,y6,y7],[],0,h.set k (.cells (yn R'++rest))⟩) ?_ R.length ⟨0,_,_,_,_,R,by omega,by omega,List.Perm.refl _,by rw[Ch hk]; rfl⟩
 rintro m st ⟨i,y3,y5,y6,y7,R',na,jl,hp,rfl⟩ ih
 have hl:=hp.length_eq
 have dn:(h.set k (.cells (yn R'++rest)))[rb]? = some (.cells [.rowp k 1 false R.length]):=by rw[ai (λe=>dh e.symm)]; exact hb
 have dt:(h.set k (.cells (yn R'++rest)))[k]? = some (.cells (yn R'++rest)):=by rw[av fe]
 obtain⟨j1,hj1⟩:∃j,j=2*i+1:=⟨_,rfl⟩
 obtain⟨j2,wA⟩:∃j,j=j1+1:=⟨_,rfl⟩
 have ij:IntKind.i64.wrap (2*(i:Int))=2*(i:Int):=by rw[show (2*(i:Int))=((2*i:Nat):Int) by omega]; exact BB _ (by omega)
 have kO:IntKind.i64.wrap (2*(i:Int)+1)=(j1:Int):=by rw[show (2*(i:Int)+1)=(j1:Int) by omega]; exact BB _ (by omega)
 have pu:IntKind.i64.wrap ((j1:Int)+1)=(j2:Int):=by rw[wA]; exact yz j1 (by omega)
 have hz:¬(j1:Int)<0:=by omega
 by_cases h1:j1<n
 ·have ik:¬n≤j1:=by omega
  have fin:∀j,j<n→i<j→∃b Rn,ym L 226 [.rowp k 1 false R.length,.int .i64 (j:Int),.int .i64 (i:Int)] (h.set k (.cells (yn R'++rest)))=some (.bool b,h.set k (.cells (yn R'++rest)))∧ym L 229 [.rowp k 1 false R.length,.int .i64 (i:Int),.int .i64 (j:Int)] (h.set k (.cells (yn R'++rest)))=some (.tuple [],h.set k (.cells (yn Rn++rest)))∧Rn.Perm R:=by
   intro j hj m8
   have kJ:=M8 hL hl dt (i:=j) (j:=i) (by omega) (by omega)
   have rI:=Na hL hl dt (i:=i) (j:=j) (by omega) (by omega)
   rw[List.set_set] at rI
   exact⟨_,_,kJ,rI,(List.set_set_perm (by omega) (by omega)).trans hp⟩
  by_cases h2:j2<n
  ·obtain⟨c,kJ⟩:∃c,ym L 226 [.rowp k 1 false R.length,.int .i64 (j2:Int),.int .i64 (j1:Int)] (h.set k (.cells (yn R'++rest)))=some (.bool c,h.set k (.cells (yn R'++rest))):=⟨_,M8 hL hl dt (i:=j2) (j:=j1) (by omega) (by omega)⟩
   cases c with
   | true =>
     obtain⟨b,Rn,f1,f2,f3⟩:=fin j2 h2 (by omega)
     cases b with
     | true =>
       simp[dn,ij,kO,pu,hz,ik,h2,BV,Cw,CJ,kJ,f1,f2]
       exact ih (m - (j2 - i)) _ (by omega) ⟨j2,_,_,_,_,_,by omega,by omega,f3,rfl⟩
     | false =>
       simp[dn,ij,kO,pu,hz,ik,h2,BV,Cw,CJ,kJ,f1,yJ]
       exact⟨by omega,_,hp,rfl⟩
   | false =>
     obtain⟨b,Rn,f1,f2,f3⟩:=fin j1 h1 (by omega)
     cases b with
     | true =>
       simp[dn,ij,kO,pu,hz,ik,h2,BV,Cw,CJ,kJ,f1,f2]
       exact ih (m - (j1 - i)) _ (by omega) ⟨j1,_,_,_,_,_,by omega,by omega,f3,rfl⟩
     | false =>
       simp[dn,ij,kO,pu,hz,ik,h2,BV,Cw,CJ,kJ,f1,yJ]
       exact⟨by omega,_,hp,rfl⟩
  ·obtain⟨b,Rn,f1,f2,f3⟩:=fin j1 h1 (by omega)
   cases b with
   | true =>
     simp[dn,ij,kO,pu,hz,ik,h2,BV,Cw,CJ,f1,f2]
     exact ih (m - (j1 - i)) _ (by omega) ⟨j1,_,_,_,_,_,by omega,by omega,f3,rfl⟩
   | false =>
     simp[dn,ij,kO,pu,hz,ik,h2,BV,Cw,CJ,f1,yJ]
     exact⟨by omega,_,hp,rfl⟩
 ·have ik:n≤j1:=by omega
  simp[ij,kO,ik,yJ]
  exact⟨by omega,_,hp,rfl⟩
end
theorem Q6 (R:List Nat) (rest:List PV):(yn R++rest).take R.length=yn R:=by rw[List.take_left' (Ar R)]
theorem JH {h:List PObj} {k n:Nat} {R:List Nat} {rest:List PV} (hn:R.length=n) (hk:h[k]? = some (.cells (yn R++rest))) (hR:n<2147483647) (x:Nat) (V l:List PV) (g:Nat):
  AI h 1 false 8 [.int .i64 (x:Int)] (.rowp k 1 false n) ⟨V,l,g,h⟩=some (.rowp h.length 1 false (n+1),⟨V,l,g,h.set k .gone++[.cells (yn (R++[x]))]⟩):=by
 subst hn
 have e:yn (R++[x])=yn R++[.int .i64 (x:Int)]:=by simp[yn]
 have e1:R.length≤(yn R).length+rest.length:=by rw[Ar]; omega
 have e2:R.length≤2147483646:=by omega
 have e3:=Q6 R rest
 simp[AI,hk,e,e1,e3]
 omega
section
variable {L:Nat→Option PFunc} (hL:∀k f,LS k=some f→L k=some f)
include hL
structure HB (h:List PObj) (rb k:Nat) (R:List Nat):Prop where
 ne:rb≠k
 box:h[rb]? = some (.cells [.rowp k 1 false R.length])
 row:∃rest,h[k]? = some (.cells (yn R++rest))
structure HF (h h':List PObj) (rb k k':Nat):Prop where
 len:h.length≤h'.length
 same:∀a,a<h.length→a≠rb→a≠k→h'[a]? = h[a]?
 new:k'=k∨h.length≤k'
theorem Q7 {rb k:Nat} {R:List Nat} {h:List PObj} (hb:HB h rb k R) (x:Nat) (hR:R.length<100000):
  ∃h' k' R',ym L 223 [.iface 4 (.ptr rb 0),.iface 3 (.int .i64 (x:Int))] h=some (.tuple [],h')∧HB h' rb k' R'∧R'.Perm (x::R)∧HF h h' rb k k':=by
 obtain⟨dh,iJ,rest,hk⟩:=hb
 have fe:k<h.length:=(ah.1 hk).1
 have pA:rb<h.length:=(ah.1 iJ).1
 obtain⟨h1,iw⟩:∃h1,h1=(h.set k .gone++[PObj.cells (yn (R++[x]))]).set rb (PObj.cells [.rowp h.length 1 false (R.length+1)]):=⟨_,rfl⟩
 have hs:∀X:List PObj,(h.set k .gone++X)[rb]? = some (.cells [.rowp k 1 false R.length]):=λX=>by rw[al (by simpa using pA),ai (λe=>dh e.symm),iJ]
 have c1:ym L 228 [.ptr rb 0,.iface 3 (.int .i64 (x:Int))] h=some (.tuple [],h1):=by
  refine yB (hL 228 _ rfl) rfl ?_
  simp[MA,iJ,JH rfl hk (show R.length<2147483647 by omega),hs,Ax,iw]
 have eP:h1[rb]? = some (.cells [.rowp h.length 1 false (R++[x]).length]):=by
  rw[iw,av (by simp; omega)]; simp
 have fm:h1[h.length]? = some (.cells (yn (R++[x])++[])):=by
  rw[iw,ai (by omega),aq (by simp)]; simp
 obtain⟨R',hp,c2⟩:=d0M hL (by omega) eP fm (j:=R.length) (by simp) (by simp; omega)
 refine⟨h1.set h.length (.cells (yn R'++[])),h.length,R',?_,⟨by omega,?_,[],?_⟩,?_,⟨?_,?_,.inr (am _)⟩⟩
 ·refine yB (hL 223 _ rfl) rfl ?_
  have c3:=M9 hL (k:=h.length) (n:=R.length+1) (h:=h1)
  have hw:IntKind.i64.wrap (((R.length+1:Nat):Int) - 1)=(R.length:Int):=by rw[show (((R.length+1:Nat):Int) - 1)=(R.length:Int) by omega]; exact BB _ (by omega)
  simp only[ao,aB,bq,aU] at eP
  generalize R.length+1=n1 at *
  simp[Mv,BV,Cw,CJ,c1,eP,c3,hw,c2]
 ·rw[ai (by omega),eP,hp.length_eq]
 ·rw[av (by rw[iw]; simp)]
 ·refine hp.trans ?_
  exact List.perm_append_comm
 ·rw[iw]; simp
 ·intro a ha h2 h3
  rw[ai (by omega),iw,ai (λe=>h2 e.symm),al (by simpa using ha),ai (λe=>h3 e.symm)]
theorem c4c {rb k:Nat} {R:List Nat} {h:List PObj} (hb:HB h rb k R) (hR:R.length<100000) (h0:R≠[]):
  ∃h' v,∃R':List Nat,ym L 225 [.iface 4 (.ptr rb 0)] h=some (.iface 3 (.int .i64 ((v:Nat):Int)),h')∧HB h' rb k R'∧R.Perm (v::R')∧HF h h' rb k k:=by
 obtain⟨dh,iJ,rest,hk⟩:=hb
 have fe:k<h.length:=(ah.1 hk).1
 have pA:rb<h.length:=(ah.1 iJ).1
 have dB:0<R.length:=bK.2 h0
 obtain⟨n,hn⟩:∃n,n=R.length - 1:=⟨_,rfl⟩
 have fA:n<R.length:=by omega
 have yH:∀C:List PV,(h.set k (.cells C))[rb]? = some (.cells [.rowp k 1 false R.length]):=λC=>by rw[ai (λe=>dh e.symm),iJ]
 have yN:∀C:List PV,(h.set k (.cells C))[k]? = some (.cells C):=λC=>av fe
 have c1:ym L 229 [.rowp k 1 false R.length,.int .i64 0,.int .i64 (n:Int)] h=_:=Na hL rfl hk (i:=0) (j:=n) dB fA
 obtain⟨R1,il⟩:∃R1,R1=(R.set 0 R[n]).set n R[0]:=⟨_,rfl⟩
 rw[← il] at c1
 have gW:R1.Perm R:=by rw[il]; exact List.set_set_perm dB fA
 have l1:=gW.length_eq
 obtain⟨R2,b,oc,c2⟩:=c4b hL (R:=R1) (rest:=rest) (h:=h.set k (.cells (yn R1++rest))) dh (by rw[l1]; exact yH _) (yN _) (n:=n) (by omega) (by omega)
 rw[List.set_set] at c2
 have l2:=oc.length_eq
 have c3:=M9 hL (k:=k) (n:=R.length) (h:=h)
 have hw:IntKind.i64.wrap ((R.length:Int) - 1)=(n:Int):=by rw[show ((R.length:Int) - 1)=(n:Int) by omega]; exact BB _ (by omega)
 have rJ:n<R2.length:=by omega
 have g1:=Dw rJ rest
 obtain⟨h2,fX⟩:∃h2,h2=h.set k (.cells (yn R2++rest)):=⟨_,rfl⟩
 obtain⟨h3,m6⟩:∃h3,h3=h2.set rb (.cells [.rowp k 1 false n]):=⟨_,rfl⟩
 have dK:h2[rb]? = some (.cells [.rowp k 1 false R.length]):=by rw[fX]; exact yH _
 have eA:h2[k]? = some (.cells (yn R2++rest)):=by rw[fX]; exact yN _
 have eF:n≤R.length:=by omega
 have c4:ym L 227 [.ptr rb 0] h2=some (.iface 3 (.int .i64 (R2[n]:Int)),h3):=by
  refine yB (hL 227 _ rfl) rfl ?_
  simp[Mz,dK,eA,hw,fA,eF,g1,Ax,m6,yJ]
 have eR:R2.take n++[R2[n]]=R2:=by
  have:=a8 (l:=R2) (i:=n)
  rw[bW (by omega),an rJ] at this
  exact this.symm
 refine⟨h3,R2[n],R2.take n,?_,⟨dh,?_,[.int .i64 (R2[n]:Int)]++rest,?_⟩,?_,⟨?_,?_,.inl rfl⟩⟩
 ·refine yB (hL 225 _ rfl) rfl ?_
  rw[← fX] at c2
  simp[Mx,BV,Cw,CJ,iJ,c3,hw,c1,yH,c2,c4,yJ]
 ·rw[m6,av (by rw[fX]; simpa using pA),ba,Nat.min_eq_left (by omega)]
 ·rw[m6,ai dh,eA,← aI]
  congr 3
  have:yn R2=yn (R2.take n++[R2[n]]):=by rw[eR]
  rw[this]
  unfold yn
  rw[bm]; rfl
 ·refine(gW.symm.trans oc.symm).trans ?_
  exact(List.Perm.of_eq eR.symm).trans List.perm_append_comm
 ·rw[m6,fX]; simp
 ·intro a ha h2 eX
  rw[m6,ai (λe=>h2 e.symm),fX,ai (λe=>eX e.symm)]
end
end PI.Sc
set_option linter.unusedSimpArgs false
set_option linter.unusedVariables false
namespace PI.Sc
abbrev Pr:=Int×Int
def B4 (z:List Pr) (x:Pr):List Pr:=if z.getLast? = some x then z else z++[x]
def AR (l:List Pr):List Pr:=l.foldl B4 []
theorem b8P (z:List Pr) (x:Pr):(B4 z x).getLast? = some x:=by
 unfold B4
 split
 ·assumption
 ·simp
theorem HG (l:List Pr) {i:Nat} (h:i<l.length):AR (l.take (i+1))=B4 (AR (l.take i)) l[i]:=by
 unfold AR
 rw[a8,an h,cN]; rfl
theorem MS (l:List Pr) {i:Nat} (h:i<l.length):(AR (l.take (i+1))).getLast? = some l[i]:=by
 rw[HG l h,b8P]
theorem QQ:∀(l:List Pr) (z:List Pr),(l.foldl B4 z).length≤z.length+l.length
 | [],z=>by simp
 | x :: l, z => by
   have:=QQ l (B4 z x)
   have h2:(B4 z x).length≤z.length+1:=by unfold B4; split<;>simp
   simp only[cI,aB]; omega
theorem So:∀(l:List Pr) (j:Nat) (h:j<l.length),(l.flatMap zi).drop (j*2)=zi l[j]++(l.drop (j+1)).flatMap zi
 | [],j,h=>by simp at h
 | x::l,0,h=>by simp[zi]
 | x :: l, j + 1, h => by
   have:=So l j (by simpa using h)
   rw[show (j+1)*2=j*2+2 by omega]
   simp only[aM,zi,aK,be,List.drop_succ_cons,cj] at this ⊢
   exact this
theorem Ij:∀l:List Pr,(l.flatMap zi).length=l.length*2
 | []=>rfl
 | x::l=>by simp only[aM,ao,aB,Ij l]; simp[zi]; omega
theorem Sp (l:List Pr) (j:Nat) (h:j<l.length):yu 2 true (l.flatMap zi) (j*2)=some (.agg (zi l[j])):=by
 have hl:=Ij l
 simp only[yu,if_true]
 rw[af (by omega),So l j h]
 simp[zi,dem]
theorem MT:∀(l:List Pr) (k:Nat),(l.flatMap zi).take (k*2)=(l.take k).flatMap zi
 | [],k=>by simp
 | x::l,0=>by simp
 | x :: l, k + 1 => by
   rw[show (k+1)*2=k*2+2 by omega]
   simp only[aM,zi,aK,be,List.take_succ_cons]
   rw[MT l k]
theorem b8Q (l:List Pr) (k:Nat) (x:Pr) (h:k<l.length):yM 2 true (l.flatMap zi) (k*2) (.agg (zi x))=some ((l.set k x).flatMap zi):=by
 have hl:=Ij l
 simp only[yM,if_true]
 rw[af ⟨rfl,by omega⟩]
 congr 1
 rw[MT,show k*2+2=(k+1)*2 by omega,List.set_eq_take_append_cons_drop,af h]
 simp only[bQ,aM]
 congr 2
 have:∀(l:List Pr) (k:Nat),(l.flatMap zi).drop (k*2)=(l.drop k).flatMap zi:=by
  intro l
  induction l with
  | nil=>simp
  | cons y l ih =>
    intro k
    cases k with
    | zero=>simp
    | succ k =>
      rw[show (k+1)*2=k*2+2 by omega]
      simp only[aM,zi,aK,be,List.drop_succ_cons]
      exact ih k
 exact this l (k+1)
theorem QM (l:List Pr) (rest:List PV):∀(n off:Nat),off+n=l.length→Ao 2 true (l.flatMap zi++rest) n (off*2)=some ((l.drop off).map λx => .agg (zi x))
 | 0,off,h=>by simp[Ao,bl (show l.length≤off by omega)]
 | n + 1, off, h => by
   have dc:off<l.length:=by omega
   have e:yu 2 true (l.flatMap zi++rest) (off*2)=some (.agg (zi l[off])):=by
    have h1:=Sp l off dc
    have hl:=Ij l
    simp only[yu,if_true] at h1 ⊢
    rw[af (by rw[ao]; omega)]
    rw[af (by omega)] at h1
    rw[List.drop_append_of_le_length (by omega),cU (by rw[cm]; omega)]
    exact h1
   simp only[Ao,e,ar]
   rw[show off*2+2=(off+1)*2 by omega,QM l rest n (off+1) (by omega),bg dc]
   rfl
structure Prs (cs:List PV) (l:List Pr):Prop where
 eq:cs=l.flatMap zi
theorem Prs.len {cs:List PV} {l:List Pr} (h:Prs cs l):cs.length=l.length*2:=by rw[h.eq,Ij]
theorem Prs.get {cs:List PV} {l:List Pr} (h:Prs cs l) {j:Nat} (hj:j<l.length):j*2+2≤cs.length∧List.map dem (List.take 2 (List.drop (j*2) cs))=[.int .i64 l[j].1,.int .i64 l[j].2]:=by
 have h1:=Sp l j hj
 have hl:=h.len
 rw[← h.eq] at h1
 simp only[yu,if_true] at h1
 rw[af (by omega)] at h1
 simp only[aa,PV.agg.injEq] at h1
 exact⟨by omega,h1⟩
theorem Prs.set {cs:List PV} {l:List Pr} (h:Prs cs l) {k:Nat} (hk:k<l.length) (x:Pr):Prs (cs.take (k*2)++([.int .i64 x.1,.int .i64 x.2]++cs.drop (k*2+2))) (l.set k x):=by
 have h1:=b8Q l k x hk
 have hl:=h.len
 rw[← h.eq] at h1
 simp only[yM,if_true] at h1
 rw[af ⟨rfl,by omega⟩] at h1
 simp only[aa] at h1
 exact⟨h1⟩
end PI.Sc
set_option maxRecDepth 100000
set_option linter.unusedSimpArgs false
set_option linter.unusedVariables false
namespace PI.Sc
open Go (IntKind BinOp UnOp)
open Short
@[simp] theorem d4b (n sz:Nat) (ag:Bool) (o l:Nat):cp (.rows n sz ag o l)=some (.rows n sz ag o l):=rfl
@[simp] theorem d2L (n sz:Nat) (ag:Bool) (o l:Nat):dem (.rows n sz ag o l) = .rows n sz ag o l:=rfl
@[simp] theorem d2M (n sz:Nat) (ag:Bool) (o l:Nat):tkv (.rows n sz ag o l)=some (.rows n sz ag o l,false):=rfl
section
variable {L:Nat→Option PFunc} (hL:∀k f,LS k=some f→L k=some f)
include hL
def QB (h:List PObj) (n:Nat) (len:Nat) (l:List Pr):Prop:=l.length=len∧∃rest,h[n]? = some (.cells (l.flatMap zi++rest))
theorem c0v (l:List Pr) (hl:l.length≤2000000000) (n:Nat) (h:List PObj) (cs:List PV) (hn:h[n]? = some (.cells cs)) (d9:Prs cs l) (q:Nat) (h1:1≤q) (iT:q<l.length) (hc:AR (l.take q)=l.take q) (he:l[q]=l[q - 1])
  {Q:PExit→St→Prop} (hk:∀cs' cur k y4,Prs cs' cur→cur.length=l.length→k≤l.length→1≤k→cur.take k=AR l→Q (.exit 2) ⟨[.rowp n 2 true l.length,.list true [],.int .i64 (k:Nat),.rows n 2 true q (l.length - q),y4],[],0,h.set n (.cells cs')⟩):
  wpL L Mq ⟨[.rowp n 2 true l.length,.list true [],.int .i64 q,.rows n 2 true q (l.length - q),.int .i64 1],[],0,h⟩ Q:=by
 have fA:n<h.length:=(ah.1 hn).1
 have yH:h.set n (.cells cs)=h:=Ch hn
 have jw:q - 1<l.length:=by omega
 have ga:(l.take q).getLast? = some l[q - 1]:=by
  have:=MS l jw
  rw[show q - 1+1=q by omega,hc] at this
  exact this
 have jx:l.take q=AR (l.take (q+1)):=by rw[HG l iT,hc,B4,af (by rw[ga,he])]
 rw[Mq]
 refine yU (l.length - q - 1) (λj st=>∃k2 k cs' cur,k2=j+1∧st=⟨[.rowp n 2 true l.length,.list true [],.int .i64 (k:Nat),.rows n 2 true q (l.length - q),.int .i64 (k2:Nat)],[],0,h.set n (.cells cs')⟩∧Prs cs' cur∧cur.length=l.length∧cur.take k=AR (l.take (q+k2))∧1≤k∧k≤q+k2 - 1∧∀i,q+k2 - 1≤i→cur[i]? = l[i]?) ?_ ?_ ⟨1,q,cs,l,rfl,by rw[yH]; rfl,d9,rfl,jx,h1,by omega,λ_ _=>rfl⟩
 ·rintro j hj st ⟨k2,k,cs',cur,eA,rfl,hp,dH,ee,fm,pY,dA⟩ ih
  have dc:k2<l.length - q:=by omega
  have eK:q+k2<l.length:=by omega
  have hi:q+k2<cur.length:=by omega
  have gy:q+(k2 - 1)<cur.length:=by omega
  have iu:k<cur.length:=by omega
  have fe:k<l.length:=by omega
  obtain⟨g1,g3⟩:=hp.get hi
  obtain⟨g2,g4⟩:=hp.get gy
  have hw:=yz k2 (by omega)
  have sD:=yz k (by omega)
  have hs:IntKind.i64.wrap ((k2:Int) - 1)=((k2 - 1:Nat):Int):=by rw[show ((k2:Int) - 1)=((k2 - 1:Nat):Int) by omega]; exact BB _ (by omega)
  have lf:k2 - 1<l.length - q:=by omega
  have e1:cur[q+k2]=l[q+k2]:=by
   have:=dA (q+k2) (by omega)
   rw[an hi,an eK] at this
   simpa using this
  have e2':cur[q+(k2 - 1)]=l[q+(k2 - 1)]:=by
   have:=dA (q+(k2 - 1)) (by omega)
   rw[an gy,an (by omega)] at this
   simpa using this
  have mz:=HG l eK
  have nO:(AR (l.take (q+k2))).getLast? = some l[q+(k2 - 1)]:=by
   have:=MS l (i:=q+(k2 - 1)) (by omega)
   rwa [show q+(k2 - 1)+1=q+k2 by omega] at this
  rw[e1] at g3
  rw[e2'] at g4
  by_cases hd:l[q+k2]=l[q+(k2 - 1)]
  ·simp[dc,hw,fA,hs,lf,g1,g2,g3,g4,A4,Bo,hd]
   refine ih _ ⟨k2+1,k,cs',cur,by omega,rfl,hp,dH,?_,fm,by omega,λi hi=>dA i (by omega)⟩
   ·rw[show q+(k2+1)=q+k2+1 by omega,mz,B4,af (by rw[nO,hd])]
    exact ee
  ·have gH:¬l[q+k2].1=l[q+(k2 - 1)].1∨¬l[q+k2].2=l[q+(k2 - 1)].2:=by
    by_cases ha:l[q+k2].1=l[q+(k2 - 1)].1
    ·exact .inr λhb=>hd (Prod.ext ha hb)
    ·exact .inl ha
   have ey:=hp.set iu l[q+k2]
   have nP:k*2+2≤cs'.length:=by rw[hp.len]; omega
   simp[dc,hw,sD,fA,hs,lf,fe,g1,g2,g3,g4,A4,Bo,gH,nP]
   refine ih _ ⟨k2+1,k+1,_,cur.set k l[q+k2],by omega,rfl,ey,by rw[aZ]; exact dH,?_,by omega,by omega,λi hi =>?_⟩
   ·rw[show q+(k2+1)=q+k2+1 by omega,mz,B4,ae (by rw[nO]; intro e; exact hd (by simpa using e.symm)),← ee]
    rw[a8,av iu]
    simp only[Option.toList_some]
    congr 1
    rw[List.take_set_of_le (am k)]
   ·rw[ai (by omega)]
    exact dA i (by omega)
 ·rintro st ⟨k2,k,cs',cur,eA,rfl,hp,dH,ee,fm,pY,dA⟩
  have e:q+k2=l.length:=by omega
  have jy:¬k2<l.length - q:=by omega
  rw[e,aD] at ee
  simp[jy]
  exact hk cs' cur k _ hp dH (by omega) fm ee
theorem c0w (l:List Pr) (hl:l.length≤2000000000) (n:Nat) (h:List PObj) (cs:List PV) (hn:h[n]? = some (.cells cs)) (d9:Prs cs l):
  ∃h',ym L 220 [.rowp n 2 true l.length] h=some (.rowp n 2 true (AR l).length,h')∧QB h' n (AR l).length (AR l):=by
 suffices H:∃r,ym L 220 [.rowp n 2 true l.length] h=some r∧r.1 = .rowp n 2 true (AR l).length∧QB r.2 n (AR l).length (AR l) by
  obtain⟨⟨v,h'⟩,h1,h2,h3⟩:=H
  simp only at h2 h3; subst h2
  exact⟨h',h1,h3⟩
 have fA:n<h.length:=(ah.1 hn).1
 refine AP (hL 220 _ rfl) rfl ?_
 by_cases h2:l.length<2
 ·have eB:(l.length:Int)<2:=by omega
  have e:AR l=l:=by
   match l,h2 with
   | [],_=>rfl
   | [x],_=>rfl
  simp[Hw,tf eB,yJ,e]
  exact⟨rfl,[],by rw[aW,← d9.eq]; exact hn⟩
 ·have eB:¬(l.length:Int)<2:=by omega
  simp[Hw,eB]
  rw[P6]
  have dB:0<l.length:=by omega
  refine yU (l.length - 1) (λj st=>∃y3 y4 q,q=j+1∧st=⟨[.rowp n 2 true l.length,.list true [],.int .i64 q,y3,y4],[],0,h⟩∧AR (l.take q)=l.take q) ?_ ?_ ⟨_,_,1,rfl,rfl,?_⟩
  ·rintro j hj st ⟨y3,y4,q,hq,rfl,hc⟩ ih
   have iT:q<l.length:=by omega
   have hw:=yz q (by omega)
   have hs:IntKind.i64.wrap ((q:Int) - 1)=((q - 1:Nat):Int):=by rw[show ((q:Int) - 1)=((q - 1:Nat):Int) by omega]; exact BB _ (by omega)
   have jw:q - 1<l.length:=by omega
   obtain⟨g1,g3⟩:=d9.get iT
   obtain⟨g2,g4⟩:=d9.get jw
   have gl:AR (l.take (q+1))=B4 (l.take q) l[q]:=by rw[HG l iT,hc]
   have ga:(l.take q).getLast? = some l[q - 1]:=by
    have:=MS l jw
    rw[show q - 1+1=q by omega,hc] at this
    exact this
   have nQ:q≤l.length:=by omega
   have pZ:¬q=0:=by omega
   by_cases he:l[q]=l[q - 1]
   ·simp[iT,hw,hn,hs,jw,g1,g2,g3,g4,A4,Bo,he,nQ,pZ]
    refine c0v hL l hl n h cs hn d9 q (by omega) iT hc he ?_
    intro cs' cur k y4 hp dH fe fm ee
    have kH:¬k=0:=by omega
    have eA:k*2≤cs'.length:=by rw[hp.len]; omega
    have iu:(AR l).length=k:=by rw[← ee,ba]; omega
    simp[fe,fA,kH,eA,yJ,iu]
    refine⟨iu,[],?_⟩
    rw[← ee,← MT,← hp.eq]
    simp[fA]
   ·have gH:¬(l[q].1=l[q - 1].1∧l[q].2=l[q - 1].2):=λe=>he (Prod.ext e.1 e.2)
    simp[iT,hw,hn,hs,jw,g1,g2,g3,g4,A4,Bo,gH]
    refine ih _ ⟨_,_,q+1,by omega,rfl,?_⟩
    rw[gl,B4,ae (by rw[ga]; intro e; exact he (by simpa using e.symm)),a8,an iT]
    rfl
  ·rintro st ⟨y3,y4,q,hq,rfl,hc⟩
   have sE:q=l.length:=by omega
   subst sE
   rw[aD] at hc
   simp[yJ,hc]
   exact⟨rfl,[],by rw[aW,← d9.eq]; exact hn⟩
  ·rw[show (1:Nat)=0+1 from rfl,HG l dB]
   rw[a8,an dB]
   rfl
end
def B5 (z:List Nat) (x:Nat):List Nat:=if z.getLast? = some x then z else z++[x]
def AL (l:List Nat):List Nat:=l.foldl B5 []
theorem c1T (z:List Nat) (x:Nat):(B5 z x).getLast? = some x:=by
 unfold B5
 split
 ·assumption
 ·simp
theorem HN (l:List Nat) {i:Nat} (h:i<l.length):AL (l.take (i+1))=B5 (AL (l.take i)) l[i]:=by
 unfold AL
 rw[a8,an h,cN]; rfl
theorem Nb (l:List Nat) {i:Nat} (h:i<l.length):(AL (l.take (i+1))).getLast? = some l[i]:=by
 rw[HN l h,c1T]
theorem c4d (z:List Nat) (x y:Nat):y∈B5 z x↔y∈z∨y=x:=by
 unfold B5
 split
 ·rename_i h
  have:=List.mem_of_getLast? h
  constructor
  ·exact .inl
  ·rintro(h|rfl)
   ·exact h
   ·exact this
 ·simp
theorem b6D (l:List Nat) (y:Nat):y∈AL l↔y∈l:=by
 have:∀(l z:List Nat),y∈l.foldl B5 z↔y∈z∨y∈l:=by
  intro l
  induction l with
  | nil=>intro z; simp
  | cons x l ih=>intro z; rw[cI,ih,c4d]; simp[or_assoc]
 unfold AL
 rw[this]; simp
section
variable {L:Nat→Option PFunc} (hL:∀k f,LS k=some f→L k=some f)
include hL
theorem b8t (l:List Nat) (hl:l.length≤2000000000) (n:Nat) (rest:List PV) (h:List PObj) (hn:h[n]? = some (.cells (yn l++rest))) (q:Nat) (h1:1≤q) (iT:q<l.length) (hc:AL (l.take q)=l.take q) (he:l[q]=l[q - 1])
  {Q:PExit→St→Prop} (hk:∀cur k y4,cur.length=l.length→k≤l.length→1≤k→cur.take k=AL l→Q (.exit 2) ⟨[.rowp n 1 false l.length,.list true [],.int .i64 (k:Nat),.rows n 1 false q (l.length - q),y4],[],0,h.set n (.cells (yn cur++rest))⟩):
  wpL L MH ⟨[.rowp n 1 false l.length,.list true [],.int .i64 q,.rows n 1 false q (l.length - q),.int .i64 1],[],0,h⟩ Q:=by
 have fA:n<h.length:=(ah.1 hn).1
 have yH:h.set n (.cells (yn l++rest))=h:=Ch hn
 have jw:q - 1<l.length:=by omega
 have ga:(l.take q).getLast? = some l[q - 1]:=by
  have:=Nb l jw
  rw[show q - 1+1=q by omega,hc] at this
  exact this
 have jx:l.take q=AL (l.take (q+1)):=by rw[HN l iT,hc,B5,af (by rw[ga,he])]
 rw[MH]
 refine yU (l.length - q - 1) (λj st=>∃k2 k cur,k2=j+1∧st=⟨[.rowp n 1 false l.length,.list true [],.int .i64 (k:Nat),.rows n 1 false q (l.length - q),.int .i64 (k2:Nat)],[],0,h.set n (.cells (yn cur++rest))⟩∧cur.length=l.length∧cur.take k=AL (l.take (q+k2))∧1≤k∧k≤q+k2 - 1∧∀i,q+k2 - 1≤i→cur[i]? = l[i]?) ?_ ?_ ⟨1,q,l,rfl,by rw[yH]; rfl,rfl,jx,h1,by omega,λ_ _=>rfl⟩
 ·rintro j hj st ⟨k2,k,cur,eA,rfl,dH,ee,fm,pY,dA⟩ ih
  have dc:k2<l.length - q:=by omega
  have eK:q+k2<l.length:=by omega
  have hi:q+k2<cur.length:=by omega
  have gy:q+(k2 - 1)<cur.length:=by omega
  have iu:k<cur.length:=by omega
  have fe:k<l.length:=by omega
  have g1:=Dw hi rest
  have g2:=Dw gy rest
  have hw:=yz k2 (by omega)
  have sD:=yz k (by omega)
  have hs:IntKind.i64.wrap ((k2:Int) - 1)=((k2 - 1:Nat):Int):=by rw[show ((k2:Int) - 1)=((k2 - 1:Nat):Int) by omega]; exact BB _ (by omega)
  have lf:k2 - 1<l.length - q:=by omega
  have e1:cur[q+k2]=l[q+k2]:=by
   have:=dA (q+k2) (by omega)
   rw[an hi,an eK] at this
   simpa using this
  have e2':cur[q+(k2 - 1)]=l[q+(k2 - 1)]:=by
   have:=dA (q+(k2 - 1)) (by omega)
   rw[an gy,an (by omega)] at this
   simpa using this
  have mz:=HN l eK
  have nO:(AL (l.take (q+k2))).getLast? = some l[q+(k2 - 1)]:=by
   have:=Nb l (i:=q+(k2 - 1)) (by omega)
   rwa [show q+(k2 - 1)+1=q+k2 by omega] at this
  rw[e1] at g1
  rw[e2'] at g2
  by_cases hd:l[q+k2]=l[q+(k2 - 1)]
  ·simp[dc,hw,fA,hs,lf,g1,g2,hd]
   refine ih _ ⟨k2+1,k,cur,by omega,rfl,dH,?_,fm,by omega,λi hi=>dA i (by omega)⟩
   ·rw[show q+(k2+1)=q+k2+1 by omega,mz,B5,af (by rw[nO,hd])]
    exact ee
  ·have gH:¬(l[q+k2]:Int)=(l[q+(k2 - 1)]:Int):=by omega
   have dz:=M7 iu rest l[q+k2]
   have d9:k<(yn cur).length+rest.length:=by rw[Ar]; omega
   simp[dc,hw,sD,fA,hs,lf,fe,g1,g2,hd,gH,dz,d9]
   refine ih _ ⟨k2+1,k+1,cur.set k l[q+k2],by omega,rfl,by rw[aZ]; exact dH,?_,by omega,by omega,λi hi =>?_⟩
   ·rw[show q+(k2+1)=q+k2+1 by omega,mz,B5,ae (by rw[nO]; intro e; exact hd (by simpa using e.symm)),← ee]
    rw[a8,av iu]
    simp only[Option.toList_some]
    congr 1
    rw[List.take_set_of_le (am k)]
   ·rw[ai (by omega)]
    exact dA i (by omega)
 ·rintro st ⟨k2,k,cur,eA,rfl,dH,ee,fm,pY,dA⟩
  have e:q+k2=l.length:=by omega
  have jy:¬k2<l.length - q:=by omega
  rw[e,aD] at ee
  simp[jy]
  exact hk cur k _ dH (by omega) fm ee
theorem b6E (l:List Nat) (hl:l.length≤2000000000) (n:Nat) (rest:List PV) (h:List PObj) (hn:h[n]? = some (.cells (yn l++rest))):
  ∃rest',ym L 237 [.rowp n 1 false l.length] h=some (.rowp n 1 false (AL l).length,h.set n (.cells (yn (AL l)++rest'))):=by
 suffices H:∃r,ym L 237 [.rowp n 1 false l.length] h=some r∧r.1 = .rowp n 1 false (AL l).length∧∃rest',r.2=h.set n (.cells (yn (AL l)++rest')) by
  obtain⟨⟨v,h'⟩,h1,h2,r',h3⟩:=H
  simp only at h2 h3; subst h2 h3
  exact⟨r',h1⟩
 have fA:n<h.length:=(ah.1 hn).1
 refine AP (hL 237 _ rfl) rfl ?_
 by_cases h2:l.length<2
 ·have eB:(l.length:Int)<2:=by omega
  have e:AL l=l:=by
   match l,h2 with
   | [],_=>rfl
   | [x],_=>rfl
  simp[Hy,tf eB,yJ,e]
  exact⟨rest,(Ch hn).symm⟩
 ·have eB:¬(l.length:Int)<2:=by omega
  simp[Hy,eB]
  rw[Qb]
  have dB:0<l.length:=by omega
  refine yU (l.length - 1) (λj st=>∃y3 y4 q,q=j+1∧st=⟨[.rowp n 1 false l.length,.list true [],.int .i64 q,y3,y4],[],0,h⟩∧AL (l.take q)=l.take q) ?_ ?_ ⟨_,_,1,rfl,rfl,?_⟩
  ·rintro j hj st ⟨y3,y4,q,hq,rfl,hc⟩ ih
   have iT:q<l.length:=by omega
   have hw:=yz q (by omega)
   have hs:IntKind.i64.wrap ((q:Int) - 1)=((q - 1:Nat):Int):=by rw[show ((q:Int) - 1)=((q - 1:Nat):Int) by omega]; exact BB _ (by omega)
   have jw:q - 1<l.length:=by omega
   have g1:=Dw iT rest
   have g2:=Dw jw rest
   have gl:AL (l.take (q+1))=B5 (l.take q) l[q]:=by rw[HN l iT,hc]
   have ga:(l.take q).getLast? = some l[q - 1]:=by
    have:=Nb l jw
    rw[show q - 1+1=q by omega,hc] at this
    exact this
   have nQ:q≤l.length:=by omega
   have pZ:¬q=0:=by omega
   by_cases he:l[q]=l[q - 1]
   ·simp[iT,hw,hn,hs,jw,g1,g2,he,nQ,pZ]
    refine b8t hL l hl n rest h hn q (by omega) iT hc he ?_
    intro cur k y4 dH fe fm ee
    have kH:¬k=0:=by omega
    have iu:(AL l).length=k:=by rw[← ee,ba]; omega
    have lZ:k≤(yn cur).length+rest.length:=by rw[Ar]; omega
    have sR:k≤(yn cur).length:=by rw[Ar]; omega
    have qf:(yn cur++rest).take k=yn (AL l):=by rw[cU sR,← ee,yn,yn,List.map_take]
    simp[fe,fA,kH,yJ,iu,lZ,qf]
    exact⟨[],by simp⟩
   ·have gH:¬(l[q]:Int)=(l[q - 1]:Int):=by omega
    simp[iT,hw,hn,hs,jw,g1,g2,gH,he]
    refine ih _ ⟨_,_,q+1,by omega,rfl,?_⟩
    rw[gl,B5,ae (by rw[ga]; intro e; exact he (by simpa using e.symm)),a8,an iT]
    rfl
  ·rintro st ⟨y3,y4,q,hq,rfl,hc⟩
   have sE:q=l.length:=by omega
   subst sE
   rw[aD] at hc
   simp[yJ,hc]
   exact⟨rest,(Ch hn).symm⟩
  ·rw[show (1:Nat)=0+1 from rfl,HN l dB]
   rw[a8,an dB]
   rfl
end
def eE (e:Nat×Nat):PV := .agg [.int .i64 (e.1:Int),.int .i64 (e.2:Int)]
def As (E:List (Nat×Nat)) (v:Nat):List Nat:=(E.filter λe=>e.1==v).map (·.2)
theorem CC {E:List (Nat×Nat)} {v w:Nat}:w∈As E v↔(v,w)∈E:=by
 unfold As
 simp only[bh,cJ,br]
 constructor
 ·rintro⟨⟨a,b⟩,⟨h1,h2⟩,h3⟩
  simp only at h2 h3; subst h2 h3; exact h1
 ·intro h; exact⟨(v,w),⟨h,rfl⟩,rfl⟩
theorem c1U (E:List (Nat×Nat)) (e:Nat×Nat):As (E++[e])=fup (As E) e.1 (As E e.1++[e.2]):=by
 funext v
 unfold As fup
 rw[List.filter_append,bm]
 by_cases h:v=e.1
 ·subst h; simp
 ·rw[ae h]
  have:(e.1==v)=false:=by simpa using λe'=>h e'.symm
  simp[this]
section
variable {L:Nat→Option PFunc} (hL:∀k f,LS k=some f→L k=some f)
include hL
theorem Q8 (x n:Nat) (h:List PObj):ym L 234 [.int .i64 (x:Int),.cptr [.int .i64 (n:Int)]] h=some (.bool (decide (x<n)),h):=by
 refine yB (hL 234 _ rfl) rfl ?_
 simp[MF,yJ]
theorem c4e (v:PV) (hv:v = .list false []∨v = .nils) (fv:PV) (hf:∃k a c,fv = .func k a c) (h:List PObj):ym L 244 [v,fv] h=some (.int .i64 (-1),h):=by
 obtain⟨k,a,c,rfl⟩:=hf
 refine yB (hL 244 _ rfl) rfl ?_
 rcases hv with rfl|rfl
 all_goals
  simp[MK,Qg,Cy,yJ]
theorem c1V (v:PV) (hv:v = .list false []∨v = .nils) (fv:PV) (hf:∃k a c,fv = .func k a c) (h:List PObj):ym L 235 [v,fv] h=some (.bool false,h):=by
 have hc:=c4e hL v hv fv hf h
 obtain⟨k,a,c,rfl⟩:=hf
 refine yB (hL 235 _ rfl) rfl ?_
 rcases hv with rfl|rfl
 all_goals
  simp[MG,hc,yJ]
theorem QU (n:Nat) (hn:n≤4096) (E:List (Nat×Nat)) (hE:∀e∈E,e.1<n∧e.2<n) (hl:E.length≤2000000000) (v:PV) (hv:v = .list false []∨v = .nils):ym L 221 [.int .i64 (n:Int),.list false (E.map eE),v] []=some (.bool true,[]):=by
 have h0:¬(n:Int)<0:=by omega
 have h1:¬4096<(n:Int):=by omega
 have hd:dem v=v:=by rcases hv with rfl|rfl<;>rfl
 have hn:=λh=>c1V hL v hv (.func 236 [] [.cptr [.func 234 [] [.cptr [.int .i64 (n:Int)]]]]) ⟨_,_,_,rfl⟩ h
 have gb:cp v=some v:=by rcases hv with rfl|rfl<;>rfl
 have rK:yC v=true:=by rcases hv with rfl|rfl<;>rfl
 refine yB (hL 221 _ rfl) rfl ?_
 simp[Mr,h0,h1,PV.flat,hd]
 rw[P7]
 refine yU E.length (λi st=>∃y6 g',st=⟨[.int .i64 (n:Int),.list false (E.map eE),v,.cptr [.int .i64 (n:Int)],.bool false,.loc 1 [.func 234 [] [.cptr [.int .i64 (n:Int)]]],y6,.list false (E.map eE),.int .i64 (E.length:Nat),.int .i64 (i:Nat)],[],g',[]⟩) ?_ ?_ ⟨_,_,rfl⟩
 ·rintro i hi st ⟨y6,g',rfl⟩ ih
  have hw:=yz i (by omega)
  obtain⟨e1,e2⟩:=hE E[i] (ak hi)
  have c1:=Q8 hL E[i].1 n []
  have c2:=Q8 hL E[i].2 n []
  simp[e1] at c1
  simp[e2] at c2
  simp[hi,hw,eE,c1,c2]
  exact ih _ ⟨_,_,rfl⟩
 ·rintro st ⟨y6,g',rfl⟩
  simp[hn,gb,rK,yJ]
end
theorem b6G (l:List Nat):(AL l).length≤l.length:=by
 have:∀(l z:List Nat),(l.foldl B5 z).length≤z.length+l.length:=by
  intro l
  induction l with
  | nil=>intro z; simp
  | cons x l ih =>
    intro z
    have:=ih (B5 z x)
    have h2:(B5 z x).length≤z.length+1:=by unfold B5; split<;>simp
    simp only[cI,aB]; omega
 have:=this l []
 unfold AL
 simpa using this
theorem Q9:∀R:List Nat,Fv (yn R)=some (R.map λ(x:Nat)=>(x:Int))
 | []=>rfl
 | x :: R => by
   have ih:=Q9 R
   unfold yn at ih ⊢
   simp only[aA,Fv,ih,aC]
structure NS (n:Nat) (h:List PObj) (f:Nat→List Nat) (ns:List PV) (ow:Nat→Nat):Prop where
 obj:h[0]? = some (.cells ns)
 len:ns.length=n
 row:∀v,v<n→(f v=[]∧∃o,ns[v]? = some (.list o []))∨∃k rest,ns[v]? = some (.rowp k 1 false (f v).length)∧1≤k∧ow k=v∧h[k]? = some (.cells (yn (f v)++rest))
theorem NS.upd {n:Nat} {h H:List PObj} {f:Nat→List Nat} {ns:List PV} {ow:Nat→Nat} (eO:NS n h f ns ow) {v:Nat} (hv:v<n) (x:Nat) (hK:H[h.length]? = some (.cells (yn (f v++[x])))) (h0:0<h.length)
  (hs:∀a,1≤a→a<h.length→ow a≠v→H[a]? = h[a]?) {m:Nat} (hm:m=(f v).length+1):
  NS n (H.set 0 (.cells (ns.set v (.rowp h.length 1 false m)))) (fup f v (f v++[x])) (ns.set v (.rowp h.length 1 false m)) (fup ow h.length v):=by
 have hH:h.length<H.length:=(ah.1 hK).1
 have hl:=eO.len
 refine⟨av (by omega),by rw[aZ]; exact hl,λu hu =>?_⟩
 by_cases e:u=v
 ·subst e
  refine .inr ⟨h.length,[],?_,h0,zZ _ _ _,?_⟩
  ·rw[zZ,av (by omega),hm]; simp
  ·rw[zZ,ai (by omega),hK,aW]
 ·rw[Aq _ _ e]
  rcases eO.row u hu with⟨h1,o,h2⟩|⟨k,rest,h1,h2,h3,h4⟩
  ·exact .inl ⟨h1,o,by rw[ai (λe'=>e e'.symm)]; exact h2⟩
  ·have fe:k<h.length:=(ah.1 h4).1
   refine .inr ⟨k,rest,by rw[ai (λe'=>e e'.symm)]; exact h1,h2,?_,?_⟩
   ·rw[Aq _ _ (by omega)]; exact h3
   ·rw[ai (by omega),hs k h2 fe (by rw[h3]; exact e)]; exact h4
section
variable {L:Nat→Option PFunc} (hL:∀k f,LS k=some f→L k=some f)
include hL
theorem d4f (n:Nat) (hn:n≤4096) (E:List (Nat×Nat)) (hE:∀e∈E,e.1<n∧e.2<n) (hl:E.length≤2000000000) (V0 V2 V9 V10:PV) {Q:PExit→St→Prop}
  (hk:∀y4 g' h' ns ow,NS n h' (As E) ns ow→Q (.exit 0) ⟨[V0,.list false (E.map eE),V2,.rowp 0 1 false n,y4,.dead,.list false (E.map eE),.int .i64 (E.length:Nat),.int .i64 (E.length:Nat),V9,V10],[],g',h'⟩):
  wpL L Ms ⟨[V0,.list false (E.map eE),V2,.rowp 0 1 false n,.dead,.dead,.list false (E.map eE),.int .i64 (E.length:Nat),.int .i64 0,V9,V10],[],0,[.cells (List.replicate n (.list true []))]⟩ Q:=by
 rw[Ms]
 have _:=hL
 refine yU E.length (λi st=>∃y4 g' h',∃ns:List PV,∃ow,NS n h' (As (E.take i)) ns ow∧(∀(v:Nat) (o:Bool),ns[v]? = some (PV.list o [])→o=true)∧st=⟨[V0,.list false (E.map eE),V2,.rowp 0 1 false n,y4,.dead,.list false (E.map eE),.int .i64 (E.length:Nat),.int .i64 (i:Nat),V9,V10],[],g',h'⟩) ?_ ?_ ⟨_,_,_,_,λ_=>0,⟨rfl,by simp,λv hv => .inl ⟨rfl,true,by simp[hv]⟩⟩,λv o h=>by simp[cB] at h; exact h.2,rfl⟩
 ·rintro i hi st ⟨y4,g',h',ns,ow,eO,qf,rfl⟩ ih
  obtain⟨ho,cY,gX⟩:=id eO
  have trues:∀m,(∀(v:Nat) (o:Bool),ns[v]? = some (PV.list o [])→o=true)→∀(v:Nat) (o:Bool),(ns.set E[i].1 (.rowp h'.length 1 false m))[v]? = some (PV.list o [])→o=true:=by
   intro m ht v o hv
   rw[aO] at hv
   split at hv
   ·split at hv<;>simp at hv
   ·exact ht v o hv
  have hw:=yz i (by omega)
  obtain⟨e1,e2⟩:=hE E[i] (ak hi)
  have e1':E[i].1<ns.length:=by omega
  have mz:=c1U (E.take i) E[i]
  rw[← AH hi] at mz
  have oe:0<h'.length:=(ah.1 ho).1
  have fQ:(As (E.take i) E[i].1).length≤i:=by
   unfold As
   rw[aG]
   refine aH (List.length_filter_le _ _) ?_
   rw[ba]; omega
  rcases gX E[i].1 e1 with⟨hf,o,mC⟩|⟨k,rest,mC,fm,dm,lZ⟩
  ·have:=qf _ _ mC
   subst this
   obtain⟨H1,fP⟩:∃H,H=h'.set 0 (.cells (ns.set E[i].1 (.list false []))):=⟨_,rfl⟩
   obtain⟨H2,fx⟩:∃H,H=H1++[PObj.cells [.int .i64 (E[i].2:Int)]]:=⟨_,rfl⟩
   have gz:∀V l g,AI H1 1 false 8 [.int .i64 (E[i].2:Int)] (.list true []) ⟨V,l,g,H1⟩=some (.rowp H1.length 1 false 1,⟨V,l,g,H2⟩):=by
    intro V l g
    simp[AI,fx]
   have lh:H2[0]? = some (.cells (ns.set E[i].1 (.list false []))):=by rw[fx,al (by rw[fP]; simpa using oe),fP,av oe]
   have dh:=(ah.1 mC).2
   simp[hi,hw,eE,ho,e1,e1',dh,← fP,gz,lh,Ax]
   have ei:H1.length=h'.length:=by rw[fP,aZ]
   have ec:=eO.upd e1 E[i].2 (H:=H2) (m:=1) (by rw[fx,hf,← ei,aq (am _)]; simp[yn]) oe (λa h1 h2 _=>by rw[fx,al (by omega),fP,ai (by omega)]) (by rw[hf]; rfl)
   rw[← mz] at ec
   rw[ei]
   exact ih _ ⟨_,_,_,_,_,ec,trues _ qf,rfl⟩
  ·obtain⟨H2,fx⟩:∃H,H=h'.set k .gone++[PObj.cells (yn (As (E.take i) E[i].1++[E[i].2]))]:=⟨_,rfl⟩
   have gz:=JH rfl lZ (by omega) E[i].2
   simp only[← fx] at gz
   have lh:H2[0]? = some (.cells ns):=by rw[fx,al (by simpa using oe),ai (by omega),ho]
   have dh:=(ah.1 mC).2
   simp[hi,hw,eE,ho,e1,e1',dh,gz,lh,Ax]
   have ec:=eO.upd e1 E[i].2 (H:=H2) (m:=(As (E.take i) E[i].1).length+1) (by rw[fx,aq (by simp)]; simp) oe (λa h1 h2 h3=>by rw[fx,al (by simpa using h2),ai (by rintro rfl; exact h3 dm)]) rfl
   rw[← mz] at ec
   exact ih _ ⟨_,_,_,_,_,ec,trues _ qf,rfl⟩
 ·rintro st ⟨y4,g',h',ns,ow,eO,_,rfl⟩
  rw[aD] at eO
  simp
  exact hk _ _ _ _ _ eO
theorem b5u (h:List PObj):ym L 237 [.list false []] h=some (.list false [],h):=by
 refine yB (hL 237 _ rfl) rfl ?_
 simp[Hy]
theorem c0B (h:List PObj):ym L 39 [.list false []] h=some (.tuple [],h):=by
 rw[HH (hL 39 _ rfl) rfl rfl]
 have hx:Fj [.list false []] h=some (.tuple [],h):=rfl
 simp[hx]
theorem c1W (k:Nat) (R:List Nat) (rest:List PV) (h:List PObj) (hk:h[k]? = some (.cells (yn R++rest))) (hR:R.length≤2000000000):
  ∃R':List Nat,R'.Perm R∧ym L 39 [.rowp k 1 false R.length] h=some (.tuple [],h.set k (.cells (yn R'++rest))):=by
 obtain⟨zs,hz⟩:∃zs,zs=Bh Fw (R.map λ(x:Nat)=>(x:Int)):=⟨_,rfl⟩
 have hp:zs.Perm (R.map λ(x:Nat)=>(x:Int)):=by rw[hz]; exact Gd _ _
 have wB:(zs.map Int.toNat).map (λ(x:Nat)=>(x:Int))=zs:=by
  rw[cA]
  refine(List.map_congr_left λz h =>?_).trans (List.map_id zs)
  obtain⟨x,_,rfl⟩:=bh.1 (hp.mem_iff.1 h)
  rfl
 refine⟨zs.map Int.toNat,?_,?_⟩
 ·have:=hp.map Int.toNat
  rw[cA] at this
  have e:List.map (Int.toNat∘λ(x:Nat)=>(x:Int)) R=R:=(List.map_congr_left λz h=>rfl).trans (List.map_id R)
  rwa [e] at this
 ·rw[HH (hL 39 _ rfl) rfl rfl]
  have e:yn (zs.map Int.toNat)=zs.map (PV.int .i64 ·):=by
   rw[yn,cA]
   conv=>rhs; rw[← wB]
   rw[cA,cA]
   rfl
  have hx:Fj [.rowp k 1 false R.length] h=some (.tuple [],h.set k (.cells (yn (zs.map Int.toNat)++rest))):=by
   simp only[Fj,hk]
   rw[af ⟨by rw[ao,Ar]; omega,by omega⟩,Q6,Q9,e,hz,List.drop_left' (Ar R)]
   rfl
  simp[hx]
end
theorem NS.upd2 {n:Nat} {h H:List PObj} {f:Nat→List Nat} {ns:List PV} {ow:Nat→Nat} (eO:NS n h f ns ow) {v:Nat} (hv:v<n) (l:List Nat) (c:PV) (h0:0<H.length)
  (hs:∀a,1≤a→a<h.length→ow a≠v→H[a]? = h[a]?) (hc:(l=[]∧∃o,c = .list o [])∨∃k rest,c = .rowp k 1 false l.length∧1≤k∧ow k=v∧H[k]? = some (.cells (yn l++rest))):
  NS n (H.set 0 (.cells (ns.set v c))) (fup f v l) (ns.set v c) ow:=by
 have hl:=eO.len
 refine⟨av h0,by rw[aZ]; exact hl,λu hu =>?_⟩
 by_cases e:u=v
 ·subst e
  rw[zZ,av (by omega)]
  rcases hc with⟨h1,o,h2⟩|⟨k,rest,h1,h2,h3,h4⟩
  ·exact .inl ⟨h1,o,by rw[h2]⟩
  ·exact .inr ⟨k,rest,by rw[h1],h2,h3,by rw[ai (by omega)]; exact h4⟩
 ·rw[Aq _ _ e,ai (λe'=>e e'.symm)]
  rcases eO.row u hu with⟨h1,o,h2⟩|⟨k,rest,h1,h2,h3,h4⟩
  ·exact .inl ⟨h1,o,h2⟩
  ·have fe:k<h.length:=(ah.1 h4).1
   refine .inr ⟨k,rest,h1,h2,h3,?_⟩
   rw[ai (by omega),hs k h2 fe (by rw[h3]; exact e)]; exact h4
section
variable {L:Nat→Option PFunc} (hL:∀k f,LS k=some f→L k=some f)
include hL
theorem d4g (n:Nat) (hn:n≤4096) (f:Nat→List Nat) (hf:∀v,(f v).length≤2000000000) (h:List PObj) (ns:List PV) (ow:Nat→Nat) (eO:NS n h f ns ow) (V0 V1 V2 V4 V5 V6 V7 V8:PV) (g:Nat) {Q:PExit→St→Prop}
  (hk:∀y5 y10 h' f' ns ow,NS n h' f' ns ow→(∀v w,w∈f' v↔w∈f v)→(∀v,(f' v).length≤(f v).length)→Q (.exit 2) ⟨[V0,V1,V2,.rowp 0 1 false n,V4,y5,V6,V7,V8,.int .i64 (n:Nat),y10],[],g,h'⟩):
  wpL L Mt ⟨[V0,V1,V2,.rowp 0 1 false n,V4,V5,V6,V7,V8,.int .i64 (n:Nat),.int .i64 0],[],g,h⟩ Q:=by
 rw[Mt]
 refine yU n (λi st=>∃y5 h' f' ns ow,NS n h' f' ns ow∧(∀v w,w∈f' v↔w∈f v)∧(∀v,(f' v).length≤(f v).length)∧st=⟨[V0,V1,V2,.rowp 0 1 false n,V4,y5,V6,V7,V8,.int .i64 (n:Nat),.int .i64 (i:Nat)],[],g,h'⟩) ?_ ?_ ⟨_,h,f,ns,ow,eO,λ_ _=>Iff.rfl,λ_=>am _,rfl⟩
 ·rintro i hi st ⟨y5,h',f',ns,ow,eO,hm,fQ,rfl⟩ ih
  obtain⟨ho,cY,gX⟩:=id eO
  have hw:=yz i (by omega)
  have e1':i<ns.length:=by omega
  have oe:0<h'.length:=(ah.1 ho).1
  rcases gX i hi with⟨gt,o,mC⟩|⟨k,rest,mC,fm,dm,lZ⟩
  ·have dh:=(ah.1 mC).2
   have c1:=c0B hL h'
   have c2:=b5u hL h'
   simp[hi,hw,ho,e1',dh,c1,c2,Ax]
   have ec:=eO.upd2 (H:=h') hi [] (.list false []) oe (λ_ _ _ _=>rfl) (.inl ⟨rfl,_,rfl⟩)
   have e:fup f' i []=f':=by
    funext u
    by_cases e:u=i
    ·subst e; rw[zZ,gt]
    ·exact Aq _ _ e
   rw[e] at ec
   exact ih _ ⟨_,_,_,_,_,ec,hm,fQ,rfl⟩
  ·have dh:=(ah.1 mC).2
   have gt:=fQ i
   have hf0:=hf i
   obtain⟨R',hp,c1⟩:=c1W hL k (f' i) rest h' lZ (by omega)
   obtain⟨H1,fP⟩:∃H,H=h'.set k (.cells (yn R'++rest)):=⟨_,rfl⟩
   rw[← fP] at c1
   have fe:k<h'.length:=(ah.1 lZ).1
   have fl:=hp.length_eq
   obtain⟨rest',c2⟩:=b6E hL R' (by omega) k rest H1 (by rw[fP]; exact av fe)
   rw[fl] at c2
   obtain⟨H2,fx⟩:∃H,H=H1.set k (.cells (yn (AL R')++rest')):=⟨_,rfl⟩
   rw[← fx] at c2
   have qg:H1[0]? = some (.cells ns):=by rw[fP,ai (by omega),ho]
   have lh:H2[0]? = some (.cells ns):=by rw[fx,ai (by omega),qg]
   have eJ:H2.length=h'.length:=by rw[fx,aZ,fP,aZ]
   simp[hi,hw,ho,e1',dh,c1,c2,qg,lh,Ax]
   have ec:=eO.upd2 (H:=H2) hi (AL R') (.rowp k 1 false (AL R').length) (by omega) (λa h1 h2 h3=>by
    have:a≠k:=by rintro rfl; exact h3 dm
    rw[fx,ai (λe=>this e.symm),fP,ai (λe=>this e.symm)]) (.inr ⟨k,rest',rfl,fm,dm,by rw[fx]; exact av (by rw[fP,aZ]; exact fe)⟩)
   refine ih _ ⟨_,_,_,_,_,ec,?_,?_,rfl⟩
   ·intro v w
    by_cases e:v=i
    ·subst e; rw[zZ,b6D,hp.mem_iff]; exact hm v w
    ·rw[Aq _ _ e]; exact hm v w
   ·intro v
    by_cases e:v=i
    ·subst e; rw[zZ]
     have:=b6G R'
     omega
    ·rw[Aq _ _ e]; exact fQ v
 ·rintro st ⟨y5,h',f',ns,ow,eO,hm,fQ,rfl⟩
  simp
  exact hk _ _ _ _ _ _ eO hm fQ
end
theorem JG (cs:List PV) (G:Nat→PV):∀n off,(∀i,i<off+n→yu 1 false cs i=some (G i))→Ao 1 false cs n off=some ((List.range' off n).map G)
 | 0,off,_=>rfl
 | n + 1, off, h => by
   have ih:=JG cs G n (off+1) (λi hi=>h i (by omega))
   simp only[Ao,h off (by omega),ar,ih,aC]
   rfl
theorem c1X {R:List Nat} {i:Nat} (h:i<R.length) (rest:List PV):yu 1 false (yn R++rest) i=some (.int .i64 (R[i]:Int)):=by
 simp only[yu,Dw h rest]; rfl
theorem c1Y (l:List Nat):(List.range' 0 l.length).map (λi=>l.getD i 0)=l:=by
 apply b6
 ·simp
 ·intro i h1 h2; simp[h2]
theorem Ra (R:List Nat) (rest:List PV):Ao 1 false (yn R++rest) R.length 0=some (yn R):=by
 rw[JG _ (λi=>PV.int .i64 ((R.getD i 0:Nat):Int)) R.length 0 (λi hi=>by
  have hi:i<R.length:=by omega
  rw[c1X hi rest]; simp[hi])]
 congr 1
 unfold yn
 conv=>rhs; rw[← c1Y R]
 rw[cA]; rfl
def AT (n:Nat) (N:Nat→List Nat):List PV:=(List.range' 0 n).map λv => .list false (yn (N v))
section
variable {L:Nat→Option PFunc} (hL:∀k f,LS k=some f→L k=some f)
include hL
theorem QV (n:Nat) (hn:n≤4096) (E:List (Nat×Nat)) (hE:∀e∈E,e.1<n∧e.2<n) (hl:E.length≤2000000000):
  ∃r h' N,ym L 222 [.int .i64 (n:Int),.list false (E.map eE)] []=some (r,h')∧frz h' r = .list false (AT n N)∧(∀v w,w∈N v↔(v,w)∈E)∧∀v,(N v).length≤(As E v).length:=by
 suffices H:∃r,ym L 222 [.int .i64 (n:Int),.list false (E.map eE)] []=some r∧∃N,frz r.2 r.1 = .list false (AT n N)∧(∀v w,w∈N v↔(v,w)∈E)∧∀v,(N v).length≤(As E v).length by
  obtain⟨⟨r,h'⟩,h1,N,h2,h3⟩:=H
  exact⟨r,h',N,h1,h2,h3⟩
 refine AP (hL 222 _ rfl) rfl ?_
 have eP:24*(n:Int)≤281474976710656:=by omega
 have dK:(n:Int)≤9223372036854775807:=by omega
 have lg:∀v,(As E v).length≤2000000000:=by
  intro v
  unfold As
  rw[aG]
  exact aH (List.length_filter_le _ _) hl
 simp[Mu,eP,dK]
 refine d4f hL n hn E hE hl _ _ _ _ ?_
 intro y4 g' h' ns ow eO
 simp
 refine d4g hL n hn (As E) lg h' ns ow eO _ _ _ _ _ _ _ _ _ ?_
 intro y5 y10 h2 N ns2 ow2 sS hm kL
 obtain⟨ho,cY,gX⟩:=sS
 obtain⟨G,hG⟩:∃G:Nat→PV,∀i,i<n→yu 1 false ns2 i=some (G i)∧frz (h2.set 0 .gone) (G i) = .list false (yn (N i)):=by
  have:∀i,∃c:PV,i<n→yu 1 false ns2 i=some c∧frz (h2.set 0 .gone) c = .list false (yn (N i)):=by
   intro i
   by_cases hi:i<n
   ·rcases gX i hi with⟨h1,o,eB⟩|⟨k,rest,h1,eB,h3,h4⟩
    ·refine⟨.list false [],λ_=>⟨?_,by rw[h1]; rfl⟩⟩
     simp only[yu,eB]; rfl
    ·refine⟨.rowp k 1 false (N i).length,λ_=>⟨?_,?_⟩⟩
     ·simp only[yu,h1]; rfl
     ·have h5:(h2.set 0 .gone)[k]? = some (.cells (yn (N i)++rest)):=by rw[ai (by omega)]; exact h4
      simp only[frz,Cd,h5,Ra]
      rfl
   ·exact⟨.dead,λh=>absurd h hi⟩
  exact⟨λi=>Classical.choose (this i),λi=>Classical.choose_spec (this i)⟩
 have fI:=JG ns2 G n 0 (λi hi=>(hG i (by omega)).1)
 simp[yJ,ho,fI]
 refine⟨N,?_,λv w=>by rw[hm,CC],kL⟩
 have key:∀l:List Nat,(∀v∈l,v<n)→BK (h2.set 0 .gone) (l.map G)=l.map λv => .list false (yn (N v)):=by
  intro l
  induction l with
  | nil=>intro _; rfl
  | cons v l ih =>
    intro h
    rw[aA,aA,BK,(hG v (h v (by simp))).2,ih (λx hx=>h x (by simp[hx]))]
 simp only[frz]
 rw[key _ (λv hv=>by simp[List.mem_range'] at hv; omega)]
 rfl
end
def yO (n:Nat) (c:Nat→Nat):List PV:=(List.range' 0 n).map λv=>PV.int .i64 (c v:Int)
theorem BN (n:Nat) (c:Nat→Nat):(yO n c).length=n:=by simp[yO]
theorem c4f {n v:Nat} (h:v<n) (c:Nat→Nat):(yO n c)[v]? = some (.int .i64 (c v:Int)):=by simp[yO,h]
theorem BO {n v:Nat} (h:v<n) (c:Nat→Nat) (p:v<(yO n c).length):(yO n c)[v] = .int .i64 (c v:Int):=by simp[yO]
theorem Er {n v:Nat} (h:v<n) (c:Nat→Nat) (x:Nat):(yO n c).set v (.int .i64 (x:Int))=yO n (fup c v x):=by
 apply b6
 ·simp[yO]
 ·intro i h1 h2
  have hi:i<n:=by rw[BN] at h2; exact h2
  rw[List.getElem_set,BO hi _ h2]
  by_cases e:v=i
  ·subst e; rw[af rfl,zZ]
  ·rw[ae e,BO hi,Aq _ _ (λe'=>e e'.symm)]
theorem HL (n:Nat) (N:Nat→List Nat):(AT n N).length=n:=by simp[AT]
theorem Rb (f:Nat→Nat) {i:Nat}:∀{n},i≤n→tot i f≤tot n f
 | 0,h=>by rw[show i=0 by omega]; exact am _
 | n + 1, h => by
   by_cases e:i=n+1
   ·rw[e]; exact am _
   ·have:=Rb f (i:=i) (n:=n) (by omega); simp only[tot]; omega
theorem Rc (N:Nat→List Nat) (w:Nat):∀n,(tot n λu=>(N u).count w)≤tot n λu=>(N u).length:=λn=>HJ n λv _=>List.count_le_length ..
section
variable {L:Nat→Option PFunc} (hL:∀k f,LS k=some f→L k=some f)
include hL
theorem d0N (n:Nat) (R:List Nat) (hR:∀w∈R,w<n) (sT:R.length≤1000000) (c:Nat→Nat) (hc:∀v,c v≤1000000000) (V0 V1 V2 V3 V4 V6 V7 V8 V9 V10 V11 V12 V13 V14 V15 V16 V20 V21 V22 V23 V24 V25 V26:PV) (g:Nat) {Q:PExit→St→Prop}
  (hk:∀y7 y19,Q (.exit 2) ⟨[V0,V1,V2,V3,V4,.rowp 0 1 false n,V6,y7,V8,V9,V10,V11,V12,V13,V14,V15,V16,.list false (yn R),.int .i64 (R.length:Nat),y19,V20,V21,V22,V23,V24,V25,V26],[],g,[.cells (yO n λv=>c v+R.count v)]⟩):
  wpL L Me ⟨[V0,V1,V2,V3,V4,.rowp 0 1 false n,V6,V7,V8,V9,V10,V11,V12,V13,V14,V15,V16,.list false (yn R),.int .i64 (R.length:Nat),.int .i64 0,V20,V21,V22,V23,V24,V25,V26],[],g,[.cells (yO n c)]⟩ Q:=by
 rw[Me]
 have _:=hL
 refine yU R.length (λi st=>∃y7,st=⟨[V0,V1,V2,V3,V4,.rowp 0 1 false n,V6,y7,V8,V9,V10,V11,V12,V13,V14,V15,V16,.list false (yn R),.int .i64 (R.length:Nat),.int .i64 (i:Nat),V20,V21,V22,V23,V24,V25,V26],[],g,[.cells (yO n λv=>c v+(R.take i).count v)]⟩) ?_ ?_ ⟨V7,by simp⟩
 ·rintro i hi st ⟨y7,rfl⟩ ih
  have hw:=yz i (by omega)
  have fR:=hR _ (ak hi)
  have mf:(R.take i).count R[i]≤i:=aH (List.count_le_length ..) (by rw[ba]; omega)
  have hci:=hc R[i]
  have kO:=yz (c R[i]+(R.take i).count R[i]) (by omega)
  have e:fup (λv=>c v+(R.take i).count v) R[i] (c R[i]+(R.take i).count R[i]+1)=λv=>c v+(R.take (i+1)).count v:=by
   funext v
   rw[AH hi,List.count_append]
   by_cases e:v=R[i]
   ·subst e; rw[zZ]; simp; omega
   ·rw[Aq _ _ e]
    have:List.count v [R[i]]=0:=List.count_eq_zero.2 (by simpa using e)
    rw[this]; rfl
  have dM:i<(yn R).length:=by rw[Ar]; exact hi
  have me:(yn R)[i] = .int .i64 (R[i]:Int):=by simp[yn]
  obtain⟨C,hC⟩:∃C,C=yO n (λv=>c v+(R.take i).count v):=⟨_,rfl⟩
  have mW:C.length=n:=by rw[hC,BN]
  have hg:∀p:R[i]<C.length,C[R[i]]'p = .int .i64 ((c R[i]+(R.take i).count R[i]:Nat):Int):=λp=>by subst hC; exact BO fR _ p
  have hs:=Er fR (λv=>c v+(R.take i).count v) (c R[i]+(R.take i).count R[i]+1)
  rw[e,← hC] at hs
  rw[← hC]
  generalize c R[i]+(R.take i).count R[i]=z at *
  have ih2:=λy7=>ih _ ⟨y7,rfl⟩
  generalize (yO n λv=>c v+(R.take (i+1)).count v)=C' at *
  have kI:C.set R[i] (.int .i64 ((z:Int)+1))=C':=hs
  simp[hi,hw,dM,me,fR,mW,hg,kO,Ax]
  rw[kI]
  exact ih2 _
 ·rintro st ⟨y7,rfl⟩
  rw[aD]
  simp
  exact hk _ _
theorem d0O (n:Nat) (hn:n≤4096) (N:Nat→List Nat) (hN:∀v,v<n→∀w∈N v,w<n) (kh:(tot n λu=>(N u).length)≤1000000) (V0 V1 V2 V3 V4 V6 V7 V8 V9 V10 V11 V12 V13 V17 V18 V19 V20 V21 V22 V23 V24 V25 V26:PV) (g:Nat) {Q:PExit→St→Prop}
  (hk:∀y6 y7 y16 y17 y18 y19,Q (.exit 0) ⟨[V0,V1,V2,V3,V4,.rowp 0 1 false n,y6,y7,V8,V9,V10,V11,V12,V13,.list false (AT n N),.int .i64 (n:Nat),y16,y17,y18,y19,V20,V21,V22,V23,V24,V25,V26],[],g,[.cells (yO n λw=>tot n λu=>(N u).count w)]⟩):
  wpL L Mf ⟨[V0,V1,V2,V3,V4,.rowp 0 1 false n,V6,V7,V8,V9,V10,V11,V12,V13,.list false (AT n N),.int .i64 (n:Nat),.int .i64 0,V17,V18,V19,V20,V21,V22,V23,V24,V25,V26],[],g,[.cells (List.replicate n (.int .i64 0))]⟩ Q:=by
 rw[Mf]
 have sU:List.replicate n (PV.int .i64 0)=yO n λw=>tot 0 λu=>(N u).count w:=by
  unfold yO tot
  apply b6<;>simp
 rw[sU]
 refine yU n (λi st=>∃y6 y7 y17 y18 y19,st=⟨[V0,V1,V2,V3,V4,.rowp 0 1 false n,y6,y7,V8,V9,V10,V11,V12,V13,.list false (AT n N),.int .i64 (n:Nat),.int .i64 (i:Nat),y17,y18,y19,V20,V21,V22,V23,V24,V25,V26],[],g,[.cells (yO n λw=>tot i λu=>(N u).count w)]⟩) ?_ ?_ ⟨_,_,_,_,_,rfl⟩
 ·rintro i hi st ⟨y6,y7,y17,y18,y19,rfl⟩ ih
  have hw:=yz i (by omega)
  have dM:i<(AT n N).length:=by rw[HL]; exact hi
  have me:(AT n N)[i] = .list false (yn (N i)):=by simp[AT]
  have fA:(N i).length≤1000000:=by
   have:=HK (f:=λ_=>0) (g:=λu=>(N u).length) (w:=i) (c:=(N i).length) n (λ_ _=>bJ _) hi (by omega)
   omega
  simp[hi,hw,dM,me,Ar]
  refine d0N hL n (N i) (hN i hi) fA _ ?_ _ _ _ _ _ _ _ _ _ _ _ _ _ _ _ _ _ _ _ _ _ _ _ _ ?_
  ·intro w
   have h1:=Rc N w i
   have h2:(tot i λu=>(N u).length)≤tot n λu=>(N u).length:=Rb _ (by omega)
   omega
  ·intro y7 y19
   simp[hw]
   exact ih _ ⟨_,_,_,_,_,rfl⟩
 ·rintro st ⟨y6,y7,y17,y18,y19,rfl⟩
  simp
  exact hk _ _ _ _ _ _
end
structure OS (h:List PObj) (n:Nat) (c:Nat→Nat) (k:Nat) (R:List Nat) (v:PV) (O:List Nat):Prop where
 inn:h[0]? = some (.cells (yO n c))
 hb:HB h 2 k R
 k0:k≠0
 out:(v = .list true []∧O=[])∨∃ko rest,v = .rowp ko 1 false O.length∧ko≠2∧ko≠k∧ko≠0∧h[ko]? = some (.cells (yn O++rest))
theorem OS.heap {h h':List PObj} {n:Nat} {c:Nat→Nat} {k k':Nat} {R R':List Nat} {v:PV} {O:List Nat} (s:OS h n c k R v O) (hb:HB h' 2 k' R') (hf:HF h h' 2 k k'):OS h' n c k' R' v O:=by
 have h0:0<h.length:=(ah.1 s.inn).1
 have kH:=s.k0
 refine⟨by rw[hf.same 0 h0 (by omega) (λe=>s.k0 e.symm)]; exact s.inn,hb,by rcases hf.new with e | e<;>omega,?_⟩
 rcases s.out with h1|⟨ko,rest,h1,h2,h3,h4,h5⟩
 ·exact .inl h1
 ·have ki:ko<h.length:=(ah.1 h5).1
  exact .inr ⟨ko,rest,h1,h2,by rcases hf.new with e|e<;>omega,h4,by rw[hf.same ko ki h2 h3]; exact h5⟩
theorem OS.setc {h:List PObj} {n:Nat} {c:Nat→Nat} {k:Nat} {R:List Nat} {v:PV} {O:List Nat} (s:OS h n c k R v O) (c':Nat→Nat):OS (h.set 0 (.cells (yO n c'))) n c' k R v O:=by
 have h0:0<h.length:=(ah.1 s.inn).1
 obtain⟨dh,iJ,rest,hk⟩:=s.hb
 refine⟨av h0,⟨dh,by rw[ai (by omega)]; exact iJ,rest,by rw[ai (λe=>s.k0 e.symm)]; exact hk⟩,s.k0,?_⟩
 rcases s.out with h1|⟨ko,rest,h1,h2,h3,h4,h5⟩
 ·exact .inl h1
 ·exact .inr ⟨ko,rest,h1,h2,h3,h4,by rw[ai (λe=>h4 e.symm)]; exact h5⟩
section
variable {L:Nat→Option PFunc} (hL:∀k f,LS k=some f→L k=some f)
include hL
theorem d0P (n:Nat) (hn:n≤4096) (c:Nat→Nat) (h:List PObj) (k:Nat) (s:OS h n c k [] (.list true []) []) (V0 V1 V2 V3 V4 V6 V7 V9 V10 V11 V12 V13 V14 V15 V16 V17 V18 V19 V20 V24 V25 V26:PV) (g:Nat) {Q:PExit→St→Prop}
  (hk:∀y9 y10 y23 h' k' R,OS h' n c k' R (.list true []) []→R.Nodup→(∀v,v∈R↔v<n∧c v=0)→Q (.exit 4) ⟨[V0,V1,V2,V3,V4,.rowp 0 1 false n,V6,V7,.ptr 2 0,y9,y10,V11,V12,V13,V14,V15,V16,V17,V18,V19,V20,.rowp 0 1 false n,.int .i64 (n:Nat),y23,V24,V25,V26],[],g,h'⟩):
  wpL L Mg ⟨[V0,V1,V2,V3,V4,.rowp 0 1 false n,V6,V7,.ptr 2 0,V9,V10,V11,V12,V13,V14,V15,V16,V17,V18,V19,V20,.rowp 0 1 false n,.int .i64 (n:Nat),.int .i64 0,V24,V25,V26],[],g,h⟩ Q:=by
 rw[Mg]
 refine yU n (λi st=>∃y9 y10 h' k' R,OS h' n c k' R (.list true []) []∧R.Nodup∧(∀v,v∈R↔v<i∧c v=0)∧st=⟨[V0,V1,V2,V3,V4,.rowp 0 1 false n,V6,V7,.ptr 2 0,y9,y10,V11,V12,V13,V14,V15,V16,V17,V18,V19,V20,.rowp 0 1 false n,.int .i64 (n:Nat),.int .i64 (i:Nat),V24,V25,V26],[],g,h'⟩) ?_ ?_ ⟨_,_,h,k,[],s,List.nodup_nil,by simp,rfl⟩
 ·rintro i hi st ⟨y9,y10,h',k',R,s',dx,hm,rfl⟩ ih
  have hw:=yz i (by omega)
  have hg:=c4f hi c
  have dQ:=s'.inn
  by_cases h0:c i=0
  ·have sT:=(Gf i R dx (λv hv=>((hm v).1 hv).1)).1
   obtain⟨h2,k2,R2,c1,dK,hp,hf⟩:=Q7 hL s'.hb i (by omega)
   have hz:((c i:Nat):Int)=0:=by omega
   simp[hi,hw,dQ,hg,tf h0,c1]
   refine ih _ ⟨_,_,h2,k2,R2,s'.heap dK hf,?_,?_,rfl⟩
   ·refine hp.nodup_iff.2 (cg.2 ⟨λhx =>?_,dx⟩)
    have:=((hm i).1 hx).1; omega
   ·intro v
    rw[hp.mem_iff,az,hm]
    by_cases e:v=i
    ·subst e; simp[h0]
    ·constructor
     ·rintro(h|⟨h1,h2⟩)
      ·exact absurd h e
      ·exact⟨by omega,h2⟩
     ·rintro⟨h1,h2⟩; exact .inr ⟨by omega,h2⟩
  ·have hz:¬((c i:Nat):Int)=0:=by omega
   simp[hi,hw,dQ,hg,h0]
   refine ih _ ⟨_,_,h',k',R,s',dx,?_,rfl⟩
   intro v
   rw[hm]
   by_cases e:v=i
   ·subst e; simp[h0]
   ·constructor<;>rintro⟨h1,h2⟩<;>exact⟨by omega,h2⟩
 ·rintro st ⟨y9,y10,h',k',R,s',dx,hm,rfl⟩
  simp
  exact hk _ _ _ _ _ _ s' dx hm
theorem Rd (n:Nat) (hn:n≤4096) (N:Nat→List Nat) (W:List Nat) (hW:∀w∈W,w<n) (hWl:W.length≤1000000) (O R:List Nat) (c:Nat→Nat) (hc:∀v,c v≤1000000000) (oi:OI n N O R W c) (zg:PV) (h:List PObj) (k:Nat) (s:OS h n c k R zg O) (V0 V1 V2 V3 V4 V6 V7 V9 V10 V12 V13 V14 V15 V16 V17 V18 V19 V20 V21 V22 V23:PV) (g:Nat) {Q:PExit→St→Prop}
  (hk:∀y13 y26 h' k' R' c',OS h' n c' k' R' zg O→OI n N O R' [] c'→(∀v,c' v≤1000000000)→Q (.exit 8) ⟨[V0,V1,V2,V3,V4,.rowp 0 1 false n,V6,V7,.ptr 2 0,V9,V10,zg,V12,y13,V14,V15,V16,V17,V18,V19,V20,V21,V22,V23,.list false (yn W),.int .i64 (W.length:Nat),y26],[],g,h'⟩):
  wpL L Mh ⟨[V0,V1,V2,V3,V4,.rowp 0 1 false n,V6,V7,.ptr 2 0,V9,V10,zg,V12,V13,V14,V15,V16,V17,V18,V19,V20,V21,V22,V23,.list false (yn W),.int .i64 (W.length:Nat),.int .i64 0],[],g,h⟩ Q:=by
 rw[Mh]
 refine yU W.length (λi st=>∃y13 h' k' R' c',OS h' n c' k' R' zg O∧OI n N O R' (W.drop i) c'∧(∀v,c' v≤1000000000)∧st=⟨[V0,V1,V2,V3,V4,.rowp 0 1 false n,V6,V7,.ptr 2 0,V9,V10,zg,V12,y13,V14,V15,V16,V17,V18,V19,V20,V21,V22,V23,.list false (yn W),.int .i64 (W.length:Nat),.int .i64 (i:Nat)],[],g,h'⟩) ?_ ?_ ⟨_,h,k,R,c,s,oi,hc,rfl⟩
 ·rintro i hi st ⟨y13,h',k',R',c',s',oi',gU,rfl⟩ ih
  have hw:=yz i (by omega)
  have fR:=hW _ (ak hi)
  have dQ:=s'.inn
  have dM:i<(yn W).length:=by rw[Ar]; exact hi
  have me:(yn W)[i] = .int .i64 (W[i]:Int):=by simp[yn]
  have rL:W.drop i=W[i]::W.drop (i+1):=bg hi
  rw[rL] at oi'
  obtain⟨dB,li,qh⟩:=oi'.dec fR
  have hcw:=gU W[i]
  have d9:∀v,fup c' W[i] (c' W[i] - 1) v≤1000000000:=by
   intro v
   by_cases e:v=W[i]
   ·subst e; rw[zZ]; omega
   ·rw[Aq _ _ e]; exact gU v
  have s2:=s'.setc (fup c' W[i] (c' W[i] - 1))
  obtain⟨h1,iw⟩:∃h1,h1=h'.set 0 (.cells (yO n (fup c' W[i] (c' W[i] - 1)))):=⟨_,rfl⟩
  rw[← iw] at s2
  have hg:=BO fR c'
  have oh:=s2.inn
  have qi:=BO fR (fup c' W[i] (c' W[i] - 1))
  rw[zZ] at qi
  have dz:=Er fR c' (c' W[i] - 1)
  have fQ:=BN n c'
  have oj:=BN n (fup c' W[i] (c' W[i] - 1))
  have kO:IntKind.i64.wrap ((c' W[i]:Int) - 1)=((c' W[i] - 1:Nat):Int):=by rw[show ((c' W[i]:Int) - 1)=((c' W[i] - 1:Nat):Int) by omega]; exact BB _ (by omega)
  have gE:R'.length≤n:=(Gf n R' (cd.1 oi'.nd).2.1 (λv hv=>oi'.lt v (by simp[hv]))).1
  obtain⟨h3,k3,R3,c1,jW,hp,hf⟩:=Q7 hL s2.hb W[i] (by omega)
  generalize hz:c' W[i] - 1=z at *
  obtain⟨C2,wC⟩:∃C2,C2=yO n (fup c' W[i] z):=⟨_,rfl⟩
  simp only[← wC] at qi dz oj oh iw
  obtain⟨C,hC⟩:∃C,C=yO n c':=⟨_,rfl⟩
  simp only[← hC] at hg dz fQ dQ
  by_cases h0:c' W[i]=1
  ·have qj:z=0:=by omega
   subst qj
   have nK:C.set W[i] (.int .i64 0)=C2:=dz
   have sV:∀p:W[i]<C2.length,C2[W[i]]'p = .int .i64 0:=qi
   simp[nK,sV,hi,hw,dM,me,dQ,hg,kO,dz,fQ,oj,fR,← iw,oh,qi,Ax,c1]
   refine ih _ ⟨_,h3,k3,R3,_,s2.heap jW hf,(li h0).perm hp,d9,rfl⟩
  ·have qj:¬z=0:=by omega
   simp[hi,hw,dM,me,dQ,hg,kO,dz,fQ,oj,fR,← iw,oh,qi,Ax,qj]
   exact ih _ ⟨_,h1,k',R',_,s2,qh h0,d9,rfl⟩
 ·rintro st ⟨y13,h',k',R',c',s',oi',gU,rfl⟩
  rw[List.drop_length] at oi'
  simp
  exact hk _ _ _ _ _ _ s' oi' gU
end
theorem Re (h:List PObj) (x:Nat) (V l:List PV) (g:Nat):AI h 1 false 8 [.int .i64 (x:Int)] (.list true []) ⟨V,l,g,h⟩=some (.rowp h.length 1 false 1,⟨V,l,g,h++[.cells (yn [x])]⟩):=by
 simp[AI,yn]
theorem OS.app {h h2:List PObj} {n:Nat} {c:Nat→Nat} {k:Nat} {R:List Nat} {v:PV} {O:List Nat} (s:OS h n c k R v O) {x:Nat} (hn:h2[h.length]? = some (.cells (yn (O++[x])))) (hs:∀a,a<h.length→(a=0∨a=2∨a=k)→h2[a]? = h[a]?) {m:Nat} (hm:m=O.length+1):
  OS h2 n c k R (.rowp h.length 1 false m) (O++[x]):=by
 have h0:0<h.length:=(ah.1 s.inn).1
 obtain⟨dh,iJ,rest,hk⟩:=s.hb
 have wD:2<h.length:=(ah.1 iJ).1
 have fe:k<h.length:=(ah.1 hk).1
 refine⟨by rw[hs 0 h0 (.inl rfl)]; exact s.inn,⟨dh,by rw[hs 2 wD (.inr (.inl rfl))]; exact iJ,rest,by rw[hs k fe (.inr (.inr rfl))]; exact hk⟩,s.k0,.inr ⟨h.length,[],?_,by omega,by omega,by omega,by rw[aW]; exact hn⟩⟩
 rw[hm]; simp
section
variable {L:Nat→Option PFunc} (hL:∀k f,LS k=some f→L k=some f)
include hL
theorem d0Q (n:Nat) (hn:n≤4096) (N:Nat→List Nat) (hN:∀v,v<n→∀w∈N v,w<n) (kh:∀v,v<n→(N v).length≤1000000) (R:List Nat) (c:Nat→Nat) (hc:∀v,c v≤1000000000) (oi:OI n N [] R [] c) (h:List PObj) (k:Nat) (s:OS h n c k R (.list true []) []) (V0 V1 V2 V3 V6 V7 V9 V10 V12 V13 V14 V15 V16 V17 V18 V19 V20 V21 V22 V23 V24 V25 V26:PV) (g:Nat) {Q:PExit→St→Prop}
  (hk:∀y11 y12 y13 y24 y25 y26 h' k' O c',OS h' n c' k' [] y11 O→OI n N O [] [] c'→Q (.exit 6) ⟨[V0,V1,V2,V3,.list false (AT n N),.rowp 0 1 false n,V6,V7,.ptr 2 0,V9,V10,y11,y12,y13,V14,V15,V16,V17,V18,V19,V20,V21,V22,V23,y24,y25,y26],[],g,h'⟩):
  wpL L Mi ⟨[V0,V1,V2,V3,.list false (AT n N),.rowp 0 1 false n,V6,V7,.ptr 2 0,V9,V10,.list true [],V12,V13,V14,V15,V16,V17,V18,V19,V20,V21,V22,V23,V24,V25,V26],[],g,h⟩ Q:=by
 rw[Mi]
 refine HM (λm st=>∃y11 y12 y13 y24 y25 y26 h' k' O R' c',n=O.length+m∧OS h' n c' k' R' y11 O∧OI n N O R' [] c'∧(∀v,c' v≤1000000000)∧st=⟨[V0,V1,V2,V3,.list false (AT n N),.rowp 0 1 false n,V6,V7,.ptr 2 0,V9,V10,y11,y12,y13,V14,V15,V16,V17,V18,V19,V20,V21,V22,V23,y24,y25,y26],[],g,h'⟩) ?_ n ⟨_,_,_,_,_,_,h,k,[],R,c,by simp,s,oi,hc,rfl⟩
 rintro m st ⟨y11,y12,y13,y24,y25,y26,h',k',O,R',c',hm,s',oi',gU,rfl⟩ ih
 obtain⟨dh,iJ,gX⟩:=id s'.hb
 have c0:=M9 hL (k:=k') (n:=R'.length) (h:=h')
 by_cases h0:R'=[]
 ·subst h0
  have c0':ym L 224 [.rowp k' 1 false 0] h'=some (.int .i64 0,h'):=c0
  have sW:h'[2]? = some (.cells [.rowp k' 1 false 0]):=iJ
  simp[sW,c0']
  exact hk _ _ _ _ _ _ _ _ _ _ s' oi'
 ·have dB:0<R'.length:=bK.2 h0
  have sT:O.length+R'.length≤n:=by
   have:=(Gf n (O++R') oi'.nd (λv hv=>oi'.lt v hv)).1
   rw[ao] at this; exact this
  have qk:¬R'.length=0:=by omega
  obtain⟨h2,v,R2,c1,dK,hp,hf⟩:=c4c hL s'.hb (by omega) h0
  have s2:=s'.heap dK hf
  obtain⟨hv,oi2⟩:=oi'.pop hp
  have hO1:O.length+1≤n:=by omega
  have fA:v<(AT n N).length:=by rw[HL]; exact hv
  have ol:(AT n N)[v] = .list false (yn (N v)):=by simp[AT]
  have gE:R2.length≤n:=by have:=hp.length_eq; simp at this; omega
  rcases s2.out with⟨rfl,rfl⟩|⟨ko,rest,rfl,h1,eB,h3,h4⟩
  ·have gz:=Re h2 v
   simp[iJ,c0,qk,c1,gz,ol,fA,Ar,dB]
   have s3:=s2.app (x:=v) (m:=1) (h2:=h2++[PObj.cells (yn [v])]) (by rw[aq (am _)]; simp) (λa ha _=>al ha) rfl
   refine Rd hL n hn N (N v) (hN v hv) (kh v hv) ([]++[v]) R2 c' gU oi2 _ _ k' s3 _ _ _ _ _ _ _ _ _ _ _ _ _ _ _ _ _ _ _ _ _ _ ?_
   intro y13 y26 h5 k5 R5 c5 s5 oi5 sX
   simp
   exact ih (m - 1) _ (by omega) ⟨_,_,_,_,_,_,h5,k5,_,R5,c5,by simp at hm ⊢; omega,s5,oi5,sX,rfl⟩
  ·have gz:=JH rfl h4 (by omega) v
   simp[iJ,c0,qk,c1,gz,ol,fA,Ar,dB]
   have s3:=s2.app (x:=v) (m:=O.length+1) (h2:=h2.set ko .gone++[PObj.cells (yn (O++[v]))]) (by rw[aq (by simp)]; simp) (λa ha hx=>by
    rw[al (by simpa using ha),ai (by omega)]) rfl
   refine Rd hL n hn N (N v) (hN v hv) (kh v hv) (O++[v]) R2 c' gU oi2 _ _ k' s3 _ _ _ _ _ _ _ _ _ _ _ _ _ _ _ _ _ _ _ _ _ _ ?_
   intro y13 y26 h5 k5 R5 c5 s5 oi5 sX
   simp
   exact ih (m - 1) _ (by omega) ⟨_,_,_,_,_,_,h5,k5,_,R5,c5,by simp; omega,s5,oi5,sX,rfl⟩
end
theorem Es:∀E:List (Nat×Nat),yD (E.map eE)=true
 | []=>rfl
 | e::E=>by simp only[aA,yD,Es E,bz]; rfl
theorem Ge:∀R:List Nat,yD (yn R)=true
 | []=>rfl
 | x::R=>by have:=Ge R; unfold yn at this ⊢; simp only[aA,yD,this,bz]; rfl
theorem Rf (N:Nat→List Nat):∀l:List Nat,yD (l.map λv=>PV.list false (yn (N v)))=true
 | []=>rfl
 | v::l=>by simp only[aA,yD,yC,Ge,Rf N l,bz]
theorem QX (n:Nat) (N:Nat→List Nat):yD (AT n N)=true:=Rf N _
theorem M1 (f g:Nat→Nat):∀n,(tot n λv=>f v+g v)=tot n f+tot n g
 | 0=>rfl
 | n+1=>by simp only[tot]; rw[M1 f g n]; omega
theorem Rg (a:Nat):∀n,(tot n λv=>if a=v then 1 else 0)≤1∧(n≤a→(tot n λv=>if a=v then 1 else 0)=0)
 | 0=>⟨bJ _,λ_=>rfl⟩
 | n + 1 => by
   obtain⟨h1,h2⟩:=Rg a n
   simp only[tot]
   by_cases e:a=n
   ·have:=h2 (by omega); simp only[af e]; exact⟨by omega,λh=>by omega⟩
   ·simp only[ae e]; exact⟨by omega,λh=>by have:=h2 (by omega); omega⟩
theorem M0 (n:Nat):∀E:List (Nat×Nat),(tot n λv=>(As E v).length)≤E.length
 | [] => by have : (tot n fun v => (As [] v).length) = tot n fun _ => 0 := rfl
            rw[this,M6]; exact bJ _
 | e :: E => by
   have ih:=M0 n E
   have h1:=(Rg e.1 n).1
   have:(tot n λv=>(As (e::E) v).length)=tot n λv=>(if e.1=v then 1 else 0)+(As E v).length:=by
    refine HI n λv _ =>?_
    unfold As
    rw[cK]
    by_cases h:e.1=v
    ·simp[h]; omega
    ·simp[h]
   rw[this,M1]
   simp only[aB]; omega
section
variable {L:Nat→Option PFunc} (hL:∀k f,LS k=some f→L k=some f)
include hL
def Dc (n:Nat) (E:List (Nat×Nat)):Prop:=∀f:Nat→Nat,¬∀e∈E,f e.1<f e.2
structure IsOrder (n:Nat) (E:List (Nat×Nat)) (O:List Nat):Prop where
 len:O.length=n
 nd:O.Nodup
 mem:∀v,v∈O↔v<n
 ord:∀i (h:i<O.length) a,(a,O[i])∈E→a∈O.take i
theorem Q4 (n:Nat) (hn:n≤4096) (E:List (Nat×Nat)) (hE:∀e∈E,e.1<n∧e.2<n) (hl:E.length≤500000):
  (∃h' O,ym L 210 [.int .i64 (n:Int),.list false (E.map eE)] []=some (.tuple [.list false (yn O),.int .i64 0],h')∧IsOrder n E O) ∨
  (∃h',ym L 210 [.int .i64 (n:Int),.list false (E.map eE)] []=some (.tuple [.list false [],.int .i64 13],h')∧Dc n E):=by
 suffices H:∃r,ym L 210 [.int .i64 (n:Int),.list false (E.map eE)] []=some r∧((∃O,r.1 = .tuple [.list false (yn O),.int .i64 0]∧IsOrder n E O)∨(r.1 = .tuple [.list false [],.int .i64 13]∧Dc n E)) by
  obtain⟨⟨v,h'⟩,h1,⟨O,h2,h3⟩|⟨h2,h3⟩⟩:=H
  ·simp only at h2; subst h2; exact .inl ⟨h',O,h1,h3⟩
  ·simp only at h2; subst h2; exact .inr ⟨h',h1,h3⟩
 have cv:=QU hL n hn E hE (by omega) (.list false []) (.inl rfl)
 obtain⟨r,ig,N,cn,nX,hN,p8⟩:=QV hL n hn E hE (by omega)
 have rG:∀v,v<n→∀w∈N v,w<n:=λv _ w hw=>(hE _ ((hN v w).1 hw)).2
 have wv:(tot n λu=>(N u).length)≤500000:=aH (HJ n λv _=>p8 v) (aH (M0 n E) hl)
 have kh:∀v,v<n→(N v).length≤1000000:=λv hv=>by
  have:=HK (f:=λ_=>0) (g:=λu=>(N u).length) (w:=v) (c:=(N v).length) n (λ_ _=>bJ _) hv (by omega)
  omega
 have eP:8*(n:Int)≤281474976710656:=by omega
 have dK:(n:Int)≤9223372036854775807:=by omega
 refine AP (hL 210 _ rfl) rfl ?_
 simp[Mj,cv,cn,nX,Es,QX,yC,eP,dK,HL]
 refine d0O hL n hn N rG (by omega) _ _ _ _ _ _ _ _ _ _ _ _ _ _ _ _ _ _ _ _ _ _ _ _ ?_
 intro y6 y7 y16 y17 y18 y19
 simp[PV.cells]
 refine d0P hL n hn _ _ 1 ⟨rfl,⟨by omega,rfl,[],rfl⟩,by omega,.inl ⟨rfl,rfl⟩⟩ _ _ _ _ _ _ _ _ _ _ _ _ _ _ _ _ _ _ _ _ _ _ _ ?_
 intro y9 y10 y23 h1 k1 R s1 dx hm
 simp
 have oi:OI n N [] R [] (λw=>tot n λu=>(N u).count w):=by
  refine⟨λw hw =>?_,by simpa using dx,λv=>by simpa using hm v,λi h=>by simp at h⟩
  rw[List.count_nil]
  exact HI n λu _=>by simp
 refine d0Q hL n hn N rG kh R _ (λw=>by have:=Rc N w n; omega) oi h1 k1 s1 _ _ _ _ _ _ _ _ _ _ _ _ _ _ _ _ _ _ _ _ _ _ _ _ ?_
 intro y11 y12 y13 y24 y25 y26 h2 k2 O c2 s2 oi2
 by_cases hO:O.length<n
 ·have fY:Dc n E:=λf hf=>oi2.no_topo hO f λu hu w hw=>hf (u,w) ((hN u w).1 hw)
  rcases s2.out with⟨rfl,rfl⟩|⟨ko,rest,rfl,ik,eB,eX,iy⟩
  ·have wE:0<n:=hO
   simp[wE,yJ,fY]
  ·simp[hO,yJ,fY]
 ·obtain⟨o1,o2,o3,o4⟩:=oi2.order hO
  have uZ:IsOrder n E O:=⟨o1,o2,o3,λi h a ha=>o4 i h a (hE _ ha).1 ((hN a _).2 ha)⟩
  rcases s2.out with⟨rfl,rfl⟩|⟨ko,rest,rfl,ik,eB,eX,iy⟩
  ·have eY:n=0:=by simp at o1; omega
   subst eY
   simp[yJ]
   exact⟨[],rfl,uZ⟩
  ·have fI:=Ra O rest
   simp[hO,yJ,iy,fI]
   exact⟨O,rfl,uZ⟩
end
def Cn (n:Nat) (c:Nat→Bool):List PV:=(List.range' 0 n).map λv=>PV.bool (c v)
theorem JI (n:Nat) (c:Nat→Bool):(Cn n c).length=n:=by simp[Cn]
theorem Nc {n v:Nat} (h:v<n) (c:Nat→Bool) (p:v<(Cn n c).length):(Cn n c)[v] = .bool (c v):=by simp[Cn]
theorem Rh {n v:Nat} (h:v<n) (c:Nat→Bool) (x:Bool):(Cn n c).set v (.bool x)=Cn n (fup c v x):=by
 apply b6
 ·simp[Cn]
 ·intro i h1 h2
  have hi:i<n:=by rw[JI] at h2; exact h2
  rw[List.getElem_set,Nc hi _ h2]
  by_cases e:v=i
  ·subst e; rw[af rfl,zZ]
  ·rw[ae e,Nc hi,Aq _ _ (λe'=>e e'.symm)]
def BX (n:Nat) (N:Nat→List Nat) (t:TS) (stk:PV):List PV:=[.list false (AT n N),.rowp 0 1 false n,.rowp 1 1 false n,.rowp 2 1 false n,stk,.int .i64 (t.ct:Int),.rowp 3 1 false n,.int .i64 (t.pa:Int)]
structure TSt (h:List PObj) (n:Nat) (N:Nat→List Nat) (t:TS) (stk:PV):Prop where
 ix:h[0]? = some (.cells (yO n t.ix))
 lo:h[1]? = some (.cells (yO n t.lo))
 on:h[2]? = some (.cells (Cn n t.on))
 nu:h[3]? = some (.cells (yO n t.nu))
 obj:h[4]? = some (.cells (BX n N t stk))
 stk:(stk = .list true []∧t.st=[])∨∃ks rest,stk = .rowp ks 1 false t.st.length∧5≤ks∧h[ks]? = some (.cells (yn t.st.reverse++rest))
def Off (stk:PV) (a:Nat):Prop:=5≤a∧∀ks len,stk = .rowp ks 1 false len→ks≠a
structure Keeps (h:List PObj) (stk:PV) (h':List PObj) (stk':PV):Prop where
 len:h.length≤h'.length
 same:∀a,a<h.length→Off stk a→h'[a]? = h[a]?∧Off stk' a
theorem Off.ne {stk:PV} {a:Nat} (h:Off stk a) {ks len:Nat} (e:stk = .rowp ks 1 false len):a≠ks:=λe'=>h.2 ks len e e'.symm
theorem TSt.off {h:List PObj} {n:Nat} {N:Nat→List Nat} {t:TS} {stk:PV} (s:TSt h n N t stk) {ks len:Nat} (e:stk = .rowp ks 1 false len):5≤ks∧ks<h.length:=by
 rcases s.stk with⟨h1,_⟩|⟨k,rest,h1,h2,h3⟩
 ·rw[h1] at e; simp at e
 ·rw[h1] at e; simp only[PV.rowp.injEq] at e
  obtain⟨rfl,_⟩:=e
  exact⟨h2,(ah.1 h3).1⟩
theorem Ri {h H1 H2:List PObj} {n:Nat} {N:Nat→List Nat} {t:TS} {stk:PV} {v:Nat} (s:TSt h n N t stk) (l1:H1.length=h.length) (h1:∀a,a≠0→a≠1→a≠4→H1[a]? = h[a]?)
  (kZ:H1[0]? = some (.cells (yO n (fup t.ix v (t.ct+1))))) (gY:H1[1]? = some (.cells (yO n (fup t.lo v (t.ct+1)))))
  (l2:H2.length=h.length+1) (h2:∀a,a<h.length→(∀ks len,stk = .rowp ks 1 false len→a≠ks)→H2[a]? = H1[a]?) (hn:H2[h.length]? = some (.cells (yn (t.st.reverse++[v])))) {m:Nat} (hm:m=t.st.length+1):
  TSt ((H2.set 4 (.cells (BX n N (A3 t v) (.rowp h.length 1 false m)))).set 2 (.cells (Cn n (fup t.on v true)))) n N (A3 t v) (.rowp h.length 1 false m) ∧
   Keeps h stk ((H2.set 4 (.cells (BX n N (A3 t v) (.rowp h.length 1 false m)))).set 2 (.cells (Cn n (fup t.on v true)))) (.rowp h.length 1 false m):=by
 have rM:4<h.length:=(ah.1 s.obj).1
 have low:∀a,a<5→H2[a]? = H1[a]? := λa ha=>h2 a (by omega) λks len e=>by have:=(s.off e).1; omega
 subst hm
 refine⟨⟨?_,?_,?_,?_,?_,.inr ⟨h.length,[],by simp[A3],by omega,?_⟩⟩,⟨?_,λa ha ho=>⟨?_,ho.1,λks len e =>?_⟩⟩⟩
 ·rw[ai (by omega),ai (by omega),low 0 (by omega)]; exact kZ
 ·rw[ai (by omega),ai (by omega),low 1 (by omega)]; exact gY
 ·rw[av (by simp; omega)]; rfl
 ·rw[ai (by omega),ai (by omega),low 3 (by omega),h1 3 (by omega) (by omega) (by omega)]; exact s.nu
 ·rw[ai (by omega),av (by omega)]
 ·rw[ai (by omega),ai (by omega),hn]; simp[A3]
 ·simp; omega
 ·have h5:=ho.1
  rw[ai (by omega),ai (by omega),h2 a ha (λks len e=>ho.ne e),h1 a (by omega) (by omega) (by omega)]
 ·simp only[PV.rowp.injEq] at e; omega
section
variable {L:Nat→Option PFunc} (hL:∀k f,LS k=some f→L k=some f)
include hL
theorem QT (n:Nat) (hn:n≤4096) (N:Nat→List Nat) (t:TS) (ht:t.ct<1000000) (hs:t.st.length<1000000) (h:List PObj) (stk:PV) (s:TSt h n N t stk) (v:Nat) (hv:v<n):
  ∃h' stk',ym L 240 [.ptr 4 0,.int .i64 (v:Int)] h=some (.agg [.int .i64 (v:Int),.int .i64 0],h')∧TSt h' n N (A3 t v) stk'∧Keeps h stk h' stk':=by
 obtain⟨i0,i1,i2,i3,i4,dz⟩:=s
 obtain⟨l0',e0⟩:=ah.1 i0
 obtain⟨l1',e1⟩:=ah.1 i1
 obtain⟨l2',e2⟩:=ah.1 i2
 obtain⟨l3',e3⟩:=ah.1 i3
 obtain⟨l4',e4⟩:=ah.1 i4
 have hw:=yz t.ct (by omega)
 have g1:=BN n t.ix
 have g2:=BN n t.lo
 have g3:=JI n t.on
 have s1:(yO n t.ix).set v (.int .i64 ((t.ct:Int)+1))=yO n (fup t.ix v (t.ct+1)):=Er hv t.ix (t.ct+1)
 have s2:(yO n t.lo).set v (.int .i64 ((t.ct:Int)+1))=yO n (fup t.lo v (t.ct+1)):=Er hv t.lo (t.ct+1)
 have s3:=Rh hv t.on true
 suffices H:∃r,ym L 240 [.ptr 4 0,.int .i64 (v:Int)] h=some r∧r.1 = .agg [.int .i64 (v:Int),.int .i64 0]∧∃stk',TSt r.2 n N (A3 t v) stk'∧Keeps h stk r.2 stk' by
  obtain⟨⟨r,h'⟩,h1,h2,stk',h3,h4⟩:=H
  simp only at h2; subst h2
  exact⟨h',stk',h1,h3,h4⟩
 refine AP (hL 240 _ rfl) rfl ?_
 have s':TSt h n N t stk:=⟨i0,i1,i2,i3,i4,dz⟩
 unfold BX at e4
 rcases dz with⟨rfl,fZ⟩|⟨ks,rest,rfl,uW,hk⟩
 ·simp[JA,l0',l1',l2',l3',l4',e0,e1,e2,e3,e4,hw,hv,g1,g2,g3,s1,s2,s3,Ax]
  generalize fP:((((h.set 4 _).set 0 _).set 1 _).set 4 _)=H1
  have q:H1.length=h.length∧(∀a,a≠0→a≠1→a≠4→H1[a]? = h[a]?)∧H1[0]? = some (.cells (yO n (fup t.ix v (t.ct+1))))∧H1[1]? = some (.cells (yO n (fup t.lo v (t.ct+1))))∧H1[4]? = some (.cells [.list false (AT n N),.rowp 0 1 false n,.rowp 1 1 false n,.rowp 2 1 false n,.list false [],.int .i64 ((t.ct:Int)+1),.rowp 3 1 false n,.int .i64 (t.pa:Int)]):=by
   subst fP
   refine⟨by simp,λa h0 h1 h4 =>?_,?_,?_,?_⟩
   ·rw[ai (by omega),ai (by omega),ai (by omega),ai (by omega)]
   ·rw[ai (by omega),ai (by omega),av (by simp; omega)]
   ·rw[ai (by omega),av (by simp; omega)]
   ·rw[av (by simp; omega)]
  clear fP
  obtain⟨q1,q2,q3,q4,q5⟩:=q
  obtain⟨H2,fx⟩:∃H2,H2=H1++[PObj.cells (yn [v])]:=⟨_,rfl⟩
  have gz:=Re H1 v
  simp only[← fx,q1] at gz
  have low:∀a,a<h.length→H2[a]? = H1[a]? := λa ha=>by rw[fx,al (by omega)]
  have l2:H2.length=h.length+1:=by rw[fx]; simp[q1]
  have w4:H2[4]? = _:=(low 4 l4').trans q5
  have w2:H2[2]? = _:=(low 2 l2').trans ((q2 2 (by omega) (by omega) (by omega)).trans i2)
  have fin:=Ri (v:=v) (m:=1) s' q1 q2 q3 q4 l2 (λa ha _=>low a ha) (by rw[fx,aq (by omega),q1,fZ]; simp) (by rw[fZ]; rfl)
  obtain⟨w4l,w4⟩:=ah.1 w4
  obtain⟨w2l,w2⟩:=ah.1 w2
  simp[gz,w4,w4l,w2,w2l,g3,hv,s3,Ax,yJ]
  exact⟨_,fin⟩
 ·simp[JA,l0',l1',l2',l3',l4',e0,e1,e2,e3,e4,hw,hv,g1,g2,g3,s1,s2,s3,Ax]
  generalize fP:(((h.set 4 _).set 0 _).set 1 _)=H1
  have q:H1.length=h.length∧(∀a,a≠0→a≠1→a≠4→H1[a]? = h[a]?)∧H1[0]? = some (.cells (yO n (fup t.ix v (t.ct+1))))∧H1[1]? = some (.cells (yO n (fup t.lo v (t.ct+1))))∧H1[4]? = some (.cells [.list false (AT n N),.rowp 0 1 false n,.rowp 1 1 false n,.rowp 2 1 false n,.rowp ks 1 false t.st.length,.int .i64 ((t.ct:Int)+1),.rowp 3 1 false n,.int .i64 (t.pa:Int)]):=by
   subst fP
   refine⟨by simp,λa h0 h1 h4 =>?_,?_,?_,?_⟩
   ·rw[ai (by omega),ai (by omega),ai (by omega)]
   ·rw[ai (by omega),av (by simp; omega)]
   ·rw[av (by simp; omega)]
   ·rw[ai (by omega),ai (by omega),av l4']
  clear fP
  obtain⟨q1,q2,q3,q4,q5⟩:=q
  obtain⟨H2,fx⟩:∃H2,H2=H1.set ks .gone++[PObj.cells (yn (t.st.reverse++[v]))]:=⟨_,rfl⟩
  have gz:=JH (n:=t.st.length) (by simp) ((q2 ks (by omega) (by omega) (by omega)).trans hk) (by omega) v
  simp only[← fx,q1] at gz
  have low:∀a,a<h.length→a≠ks→H2[a]? = H1[a]? := λa ha dh=>by rw[fx,al (by simp; omega),ai (λe=>dh e.symm)]
  have l2:H2.length=h.length+1:=by rw[fx]; simp[q1]
  have w4:H2[4]? = _:=(low 4 l4' (by omega)).trans q5
  have w2:H2[2]? = _:=(low 2 l2' (by omega)).trans ((q2 2 (by omega) (by omega) (by omega)).trans i2)
  have fin:=Ri (v:=v) (m:=t.st.length+1) s' q1 q2 q3 q4 l2 (λa ha hh=>low a ha (hh ks _ rfl)) (by rw[fx,aq (by simp; omega)]; simp[q1]) rfl
  obtain⟨w4l,w4⟩:=ah.1 w4
  obtain⟨w2l,w2⟩:=ah.1 w2
  simp[gz,w4,w4l,w2,w2l,g3,hv,s3,Ax,yJ]
  exact⟨_,fin⟩
end
theorem Keeps.refl (h:List PObj) (stk:PV):Keeps h stk h stk:=⟨am _,λ_ _ ho=>⟨rfl,ho⟩⟩
theorem Keeps.trans {h h1 h2:List PObj} {s s1 s2:PV} (k1:Keeps h s h1 s1) (k2:Keeps h1 s1 h2 s2):Keeps h s h2 s2:=by
 refine⟨aH k1.len k2.len,λa ha ho =>?_⟩
 obtain⟨e1,o1⟩:=k1.same a ha ho
 obtain⟨e2,o2⟩:=k2.same a (aP ha k1.len) o1
 exact⟨e2.trans e1,o2⟩
theorem c6P {h:List PObj} {n:Nat} {N:Nat→List Nat} {t:TS} {ks w:Nat} {r:List Nat} (s:TSt h n N t (.rowp ks 1 false (r.length+1))) (e:t.st=w::r):
  TSt (((h.set 4 (.cells (BX n N t (.rowp ks 1 false r.length)))).set 2 (.cells (Cn n (fup t.on w false)))).set 3 (.cells (yO n (fup t.nu w t.pa)))) n N (EV t w r) (.rowp ks 1 false r.length) ∧
   Keeps h (.rowp ks 1 false (r.length+1)) (((h.set 4 (.cells (BX n N t (.rowp ks 1 false r.length)))).set 2 (.cells (Cn n (fup t.on w false)))).set 3 (.cells (yO n (fup t.nu w t.pa)))) (.rowp ks 1 false r.length):=by
 have rM:4<h.length:=(ah.1 s.obj).1
 obtain⟨h5,_⟩:=s.off rfl
 refine⟨⟨?_,?_,?_,?_,?_,.inr ⟨ks,?_⟩⟩,⟨by simp,λa ha ho=>⟨?_,ho.1,λk' len e' =>?_⟩⟩⟩
 ·rw[ai (by omega),ai (by omega),ai (by omega)]; exact s.ix
 ·rw[ai (by omega),ai (by omega),ai (by omega)]; exact s.lo
 ·rw[ai (by omega),av (by simp; omega)]; rfl
 ·rw[av (by simp; omega)]; rfl
 ·rw[ai (by omega),ai (by omega),av (by omega)]; rfl
 ·rcases s.stk with⟨h1,_⟩|⟨k,rest,h1,h2,h3⟩
  ·simp at h1
  ·simp only[PV.rowp.injEq] at h1
   obtain⟨rfl,-,-,-⟩:=h1
   refine⟨[.int .i64 (w:Int)]++rest,rfl,h5,?_⟩
   rw[ai (by omega),ai (by omega),ai (by omega),h3,e]
   simp[EV,yn]
 ·have:=ho.1
  rw[ai (by omega),ai (by omega),ai (by omega)]
 ·simp only[PV.rowp.injEq] at e'
  have:=ho.2 ks _ rfl
  omega
theorem TSt.pa {h:List PObj} {n:Nat} {N:Nat→List Nat} {t:TS} {stk:PV} (s:TSt h n N t stk) (p:Nat):
  TSt (h.set 4 (.cells (BX n N { t with pa:=p } stk))) n N { t with pa:=p } stk∧Keeps h stk (h.set 4 (.cells (BX n N { t with pa:=p } stk))) stk:=by
 have rM:4<h.length:=(ah.1 s.obj).1
 refine⟨⟨?_,?_,?_,?_,?_,?_⟩,⟨by simp,λa ha ho=>⟨?_,ho⟩⟩⟩
 ·rw[ai (by omega)]; exact s.ix
 ·rw[ai (by omega)]; exact s.lo
 ·rw[ai (by omega)]; exact s.on
 ·rw[ai (by omega)]; exact s.nu
 ·rw[av (by omega)]
 ·rcases s.stk with h1|⟨k,rest,h1,h2,h3⟩
  ·exact .inl h1
  ·exact .inr ⟨k,rest,h1,h2,by rw[ai (by omega)]; exact h3⟩
 ·have:=ho.1
  rw[ai (by omega)]
section
variable {L:Nat→Option PFunc} (hL:∀k f,LS k=some f→L k=some f)
include hL
theorem c10 (n:Nat) (hn:n≤4096) (N:Nat→List Nat) (t:TS) (hs:t.st.length<1000000) (hp:t.pa<1000000) (dc:∀w∈t.st,w<n) (h:List PObj) (stk:PV) (s:TSt h n N t stk) (v:Nat) (hv:v∈t.st):
  ∃h' stk',ym L 241 [.ptr 4 0,.int .i64 (v:Int)] h=some (.tuple [],h')∧TSt h' n N (zP t v) stk'∧Keeps h stk h' stk':=by
 suffices H:∃r,ym L 241 [.ptr 4 0,.int .i64 (v:Int)] h=some r∧r.1 = .tuple []∧∃stk',TSt r.2 n N (zP t v) stk'∧Keeps h stk r.2 stk' by
  obtain⟨⟨r,h'⟩,h1,h2,stk',h3,h4⟩:=H
  simp only at h2; subst h2
  exact⟨h',stk',h1,h3,h4⟩
 obtain⟨l0',e0⟩:=ah.1 s.ix
 obtain⟨l1',e1⟩:=ah.1 s.lo
 obtain⟨l4',e4⟩:=ah.1 s.obj
 have iW:=dc v hv
 have g1:=BN n t.ix
 have g2:=BN n t.lo
 have r1:=BO iW t.ix
 have r2:=BO iW t.lo
 refine AP (hL 241 _ rfl) rfl ?_
 unfold BX at e4
 by_cases he:t.lo v=t.ix v
 ·have hi:((t.lo v:Nat):Int)=(t.ix v:Int):=by omega
  simp[JB,l0',l1',l4',e0,e1,e4,iW,g1,g2,r1,r2,he]
  rw[Qe]
  refine HM (λm st=>∃y2 h' stk' t',m=t'.st.length∧TSt h' n N t' stk'∧Keeps h stk h' stk'∧v∈t'.st∧(∀w∈t'.st,w<n)∧t'.st.length<1000000∧t'.pa=t.pa∧CB v t'.st t'=CB v t.st t∧st=⟨[.ptr 4 0,.int .i64 (v:Int),y2],[],0,h'⟩) ?_ t.st.length ⟨_,h,stk,t,rfl,s,Keeps.refl _ _,hv,dc,hs,rfl,rfl,rfl⟩
  rintro m st ⟨y2,h',stk',t',rfl,s',kp,ea,eK,kP,pB,ll,rfl⟩ ih
  cases dz:t'.st with
  | nil=>rw[dz] at ea; cases ea
  | cons w r =>
    rcases s'.stk with⟨_,h1⟩|⟨ks,rest,h1,h5,hk⟩
    ·rw[dz] at h1; cases h1
    rw[dz,aB] at h1
    subst h1
    have fR:=eK w (by rw[dz]; simp)
    rw[dz,aB] at kP
    obtain⟨fin,kp2⟩:=c6P s' dz
    rw[dz,CB] at ll
    obtain⟨m0,d0⟩:=ah.1 s'.obj
    obtain⟨m2,d2⟩:=ah.1 s'.on
    obtain⟨m3,d3⟩:=ah.1 s'.nu
    obtain⟨mk,dk⟩:=ah.1 hk
    unfold BX at d0
    have nL:IntKind.i64.wrap ((r.length:Int)+1 - 1)=(r.length:Int):=by rw[show ((r.length:Int)+1 - 1)=(r.length:Int) by omega]; exact BB _ (by omega)
    have sY:IntKind.i64.wrap (r.length:Int)=(r.length:Int):=BB _ (by omega)
    have sZ:r.length≤r.length+1:=by omega
    have kK:(r.length:Int)<(r.length:Int)+1:=by omega
    have lq:(r.length:Int)≤(r.length:Int)+1:=by omega
    have s0:t'.st.reverse=r.reverse++[w]:=by rw[dz]; simp
    rw[s0] at dk
    obtain⟨X,hX⟩:∃X,X=yn (r.reverse++[w])++rest:=⟨_,rfl⟩
    rw[← hX] at dk
    have wF:r.length<X.length:=by rw[hX,ao,Ar]; simp; omega
    have wG:∀p:r.length<X.length,X[r.length]'p = .int .i64 (w:Int):=by
     intro p
     subst hX
     simp[yn]
    have u2:=JI n t'.on
    have u3:=BN n t'.nu
    have z2:=Rh fR t'.on false
    have z3:=Er fR t'.nu t'.pa
    simp[m0,d0,m2,d2,m3,d3,mk,dk,nL,sY,sZ,kK,lq,wF,wG,u2,u3,z2,z3,fR,Ax]
    by_cases s4:w=v
    ·rw[af s4] at ll
     have om:(w:Int)=(v:Int):=by omega
     have rN:IntKind.i64.wrap ((t'.pa:Int)+1)=((t'.pa+1:Nat):Int):=yz t'.pa (by omega)
     obtain⟨f2,k2⟩:=fin.pa (t'.pa+1)
     have e:({ EV t' w r with pa:=t'.pa+1 }:TS)=zP t v:=by rw[zP,af he,ll,pB]
     rw[af om,rN]
     simp[yJ]
     rw[← e]
     exact⟨_,f2,kp.trans (kp2.trans k2)⟩
    ·rw[ae s4] at ll
     have om:¬(w:Int)=(v:Int):=by omega
     rw[ae om]
     have di:v∈r:=by
      rw[dz] at ea
      rcases az.1 ea with e|e
      ·exact absurd e.symm s4
      ·exact e
     exact ih r.length _ (by rw[dz]; simp) ⟨_,_,_,EV t' w r,rfl,fin,kp.trans kp2,di,λx hx=>eK x (by rw[dz]; exact bo _ hx),by show r.length<_; omega,pB,ll,rfl⟩
 ·have hi:¬((t.lo v:Nat):Int)=(t.ix v:Int):=by omega
  simp[JB,l0',l1',l4',e0,e1,e4,iW,g1,g2,r1,r2,he,hi,yJ]
  exact⟨stk,by rw[zP,ae he]; exact s,Keeps.refl _ _⟩
end
def fC:List (Nat×Nat)→List PV
 | []=>[]
 | f::F=>fC F++[.int .i64 (f.1:Int),.int .i64 (f.2:Int)]
theorem EX:∀F,(fC F).length=F.length*2
 | []=>rfl
 | f::F=>by simp only[fC,ao,EX F,aB,bq]; omega
def unv (n:Nat) (N:Nat→List Nat) (ix:Nat→Nat):Nat:=tot n λv=>if ix v=0 then(N v).length+2 else 0
def frm (N:Nat→List Nat):List (Nat×Nat)→Nat
 | []=>0
 | f::F=>((N f.1).length - f.2+1)+frm N F
theorem QS {n:Nat} {N:Nat→List Nat} {ix:Nat→Nat} {w k:Nat} (hw:w<n) (h0:ix w=0):unv n N (fup ix w (k+1))+((N w).length+2)=unv n N ix:=by
 refine MY (w:=w) n (λv _ hv =>?_) hw ?_
 ·rw[Aq _ _ hv]
 ·rw[zZ,h0]; simp
theorem TSt.frame {h h2:List PObj} {n:Nat} {N:Nat→List Nat} {t:TS} {stk:PV} (s:TSt h n N t stk) {kf:Nat} (ho:Off stk kf) (hs:∀a,a<h.length→a≠kf→h2[a]? = h[a]?):TSt h2 n N t stk:=by
 have rM:4<h.length:=(ah.1 s.obj).1
 have h5:=ho.1
 refine⟨by rw[hs 0 (by omega) (by omega)]; exact s.ix,by rw[hs 1 (by omega) (by omega)]; exact s.lo,by rw[hs 2 (by omega) (by omega)]; exact s.on,by rw[hs 3 (by omega) (by omega)]; exact s.nu,by rw[hs 4 (by omega) (by omega)]; exact s.obj,?_⟩
 rcases s.stk with h1|⟨k,rest,h1,eB,h3⟩
 ·exact .inl h1
 ·refine .inr ⟨k,rest,h1,eB,?_⟩
  rw[hs k (ah.1 h3).1 (ho.2 k _ h1)]; exact h3
theorem TSt.low {h:List PObj} {n:Nat} {N:Nat→List Nat} {t:TS} {stk:PV} (s:TSt h n N t stk) (lo:Nat→Nat):TSt (h.set 1 (.cells (yO n lo))) n N { t with lo:=lo } stk:=by
 have rM:4<h.length:=(ah.1 s.obj).1
 refine⟨by rw[ai (by omega)]; exact s.ix,av (by omega),by rw[ai (by omega)]; exact s.on,by rw[ai (by omega)]; exact s.nu,by rw[ai (by omega)]; exact s.obj,?_⟩
 rcases s.stk with h1|⟨k,rest,h1,eB,h3⟩
 ·exact .inl h1
 ·exact .inr ⟨k,rest,h1,eB,by rw[ai (by omega)]; exact h3⟩
theorem c6Q {h:List PObj} {kf:Nat} {F:List (Nat×Nat)} {rest:List PV} (hk:h[kf]? = some (.cells (fC F++rest))) (hF:F.length<1000000) (w m:Nat) (hm:m=F.length) (V l:List PV) (g:Nat):
  AI h 2 true 16 [.agg [.int .i64 (w:Int),.int .i64 0]] (.rowp kf 2 true m) ⟨V,l,g,h⟩=some (.rowp h.length 2 true (m+1),⟨V,l,g,h.set kf .gone++[.cells (fC ((w,0)::F))]⟩):=by
 subst hm
 have e1:F.length*2≤(fC F).length+rest.length:=by rw[EX]; omega
 have e2:F.length≤2147483647:=by omega
 have e3:List.take (F.length*2) (fC F++rest)=fC F:=List.take_left' (EX F)
 simp[AI,hk,e1,e2,e3,fC,zj]
theorem Rj (v:Nat):∀(l:List Nat) (t:TS),(CB v l t).ix=t.ix∧(CB v l t).ct=t.ct∧(CB v l t).pa=t.pa∧(CB v l t).lo=t.lo
 | [],t=>⟨rfl,rfl,rfl,rfl⟩
 | w :: l, t => by
   rw[CB]
   split
   ·exact⟨rfl,rfl,rfl,rfl⟩
   ·exact Rj v l _
theorem b8w (t:TS) (v:Nat):(zP t v).ix=t.ix∧(zP t v).ct+(zP t v).pa≤t.ct+t.pa+1:=by
 obtain⟨h1,h2,h3,_⟩:=Rj v t.st t
 unfold zP
 split
 ·exact⟨h1,by show (CB v t.st t).ct+(t.pa+1)≤_; omega⟩
 ·exact⟨rfl,by omega⟩
section
variable {L:Nat→Option PFunc} (hL:∀k f,LS k=some f→L k=some f)
include hL
theorem c13 (n:Nat) (hn:n≤4096) (N:Nat→List Nat) (hN:∀v,v<n→∀w∈N v,w<n) (kh:∀v,v<n→(N v).length≤1000000) (b k0 C:Nat) (hC:C<1000000) (V1 V3 V4 V5 V6:PV) (t:TS) (F:List (Nat×Nat)) (ti:TI n N b k0 t F) (hF:F≠[]) (h:List PObj) (stk:PV) (s:TSt h n N t stk) (kf:Nat) (rest:List PV) (ho:Off stk kf) (hk:h[kf]? = some (.cells (fC F++rest))) (mV:t.ct+t.pa+unv n N t.ix+frm N F≤C) {Q:PExit→St→Prop}
  (hq:∀y2 y3 y4 y5 y6 h' stk' t',TSt h' n N t' stk'→TI n N b k0 t' []→t'.ct+t'.pa+unv n N t'.ix≤C→Q (.exit 0) ⟨[.ptr 4 0,V1,y2,y3,y4,y5,y6],[],0,h'⟩):
  wpL L MC ⟨[.ptr 4 0,V1,.rowp kf 2 true F.length,V3,V4,V5,V6],[],0,h⟩ Q:=by
 rw[MC]
 refine HM (λm st=>∃y3 y4 y5 y6 h' stk' kf rest t' F,m=unv n N t'.ix+frm N F∧TSt h' n N t' stk'∧TI n N b k0 t' F∧Off stk' kf∧h'[kf]? = some (.cells (fC F++rest))∧t'.ct+t'.pa+unv n N t'.ix+frm N F≤C∧st=⟨[.ptr 4 0,V1,.rowp kf 2 true F.length,y3,y4,y5,y6],[],0,h'⟩) ?_ _ ⟨_,_,_,_,h,stk,kf,rest,t,F,rfl,s,ti,ho,hk,mV,rfl⟩
 rintro m st ⟨y3,y4,y5,y6,h',stk',kf,rest,t',F,hm,s',ti',eQ,dt,iV,rfl⟩ ih
 cases F with
 | nil =>
   simp
   exact hq _ _ _ _ _ _ _ _ s' ti' (by simp only[frm] at iV; omega)
 | cons f F =>
   obtain⟨v,i⟩:=f
   obtain⟨iU,dM,mX⟩:=ti'.top
   have iW:=ti'.lt v iU
   have wH:=(Gf n t'.st ti'.nodup ti'.lt).1
   have mU:F.length+1<1000000:=by
    have:∀F:List (Nat×Nat),F.length≤frm N F:=by
     intro F
     induction F with
     | nil=>simp
     | cons f F ih=>simp only[frm,aB]; omega
    have:=this ((v,i)::F)
    simp only[aB] at this
    omega
   obtain⟨l0',e0⟩:=ah.1 s'.ix
   obtain⟨l1',e1⟩:=ah.1 s'.lo
   obtain⟨l2',e2⟩:=ah.1 s'.on
   obtain⟨l4',e4⟩:=ah.1 s'.obj
   unfold BX at e4
   obtain⟨Y,hY⟩:∃Y,Y=fC ((v,i)::F)++rest:=⟨_,rfl⟩
   rw[← hY] at dt
   obtain⟨lk,ek⟩:=ah.1 dt
   have Yl:Y.length=F.length*2+2+rest.length:=by rw[hY,ao,EX,aB]; omega
   have Yl0:F.length*2<Y.length:=by omega
   have Yl1:F.length*2+1<Y.length:=by omega
   have Yg0:∀p:F.length*2<Y.length,Y[F.length*2]'p = .int .i64 (v:Int):=by
    intro p
    subst hY
    have:=EX F
    simp[fC,List.getElem_append,this]
   have Yg1:∀p:F.length*2+1<Y.length,Y[F.length*2+1]'p = .int .i64 (i:Int):=by
    intro p
    subst hY
    have:=EX F
    simp[fC,List.getElem_append,this]
   have ij:IntKind.i64.wrap (F.length:Int)=(F.length:Int):=BB _ (by omega)
   have kK:(F.length:Int)<(F.length:Int)+1:=by omega
   have lq:(F.length:Int)≤(F.length:Int)+1:=by omega
   have dB:0<(F.length:Int)+1:=by omega
   have nl:v<(AT n N).length:=by rw[HL]; exact iW
   have ng:∀p:v<(AT n N).length,(AT n N)[v]'p = .list false (yn (N v)):=by intro p; simp[AT]
   have g0:=BN n t'.ix
   have g1:=BN n t'.lo
   have g2:=JI n t'.on
   by_cases hi:i<(N v).length
   ·have sN:=ak hi
    have fR:=hN v iW _ sN
    have wl:i<(yn (N v)).length:=by rw[Ar]; exact hi
    have wg:∀p:i<(yn (N v)).length,(yn (N v))[i]'p = .int .i64 ((N v)[i]:Int):=by intro p; simp[yn]
    have fA:=kh v iW
    have sO:=yz i (by omega)
    obtain⟨Y2,rO⟩:∃Y2,Y2=Y.set (F.length*2+1) (.int .i64 ((i:Int)+1)):=⟨_,rfl⟩
    have oo:Y2=fC ((v,i+1)::F)++rest:=by
     rw[rO,hY]
     have:=EX F
     simp[fC,List.set_append,this]
    obtain⟨H1,fP⟩:∃H1,H1=h'.set kf (.cells Y2):=⟨_,rfl⟩
    have s1:TSt H1 n N t' stk':=s'.frame eQ λa _ dh=>by rw[fP,ai (λe=>dh e.symm)]
    have fm:H1[kf]? = some (.cells Y2):=by rw[fP,av lk]
    obtain⟨m0,d0⟩:=ah.1 s1.ix
    obtain⟨m1,d1⟩:=ah.1 s1.lo
    obtain⟨m2,d2⟩:=ah.1 s1.on
    obtain⟨m4,d4⟩:=ah.1 s1.obj
    obtain⟨mk,dk⟩:=ah.1 fm
    unfold BX at d4
    have x0:=BO fR t'.ix
    have x1:=BO iW t'.lo
    have x2:=Nc fR t'.on
    have Y2l:Y2.length=Y.length:=by rw[rO,aZ]
    have Y2l0:F.length*2<Y2.length:=by omega
    have Y2g0:∀p:F.length*2<Y2.length,Y2[F.length*2]'p = .int .i64 (v:Int):=by
     intro p
     subst rO
     rw[List.getElem_set_ne (by omega)]
     exact Yg0 _
    simp[dB,ij,kK,lq,l0',l1',l2',l4',e0,e1,e2,e4,lk,ek,Yl0,Yl1,Yg0,Yg1,nl,ng,Ar,hi,wl,wg,sO,← rO,← fP,m0,d0,m1,d1,m2,d2,m4,d4,mk,dk,g0,g1,g2,fR,x0,Y2l0,Y2g0]
    by_cases h0:t'.ix (N v)[i]=0
    ·obtain⟨h2,stk2,c1,s2,kp⟩:=QT hL n hn N t' (by omega) (by omega) H1 stk' s1 (N v)[i] fR
     have s6:kf<H1.length:=mk
     obtain⟨e2',o2⟩:=kp.same kf s6 eQ
     have eA:h2[kf]? = some (.cells (fC ((v,i+1)::F)++rest)):=by rw[e2',fm,oo]
     have gz:=c6Q eA (by simp; omega) (N v)[i] (F.length+1) rfl
     obtain⟨H3,kW⟩:∃H3,H3=h2.set kf .gone++[PObj.cells (fC (((N v)[i],0)::(v,i+1)::F))]:=⟨_,rfl⟩
     simp only[← kW] at gz
     have s3:TSt H3 n N (A3 t' (N v)[i]) stk2:=s2.frame o2 λa ha dh=>by rw[kW,al (by simpa using ha),ai (λe=>dh e.symm)]
     have wI:Off stk2 h2.length:=by
      refine⟨?_,λks len e =>?_⟩
      ·have:=eQ.1; have:=kp.len; omega
      ·have:=(s2.off e).2; omega
     have hu:=QS (n:=n) (N:=N) (k:=t'.ct) fR h0
     have nT:(A3 t' (N v)[i]).ct+(A3 t' (N v)[i]).pa+unv n N (A3 t' (N v)[i]).ix+frm N (((N v)[i],0)::(v,i+1)::F)≤C:=by
      show t'.ct+1+t'.pa+unv n N (fup t'.ix (N v)[i] (t'.ct+1))+_≤C
      simp only[frm] at iV ⊢
      omega
     simp[tf h0,c1,gz]
     refine ih (unv n N (A3 t' (N v)[i]).ix+frm N (((N v)[i],0)::(v,i+1)::F)) _ ?_ ⟨_,_,_,_,H3,stk2,h2.length,[],_,((N v)[i],0)::(v,i+1)::F,rfl,s3,ti'.enter hi fR h0,wI,?_,nT,rfl⟩
     ·rw[hm]
      show unv n N (fup t'.ix (N v)[i] (t'.ct+1))+_<_
      simp only[frm]
      omega
     ·rw[kW,aq (by simp)]; simp
    ·have eO:frm N ((v,i+1)::F)+1=frm N ((v,i)::F):=by simp only[frm]; omega
     cases mc:t'.on (N v)[i] with
     | false =>
       simp[h0,mc,x2,m2,d2]
       exact ih (unv n N t'.ix+frm N ((v,i+1)::F)) _ (by omega) ⟨_,_,_,_,H1,stk',kf,rest,t',(v,i+1)::F,rfl,s1,ti'.skip hi (by omega) mc,eQ,by rw[fm,oo],by omega,rfl⟩
     | true =>
       have oq:∀a b:Nat,(if b<a then(b:Int) else(a:Int))=((min a b:Nat):Int):=by intro a b; split<;>omega
       have z1:=Er iW t'.lo (min (t'.lo v) (t'.ix (N v)[i]))
       have s3:=s1.low (fup t'.lo v (min (t'.lo v) (t'.ix (N v)[i])))
       simp[h0,mc,x2,m0,d0,m1,d1,m2,d2,m4,d4,mk,dk,g0,g1,x0,x1,Y2l0,Y2g0,iW,fR]
       rw[oq,z1]
       have wJ:=eQ.1
       exact ih (unv n N t'.ix+frm N ((v,i+1)::F)) _ (by omega) ⟨_,_,_,_,_,stk',kf,rest,EU t' v (t'.ix (N v)[i]),(v,i+1)::F,rfl,s3,ti'.back hi mc,eQ,by rw[ai (by omega),fm,oo],by show t'.ct+t'.pa+unv n N t'.ix+_≤C; omega,rfl⟩
   ·have pC:i=(N v).length:=by omega
    obtain⟨h2,stk2,c1,s2,kp⟩:=c10 hL n hn N t' (by omega) (by omega) ti'.lt h' stk' s' v iU
    have rL:fC ((v,i)::F)++rest=fC F++([.int .i64 (v:Int),.int .i64 (i:Int)]++rest):=by simp[fC]
    obtain⟨e2',o2⟩:=kp.same kf lk eQ
    have eA:h2[kf]? = some (.cells Y):=by rw[e2',dt]
    have nX:frm N F+1≤frm N ((v,i)::F):=by simp only[frm]; omega
    obtain⟨ii,gb⟩:=b8w t' v
    by_cases nb:F=[]
    ·have s7:¬0<F.length:=by rw[nb]; simp
     simp[dB,ij,kK,lq,l0',e0,l1',e1,l4',e4,lk,ek,Yl0,Yl1,Yg0,Yg1,nl,ng,Ar,hi,c1,s7]
     subst nb
     rw[rL] at hY
     exact ih (unv n N (zP t' v).ix+frm N []) _ (by rw[ii,hm]; simp only[frm] at nX ⊢; omega) ⟨_,_,_,_,h2,stk2,kf,_,zP t' v,[],rfl,s2,ti'.close pC ti'.root,o2,by rw[eA,hY],by rw[ii]; simp only[frm] at nX iV ⊢; omega,rfl⟩
    ·have s7:0<F.length:=bK.2 nb
     simp[dB,ij,kK,lq,l0',e0,l1',e1,l4',e4,lk,ek,Yl0,Yl1,Yg0,Yg1,nl,ng,Ar,hi,c1,s7]
     obtain⟨f,F2,rP⟩:∃f F2,F=f::F2:=by
      cases wK:F with
      | nil=>exact absurd wK nb
      | cons f F2=>exact⟨f,F2,rfl⟩
     obtain⟨pv,pj⟩:=f
     have hFe:F.length=F2.length+1:=by rw[rP]; rfl
     have wL:IntKind.i64.wrap ((F.length:Int) - 1)=(F2.length:Int):=by rw[show ((F.length:Int) - 1)=(F2.length:Int) by omega]; exact BB _ (by omega)
     have wM:F2.length<F.length:=by omega
     have ti2:=ti'
     rw[rP] at ti2
     have ti3:=ti2.leave pC
     have fq:=ti3.lt pv ti3.top.1
     obtain⟨m1,d1⟩:=ah.1 s2.lo
     obtain⟨m4,d4⟩:=ah.1 s2.obj
     obtain⟨mk,dk⟩:=ah.1 eA
     unfold BX at d4
     have x1:=BO fq (zP t' v).lo
     have x2:=BO iW (zP t' v).lo
     have g3:=BN n (zP t' v).lo
     have Z0:F2.length*2<Y.length:=by omega
     have Zg:∀p:F2.length*2<Y.length,Y[F2.length*2]'p = .int .i64 (pv:Int):=by
      intro p
      subst hY
      have:=EX F2
      simp[rP,fC,List.getElem_append,this]
     have oq:∀a b:Nat,(if b<a then(b:Int) else(a:Int))=((min a b:Nat):Int):=by intro a b; split<;>omega
     have z1:=Er fq (zP t' v).lo (min ((zP t' v).lo pv) ((zP t' v).lo v))
     have s3:=s2.low (fup (zP t' v).lo pv (min ((zP t' v).lo pv) ((zP t' v).lo v)))
     have wJ:=o2.1
     simp[wL,wM,m1,d1,m4,d4,mk,dk,Z0,Zg,x1,x2,g3,fq,iW]
     rw[oq,z1]
     exact ih (unv n N (EU (zP t' v) pv ((zP t' v).lo v)).ix+frm N F) _ (by rw[hm]; show unv n N (zP t' v).ix+_<_; rw[ii]; omega) ⟨_,_,_,_,_,stk2,kf,_,EU (zP t' v) pv ((zP t' v).lo v),F,rfl,s3,by rw[rP]; exact ti3,o2,by rw[ai (by omega),eA,hY,rL],by show (zP t' v).ct+(zP t' v).pa+unv n N (zP t' v).ix+_≤C; rw[ii]; omega,rfl⟩
end
section
variable {L:Nat→Option PFunc} (hL:∀k f,LS k=some f→L k=some f)
include hL
theorem c0z (n:Nat) (hn:n≤4096) (N:Nat→List Nat) (hN:∀v,v<n→∀w∈N v,w<n) (kh:∀v,v<n→(N v).length≤1000000) (b v C:Nat) (hC:C<1000000) (t:TS) (ti:TI n N b v t []) (hv:v<n) (h0:t.ix v=0) (h:List PObj) (stk:PV) (s:TSt h n N t stk) (mV:t.ct+t.pa+unv n N t.ix≤C):
  ∃h' stk' t' b',ym L 230 [.ptr 4 0,.int .i64 (v:Int)] h=some (.tuple [],h')∧TSt h' n N t' stk'∧TI n N b' (v+1) t' []∧t'.ct+t'.pa+unv n N t'.ix≤C:=by
 suffices H:∃r,ym L 230 [.ptr 4 0,.int .i64 (v:Int)] h=some r∧r.1 = .tuple []∧∃stk' t' b',TSt r.2 n N t' stk'∧TI n N b' (v+1) t' []∧t'.ct+t'.pa+unv n N t'.ix≤C by
  obtain⟨⟨r,h'⟩,h1,h2,stk',t',b',h3⟩:=H
  simp only at h2; subst h2
  exact⟨h',stk',t',b',h1,h3⟩
 have hu:=QS (n:=n) (N:=N) (k:=t.ct) hv h0
 have dz:t.st=[]:=ti.seg
 obtain⟨h1,stk1,c1,s1,kp⟩:=QT hL n hn N t (by omega) (by rw[dz]; simp) h stk s v hv
 obtain⟨h2,fX⟩:∃h2,h2=h1++[PObj.cells [.int .i64 (v:Int),.int .i64 0]]:=⟨_,rfl⟩
 have h5:5≤h1.length:=by have:=(ah.1 s1.obj).1; omega
 have ho:Off stk1 h1.length:=⟨h5,λks len e=>by have:=(s1.off e).2; omega⟩
 have s2:TSt h2 n N (A3 t v) stk1:=s1.frame ho λa ha _=>by rw[fX,al ha]
 refine AP (hL 230 _ rfl) rfl ?_
 simp[MD,c1,Cc,Cb,zj,PV.cells,← fX]
 refine c13 hL n hn N hN kh (t.ct+1) (v+1) C hC _ _ _ _ _ (A3 t v) [(v,0)] (ti.begin hv h0) (by simp) h2 stk1 s2 h1.length [] ho (by rw[fX,aq (am _)]; simp[fC]) ?_ ?_
 ·show t.ct+1+t.pa+unv n N (fup t.ix v (t.ct+1))+_≤C
  simp only[frm]
  omega
 ·intro y2 y3 y4 y5 y6 h' stk' t' s' ti' hc
  simp[yJ]
  exact⟨_,_,s',⟨_,ti'⟩,hc⟩
theorem c38 (n:Nat) (hn:n≤4096) (N:Nat→List Nat) (hN:∀v,v<n→∀w∈N v,w<n) (kh:∀v,v<n→(N v).length≤1000000) (b C:Nat) (hC:C<1000000) (t:TS) (ti:TI n N b 0 t []) (h:List PObj) (stk:PV) (s:TSt h n N t stk) (mV:t.ct+t.pa+unv n N t.ix≤C) (V0 V1 V2 V3 V5 V6 V7 V8 V9 V10 V13 V14:PV) (g:Nat) {Q:PExit→St→Prop}
  (hk:∀y5 y12 h' stk' t' b',TSt h' n N t' stk'→TI n N b' n t' []→t'.ct+t'.pa+unv n N t'.ix≤C→Q (.exit 0) ⟨[V0,V1,V2,V3,.ptr 4 0,y5,V6,V7,V8,V9,V10,.int .i64 (n:Nat),y12,V13,V14],[],g,h'⟩):
  wpL L Mm ⟨[V0,V1,V2,V3,.ptr 4 0,V5,V6,V7,V8,V9,V10,.int .i64 (n:Nat),.int .i64 0,V13,V14],[],g,h⟩ Q:=by
 rw[Mm]
 refine yU n (λi st=>∃y5 h' stk' t' b',TSt h' n N t' stk'∧TI n N b' i t' []∧t'.ct+t'.pa+unv n N t'.ix≤C∧st=⟨[V0,V1,V2,V3,.ptr 4 0,y5,V6,V7,V8,V9,V10,.int .i64 (n:Nat),.int .i64 (i:Nat),V13,V14],[],g,h'⟩) ?_ ?_ ⟨_,h,stk,t,b,s,ti,mV,rfl⟩
 ·rintro i hi st ⟨y5,h',stk',t',b',s',ti',iV,rfl⟩ ih
  have hw:=yz i (by omega)
  obtain⟨l0',e0⟩:=ah.1 s'.ix
  obtain⟨l4',e4⟩:=ah.1 s'.obj
  unfold BX at e4
  have g0:=BN n t'.ix
  have x0:=BO hi t'.ix
  by_cases h0:t'.ix i=0
  ·obtain⟨h2,stk2,t2,b2,c1,s2,ti2,nT⟩:=c0z hL n hn N hN kh b' i C hC t' ti' hi h0 h' stk' s' iV
   simp[hi,hw,l0',e0,l4',e4,g0,x0,tf h0,c1]
   exact ih _ ⟨_,h2,stk2,t2,b2,s2,ti2,nT,rfl⟩
  ·simp[hi,hw,l0',e0,l4',e4,g0,x0,h0]
   exact ih _ ⟨_,h',stk',t',b',s',ti'.known h0,iV,rfl⟩
 ·rintro st ⟨y5,h',stk',t',b',s',ti',iV,rfl⟩
  simp
  exact hk _ _ _ _ _ _ s' ti' iV
end
def oC (l:List Nat):PV:=if l=[] then .nils else .list true (yn l)
theorem MZ {l:List Nat} (h:l≠[]):oC l = .list true (yn l):=ae h
def OutR (h:List PObj) (kp:Nat) (v:PV) (out:List (List Nat)):Prop:=
 (v = .nils∧out=[])∨∃ko,v = .rowp ko 1 false out.length∧5≤ko∧ko≠kp∧h[ko]? = some (.cells (out.map oC))
theorem b8p (h:List PObj) (V l:List PV) (g:Nat):AI h 1 false 24 [.nils] .nils ⟨V,l,g,h⟩=some (.rowp h.length 1 false 1,⟨V,l,g,h++[.cells [.nils]]⟩):=by
 simp[AI,PV.cells,dem]
theorem b6y {h:List PObj} {k n:Nat} {cs:List PV} (hk:h[k]? = some (.cells cs)) (hn:cs.length=n) (hl:n<2147483648) (V l:List PV) (g:Nat):
  AI h 1 false 24 [.nils] (.rowp k 1 false n) ⟨V,l,g,h⟩=some (.rowp h.length 1 false (n+1),⟨V,l,g,h.set k .gone++[.cells (cs++[.nils])]⟩):=by
 subst hn
 have e2:cs.length≤2147483647:=by omega
 simp[AI,hk,e2,PV.cells,dem]
theorem OutR.new {h:List PObj} {kp:Nat} {v:PV} {out:List (List Nat)} (o:OutR h kp v out) (dq:kp<h.length) (h5:5≤h.length) (hl:out.length<1000000):
  ∃h1,(∀V l g,AI h 1 false 24 [.nils] v ⟨V,l,g,h⟩=some (.rowp h.length 1 false (out.length+1),⟨V,l,g,h1⟩))∧h1[h.length]? = some (.cells ((out++[[]]).map oC))∧(∀a,a<5∨a=kp→h1[a]? = h[a]?)∧(v = .nils∨∃ko,v = .rowp ko 1 false out.length):=by
 rcases o with⟨rfl,rfl⟩|⟨ko,rfl,sI,dm,ki⟩
 ·exact⟨h++[.cells [.nils]],b8p h,by rw[aq (am _)]; simp[oC],λa ha=>al (by omega),.inl rfl⟩
 ·refine⟨_,b6y ki (by simp) (by omega),by rw[aq (by simp)]; simp[oC],λa ha=>by rw[al (by simp; omega),ai (by omega)],.inr ⟨ko,rfl⟩⟩
structure GH (h:List PObj) (n:Nat) (N:Nat→List Nat) (t:TS) (stk:PV) (kp P:Nat) (pl:Nat→Nat) (v:PV) (out:List (List Nat)):Prop where
 fnu:h[3]? = some (.cells (yO n t.nu))
 fobj:h[4]? = some (.cells (BX n N t stk))
 fpl:h[kp]? = some (.cells (yO P pl))
 k5:5≤kp
 fout:OutR h kp v out
 le:∀k,pl k≤out.length
section
variable {L:Nat→Option PFunc} (hL:∀k f,LS k=some f→L k=some f)
include hL
theorem c39 (n:Nat) (hn:n≤4096) (N:Nat→List Nat) (t:TS) (stk:PV) (kp P:Nat) (rF:∀v,v<n→t.nu v<P) (h:List PObj) (gh:GH h n N t stk kp P (λ_=>0) .nils []) (V0 V1 V2 V3 V5 V8 V9 V10 V11 V12:PV) (g:Nat) {Q:PExit→St→Prop}
  (hk:∀y7 y8 y9 y14 h' pl out,GH h' n N t stk kp P pl y7 out→(∀u,u<n→∃j,∃hj:j<out.length,pl (t.nu u)=j+1∧u∈out[j])→(∀l∈out,l≠[])→out.length≤n→Q (.exit 2) ⟨[V0,V1,V2,V3,.ptr 4 0,V5,.rowp kp 1 false P,y7,y8,y9,V10,V11,V12,.int .i64 (n:Nat),y14],[],g,h'⟩):
  wpL L Mn ⟨[V0,V1,V2,V3,.ptr 4 0,V5,.rowp kp 1 false P,.nils,V8,V9,V10,V11,V12,.int .i64 (n:Nat),.int .i64 0],[],g,h⟩ Q:=by
 rw[Mn]
 refine yU n (λi st=>∃y7 y8 y9 h' pl out,GH h' n N t stk kp P pl y7 out∧out.length≤i∧(∀l∈out,l≠[]∧l.length≤i)∧(∀u,u<i→∃j,∃hj:j<out.length,pl (t.nu u)=j+1∧u∈out[j])∧st=⟨[V0,V1,V2,V3,.ptr 4 0,V5,.rowp kp 1 false P,y7,y8,y9,V10,V11,V12,.int .i64 (n:Nat),.int .i64 (i:Nat)],[],g,h'⟩) ?_ ?_ ⟨_,_,_,h,_,[],gh,by simp,by simp,λu hu=>by omega,rfl⟩
 ·rintro i hi st ⟨y7,y8,y9,h',pl,out,gh,jk,ji,hm,rfl⟩ ih
  have hw:=yz i (by omega)
  obtain⟨m3,d3⟩:=ah.1 gh.fnu
  obtain⟨m4,d4⟩:=ah.1 gh.fobj
  obtain⟨mp,dp⟩:=ah.1 gh.fpl
  unfold BX at d4
  have g3:=BN n t.nu
  have x3:=BO hi t.nu
  have nU:=rF i hi
  obtain⟨k,hk⟩:∃k,k=t.nu i:=⟨_,rfl⟩
  rw[← hk] at x3 nU
  have gp:=BN P pl
  have xp:=BO nU pl
  have wr:=gh.le k
  by_cases h0:pl k=0
  ·obtain⟨h1,gz,ec,dA,wu⟩:=gh.fout.new mp (by omega) (by omega)
   have gW:h1[kp]? = some (.cells (yO P pl)):=(dA kp (.inr rfl)).trans gh.fpl
   obtain⟨mp1,dp1⟩:=ah.1 gW
   have z1:(yO P pl).set k (.int .i64 ((out.length:Int)+1))=yO P (fup pl k (out.length+1)):=Er nU pl (out.length+1)
   obtain⟨mo1,do1⟩:=ah.1 ec
   have ij:IntKind.i64.wrap (out.length:Int)=(out.length:Int):=BB _ (by omega)
   have gp2:=BN P (fup pl k (out.length+1))
   have xp2:=BO nU (fup pl k (out.length+1))
   rw[zZ] at xp2
   have kK:(out.length:Int)<(out.length:Int)+1:=by omega
   have dh:¬kp=h'.length:=by omega
   have mA:¬h'.length=kp:=by omega
   have kL:((out++[[]]).map oC).length=out.length+1:=by simp
   have hg:∀p:out.length<((out++[[]]).map oC).length,((out++[[]]).map oC)[out.length]'p = .nils:=λp=>by simp[oC]
   have yH:((out++[[]]).map oC).set out.length (.list true [.int .i64 (i:Int)])=(out++[[i]]).map oC:=by
    have e:oC [i] = .list true [.int .i64 (i:Int)]:=rfl
    rw[← e,← List.map_set]; simp
   have fin:GH ((h1.set kp (.cells (yO P (fup pl k (out.length+1))))).set h'.length (.cells ((out++[[i]]).map oC))) n N t stk kp P (fup pl k (out.length+1)) (.rowp h'.length 1 false (out.length+1)) (out++[[i]]):=by
    have uW:=gh.k5
    refine⟨?_,?_,?_,uW,.inr ⟨h'.length,by simp,by omega,mA,av (by simpa using mo1)⟩,λx =>?_⟩
    ·rw[ai (by omega),ai (by omega),dA 3 (.inl (by omega))]; exact gh.fnu
    ·rw[ai (by omega),ai (by omega),dA 4 (.inl (by omega))]; exact gh.fobj
    ·rw[ai mA,av mp1]
    ·have:=gh.le x
     simp only[ao,aB,bq]
     by_cases e:x=k
     ·subst e; rw[zZ]; omega
     ·rw[Aq _ _ e]; omega
   have p7:∀u,u<i+1→∃j,∃hj:j<(out++[[i]]).length,fup pl k (out.length+1) (t.nu u)=j+1∧u∈(out++[[i]])[j]:=by
    intro u hu
    by_cases e:u=i
    ·subst e
     rw[← hk,zZ]
     exact⟨out.length,by simp,rfl,by simp⟩
    ·obtain⟨j,hj,ik,eB⟩:=hm u (by omega)
     have:t.nu u≠k:=λe=>by rw[e,h0] at ik; omega
     rw[Aq _ _ this]
     exact⟨j,by simp; omega,ik,by rw[List.getElem_append_left hj]; exact eB⟩
   have nV:∀l∈out++[[i]],l≠[]∧l.length≤i+1:=by
    intro l hl
    rcases aw.1 hl with hl|hl
    ·exact⟨(ji l hl).1,by have:=(ji l hl).2; omega⟩
    ·rw[aQ] at hl; subst hl; simp
   have ih2:=ih _ ⟨_,.int .i64 (i:Nat),.int .i64 (k:Nat),_,_,_,fin,by simp; omega,nV,p7,rfl⟩
   generalize (out++[[]]).map oC=C at *
   generalize (out++[[i]]).map oC=C2 at *
   rcases wu with rfl|⟨ko,rfl⟩
   ·simp[hi,hw,m3,d3,m4,d4,g3,x3,mp,dp,gp,xp,nU,h0,gz,mp1,dp1,z1,Ax,PV.cells,AN,gp2,xp2,ij,kK,dh,mA,mo1,do1,kL,hg,yH]
    exact ih2
   ·simp[hi,hw,m3,d3,m4,d4,g3,x3,mp,dp,gp,xp,nU,h0,gz,mp1,dp1,z1,Ax,PV.cells,AN,gp2,xp2,ij,kK,dh,mA,mo1,do1,kL,hg,yH]
    exact ih2
  ·obtain⟨j,uX⟩:∃j,pl k=j+1:=⟨pl k - 1,by omega⟩
   have hj:j<out.length:=by omega
   rw[uX] at xp
   rcases gh.fout with⟨_,he⟩|⟨ko,rfl,sI,dm,ki⟩
   ·rw[he] at hj; simp at hj
   obtain⟨mo,do1⟩:=ah.1 ki
   have ij:IntKind.i64.wrap (j:Int)=(j:Int):=BB j (by omega)
   have kL:(out.map oC).length=out.length:=by simp
   obtain⟨sJ,hlj⟩:=ji _ (ak hj)
   have dM:(yn out[j]).length≤2147483647:=by rw[Ar]; omega
   have nW:zj 1 (yn out[j])=true:=by
    cases out[j] with
    | nil=>rfl
    | cons a l=>rfl
   have hg:∀p:j<(out.map oC).length,(out.map oC)[j]'p = .list true (yn out[j]):=λp=>by rw[List.getElem_map,MZ sJ]
   have yH:(out.map oC).set j (.list true (yn out[j]++[.int .i64 (i:Int)]))=(out.set j (out[j]++[i])).map oC:=by
    rw[List.map_set,MZ (by simp)]
    congr 1
    simp[yn]
   have lg:(out.set j (out[j]++[i])).length=out.length:=aZ
   have fin:GH (h'.set ko (.cells ((out.set j (out[j]++[i])).map oC))) n N t stk kp P pl (.rowp ko 1 false out.length) (out.set j (out[j]++[i])):=by
    refine⟨?_,?_,?_,gh.k5,.inr ⟨ko,by rw[lg],sI,dm,av mo⟩,λx=>by rw[lg]; exact gh.le x⟩
    ·rw[ai (by omega)]; exact gh.fnu
    ·rw[ai (by omega)]; exact gh.fobj
    ·rw[ai dm]; exact gh.fpl
   have p7:∀u,u<i+1→∃j',∃kM:j'<(out.set j (out[j]++[i])).length,pl (t.nu u)=j'+1∧u∈(out.set j (out[j]++[i]))[j']:=by
    intro u hu
    by_cases e:u=i
    ·subst e
     rw[← hk]
     exact⟨j,by rw[lg]; exact hj,uX,by simp⟩
    ·obtain⟨j',kM,ik,eB⟩:=hm u (by omega)
     refine⟨j',by rw[lg]; exact kM,ik,?_⟩
     rw[List.getElem_set]
     split
     ·rename_i e; subst e; exact b9 _ eB
     ·exact eB
   have nV:∀l∈out.set j (out[j]++[i]),l≠[]∧l.length≤i+1:=by
    intro l hl
    rcases List.mem_or_eq_of_mem_set hl with hl|rfl
    ·exact⟨(ji l hl).1,by have:=(ji l hl).2; omega⟩
    ·simp; omega
   have ih2:=ih _ ⟨_,.int .i64 (i:Nat),.int .i64 (k:Nat),_,_,_,fin,by rw[lg]; omega,nV,p7,rfl⟩
   generalize (out.set j (out[j]++[i])).map oC=C2 at *
   generalize out.map oC=C at *
   have md:¬(j:Int)+1=0:=by omega
   simp[hi,hw,m3,d3,m4,d4,g3,x3,mp,dp,gp,xp,nU,md,ij,hj,mo,do1,kL,hg,yH,nW,dM,Ax,PV.cells,AN]
   exact ih2
 ·rintro st ⟨y7,y8,y9,h',pl,out,gh,jk,ji,hm,rfl⟩
  simp
  exact hk _ _ _ _ _ _ _ gh hm (λl hl=>(ji l hl).1) jk
theorem c1P (n:Nat) (hn:n≤4096) (h0:0<n) (E:List (Nat×Nat)) (hE:∀e∈E,e.1<n∧e.2<n) (hl:E.length≤500000):
  ∃h',∃out:List (List Nat),∃(nu:Nat→Nat) (pa:Nat) (pl:Nat→Nat),ym L 213 [.int .i64 (n:Int),.list false (E.map eE)] []=some (.tuple [.list false (out.map λl => .list false (yn l)),.int .i64 0],h')∧(∀v,v<n→nu v<pa∧∀w,(v,w)∈E→nu w≤nu v)∧(∀u,u<n→∃j,∃hj:j<out.length,pl (nu u)=j+1∧u∈out[j])∧out.length≤n:=by
 suffices H:∃r,ym L 213 [.int .i64 (n:Int),.list false (E.map eE)] []=some r∧∃out:List (List Nat),r.1 = .tuple [.list false (out.map λl => .list false (yn l)),.int .i64 0]∧∃(nu:Nat→Nat) (pa:Nat) (pl:Nat→Nat),(∀v,v<n→nu v<pa∧∀w,(v,w)∈E→nu w≤nu v)∧(∀u,u<n→∃j,∃hj:j<out.length,pl (nu u)=j+1∧u∈out[j])∧out.length≤n by
  obtain⟨⟨r,h'⟩,h1,out,h2,nu,pa,pl,h3⟩:=H
  simp only at h2; subst h2
  exact⟨h',out,nu,pa,pl,h1,h3⟩
 have cv:=QU hL n hn E hE (by omega) .nils (.inr rfl)
 obtain⟨r,ig,N,cn,nX,hN,p8⟩:=QV hL n hn E hE (by omega)
 have rG:∀v,v<n→∀w∈N v,w<n:=λv _ w hw=>(hE _ ((hN v w).1 hw)).2
 have wv:(tot n λu=>(N u).length)≤500000:=aH (HJ n λv _=>p8 v) (aH (M0 n E) hl)
 have kh:∀v,v<n→(N v).length≤1000000:=λv hv=>by
  have:=HK (f:=λ_=>0) (g:=λu=>(N u).length) (w:=v) (c:=(N v).length) n (λ_ _=>bJ _) hv (by omega)
  omega
 have eP:8*(n:Int)≤281474976710656:=by omega
 have dK:(n:Int)≤9223372036854775807:=by omega
 have jW:(n:Int)≤281474976710656:=by omega
 refine AP (hL 213 _ rfl) rfl ?_
 simp[Mo,cv,cn,nX,Es,QX,yC,eP,dK,jW,HL,adoptAll,Cb,PV.cells]
 have nY:List.replicate n (PV.int .i64 0)=yO n λ_=>0:=by unfold yO; apply b6<;>simp
 have p9:List.replicate n (PV.bool false)=Cn n λ_=>false:=by unfold Cn; apply b6<;>simp
 rw[nY,p9]
 let t0:TS:=⟨λ_=>0,λ_=>0,λ_=>false,[],0,λ_=>0,0⟩
 have ti:TI n N 1 0 t0 []:=⟨λv=>by simp[t0],List.Pairwise.nil,λv h=>by simp[t0] at h,λv h=>by simp[t0] at h,by omega,λv h=>by simp[t0] at h,rfl,λv h=>by omega⟩
 have hu:unv n N (λ_=>0)≤500000+2*n:=by
  have e:unv n N (λ_=>0)=(tot n λu=>(N u).length)+tot n λ_=>2:=by rw[← M1]; rfl
  have e2:∀n,(tot n λ_=>2)=2*n:=by
   intro n
   induction n with
   | zero=>rfl
   | succ n ih=>rw[tot,ih]; omega
  rw[e,e2]; omega
 refine c38 hL n hn N rG kh 1 600000 (by omega) t0 ti _ (.list true []) ⟨rfl,rfl,rfl,rfl,rfl,.inl ⟨rfl,rfl⟩⟩ (by show 0+0+unv n N (λ_=>0)≤_; omega) _ _ _ _ _ _ _ _ _ _ _ _ _ ?_
 intro y5 y12 h1 stk1 t1 b1 s1 ti1 dY
 have fc:=ti1.done (am n)
 obtain⟨m4,d4⟩:=ah.1 s1.obj
 unfold BX at d4
 have sK:8*(t1.pa:Int)≤281474976710656:=by omega
 have sL:(t1.pa:Int)≤9223372036854775807:=by omega
 simp[m4,d4,sK,sL]
 have qd:List.replicate t1.pa (PV.int .i64 0)=yO t1.pa λ_=>0:=by unfold yO; apply b6<;>simp
 rw[qd]
 refine c39 hL n hn N t1 stk1 h1.length t1.pa (λv hv=>(fc v hv).1) _ ⟨?_,?_,?_,by omega,.inl ⟨rfl,rfl⟩,λk=>bJ _⟩ _ _ _ _ _ _ _ _ _ _ _ ?_
 ·rw[al (by omega)]; exact s1.nu
 ·rw[al (by omega)]; exact s1.obj
 ·rw[aq (am _)]; simp
 intro y7 y8 y9 y14 h2 pl out gh hm dh jk
 rcases gh.fout with⟨_,he⟩|⟨ko,rfl,sI,dm,ki⟩
 ·obtain⟨j,hj,_⟩:=hm 0 h0
  rw[he] at hj; simp at hj
 have fI:=JG (out.map oC) (λi=>PV.list false (yn (out.getD i []))) out.length 0 (λi hi=>by
  have hi:i<out.length:=by omega
  have hn:=dh _ (ak hi)
  simp only[yu,aF,an hi,aC,MZ hn]
  simp[cp,hi])
 have nZ:(List.range' 0 out.length).map (λi=>PV.list false (yn (out.getD i [])))=out.map λl => .list false (yn l):=by
  apply b6
  ·simp
  ·intro i h1 h2
   simp at h2
   simp[h2]
 rw[nZ] at fI
 simp[yJ,ki,fI]
 exact⟨out,rfl,t1.nu,⟨t1.pa,λv hv=>⟨(fc v hv).1,λw hw=>(fc v hv).2 w ((hN v w).2 hw)⟩⟩,⟨pl,λu hu=>by obtain⟨j,hj,h3,h4⟩:=hm u hu; exact⟨j,h3,hj,h4⟩⟩,jk⟩
end
end PI.Sc
set_option maxRecDepth 100000
set_option linter.unusedSimpArgs false
set_option linter.unusedVariables false
namespace PI.Sc
open Go (IntKind BinOp UnOp)
section
variable {α:Type}
def zn (m:List (Str×α)) (x:Str):Option α:=(m.find? λe=>decide (e.1=x)).map (·.2)
def BF:List (Str×α)→Str→α→List (Str×α)
 | [],x,v=>[(x,v)]
 | e::m,x,v=>if e.1=x then(x,v)::m else e::BF m x v
theorem QI (m:List (Str×α)) (x:Str) (v:α) (y:Str):zn (BF m x v) y=if y=x then some v else zn m y:=by
 induction m with
 | nil =>
   by_cases h:y=x
   ·subst h; simp[BF,zn]
   ·have h':¬x=y:=λe=>h e.symm
    simp[BF,zn,h,h']
 | cons e m ih =>
   unfold BF
   by_cases h:e.1=x
   ·rw[af h]
    by_cases h2:y=x
    ·subst h2; simp[zn]
    ·have eB:¬x=y:=λe=>h2 e.symm
     have h3:¬e.1=y:=by rw[h]; exact eB
     simp[zn,h2,eB,h3]
   ·rw[ae h]
    by_cases h3:e.1=y
    ·have h2:¬y=x:=by rw[← h3]; exact h
     simp[zn,h3,h2]
    ·have:zn (e::BF m x v) y=zn (BF m x v) y:=by simp[zn,h3]
     rw[this,ih]
     have:zn (e::m) y=zn m y:=by simp[zn,h3]
     rw[this]
def Cm (emb:α→PV) (m:List (Str×α)):List (PV×PV):=m.map λe=>(.str e.1,emb e.2)
theorem Rr (emb:α→PV) (x:Str):∀(m:List (Str×α)) (i:Nat),∃r0:Option (Nat×PV),zG false [.s] (.str x) (Cm emb m) i=some (r0.map λq=>(i+q.1,q.2))∧r0.map (·.2)=(zn m x).map emb∧∀v,Et (Cm emb m) (.str x) (emb v) r0=Cm emb (BF m x v)
 | [],i=>⟨none,rfl,rfl,λv=>rfl⟩
 | e :: m, i => by
   obtain⟨r0,h1,h2,h3⟩:=Rr emb x m (i+1)
   have hp:peq false [.s] (.str x) (.str e.1)=some (decide (x=e.1)):=by
    simp only[peq,Bo]
    congr 1
    by_cases h:x=e.1<;>simp[h]
   by_cases h:e.1=x
   ·refine⟨some (0,emb e.2),?_,?_,?_⟩
    ·have fB:decide (x=e.1)=true:=by simp[h]
     simp only[Cm,aA,zG,hp,ar,fB,if_true]; rfl
    ·simp[zn,h]
    ·intro v; simp[Et,Cm,BF,h]
   ·have h':¬x=e.1:=λq=>h q.symm
    refine⟨r0.map λq=>(q.1+1,q.2),?_,?_,?_⟩
    ·have e1:zG false [.s] (.str x) (Cm emb (e::m)) i=zG false [.s] (.str x) (Cm emb m) (i+1):=by
      simp only[Cm,aA,zG,hp,ar,h',decide_false,aJ,if_false]
     rw[e1,h1]
     cases r0 with
     | none=>rfl
     | some q=>simp; omega
    ·have:zn (e::m) x=zn m x:=by simp[zn,h]
     rw[this,← h2]
     cases r0<;>rfl
    ·intro v
     have h3:=h3 v
     have e2:BF (e::m) x v=e::BF m x v:=by rw[BF,ae h]
     rw[e2]
     cases r0 with
     | none =>
       simp only[Et,ci] at h3 ⊢
       simp only[Cm,aA,aK] at h3 ⊢
       rw[h3]
     | some q =>
       simp only[Et,aC] at h3 ⊢
       simp only[Cm,aA,List.set_cons_succ] at h3 ⊢
       rw[h3]
theorem JF (emb:α→PV) (x:Str) (m:List (Str×α)):∃r,zG false [.s] (.str x) (Cm emb m) 0=some r∧r.map (·.2)=(zn m x).map emb∧∀v,Et (Cm emb m) (.str x) (emb v) r=Cm emb (BF m x v):=by
 obtain⟨r0,h1,h2,h3⟩:=Rr emb x m 0
 have e:(r0.map λq=>(0+q.1,q.2))=r0:=by cases r0<;>simp
 rw[e] at h1
 exact⟨r0,h1,h2,h3⟩
end
def byL (i:Nat) (m:List (Str×Int)) (l:List Str):List (Str×Int):=l.foldl (λm s=>BF m s (i:Int)) m
def byE:List (List Str)→Nat→List (Str×Int)→List (Str×Int)
 | [],_,m=>m
 | l::ls,i,m=>byE ls (i+1) (byL i m l)
def clk (m:List (Str×List On)) (l:List Decl):List (Str×List On):=l.foldl (λm d=>BF m d.name d.clock) m
def A8 (by':List (Str×Int)) (j:Nat) (s:Str):List Pr:=match zn by' s with
 | some i=>[(i,(j:Int))]
 | none=>[]
def A2 (c:List (Str×List On)) (s:Str):List Str:=((zn c s).getD []).map (·.name)
def Eq (by':List (Str×Int)) (c:List (Str×List On)) (j:Nat) (ns left:List Str):List Pr:=(ns++left.flatMap (A2 c)).flatMap (A8 by' j)
def Ab (by':List (Str×Int)) (c:List (Str×List On)):List (List Str×List Str)→Nat→List Pr
 | [],_=>[]
 | q::qs,j=>Eq by' c j q.2 q.1++Ab by' c qs (j+1)
def MV (vs:List Decl) (qs:List (List Str×List Str)):List Pr:=AR (Bh AS (Ab (byE (qs.map (·.1)) 0 []) (clk [] vs) qs 0))
def zX (n:Node):List (List Str×List Str):=n.eqs.map λq=>(q.left,Bv [] q.right)
def Db (n:Node):List Pr:=MV (vars n) (zX n)
end PI.Sc
set_option maxRecDepth 100000
set_option linter.unusedSimpArgs false
set_option linter.unusedVariables false
namespace PI.Sc
open Go (IntKind BinOp UnOp)
open Short
def DX (m:List (Str×Int)):PObj := .map (Cm (λi=>PV.int .i64 i) m)
def Fs (m:List (Str×List On)):PObj := .map (Cm (λc=>PV.list false (c.map eOn)) m)
structure EH (h:List PObj) (b:List (Str×Int)) (c:List (Str×List On)) (l:List Pr):Prop where
 by':h[0]? = some (DX b)
 ck:h[1]? = some (Fs c)
 out:∃v,h[2]? = some (.cells [v])∧((v = .list true []∧l=[])∨∃k cs,3≤k∧v = .rowp k 2 true l.length∧h[k]? = some (.cells cs)∧Prs cs l)
section
variable {L:Nat→Option PFunc} (hL:∀k f,LS k=some f→L k=some f)
include hL
theorem QC {h:List PObj} {b:List (Str×Int)} {c:List (Str×List On)} (h0:h[0]? = some (DX b)) (h1:h[1]? = some (Fs c)) (cY:2<h.length) (a:Nat) (ha:2≤a) (o:PObj) (l:List Pr) (hl:l≠[]) (cs:List PV) (hp:Prs cs l):EH ((h.set a o++[PObj.cells cs]).set 2 (PObj.cells [.rowp h.length 2 true l.length])) b c l:=by
 have _:=hL
 refine⟨?_,?_,_,?_,.inr ⟨h.length,cs,cY,rfl,?_,hp⟩⟩
 ·rw[ai (by omega),al (by simp; omega),ai (by omega)]; exact h0
 ·rw[ai (by omega),al (by simp; omega),ai (by omega)]; exact h1
 ·rw[av (by simp; omega)]
 ·rw[ai (by omega),aq (by simp)]; simp
theorem QD (b:List (Str×Int)) (c:List (Str×List On)) (l:List Pr) (hl:l.length≤2000000000) (s:Str) (j:Nat) (h:List PObj) (eh:EH h b c l):
  ∃h',ym L 216 [.str s,.cptr [.map (some 0)],.ptr 2 0,.cptr [.int .i64 j]] h=some (.tuple [],h')∧EH h' b c (l++A8 b j s):=by
 suffices H:∃r,ym L 216 [.str s,.cptr [.map (some 0)],.ptr 2 0,.cptr [.int .i64 j]] h=some r∧r.1 = .tuple []∧EH r.2 b c (l++A8 b j s) by
  obtain⟨⟨v,h'⟩,h1,h2,h3⟩:=H
  simp only at h2 h3; subst h2
  exact⟨h',h1,h3⟩
 obtain⟨h0,h1,v,h2,hv⟩:=eh
 obtain⟨r,f1,f2,_⟩:=JF (λi=>PV.int .i64 i) s b
 have cY:2<h.length:=(ah.1 h2).1
 unfold DX at h0
 refine AP (hL 216 _ rfl) rfl ?_
 cases hk:zn b s with
 | none =>
   rw[hk] at f2
   have hr:r=none:=by cases r with | none=>rfl | some q=>simp at f2
   subst hr
   have e:A8 b j s=[]:=by simp[A8,hk]
   simp[Hv,h0,f1,yJ,e]
   exact⟨h0,h1,v,h2,hv⟩
 | some i =>
   rw[hk] at f2
   obtain⟨q,hr⟩:∃q,r=some (q,.int .i64 i):=by
    cases r with
    | none=>simp at f2
    | some q=>obtain⟨q1,q2⟩:=q; simp at f2; exact⟨q1,by rw[f2]⟩
   subst hr
   have e:A8 b j s=[(i,(j:Int))]:=by simp[A8,hk]
   rcases hv with⟨rfl,rfl⟩|⟨k,cs,ir,rfl,iu,hp⟩
   ·have kI:∀x:PObj,(h.set 2 x)[2]? = some x:=λx=>by rw[av cY]
    have sF:∀(x:PObj) (y:List PObj),(h.set 2 x++y)[2]? = some x:=λx y=>by rw[al (by simpa using cY),kI]
    simp[Hv,h0,f1,h2,kI,sF,yJ,e,Cc,Cb,zj,PV.cells,AN,AI]
    exact QC hL h0 h1 cY 2 (by omega) _ [(i,(j:Int))] (by simp) _ ⟨rfl⟩
   ·have kI:∀x:PObj,(h.set 2 x)[2]? = some x:=λx=>by rw[av cY]
    have sF:∀(n:Nat) (x:PObj) (y:List PObj),3≤n→(h.set n x++y)[2]? = h[2]? := λn x y hn=>by rw[al (by simpa using cY),ai (by omega)]
    have nP:l.length*2≤cs.length:=by rw[hp.len]; exact am _
    have ei:l.length+1≤2147483648:=by omega
    simp[Hv,h0,f1,h2,iu,sF k _ _ ir,nP,ei,yJ,e,Cc,Cb,zj,PV.cells,AN,AI]
    have e2:l.length+1=(l++[(i,(j:Int))]).length:=by simp
    rw[e2]
    refine QC hL h0 h1 cY k (by omega) _ _ (by simp) _ ⟨?_⟩
    rw[bQ,← hp.eq]
    rw[bW (by rw[hp.len]; exact am _)]
    rfl
end
theorem c0x (b:List (Str×Int)) (j:Nat) (s:Str):(A8 b j s).length≤1:=by unfold A8; split<;>simp
theorem Ft (b:List (Str×Int)) (j:Nat):∀ns:List Str,(ns.flatMap (A8 b j)).length≤ns.length
 | []=>by simp
 | s :: ns => by
   have:=Ft b j ns
   have:=c0x b j s
   simp only[aM,ao,aB]; omega
theorem QE:∀(a:List (List Str)) (l:List Str) (k:Nat) (m:List (Str×Int)),byE (a++[l]) k m=byL (k+a.length) (byE a k m) l
 | [],l,k,m=>by simp[byE]
 | x :: a, l, k, m => by
   simp only[aK,byE,aB]
   rw[QE a l (k+1)]
   congr 1; omega
theorem c3Z (ls:List (List Str)) {i:Nat} (h:i<ls.length) (m:List (Str×Int)):byE (ls.take (i+1)) 0 m=byL i (byE (ls.take i) 0 m) ls[i]:=by
 rw[a8,an h]
 show byE (ls.take i++[ls[i]]) 0 m=_
 rw[QE,aU,ba,Nat.min_eq_left (by omega)]
theorem QG (b:List (Str×Int)) (c:List (Str×List On)):∀(a:List (List Str×List Str)) (q:List Str×List Str) (k:Nat),Ab b c (a++[q]) k=Ab b c a k++Eq b c (k+a.length) q.2 q.1
 | [],q,k=>by simp[Ab]
 | x :: a, q, k => by
   simp only[aK,Ab,aB]
   rw[QG b c a q (k+1),aI]
   congr 3; omega
theorem c1M (b:List (Str×Int)) (c:List (Str×List On)) (qs:List (List Str×List Str)) {i:Nat} (h:i<qs.length):Ab b c (qs.take (i+1)) 0=Ab b c (qs.take i) 0++Eq b c i qs[i].2 qs[i].1:=by
 rw[a8,an h]
 show Ab b c (qs.take i++[qs[i]]) 0=_
 rw[QG,aU,ba,Nat.min_eq_left (by omega)]
section
variable {L:Nat→Option PFunc} (hL:∀k f,LS k=some f→L k=some f)
include hL
theorem c30 (b:List (Str×Int)) (c:List (Str×List On)) (j:Nat) (ns:List Str) (o:Bool) (l:List Pr) (hl:l.length+ns.length≤2000000000) (h:List PObj) (eh:EH h b c l) (V0 V1 V2 V3 V4 V5 V6 V7 V8 V9 V10 V11 V13 V14 V15 V16 V17 V18 V19 V20 V21 V22 V23 V24 V25 V26 V27 V31 V32 V33 V34 V35 V36:PV) (g:Nat) {Q:PExit→St→Prop}
  (hk:∀y13 y30 h',EH h' b c (l++ns.flatMap (A8 b j))→Q (.exit 8) ⟨[V0,V1,V2,V3,V4,V5,V6,V7,V8,V9,V10,V11,.func 216 [] [.cptr [.map (some 0)],.ptr 2 0,.cptr [.int .i64 j]],y13,V14,V15,V16,V17,V18,V19,V20,V21,V22,V23,V24,V25,V26,V27,.list o (ns.map PV.str),.int .i64 ns.length,y30,V31,V32,V33,V34,V35,V36],[],g,h'⟩):
  wpL L L5 ⟨[V0,V1,V2,V3,V4,V5,V6,V7,V8,V9,V10,V11,.func 216 [] [.cptr [.map (some 0)],.ptr 2 0,.cptr [.int .i64 j]],V13,V14,V15,V16,V17,V18,V19,V20,V21,V22,V23,V24,V25,V26,V27,.list o (ns.map PV.str),.int .i64 ns.length,.int .i64 0,V31,V32,V33,V34,V35,V36],[],g,h⟩ Q:=by
 rw[L5]
 refine yU ns.length (λi st=>∃y13 h',st=⟨[V0,V1,V2,V3,V4,V5,V6,V7,V8,V9,V10,V11,.func 216 [] [.cptr [.map (some 0)],.ptr 2 0,.cptr [.int .i64 j]],y13,V14,V15,V16,V17,V18,V19,V20,V21,V22,V23,V24,V25,V26,V27,.list o (ns.map PV.str),.int .i64 ns.length,.int .i64 i,V31,V32,V33,V34,V35,V36],[],g,h'⟩∧EH h' b c (l++(ns.take i).flatMap (A8 b j))) ?_ ?_ ⟨V13,h,rfl,by simpa using eh⟩
 ·rintro i hi st ⟨y13,h1,rfl,e1⟩ ih
  have hw:=yz i (by omega)
  have mW:=Ft b j (ns.take i)
  have dc:(ns.take i).length≤ns.length:=by rw[ba]; omega
  obtain⟨h2,hc,e2⟩:=QD hL b c _ (by rw[ao]; omega) ns[i] j h1 e1
  simp[hi,hw,hc]
  refine ih _ ⟨_,h2,rfl,?_⟩
  rw[AH hi,bQ,List.flatMap_singleton,← aI]
  exact e2
 ·rintro st ⟨y13,h1,rfl,e1⟩
  rw[aD] at e1
  simp
  exact hk _ _ h1 e1
theorem QH (b:List (Str×Int)) (c:List (Str×List On)) (j:Nat) (cl:List On) (o:Bool) (l:List Pr) (hl:l.length+cl.length≤2000000000) (h:List PObj) (eh:EH h b c l) (V0 V1 V2 V3 V4 V5 V6 V7 V8 V9 V10 V11 V13 V14 V15 V16 V17 V18 V19 V20 V21 V22 V23 V24 V25 V26 V27 V28 V29 V30 V31 V32 V33:PV) (g:Nat) {Q:PExit→St→Prop}
  (hk:∀y15 y36 g' h',EH h' b c (l++(cl.map (·.name)).flatMap (A8 b j))→Q (.exit 12) ⟨[V0,V1,V2,V3,V4,V5,V6,V7,V8,V9,V10,V11,.func 216 [] [.cptr [.map (some 0)],.ptr 2 0,.cptr [.int .i64 j]],V13,V14,y15,V16,V17,V18,V19,V20,V21,V22,V23,V24,V25,V26,V27,V28,V29,V30,V31,V32,V33,.list o (cl.map eOn),.int .i64 cl.length,y36],[],g',h'⟩):
  wpL L L7 ⟨[V0,V1,V2,V3,V4,V5,V6,V7,V8,V9,V10,V11,.func 216 [] [.cptr [.map (some 0)],.ptr 2 0,.cptr [.int .i64 j]],V13,V14,V15,V16,V17,V18,V19,V20,V21,V22,V23,V24,V25,V26,V27,V28,V29,V30,V31,V32,V33,.list o (cl.map eOn),.int .i64 cl.length,.int .i64 0],[],g,h⟩ Q:=by
 rw[L7]
 refine yU cl.length (λi st=>∃y15 g' h',st=⟨[V0,V1,V2,V3,V4,V5,V6,V7,V8,V9,V10,V11,.func 216 [] [.cptr [.map (some 0)],.ptr 2 0,.cptr [.int .i64 j]],V13,V14,y15,V16,V17,V18,V19,V20,V21,V22,V23,V24,V25,V26,V27,V28,V29,V30,V31,V32,V33,.list o (cl.map eOn),.int .i64 cl.length,.int .i64 i],[],g',h'⟩∧EH h' b c (l++((cl.take i).map (·.name)).flatMap (A8 b j))) ?_ ?_ ⟨V15,g,h,rfl,by simpa using eh⟩
 ·rintro i hi st ⟨y15,g',h1,rfl,e1⟩ ih
  have hw:=yz i (by omega)
  have mW:=Ft b j ((cl.take i).map (·.name))
  have dc:((cl.take i).map (·.name)).length≤cl.length:=by rw[aG,ba]; omega
  obtain⟨h2,hc,e2⟩:=QD hL b c _ (by rw[ao]; omega) cl[i].name j h1 e1
  simp[hi,hw,hc]
  refine ih _ ⟨_,_,h2,rfl,?_⟩
  rw[AH hi,bm,aA,bI,bQ,List.flatMap_singleton,← aI]
  exact e2
 ·rintro st ⟨y15,g',h1,rfl,e1⟩
  rw[aD] at e1
  simp
  exact hk _ _ _ h1 e1
theorem c31 (b:List (Str×Int)) (c:List (Str×List On)) (dH:∀s cl,zn c s=some cl→cl.length≤4) (j:Nat) (ls:List Str) (kJ:ls.length≤1000) (o:Bool) (l:List Pr) (hl:l.length+ls.length*4≤2000000000) (h:List PObj) (eh:EH h b c l) (V0 V1 V2 V3 V4 V5 V6 V8 V9 V10 V11 V13 V14 V15 V16 V17 V18 V19 V20 V21 V22 V23 V24 V25 V26 V27 V28 V29 V30 V34 V35 V36:PV) (g:Nat) {Q:PExit→St→Prop}
  (hk:∀y14 y15 y33 y34 y35 y36 g' h',EH h' b c (l++(ls.flatMap (A2 c)).flatMap (A8 b j))→Q (.exit 10) ⟨[V0,V1,V2,V3,V4,V5,V6,.map (some 1),V8,V9,V10,V11,.func 216 [] [.cptr [.map (some 0)],.ptr 2 0,.cptr [.int .i64 j]],V13,y14,y15,V16,V17,V18,V19,V20,V21,V22,V23,V24,V25,V26,V27,V28,V29,V30,.list o (ls.map PV.str),.int .i64 ls.length,y33,y34,y35,y36],[],g',h'⟩):
  wpL L L9 ⟨[V0,V1,V2,V3,V4,V5,V6,.map (some 1),V8,V9,V10,V11,.func 216 [] [.cptr [.map (some 0)],.ptr 2 0,.cptr [.int .i64 j]],V13,V14,V15,V16,V17,V18,V19,V20,V21,V22,V23,V24,V25,V26,V27,V28,V29,V30,.list o (ls.map PV.str),.int .i64 ls.length,.int .i64 0,V34,V35,V36],[],g,h⟩ Q:=by
 rw[L9]
 have mc:∀s,(A2 c s).length≤4:=by
  intro s
  unfold A2
  cases hs:zn c s with
  | none=>simp
  | some cl=>simpa using dH s cl hs
 have nR:∀k,((ls.take k).flatMap (A2 c)).length≤(ls.take k).length*4:=by
  intro k
  generalize ls.take k=q
  induction q with
  | nil=>simp
  | cons x q ih=>have:=mc x; simp only[aM,ao,aB]; omega
 refine yU ls.length (λi st=>∃y14 y15 y34 y35 y36 g' h',st=⟨[V0,V1,V2,V3,V4,V5,V6,.map (some 1),V8,V9,V10,V11,.func 216 [] [.cptr [.map (some 0)],.ptr 2 0,.cptr [.int .i64 j]],V13,y14,y15,V16,V17,V18,V19,V20,V21,V22,V23,V24,V25,V26,V27,V28,V29,V30,.list o (ls.map PV.str),.int .i64 ls.length,.int .i64 i,y34,y35,y36],[],g',h'⟩∧EH h' b c (l++((ls.take i).flatMap (A2 c)).flatMap (A8 b j))) ?_ ?_ ⟨V14,V15,V34,V35,V36,g,h,rfl,by simpa using eh⟩
 ·rintro i hi st ⟨y14,y15,y34,y35,y36,g',h1,rfl,e1⟩ ih
  have hw:=yz i (by omega)
  have mW:=Ft b j ((ls.take i).flatMap (A2 c))
  have kI:=nR i
  have dc:(ls.take i).length=i:=by rw[ba]; omega
  obtain⟨r,f1,f2,_⟩:=JF (λc:List On=>PV.list false (c.map eOn)) ls[i] c
  have jh:=e1.ck
  unfold Fs at jh
  have fin:∀h2,EH h2 b c ((l++((ls.take i).flatMap (A2 c)).flatMap (A8 b j))++(A2 c ls[i]).flatMap (A8 b j))→EH h2 b c (l++((ls.take (i+1)).flatMap (A2 c)).flatMap (A8 b j)):=by
   intro h2 e2
   rw[AH hi,bQ,List.flatMap_singleton,bQ,← aI]
   exact e2
  cases p5:zn c ls[i] with
  | none =>
    rw[p5] at f2
    have hr:r=none:=by cases r with | none=>rfl | some q=>simp at f2
    subst hr
    have e0:A2 c ls[i]=[]:=by simp[A2,p5]
    simp[hi,hw,jh,f1]
    refine QH hL b c j [] true _ (by simp only[ao,bq]; omega) h1 e1 _ _ _ _ _ _ _ _ _ _ _ _ _ _ _ _ _ _ _ _ _ _ _ _ _ _ _ _ _ _ _ _ _ _ ?_
    intro y15 y36 g2 h2 e2
    simp[hw]
    refine ih _ ⟨_,_,_,_,_,_,h2,rfl,fin h2 ?_⟩
    rw[e0]; simpa using e2
  | some cl =>
    rw[p5] at f2
    obtain⟨q,hr⟩:∃q,r=some (q,.list false (cl.map eOn)):=by
     cases r with
     | none=>simp at f2
     | some q=>obtain⟨q1,q2⟩:=q; simp at f2; exact⟨q1,by rw[f2]⟩
    subst hr
    have wn:=dH _ _ p5
    have e0:A2 c ls[i]=cl.map (·.name):=by simp[A2,p5]
    simp[hi,hw,jh,f1]
    refine QH hL b c j cl false _ (by simp only[ao]; omega) h1 e1 _ _ _ _ _ _ _ _ _ _ _ _ _ _ _ _ _ _ _ _ _ _ _ _ _ _ _ _ _ _ _ _ _ _ ?_
    intro y15 y36 g2 h2 e2
    simp[hw]
    refine ih _ ⟨_,_,_,_,_,_,h2,rfl,fin h2 ?_⟩
    rw[e0]; exact e2
 ·rintro st ⟨y14,y15,y34,y35,y36,g',h1,rfl,e1⟩
  rw[aD] at e1
  simp
  exact hk _ _ _ _ _ _ _ h1 e1
theorem c32 (i0:Nat) (ls:List Str) (kJ:ls.length≤2000000000) (o:Bool) (m:List (Str×Int)) (h:List PObj) (hb:h[0]? = some (DX m)) (V0 V1 V2 V5 V6 V7 V8 V9 V10 V11 V12 V13 V14 V15 V16 V17 V18 V22 V23 V24 V25 V26 V27 V28 V29 V30 V31 V32 V33 V34 V35 V36:PV) (g:Nat) {Q:PExit→St→Prop}
  (hk:∀y6 y21,Q (.exit 2) ⟨[V0,V1,V2,.loc 1 [.map (some 0)],.int .i64 i0,V5,y6,V7,V8,V9,V10,V11,V12,V13,V14,V15,V16,V17,V18,.list o (ls.map PV.str),.int .i64 ls.length,y21,V22,V23,V24,V25,V26,V27,V28,V29,V30,V31,V32,V33,V34,V35,V36],[],g,h.set 0 (DX (byL i0 m ls))⟩):
  wpL L L2 ⟨[V0,V1,V2,.loc 1 [.map (some 0)],.int .i64 i0,V5,V6,V7,V8,V9,V10,V11,V12,V13,V14,V15,V16,V17,V18,.list o (ls.map PV.str),.int .i64 ls.length,.int .i64 0,V22,V23,V24,V25,V26,V27,V28,V29,V30,V31,V32,V33,V34,V35,V36],[],g,h⟩ Q:=by
 rw[L2]
 have _:=hL
 have cY:0<h.length:=(ah.1 hb).1
 refine yU ls.length (λi st=>∃y6,st=⟨[V0,V1,V2,.loc 1 [.map (some 0)],.int .i64 i0,V5,y6,V7,V8,V9,V10,V11,V12,V13,V14,V15,V16,V17,V18,.list o (ls.map PV.str),.int .i64 ls.length,.int .i64 i,V22,V23,V24,V25,V26,V27,V28,V29,V30,V31,V32,V33,V34,V35,V36],[],g,h.set 0 (DX (byL i0 m (ls.take i)))⟩) ?_ ?_ ⟨V6,by rw[List.take_zero]; simp only[byL,List.foldl_nil]; rw[Ch hb]; rfl⟩
 ·rintro i hi st ⟨y6,rfl⟩ ih
  have hw:=yz i (by omega)
  obtain⟨r,f1,_,f3⟩:=JF (λi=>PV.int .i64 i) ls[i] (byL i0 m (ls.take i))
  have f3:=f3 (i0:Int)
  have e:byL i0 m (ls.take (i+1))=BF (byL i0 m (ls.take i)) ls[i] i0:=by rw[AH hi]; unfold byL; rw[cN]; rfl
  have ih2:=λy6=>ih _ ⟨y6,rfl⟩
  rw[e] at ih2
  unfold DX at ih2 ⊢
  rw[← f3] at ih2
  simp[hi,hw,cY,f1]
  exact ih2 _
 ·rintro st ⟨y6,rfl⟩
  rw[aD]
  simp
  exact hk _ _
theorem c33 (n:Node) (he:n.eqs.length≤1100000) (kJ:∀q∈n.eqs,q.left.length≤1100000) (h:List PObj) (hb:h[0]? = some (DX [])) (V0 V1 V2 V4 V5 V6 V7 V8 V9 V10 V11 V12 V13 V14 V15 V19 V20 V21 V22 V23 V24 V25 V26 V27 V28 V29 V30 V31 V32 V33 V34 V35 V36:PV) (g:Nat) {Q:PExit→St→Prop}
  (hk:∀y4 y5 y6 y18 y19 y20 y21 g',Q (.exit 0) ⟨[V0,V1,V2,.loc 1 [.map (some 0)],y4,y5,y6,V7,V8,V9,V10,V11,V12,V13,V14,V15,.list false (n.eqs.map yZ),.int .i64 n.eqs.length,y18,y19,y20,y21,V22,V23,V24,V25,V26,V27,V28,V29,V30,V31,V32,V33,V34,V35,V36],[],g',h.set 0 (DX (byE (n.eqs.map (·.left)) 0 []))⟩):
  wpL L L3 ⟨[V0,V1,V2,.loc 1 [.map (some 0)],V4,V5,V6,V7,V8,V9,V10,V11,V12,V13,V14,V15,.list false (n.eqs.map yZ),.int .i64 n.eqs.length,.int .i64 0,V19,V20,V21,V22,V23,V24,V25,V26,V27,V28,V29,V30,V31,V32,V33,V34,V35,V36],[],g,h⟩ Q:=by
 rw[L3]
 have cY:0<h.length:=(ah.1 hb).1
 refine yU n.eqs.length (λi st=>∃y4 y5 y6 y19 y20 y21 g',st=⟨[V0,V1,V2,.loc 1 [.map (some 0)],y4,y5,y6,V7,V8,V9,V10,V11,V12,V13,V14,V15,.list false (n.eqs.map yZ),.int .i64 n.eqs.length,.int .i64 i,y19,y20,y21,V22,V23,V24,V25,V26,V27,V28,V29,V30,V31,V32,V33,V34,V35,V36],[],g',h.set 0 (DX (byE ((n.eqs.map (·.left)).take i) 0 []))⟩) ?_ ?_ ⟨V4,V5,V6,V19,V20,V21,g,by rw[List.take_zero]; simp only[byE]; rw[Ch hb]; rfl⟩
 ·rintro i hi st ⟨y4,y5,y6,y19,y20,y21,g',rfl⟩ ih
  have hw:=yz i (by omega)
  have ji:=kJ n.eqs[i] (ak hi)
  have jz:i<(n.eqs.map (·.left)).length:=by simpa using hi
  have e:=c3Z (n.eqs.map (·.left)) jz []
  rw[List.getElem_map] at e
  simp[hi,hw]
  refine c32 hL i n.eqs[i].left (by omega) false (byE ((n.eqs.map (·.left)).take i) 0 []) _ (by rw[av cY]) _ _ _ _ _ _ _ _ _ _ _ _ _ _ _ _ _ _ _ _ _ _ _ _ _ _ _ _ _ _ _ _ _ ?_
  intro y6 y21
  simp[hw]
  rw[← e]
  exact ih _ ⟨_,_,_,_,_,_,_,rfl⟩
 ·rintro st ⟨y4,y5,y6,y19,y20,y21,g',rfl⟩
  rw[← aG (f:=(·.left)),aD]
  simp
  exact hk _ _ _ _ _ _ _ _
theorem c34 (ds:List Decl) (hd:ds.length≤2000000000) (h:List PObj) (hb:h[1]? = some (Fs [])) (V0 V1 V2 V3 V4 V5 V6 V8 V9 V10 V11 V12 V13 V14 V15 V16 V17 V18 V19 V20 V21 V25 V26 V27 V28 V29 V30 V31 V32 V33 V34 V35 V36:PV) (g:Nat) {Q:PExit→St→Prop}
  (hk:∀y8 y24 g',Q (.exit 4) ⟨[V0,V1,V2,V3,V4,V5,V6,.map (some 1),y8,V9,V10,V11,V12,V13,V14,V15,V16,V17,V18,V19,V20,V21,.list false (ds.map yw),.int .i64 ds.length,y24,V25,V26,V27,V28,V29,V30,V31,V32,V33,V34,V35,V36],[],g',h.set 1 (Fs (clk [] ds))⟩):
  wpL L L4 ⟨[V0,V1,V2,V3,V4,V5,V6,.map (some 1),V8,V9,V10,V11,V12,V13,V14,V15,V16,V17,V18,V19,V20,V21,.list false (ds.map yw),.int .i64 ds.length,.int .i64 0,V25,V26,V27,V28,V29,V30,V31,V32,V33,V34,V35,V36],[],g,h⟩ Q:=by
 rw[L4]
 have _:=hL
 have cY:1<h.length:=(ah.1 hb).1
 refine yU ds.length (λi st=>∃y8 g',st=⟨[V0,V1,V2,V3,V4,V5,V6,.map (some 1),y8,V9,V10,V11,V12,V13,V14,V15,V16,V17,V18,V19,V20,V21,.list false (ds.map yw),.int .i64 ds.length,.int .i64 i,V25,V26,V27,V28,V29,V30,V31,V32,V33,V34,V35,V36],[],g',h.set 1 (Fs (clk [] (ds.take i)))⟩) ?_ ?_ ⟨V8,g,by rw[List.take_zero]; simp only[clk,List.foldl_nil]; rw[Ch hb]; rfl⟩
 ·rintro i hi st ⟨y8,g',rfl⟩ ih
  have hw:=yz i (by omega)
  obtain⟨r,f1,_,f3⟩:=JF (λc:List On=>PV.list false (c.map eOn)) ds[i].name (clk [] (ds.take i))
  have f3:=f3 ds[i].clock
  have e:clk [] (ds.take (i+1))=BF (clk [] (ds.take i)) ds[i].name ds[i].clock:=by rw[AH hi]; unfold clk; rw[cN]; rfl
  have ih2:=λy8 g'=>ih _ ⟨y8,g',rfl⟩
  rw[e] at ih2
  unfold Fs at ih2 ⊢
  rw[← f3] at ih2
  simp[hi,hw,cY,f1]
  exact ih2 _ _
 ·rintro st ⟨y8,g',rfl⟩
  rw[aD]
  simp
  exact hk _ _ _
end
structure EdN (n:Node):Prop where
 eqs:n.eqs.length≤256
 left:∀q∈n.eqs,q.left.length≤64
 right:∀q∈n.eqs,q.right.parts≤400
 ins:n.ins.length≤64
 outs:n.outs.length≤64
 locals:n.locals.length≤256
 clock:∀d∈vars n,d.clock.length≤4
theorem MU {K:Nat}:∀(ds:List Decl) (m:List (Str×List On)),(∀d∈ds,d.clock.length≤K)→(∀s cl,zn m s=some cl→cl.length≤K)→∀s cl,zn (clk m ds) s=some cl→cl.length≤K
 | [],m,_,hm,s,cl,h=>hm s cl h
 | d :: ds, m, hd, hm, s, cl, h => by
   refine MU ds (BF m d.name d.clock) (λx hx=>hd x (by simp[hx])) (λs' cl' h' =>?_) s cl h
   rw[QI] at h'
   split at h'
   ·simp at h'; subst h'; exact hd d (by simp)
   ·exact hm s' cl' h'
section
variable {L:Nat→Option PFunc} (hL:∀k f,LS k=some f→L k=some f)
include hL
theorem c35 (n:Node) (hn:EdN n) (b:List (Str×Int)) (c:List (Str×List On)) (dH:∀s cl,zn c s=some cl→cl.length≤4) (h:List PObj) (eh:EH h b c []) (V0 V1 V2 V4 V5 V6 V8 V10 V11 V12 V13 V14 V15 V16 V17 V18 V19 V20 V21 V22 V23 V24 V28 V29 V30 V31 V32 V33 V34 V35 V36:PV) (y3:PV) (hy:y3 = .loc 1 [.map (some 0)]∨y3 = .cptr [.map (some 0)]) (g:Nat) {Q:PExit→St→Prop}
  (hk:∀y3 y10 y11 y12 y13 y14 y15 y28 y29 y30 y31 y32 y33 y34 y35 y36 y27 g' h',EH h' b c (Ab b c (zX n) 0)→(Ab b c (zX n) 0).length≤256000→Q (.exit 6) ⟨[V0,V1,V2,y3,V4,V5,V6,.map (some 1),V8,.ptr 2 0,y10,y11,y12,y13,y14,y15,V16,V17,V18,V19,V20,V21,V22,V23,V24,.list false (n.eqs.map yZ),.int .i64 n.eqs.length,y27,y28,y29,y30,y31,y32,y33,y34,y35,y36],[],g',h'⟩):
  wpL L Mb ⟨[V0,V1,V2,y3,V4,V5,V6,.map (some 1),V8,.ptr 2 0,V10,V11,V12,V13,V14,V15,V16,V17,V18,V19,V20,V21,V22,V23,V24,.list false (n.eqs.map yZ),.int .i64 n.eqs.length,.int .i64 0,V28,V29,V30,V31,V32,V33,V34,V35,V36],[],g,h⟩ Q:=by
 rw[Mb]
 have ka:(zX n).length=n.eqs.length:=by simp[zX]
 refine yU n.eqs.length (λi st=>∃y3 y10 y11 y12 y13 y14 y15 y28 y29 y30 y31 y32 y33 y34 y35 y36 g' h',(y3 = .loc 1 [.map (some 0)]∨y3 = .cptr [.map (some 0)])∧st=⟨[V0,V1,V2,y3,V4,V5,V6,.map (some 1),V8,.ptr 2 0,y10,y11,y12,y13,y14,y15,V16,V17,V18,V19,V20,V21,V22,V23,V24,.list false (n.eqs.map yZ),.int .i64 n.eqs.length,.int .i64 i,y28,y29,y30,y31,y32,y33,y34,y35,y36],[],g',h'⟩∧EH h' b c (Ab b c ((zX n).take i) 0)∧(Ab b c ((zX n).take i) 0).length≤i*1000) ?_ ?_ ⟨y3,V10,V11,V12,V13,V14,V15,V28,V29,V30,V31,V32,V33,V34,V35,V36,g,h,hy,rfl,by simpa[Ab] using eh,by simp[Ab]⟩
 ·rintro i hi st ⟨y3,y10,y11,y12,y13,y14,y15,y28,y29,y30,y31,y32,y33,y34,y35,y36,g',h1,hy,rfl,e1,eP⟩ ih
  have dM:=hn.eqs
  have hw:=yz i (by omega)
  have hm:=ak hi
  have jz:i<(zX n).length:=by omega
  have ert:Ab b c ((zX n).take (i+1)) 0=Ab b c ((zX n).take i) 0++Eq b c i (Bv [] n.eqs[i].right) n.eqs[i].left:=by
   have:=c1M b c (zX n) jz
   rw[show (zX n)[i]=(n.eqs[i].left,Bv [] n.eqs[i].right) by simp[zX]] at this
   exact this
  have se:=hn.left _ hm
  have wo:=hn.right _ hm
  have dQ:=HC [] n.eqs[i].right
  unfold Expr.parts at wo
  have hc:=c0u hL n.eqs[i].right (by unfold Expr.parts; omega)
  have mc:∀s,(A2 c s).length≤4:=by
   intro s
   unfold A2
   cases hs:zn c s with
   | none=>simp
   | some cl=>simpa using dH s cl hs
  have nR:∀q:List Str,(q.flatMap (A2 c)).length≤q.length*4:=by
   intro q
   induction q with
   | nil=>simp
   | cons x q ih=>have:=mc x; simp only[aM,ao,aB]; omega
  have pe:(Eq b c i (Bv [] n.eqs[i].right) n.eqs[i].left).length≤1000:=by
   unfold Eq
   have h2:=Ft b i (Bv [] n.eqs[i].right++n.eqs[i].left.flatMap (A2 c))
   have h3:=nR n.eqs[i].left
   simp only[ao,bq] at h2 dQ
   omega
  have key:∀(y:PV),y = .cptr [.map (some 0)]→∀h2,EH h2 b c ((Ab b c ((zX n).take i) 0++(Bv [] n.eqs[i].right).flatMap (A8 b i))++(n.eqs[i].left.flatMap (A2 c)).flatMap (A8 b i))→EH h2 b c (Ab b c ((zX n).take (i+1)) 0):=by
   intro y _ h2 e2
   rw[ert,Eq,bQ,← aI]
   exact e2
  have dK:(Ab b c ((zX n).take (i+1)) 0).length≤(i+1)*1000:=by rw[ert,ao]; omega
  have pg:=Ft b i (Bv [] n.eqs[i].right)
  have wq:(Bv [] n.eqs[i].right).length≤400:=by simp only[bq] at dQ; omega
  rcases hy with rfl|rfl
  all_goals
   simp[hi,hw,hc]
   refine c30 hL b c i (Bv [] n.eqs[i].right) false _ (by omega) h1 e1 _ _ _ _ _ _ _ _ _ _ _ _ _ _ _ _ _ _ _ _ _ _ _ _ _ _ _ _ _ _ _ _ _ _ ?_
   intro y13 y30 h2 e2
   simp
   refine c31 hL b c dH i n.eqs[i].left (by omega) false _ (by rw[ao]; omega) h2 e2 _ _ _ _ _ _ _ _ _ _ _ _ _ _ _ _ _ _ _ _ _ _ _ _ _ _ _ _ _ _ _ _ _ ?_
   intro y14 y15 y33 y34 y35 y36 g2 h3 e3
   simp[hw]
   exact ih _ ⟨_,_,_,_,_,_,_,_,_,_,_,_,_,_,_,_,_,h3,.inr rfl,rfl,key _ rfl h3 e3,dK⟩
 ·rintro st ⟨y3,y10,y11,y12,y13,y14,y15,y28,y29,y30,y31,y32,y33,y34,y35,y36,g',h1,hy,rfl,e1,eP⟩
  have dM:=hn.eqs
  rw[← ka,aD] at e1 eP
  simp
  exact hk _ _ _ _ _ _ _ _ _ _ _ _ _ _ _ _ _ _ h1 e1 (by omega)
end
theorem QJ:∀l:List Pr,yD (l.map λx=>PV.agg (zi x))=true
 | []=>rfl
 | x :: l => by
   simp only[aA,yD,QJ l,bz]
   rfl
theorem QK:∀l:List Pr,ET (l.flatMap zi)=some l
 | []=>rfl
 | x :: l => by
   have:=QK l
   simp only[aM,zi,aK,be,ET] at this ⊢
   rw[this]; rfl
section
variable {L:Nat→Option PFunc} (hL:∀k f,LS k=some f→L k=some f)
include hL
theorem c36 (l:List Pr) (hl:l.length≤2000000000) (n:Nat) (h:List PObj) (cs:List PV) (hn:h[n]? = some (.cells cs)) (hp:Prs cs l):ym L 218 [.rowp n 2 true l.length,.func 219 [] []] h=some (.tuple [],h.set n (.cells ((Bh AS l).flatMap zi))):=by
 rw[HH (hL 218 _ rfl) rfl rfl]
 have hx:ER 219 [.rowp n 2 true l.length,.func 219 [] []] h=some (.tuple [],h.set n (.cells ((Bh AS l).flatMap zi))):=by
  have cY:=hp.len
  simp only[ER,hn]
  rw[af ⟨trivial,by omega,by omega⟩,bW (by omega),bl (by omega),hp.eq,QK]
  simp
 have eT:(P4.prim.getD λ_ _=>none) [.rowp n 2 true l.length,.func 219 [] []] h=some (.tuple [],h.set n (.cells ((Bh AS l).flatMap zi))):=hx
 simp[hx]
theorem c1N (h:List PObj):ym L 218 [.list false [],.func 219 [] []] h=some (.tuple [],h):=by
 rw[HH (hL 218 _ rfl) rfl rfl]
 have hx:ER 219 [.list false [],.func 219 [] []] h=some (.tuple [],h):=rfl
 simp[hx]
theorem b6v (h:List PObj):ym L 220 [.list false []] h=some (.list false [],h):=by
 refine yB (hL 220 _ rfl) rfl ?_
 simp[Hw]
theorem QL (n:Node) (hn:EdN n):∃h',ym L 209 [yL n] []=some (.list false ((Db n).map λx => .agg (zi x)),h'):=by
 suffices H:∃r,ym L 209 [yL n] []=some r∧r.1 = .list false ((Db n).map λx => .agg (zi x)) by
  obtain⟨⟨v,h'⟩,h1,h2⟩:=H
  simp only at h2; subst h2
  exact⟨h',h1⟩
 have h1:=hn.ins; have h2:=hn.outs; have h3:=hn.locals; have h4:=hn.eqs
 obtain⟨hv,iU⟩:=Pd hL n (by omega) (by omega) (by omega) (λd hd=>by have:=hn.clock d hd; omega)
 have nE:(vars n).length≤2000000000:=by simp[vars]; omega
 refine AP (hL 209 _ rfl) rfl ?_
 simp[Md]
 refine c33 hL n (by omega) (λq hq=>by have:=hn.left q hq; omega) _ (by rfl) _ _ _ _ _ _ _ _ _ _ _ _ _ _ _ _ _ _ _ _ _ _ _ _ _ _ _ _ _ _ _ _ _ _ ?_
 intro y4 y5 y6 y18 y19 y20 y21 g1
 simp[iU]
 refine c34 hL (vars n) nE _ (by rfl) _ _ _ _ _ _ _ _ _ _ _ _ _ _ _ _ _ _ _ _ _ _ _ _ _ _ _ _ _ _ _ _ _ _ ?_
 intro y8 y24 g2
 simp
 obtain⟨b,hb⟩:∃b,b=byE (n.eqs.map (·.left)) 0 []:=⟨_,rfl⟩
 obtain⟨c,hc⟩:∃c,c=clk [] (vars n):=⟨_,rfl⟩
 rw[← hb,← hc]
 have dH:∀s cl,zn c s=some cl→cl.length≤4:=by
  rw[hc]
  exact MU (vars n) [] hn.clock (by intro s cl h; simp[zn] at h)
 have sG:Db n=AR (Bh AS (Ab b c (zX n) 0)):=by
  have:(zX n).map (·.1)=n.eqs.map (·.left):=by simp[zX]
  rw[hb,hc,← this]; rfl
 refine c35 hL n hn b c dH _ ⟨rfl,rfl,_,rfl,.inl ⟨rfl,rfl⟩⟩ _ _ _ _ _ _ _ _ _ _ _ _ _ _ _ _ _ _ _ _ _ _ _ _ _ _ _ _ _ _ _ _ (.inl rfl) _ ?_
 intro y3 y10 y11 y12 y13 y14 y15 y28 y29 y30 y31 y32 y33 y34 y35 y36 y27 g3 h3 e3 m9
 obtain⟨_,_,v,gV,hv⟩:=e3
 obtain⟨l,hl⟩:∃l,l=Ab b c (zX n) 0:=⟨_,rfl⟩
 rw[← hl] at hv sG
 rcases hv with⟨rfl,rfl⟩|⟨k,cs,ir,rfl,iu,hp⟩
 ·have e:Db n=[]:=sG
  simp[gV,c1N hL,b6v hL,yJ,e]
 ·have ji:l.length≤2000000000:=by rw[hl]; omega
  have eA:(h3.set k (.cells ((Bh AS l).flatMap zi)))[2]? = some (.cells [.rowp k 2 true l.length]):=by rw[ai (by omega)]; exact gV
  have hs:=c36 hL l ji k h3 cs iu hp
  have dM:(Bh AS l).length=l.length:=(Gd AS l).length_eq
  have fe:k<h3.length:=(ah.1 iu).1
  obtain⟨h4,gQ,sH,rest,fG⟩:=c0w hL (Bh AS l) (by omega) k (h3.set k (.cells ((Bh AS l).flatMap zi))) _ (by rw[av fe]) ⟨rfl⟩
  rw[dM] at gQ
  have fI:=QM (AR (Bh AS l)) rest (AR (Bh AS l)).length 0 (by omega)
  rw[Nat.zero_mul,List.drop_zero] at fI
  simp[gV,hs,eA,gQ,yJ,fG,sG]
  rw[fI]
  rfl
theorem QN (p:Prog) (hp:PW p) (hs:parts p≤1100000) (hb:Ep p=CO) (i:Nat) (hi:i<p.nodes.length) (hn:EdN p.nodes[i]):∃h',ym L 199 [zA p,.int .i64 i] []=some (.tuple [.list false ((Db p.nodes[i]).map λx => .agg (zi x)),.int .i64 0],h'):=by
 obtain⟨h1,hw⟩:=QA hL p hp hs
 rw[hb] at hw
 unfold A1 CO at hw
 obtain⟨h2,he⟩:=QL hL p.nodes[i] hn
 suffices H:∃r,ym L 199 [zA p,.int .i64 i] []=some r∧r.1 = .tuple [.list false ((Db p.nodes[i]).map λx => .agg (zi x)),.int .i64 0] by
  obtain⟨⟨v,h'⟩,h1,h2⟩:=H
  simp only at h2; subst h2
  exact⟨h',h1⟩
 have rE:¬(i:Int)<0:=by omega
 have gy:¬((p.nodes.length:Int)≤i):=by omega
 refine AP (hL 199 _ rfl) rfl ?_
 simp[LX,hw,he,hi,rE,gy,yJ,QJ]
end
theorem b8o {c:List (Str×List On)} (dH:∀s cl,zn c s=some cl→cl.length≤4) (s:Str):(A2 c s).length≤4:=by
 unfold A2
 cases hs:zn c s with
 | none=>simp
 | some cl=>simpa using dH s cl hs
theorem QO {c:List (Str×List On)} (dH:∀s cl,zn c s=some cl→cl.length≤4):∀q:List Str,(q.flatMap (A2 c)).length≤q.length*4
 | []=>by simp
 | x :: q => by
   have:=b8o dH x
   have ih:=QO dH q
   simp only[aM,ao,aB]; omega
theorem QP {b:List (Str×Int)} {c:List (Str×List On)} (dH:∀s cl,zn c s=some cl→cl.length≤4):∀(qs:List (List Str×List Str)) (j:Nat),(∀q∈qs,q.1.length≤64∧q.2.length≤400)→(Ab b c qs j).length≤qs.length*1000
 | [],_,_=>by simp[Ab]
 | q :: qs, j, h => by
   have ih:=QP (b:=b) dH qs (j+1) (λx hx=>h x (by simp[hx]))
   have hq:=h q (by simp)
   have h2:=Ft b j (q.2++q.1.flatMap (A2 c))
   have h3:=QO dH q.1
   simp only[Ab,Eq,ao,aB] at h2 ⊢
   omega
theorem c0y (n:Node) (hn:EdN n):(Db n).length≤256000:=by
 have dH:∀s cl,zn (clk [] (vars n)) s=some cl→cl.length≤4:=MU (vars n) [] hn.clock (by intro s cl h; simp[zn] at h)
 have h1:=QQ (Bh AS (Ab (byE ((zX n).map (·.1)) 0 []) (clk [] (vars n)) (zX n) 0)) []
 have h2:=(Gd AS (Ab (byE ((zX n).map (·.1)) 0 []) (clk [] (vars n)) (zX n) 0)).length_eq
 have h3:=QP (b:=byE ((zX n).map (·.1)) 0 []) dH (zX n) 0 (by
  intro q hq
  simp only[zX,bh] at hq
  obtain⟨e,he,rfl⟩:=hq
  have hl:=hn.left e he
  have hr:=hn.right e he
  have dQ:=HC [] e.right
  unfold Expr.parts at hr
  simp only[bq] at dQ
  exact⟨hl,by simp only; omega⟩)
 have h4:(zX n).length=n.eqs.length:=by simp[zX]
 have h5:=hn.eqs
 unfold Db MV
 unfold AR
 simp only[bq] at h1
 omega
theorem QR {p:Prog} (h:Cz p=none) (hp:plain p=true):Ep p=CO:=by
 unfold Ep
 rw[h,hp]; rfl
def edN (n:Node):List (Nat×Nat):=(Db n).map λx=>(x.1.toNat,x.2.toNat)
theorem QY (k:Nat):∀(l:List Str) (m:List (Str×Int)) (b:Nat),k<b→(∀s i,zn m s=some i→0≤i∧i<b)→∀s i,zn (byL k m l) s=some i→0≤i∧i<b
 | [],m,b,_,h,s,i,e=>h s i e
 | x :: l, m, b, hk, h, s, i, e => by
   refine QY k l (BF m x k) b hk (λs' i' h' =>?_) s i e
   rw[QI] at h'
   split at h'
   ·simp at h'; omega
   ·exact h s' i' h'
theorem QZ:∀(ls:List (List Str)) (k:Nat) (m:List (Str×Int)),(∀s i,zn m s=some i→0≤i∧i<k)→∀s i,zn (byE ls k m) s=some i→0≤i∧i<(k+ls.length:Nat)
 | [],k,m,h,s,i,e=>by have:=h s i e; simp only[bq]; omega
 | l :: ls, k, m, h, s, i, e => by
   simp only[byE] at e
   have:=QZ ls (k+1) (byL k m l) (λs i e=>by
    have:=QY k l m (k+1) (by omega) (λs i e=>by have:=h s i e; omega) s i e
    omega) s i e
   simp only[aB] at this ⊢
   omega
theorem Q0 (b:List (Str×Int)) (c:List (Str×List On)) (n:Nat) (hb:∀s i,zn b s=some i→0≤i∧i<n):∀(qs:List (List Str×List Str)) (k:Nat),k+qs.length≤n→∀x∈Ab b c qs k,(0≤x.1∧x.1<n)∧0≤x.2∧x.2<n
 | [],k,_,x,hx=>by simp[Ab] at hx
 | q :: qs, k, h, x, hx => by
   simp only[aB] at h
   simp only[Ab,aw] at hx
   rcases hx with hx|hx
   ·simp only[Eq,bN] at hx
    obtain⟨s,_,hx⟩:=hx
    unfold A8 at hx
    split at hx
    ·rename_i i hi
     rw[aQ] at hx; subst hx
     exact⟨hb _ _ hi,by simp only; omega,by simp only; omega⟩
    ·cases hx
   ·exact Q0 b c n hb qs (k+1) (by omega) x hx
theorem Q1:∀(l z:List Pr) (x:Pr),x∈l.foldl B4 z→x∈z∨x∈l
 | [],z,x,h => .inl h
 | y :: l, z, x, h => by
   rcases Q1 l (B4 z y) x h with h|h
   ·unfold B4 at h
    split at h
    ·exact .inl h
    ·rcases aw.1 h with h|h
     ·exact .inl h
     ·rw[aQ] at h; subst h; exact .inr (by simp)
   ·exact .inr (by simp[h])
theorem Q2 (n:Node):∀x∈Db n,(0≤x.1∧x.1<n.eqs.length)∧0≤x.2∧x.2<n.eqs.length:=by
 intro x hx
 have hh:(zX n).length=n.eqs.length:=by simp[zX]
 unfold Db MV at hx
 rcases Q1 _ _ x hx with h|h
 ·cases h
 ·rw[(Gd AS _).mem_iff] at h
  refine Q0 _ _ n.eqs.length (λs i e =>?_) (zX n) 0 (by omega) x h
  have:=QZ _ 0 [] (λs i e=>by simp[zn] at e) s i e
  simp only[aG,hh,aU] at this
  exact this
theorem M2 (n:Node):(Db n).map (λx=>PV.agg (zi x))=(edN n).map eE:=by
 unfold edN
 rw[cA]
 refine List.map_congr_left λx hx =>?_
 obtain⟨⟨h1,_⟩,h2,_⟩:=Q2 n x hx
 simp only[Function.comp,eE,zi,Int.toNat_of_nonneg h1,Int.toNat_of_nonneg h2]
theorem M3 (n:Node):∀e∈edN n,e.1<n.eqs.length∧e.2<n.eqs.length:=by
 intro e he
 simp only[edN,bh] at he
 obtain⟨x,hx,rfl⟩:=he
 obtain⟨⟨h1,h2⟩,h3,h4⟩:=Q2 n x hx
 simp only; omega
theorem M4 (n:Node) (hn:EdN n):(edN n).length≤256000:=by
 unfold edN; rw[aG]; exact c0y n hn
section
variable {L:Nat→Option PFunc} (hL:∀k f,LS k=some f→L k=some f)
include hL
theorem Q3 (x:Nat) (m:Int):∃m':Int,0≤m'∧ym L 214 [.int .i64 (x:Int),.ptr 0 0] [.cells [.int .i64 m]]=some (.tuple [],[.cells [.int .i64 m']]):=by
 by_cases h:m<0
 ·refine⟨x,by omega,yB (hL 214 _ rfl) rfl ?_⟩
  simp[Hu,h,Ax]
 ·by_cases h2:(x:Int)<m
  ·refine⟨x,by omega,yB (hL 214 _ rfl) rfl ?_⟩
   simp[Hu,h,h2,Ax]
  ·refine⟨m,by omega,yB (hL 214 _ rfl) rfl ?_⟩
   simp[Hu,h,h2,Ax]
theorem d4d (out:List (List Nat)) (jk:out.length≤1000000) (V0 V1 V2 V3 V4 V5 V6 V7 V9 V10 V14 V15 V16:PV) (g:Nat) {Q:PExit→St→Prop}
  (hk:∀y9 y13 (m:Int),(∀l∈out,1<l.length→0≤m)→Q (.exit 0) ⟨[V0,V1,V2,V3,V4,V5,V6,V7,.func 214 [] [.ptr 0 0],y9,V10,.list false (out.map λl => .list false (yn l)),.int .i64 (out.length:Nat),y13,V14,V15,V16],[],g,[.cells [.int .i64 m]]⟩):
  wpL L LZ ⟨[V0,V1,V2,V3,V4,V5,V6,V7,.func 214 [] [.ptr 0 0],V9,V10,.list false (out.map λl => .list false (yn l)),.int .i64 (out.length:Nat),.int .i64 0,V14,V15,V16],[],g,[.cells [.int .i64 (-1)]]⟩ Q:=by
 rw[LZ]
 refine yU out.length (λi st=>∃y9,∃m:Int,(∀l∈out.take i,1<l.length→0≤m)∧st=⟨[V0,V1,V2,V3,V4,V5,V6,V7,.func 214 [] [.ptr 0 0],y9,V10,.list false (out.map λl => .list false (yn l)),.int .i64 (out.length:Nat),.int .i64 (i:Nat),V14,V15,V16],[],g,[.cells [.int .i64 m]]⟩) ?_ ?_ ⟨_,-1,by simp,rfl⟩
 ·rintro i hi st ⟨y9,m,hm,rfl⟩ ih
  have hw:=yz i (by omega)
  have kL:i<(out.map λl=>PV.list false (yn l)).length:=by simpa using hi
  have pn:∀p,(out.map λl=>PV.list false (yn l))[i]'p = .list false (yn out[i]):=λp=>by rw[List.getElem_map]
  by_cases h1:1<out[i].length
  ·obtain⟨m',h0,hc⟩:=Q3 hL (out[i][0]'(by omega)) m
   have me:(yn out[i])[0]? = some (.int .i64 ((out[i][0]'(by omega):Nat):Int)):=by
    have:=Dw (l:=out[i]) (i:=0) (by omega) []
    rwa [aW] at this
   have kN:(1:Int)<(out[i].length:Int):=by omega
   simp[hi,hw,kL,pn,Ar,kN,me,hc,PV.cells]
   exact ih _ ⟨_,m',λ_ _ _=>h0,rfl⟩
  ·have kN:¬(1:Int)<(out[i].length:Int):=by omega
   simp[hi,hw,kL,pn,Ar,kN]
   refine ih _ ⟨_,m,?_,rfl⟩
   intro l hl ji
   rw[AH hi] at hl
   rcases aw.1 hl with hl|hl
   ·exact hm l hl ji
   ·rw[aQ] at hl; subst hl; omega
 ·rintro st ⟨y9,m,hm,rfl⟩
  rw[aD] at hm
  simp
  exact hk _ _ m hm
theorem d4e (E:List (Nat×Nat)) (jk:E.length≤1000000) (m0:Int) (V0 V1 V2 V3 V4 V5 V6 V7 V9 V10 V11 V12 V13:PV) (g:Nat) {Q:PExit→St→Prop}
  (hk:∀y10 y16 g' (m:Int),(0≤m0→0≤m)→(∀e∈E,e.1=e.2→0≤m)→Q (.exit 2) ⟨[V0,V1,V2,V3,V4,V5,V6,V7,.func 214 [] [.ptr 0 0],V9,y10,V11,V12,V13,.list false (E.map eE),.int .i64 (E.length:Nat),y16],[],g',[.cells [.int .i64 m]]⟩):
  wpL L L1 ⟨[V0,V1,V2,V3,V4,V5,V6,V7,.func 214 [] [.ptr 0 0],V9,V10,V11,V12,V13,.list false (E.map eE),.int .i64 (E.length:Nat),.int .i64 0],[],g,[.cells [.int .i64 m0]]⟩ Q:=by
 rw[L1]
 refine yU E.length (λi st=>∃y10 g',∃m:Int,(0≤m0→0≤m)∧(∀e∈E.take i,e.1=e.2→0≤m)∧st=⟨[V0,V1,V2,V3,V4,V5,V6,V7,.func 214 [] [.ptr 0 0],V9,y10,V11,V12,V13,.list false (E.map eE),.int .i64 (E.length:Nat),.int .i64 (i:Nat)],[],g',[.cells [.int .i64 m]]⟩) ?_ ?_ ⟨_,_,m0,id,by simp,rfl⟩
 ·rintro i hi st ⟨y10,g',m,jl,hm,rfl⟩ ih
  have hw:=yz i (by omega)
  by_cases h1:E[i].1=E[i].2
  ·obtain⟨m',h0,hc⟩:=Q3 hL E[i].2 m
   simp[hi,hw,eE,h1,hc]
   exact ih _ ⟨_,_,m',λ_=>h0,λ_ _ _=>h0,rfl⟩
  ·have ik:¬(E[i].1:Int)=(E[i].2:Int):=by omega
   simp[hi,hw,eE,h1,ik]
   refine ih _ ⟨_,_,m,jl,?_,rfl⟩
   intro l hl ji
   rw[AH hi] at hl
   rcases aw.1 hl with hl|hl
   ·exact hm l hl ji
   ·rw[aQ] at hl; subst hl; exact absurd ji h1
 ·rintro st ⟨y10,g',m,jl,hm,rfl⟩
  rw[aD] at hm
  simp
  exact hk _ _ _ m jl hm
theorem c4a (n:Node) (hn:EdN n):∃h' k bb,ym L 205 [yL n] []=some (.tuple [.int .i64 k,.bool bb],h')∧(bb=true↔Dc n.eqs.length (edN n)):=by
 suffices H:∃r,ym L 205 [yL n] []=some r∧∃k bb,r.1 = .tuple [.int .i64 k,.bool bb]∧(bb=true↔Dc n.eqs.length (edN n)) by
  obtain⟨⟨r,h'⟩,h1,k,bb,h2,h3⟩:=H
  simp only at h2; subst h2
  exact⟨h',k,bb,h1,h3⟩
 obtain⟨h1,c1⟩:=QL hL n hn
 rw[M2] at c1
 have hE:=M3 n
 have rH:=M4 n hn
 have uY:=hn.eqs
 obtain⟨E,ww⟩:∃E,E=edN n:=⟨_,rfl⟩
 rw[← ww] at c1 hE rH ⊢
 refine AP (hL 205 _ rfl) rfl ?_
 rcases Q4 hL n.eqs.length (by omega) E hE (by omega) with⟨h2,O,c2,io⟩|⟨h2,c2,no⟩
 ·have hf:¬Dc n.eqs.length E:=λh=>h (λv=>O.idxOf v) λe he=>by
   obtain⟨e1,e2⟩:=hE e he
   exact M5 (n:=n.eqs.length) (N:=λv=>As E v) (λv _ w hw=>(hE _ (CC.1 hw)).2) io.nd io.mem (λi h a _ hm=>io.ord i h a (CC.1 hm)) e.1 e1 e.2 (CC.2 he)
  simp[Jx,c1,Es,c2,Ge,yC,yD,yJ,hf]
 ·have dB:0<n.eqs.length:=by
   by_cases h0:n.eqs.length=0
   ·refine absurd (λe he =>?_) (no λ_=>0)
    have:=(hE e he).1; omega
   ·omega
  obtain⟨h3,out,nu,pa,pl,c3,rF,mB,jk⟩:=c1P hL n.eqs.length (by omega) dB E hE (by omega)
  have oa:yD (out.map λl=>PV.list false (yn l))=true:=by
   have:∀o:List (List Nat),yD (o.map λl=>PV.list false (yn l))=true:=by
    intro o
    induction o with
    | nil=>rfl
    | cons l o ih=>simp only[aA,yD,yC,Ge,ih,bz]
   exact this out
  simp[Jx,c1,Es,c2,c3,oa,yC,yD,yJ]
  refine d4d hL out (by omega) _ _ _ _ _ _ _ _ _ _ _ _ _ _ ?_
  intro y9 y13 m hm
  simp
  refine d4e hL E (by omega) m _ _ _ _ _ _ _ _ _ _ _ _ _ _ ?_
  intro y10 y16 g' m2 jl p7
  have nN:0≤m2:=by
   apply cw
   intro dc
   have eU:∀v,v<n.eqs.length→v∉As E v:=λv _ hv=>dc (p7 _ (CC.1 hv) rfl)
   have sM:∀u v,u<n.eqs.length→v<n.eqs.length→nu u=nu v→u=v:=by
    intro u v hu hv he
    obtain⟨j,hj,p1,q1⟩:=mB u hu
    obtain⟨j',kM,p2,q2⟩:=mB v hv
    rw[he,p2] at p1
    have:j'=j:=by omega
    subst this
    have ei:¬1<out[j'].length:=λh=>dc (jl (hm _ (ak hj) h))
    match hx:out[j'],ei,q1,q2 with
    | [a],_,q1,q2=>rw[aQ] at q1 q2; omega
    | [],_,q1,_=>cases q1
    | a::b::l,h,_,_=>simp at h
   have ht:=b5q (n:=n.eqs.length) (N:=λv=>As E v) (nu:=nu) (pa:=pa) (λv _ w hw=>(hE _ (CC.1 hw)).2) (λv hv=>⟨(rF v hv).1,λw hw=>(rF v hv).2 w (CC.1 hw)⟩) eU sM
   exact no (λv=>pa - nu v) λe he=>ht e.1 (hE e he).1 e.2 (CC.2 he)
  simp[yJ,nN,no]
def Fu (p:Prog):Prop:=∀n∈p.nodes,¬Dc n.eqs.length (edN n)
theorem c1R (p:Prog) (hp:PW p) (hs:parts p≤1100000) (hb:Ep p=CO) (hN:∀n∈p.nodes,EdN n):∃h' w e,ym L 197 [zA p] []=some (.tuple [w,.int .i64 e],h')∧(e=0∧Fu p∨e=13∧¬Fu p)∧∃a b,w = .agg [.int .i64 a,.int .i64 b]:=by
 suffices H:∃r,ym L 197 [zA p] []=some r∧∃w e,r.1 = .tuple [w,.int .i64 e]∧(e=0∧Fu p∨e=13∧¬Fu p)∧∃a b,w = .agg [.int .i64 a,.int .i64 b] by
  obtain⟨⟨r,h'⟩,h1,w,e,h2,h3⟩:=H
  simp only at h2; subst h2
  exact⟨h',w,e,h1,h3⟩
 obtain⟨h1,hw⟩:=QA hL p hp hs
 rw[hb] at hw
 unfold A1 CO at hw
 have fA:=hp.nodes
 refine AP (hL 197 _ rfl) rfl ?_
 simp[LW,hw]
 rw[PS]
 refine yU p.nodes.length (λi st=>∃y6 y7 y8 y9 g',st=⟨[zA p,.loc 0 [.list false (p.enums.map yG),.list false (p.nodes.map yL)],.loc 1 [.int .i64 0,.int .i64 0],.int .i64 0,.loc 2 [.int .i64 0,.int .i64 0],.int .i64 0,y6,y7,y8,y9,.list false (p.nodes.map yL),.int .i64 (p.nodes.length:Nat),.int .i64 (i:Nat)],[],g',[]⟩∧∀n∈p.nodes.take i,¬Dc n.eqs.length (edN n)) ?_ ?_ ⟨_,_,_,_,_,rfl,by simp⟩
 ·rintro i hi st ⟨y6,y7,y8,y9,g',rfl,hm⟩ ih
  have hw:=yz i (by omega)
  obtain⟨h2,k,bb,c1,ke⟩:=c4a hL p.nodes[i] (hN _ (ak hi))
  cases bb with
  | true =>
    have fY:¬Fu p:=λh=>h _ (ak hi) (ke.1 rfl)
    simp[hi,hw,c1,yJ,fY]
    exact⟨_,_,⟨rfl,rfl⟩,rfl,_,_,rfl⟩
  | false =>
    simp[hi,hw,c1]
    refine ih _ ⟨_,_,_,_,_,rfl,λn hn =>?_⟩
    rw[AH hi] at hn
    rcases aw.1 hn with hn|hn
    ·exact hm n hn
    ·rw[aQ] at hn; subst hn; exact λh=>by simpa using ke.2 h
 ·rintro st ⟨y6,y7,y8,y9,g',rfl,hm⟩
  rw[aD] at hm
  have hf:Fu p:=hm
  simp[yJ,hf]
  exact⟨_,_,⟨rfl,rfl⟩,rfl,_,_,rfl⟩
theorem c6O (p:Prog) (hp:PW p) (hs:parts p≤1100000) (hb:Ep p=CO) (i:Nat) (hi:i<p.nodes.length) (hn:EdN p.nodes[i]):
  (∃h' O,ym L 200 [zA p,.int .i64 (i:Int)] []=some (.tuple [.list false (yn O),.int .i64 0],h')∧IsOrder p.nodes[i].eqs.length (edN p.nodes[i]) O) ∨
  (∃h',ym L 200 [zA p,.int .i64 (i:Int)] []=some (.tuple [.list false [],.int .i64 13],h')∧Dc p.nodes[i].eqs.length (edN p.nodes[i])):=by
 obtain⟨h1,c1⟩:=QN hL p hp hs hb i hi hn
 rw[M2] at c1
 have hE:=M3 p.nodes[i]
 have rH:=M4 p.nodes[i] hn
 have uY:=hn.eqs
 have rE:¬(i:Int)<0:=by omega
 suffices H:∃r,ym L 200 [zA p,.int .i64 (i:Int)] []=some r∧((∃O,r.1 = .tuple [.list false (yn O),.int .i64 0]∧IsOrder p.nodes[i].eqs.length (edN p.nodes[i]) O)∨(r.1 = .tuple [.list false [],.int .i64 13]∧Dc p.nodes[i].eqs.length (edN p.nodes[i]))) by
  obtain⟨⟨v,h'⟩,h1,⟨O,h2,h3⟩|⟨h2,h3⟩⟩:=H
  ·simp only at h2; subst h2; exact .inl ⟨h',O,h1,h3⟩
  ·simp only at h2; subst h2; exact .inr ⟨h',h1,h3⟩
 refine AP (hL 200 _ rfl) rfl ?_
 rcases Q4 hL p.nodes[i].eqs.length (by omega) (edN p.nodes[i]) hE (by omega) with⟨h2,O,c2,io⟩|⟨h2,c2,no⟩
 ·simp[Jw,c1,Es,hi,rE,c2,Ge,yC,yJ]
  exact⟨O,rfl,io⟩
 ·simp[Jw,c1,Es,hi,rE,c2,yC,yD,yJ]
  exact no
end
end PI.Sc
set_option linter.unusedSimpArgs false
set_option linter.unusedVariables false
namespace PI.Sc
theorem Rs (s:Place):∀(l:List Eqn) (k:Nat) (d:List Str) (i:Nat) (e:Int),Cf s l k d = .inl (i,e)→e≠0
 | [],k,d,i,e,h=>by simp[Cf] at h
 | q :: l, k, d, i, e, h => by
   simp only[Cf] at h
   split at h
   ·exact Rs s l _ _ _ _ h
   ·rename_i dh
    simp only[Sum.inl.injEq,ac] at h
    rw[← h.2]; exact dh
theorem c0C {before:List Node} {tags:List Str} {n:Node} {b:Bad} (h:C5 before tags n=some b):b.node=before.length∧b.err≠0:=by
 simp only[C5] at h
 split at h
 ·simp only[aa] at h; subst h; exact⟨rfl,by simp⟩
 ·split at h
  ·rename_i h1
   simp only[aa] at h; subst h; exact⟨rfl,h1⟩
  ·split at h
   ·rename_i k e hq
    simp only[aa] at h; subst h; exact⟨rfl,Rs _ _ _ _ _ _ hq⟩
   ·split at h
    ·rename_i h1
     simp only[aa] at h; subst h; exact⟨rfl,h1⟩
    ·split at h
     ·rename_i h1
      simp only[aa] at h; subst h; exact⟨rfl,h1⟩
     ·split at h
      ·rename_i h1
       simp only[aa] at h; subst h; exact⟨rfl,h1⟩
      ·split at h
       ·simp at h
       ·simp only[aa] at h; subst h; exact⟨rfl,by simp⟩
theorem b8B {p:Prog} {b:Bad} (hs:Cg p=some b):b.err≠0:=by
 intro he
 unfold Cg at hs
 split at hs
 ·simp only[aa] at hs; rw[← hs] at he; exact absurd he (by decide)
 ·split at hs
  ·rename_i h1; simp only[aa] at hs; rw[← hs] at he; exact h1 he
  ·have key:∀(l:List Node) (j:Nat),Ba p.enums l j=some b→b.err≠0:=by
    intro l
    induction l with
    | nil=>intro j hj; simp[Ba] at hj
    | cons n l ih =>
      intro j hj
      simp only[Ba] at hj
      cases hn:At p.enums n j with
      | none=>rw[hn] at hj; exact ih _ hj
      | some y =>
        rw[hn] at hj
        simp only[aa] at hj
        subst hj
        unfold At at hn
        split at hn
        ·rename_i h1; simp only[aa] at hn; rw[← hn]; exact h1
        ·split at hn
         ·rename_i k e hf
          have:∀(l:List Eqn) (m:Nat),Bb (BQ p.enums) l m=some (k,e)→e≠0:=by
           intro l
           induction l with
           | nil=>intro m hm; simp[Bb] at hm
           | cons q l ih2 =>
             intro m hm
             simp only[Bb] at hm
             split at hm
             ·exact ih2 _ hm
             ·rename_i h2; simp only[aa,ac] at hm; rw[← hm.2]; exact h2
          simp only[aa] at hn; rw[← hn]; exact this _ _ hf
         ·split at hn
          ·rename_i h1; simp only[aa] at hn; rw[← hn]; exact h1
          ·simp at hn
   exact key _ _ hs he
theorem Rt {tags:List Str}:∀{l b:List Node} {x:Bad},Dp tags b l=some x→x.err≠0
 | [],b,x,h=>by simp[Dp] at h
 | n :: l, b, x, h => by
   simp only[Dp] at h
   cases hn:C5 b tags n with
   | some y=>rw[hn] at h; simp only[aa] at h; subst h; exact(c0C hn).2
   | none=>rw[hn] at h; exact Rt h
theorem b8C {p:Prog} {x:Bad} (h:Cz p=some x):x.err≠0:=by
 unfold Cz at h
 cases hs:Cg p with
 | some b=>rw[hs] at h; simp only[aa] at h; subst h; exact b8B hs
 | none =>
   rw[hs] at h
   simp only at h
   split at h
   ·exact Rt h
   ·simp only[aa] at h; subst h; simp
structure Like (x y:Expr):Prop where
 kind:x.kind=y.kind
 op:x.op=y.op
 t:x.t=y.t
 v:x.v=y.v
 name:x.name=y.name
 args:x.args.length=y.args.length
def vr (nm:Str):Expr := .mk 2 0 0 0 nm []
theorem Like.argsOK {x y:Expr} (h:Like x y):argsOK x=argsOK y:=by unfold PI.Sc.argsOK; simp only[h.kind,h.op,h.t,h.v,h.args]
theorem Like.typedOK {x y:Expr} (h:Like x y):typedOK x=typedOK y:=by unfold PI.Sc.typedOK; simp only[h.kind,h.t,h.v]
theorem Like.one {x y:Expr} (h:Like x y):CW x=CW y:=by
 unfold CW HS Gl JQ
 rw[h.argsOK,h.typedOK]
 simp only[h.kind,h.op,h.name,h.args]
theorem Sq {α:Type} {f:α→Int}:∀(l:List α) (i:Nat),Bb f l i=none↔yy f l=0
 | [],i=>by simp[Bb,yy]
 | x :: l, i => by
   unfold Bb yy
   by_cases h:f x=0
   ·rw[af h,af h]; exact Sq l (i+1)
   ·rw[ae h,ae h]; simp[h]
def Gi (en:List Enum) (n:Node):Prop:=Bg en n=0∧yy (BQ en) n.eqs=0∧B6 en n=0
theorem Sr {en:List Enum} {n:Node} {i:Nat}:At en n i=none↔Gi en n:=by
 unfold At Gi
 rw[← Sq n.eqs 0]
 by_cases h:Bg en n=0
 ·cases hf:Bb (BQ en) n.eqs 0 with
  | none=>by_cases ht:B6 en n=0<;>simp[h,ht]
  | some r=>simp[h]
 ·simp[h]
theorem Nn {en:List Enum}:∀{l:List Node} {i:Nat},Ba en l i=none↔∀n∈l,Gi en n
 | [],i=>by simp[Ba]
 | n :: l, i => by
   unfold Ba
   cases h:At en n i with
   | some b =>
     have:¬Gi en n:=λhn=>by rw[Sr.2 hn] at h; cases h
     simp[this]
   | none =>
     have:=Sr.1 h
     simp only[az,forall_eq_or_imp]
     exact⟨λh2=>⟨this,(Nn (l:=l)).1 h2⟩,λh2=>(Nn (l:=l)).2 h2.2⟩
theorem JN {b:Bool} {e:Int} (he:e≠0) (h:need b e=0):b=true:=by
 cases b with
 | true=>rfl
 | false=>exact absurd h he
theorem Like.oneN {x y:Expr} (s:Place) (o:Nat) (h:Like x y):oneN s o x=oneN s o y:=by
 unfold PI.Sc.oneN Ie
 simp only[h.kind,h.name,h.v,h.args]
theorem b8D {p:Prog} (h:Cz p=none):∀n∈p.nodes,Gi p.enums n:=by
 unfold Cz at h
 cases hs:Cg p with
 | some b=>rw[hs] at h; cases h
 | none =>
   unfold Cg at hs
   split at hs
   ·cases hs
   ·split at hs
    ·cases hs
    ·exact Nn.1 hs
theorem No {en:List Enum} {pt:Bool} {d:Decl} (h:A7 en pt d=0):d.clock.length≤4:=by
 unfold A7 at h
 simp only[Bt] at h
 simpa using JN (by decide) h.2.2.2.1
theorem c6R {en:List Enum} {n:Node} (hw:NW n) (h:Gi en n):EdN n:=by
 obtain⟨h1,h2,h3⟩:=h
 unfold Bg at h1
 simp only[Bt] at h1
 obtain⟨_,a2,_,a4,a5,a6⟩:=h1
 have a2:=JN (by decide) a2
 simp only[ay] at a2
 have hq:∀q∈n.eqs,q.left.length≤64∧q.right.parts≤400:=by
  intro q hq
  have hb:=BW.1 h2 q hq
  unfold BQ CE Gj at hb
  simp only[Bt] at hb
  obtain⟨_,b2,_,⟨⟨b4,_⟩,_⟩,_⟩:=hb
  have b2:=JN (by decide) b2
  have b4:=JN (by decide) b4
  simp only[ay] at b2 b4
  have hp:=(hw.es q hq).right.1
  have hs:=Ru hp
  refine⟨b2,?_⟩
  have:=b4.1
  rw[hs] at this
  omega
 refine⟨a2.2.2.2.1,λq h=>(hq q h).1,λq h=>(hq q h).2,a2.1,a2.2.1,a2.2.2.1,?_⟩
 intro d hd
 simp only[vars,aw] at hd
 rcases hd with(hd|hd)|hd
 ·exact No (BW.1 a4 d hd)
 ·exact No (BW.1 a5 d hd)
 ·exact No (BW.1 a6 d hd)
end PI.Sc
set_option maxRecDepth 100000
set_option linter.unusedSimpArgs false
namespace PI.Sc
open Go (IntKind BinOp UnOp)
open Short
def xE1:List PV:=[.list false [.str [97]],.int .i64 1,.int .i64 0,.int .i64 2,.int .i64 1,.str [],.list false []]
def xV (n:UInt8):PV := .agg [.int .i64 2,.int .i64 0,.int .i64 0,.int .i64 0,.str [n],.list false []]
def xE2:List PV:=[.list false [.str [120]],.int .i64 3,.int .i64 6,.int .i64 0,.int .i64 0,.str [],.list false [xV 121,.agg [.int .i64 1,.int .i64 0,.int .i64 2,.int .i64 1,.str [],.list false []]]]
def xP2:List PV:=[.list false [.str [120]],.int .i64 5,.int .i64 0,.int .i64 0,.int .i64 0,.str [],.list false [xV 121]]
def xE3:List PV:=[.list false [.str [121]],.int .i64 3,.int .i64 6,.int .i64 0,.int .i64 0,.str [],.list false [xV 120,xV 97]]
def xD (n:UInt8):PV := .agg [.str [n],.int .i64 2,.list false []]
def xN (e:PV):PV := .agg [.list false [],.list false [.agg [.str [102],.list false [],.list false [xD 97,xD 120,xD 121],.list false [],e,.list false [],.list false [],.list false []]]]
def xS:PV:=xN (.list false [.agg xE1,.agg xE2,.agg xE3])
def xQ:PV:=xN (.list false [.agg xE1,.agg xP2,.agg xE3])
def xL:PV := .list false [.agg [.int .i64 0,.int .i64 2],.agg [.int .i64 1,.int .i64 2],.agg [.int .i64 2,.int .i64 1]]
def isR (r:Option (PV×List PObj)) (v:PV) (h:List PObj):Bool:=match r with
 | some (v',h')=>v'.beq v&&decide (h'=h)
 | none=>false
theorem EM {k:Nat} {zs h h':List _} {v:PV} (e:isR (call LS 200 k zs h) v h'=true):ym LS k zs h=some (v,h'):=by
 refine Cx.2 ⟨200,?_⟩
 unfold isR at e
 split at e
 ·rename_i v1 h1 e1
  simp only[ap,PV.beq_iff,ay] at e
  rw[e1,e.1,e.2]
 ·cases e
theorem k1:isR (call LS 200 207 [] []) (xN (.rowp 0 7 true 3)) [.cells (xE1++xE2++xE3)]=true:=by decide +kernel
theorem k2:isR (call LS 200 197 [xS] []) (.tuple [.agg [.int .i64 0,.int .i64 1],.int .i64 13]) []=true:=by decide +kernel
theorem k3:isR (call LS 200 199 [xS,.int .i64 0] []) (.tuple [xL,.int .i64 0]) []=true:=by decide +kernel
theorem k4:isR (call LS 200 200 [xS,.int .i64 0] []) (.tuple [.list false [],.int .i64 13]) []=true:=by decide +kernel
theorem k6:isR (call LS 200 208 [.str [121]] []) (xV 121) []=true:=by decide +kernel
theorem k7:isR (call LS 200 200 [xQ,.int .i64 0] []) (.tuple [.list false [.int .i64 0,.int .i64 1,.int .i64 2],.int .i64 0]) []=true:=by decide +kernel
theorem k8:isR (call LS 200 202 [xL,xL] []) (.bool true) []=true:=by decide +kernel
theorem k9:isR (call LS 200 206 [.list false [.int .i64 0,.int .i64 1,.int .i64 2],.list false [.int .i64 0,.int .i64 1,.int .i64 2]] []) (.bool true) []=true:=by decide +kernel
theorem c1B:∃h',ym LS 198 [] []=some (.bool true,h'):=by
 suffices H:∃r,ym LS 198 [] []=some r∧r.1 = .bool true by
  obtain⟨⟨v,h'⟩,h1,h2⟩:=H
  simp only at h2; subst h2
  exact⟨h',h1⟩
 have c1:=EM k1
 have c2:=EM k2
 have c3:=EM k3
 have c4:=EM k4
 have c6:=EM k6
 have c7:=EM k7
 have c8:=EM k8
 have c9:=EM k9
 simp only[xS,xQ,xL,xN,xE1,xE2,xE3,xP2,xV,xD,aK,be] at c1 c2 c3 c4 c6 c7 c8 c9
 refine AP rfl rfl ?_
 simp[KT,c1,c2,c3,c4,c6,c7,c8,c9,frz,BK,Cv,DL,BU,Cd,Ao,yu,PV.cells,yM,A4,Bo,Cc,Cb,zj,yJ,xV,xD]
 done
end PI.Sc
set_option maxRecDepth 100000
set_option linter.unusedSimpArgs false
set_option linter.unusedVariables false
namespace PI.Sc
open Go (IntKind BinOp UnOp)
open Short
def Bc (O:List Nat) (v:Nat):Nat:=if v∈O then O.idxOf v+1 else 0
theorem c0D {O:List Nat} (hn:O.Nodup) {i:Nat} (hi:i<O.length):Bc (O.take i) O[i]=0∧fup (Bc (O.take i)) O[i] (i+1)=Bc (O.take (i+1)):=by
 have iL:O[i]∉O.take i:=by
  intro h
  obtain⟨j,hj,e⟩:=bC.1 h
  rw[ba] at hj
  rw[cO] at e
  have h1:=hn.idxOf_getElem j (by omega)
  rw[e,hn.idxOf_getElem i hi] at h1
  omega
 refine⟨ae iL,?_⟩
 funext v
 unfold Bc
 rw[AH hi,List.idxOf_append]
 by_cases e:v=O[i]
 ·subst e
  rw[zZ,af (aw.2 (.inr (aQ.2 rfl))),ae iL,ba,List.idxOf_cons_self]
  omega
 ·rw[Aq _ _ e]
  by_cases hm:v∈O.take i
  ·rw[af hm,af (aw.2 (.inl hm)),af hm]
  ·rw[ae hm,ae (λh=>(aw.1 h).elim hm λh=>e (aQ.1 h))]
section
variable {L:Nat→Option PFunc} (hL:∀k f,LS k=some f→L k=some f)
include hL
theorem d4h (n:Nat) (O:List Nat) (dx:O.Nodup) (hO:∀v∈O,v<n) (s8:O.length≤1000000) (a:Nat) (h:List PObj) (ha:h[a]? = some (.cells (yO n λ_=>0))) (V0 V1 V2 V3 V4 V5 V6 V8 V9 V10 V13 V14 V15:PV) (g:Nat) {Q:PExit→St→Prop}
  (hk:∀y12,Q (.exit 2) ⟨[V0,V1,V2,V3,V4,V5,V6,.list false (yn O),V8,V9,V10,.rowp a 1 false n,y12,V13,V14,V15],[],g,h.set a (.cells (yO n (Bc O)))⟩):
  wpL L LT ⟨[V0,V1,V2,V3,V4,V5,V6,.list false (yn O),V8,V9,V10,.rowp a 1 false n,.int .i64 0,V13,V14,V15],[],g,h⟩ Q:=by
 rw[LT]
 have _:=hL
 have dS:a<h.length:=(ah.1 ha).1
 refine yU O.length (λi st=>st=⟨[V0,V1,V2,V3,V4,V5,V6,.list false (yn O),V8,V9,V10,.rowp a 1 false n,.int .i64 (i:Nat),V13,V14,V15],[],g,h.set a (.cells (yO n (Bc (O.take i))))⟩) ?_ ?_ (by
  have:Bc (O.take 0)=λ_=>0:=by funext v; simp[Bc]
  rw[this,Ch ha]; rfl)
 ·rintro i hi st rfl ih
  have hw:=yz i (by omega)
  obtain⟨h0,hf⟩:=c0D dx hi
  have iW:=hO _ (ak hi)
  have dM:i<(yn O).length:=by rw[Ar]; exact hi
  have me:∀p:i<(yn O).length,(yn O)[i]'p = .int .i64 (O[i]:Int):=λp=>by simp[yn]
  have gl:=BN n (Bc (O.take i))
  have gg:=BO iW (Bc (O.take i))
  rw[h0] at gg
  have gs:(yO n (Bc (O.take i))).set O[i] (.int .i64 ((i:Int)+1))=_:=Er iW (Bc (O.take i)) (i+1)
  rw[hf] at gs
  have hz:¬(O[i]:Int)<0:=by omega
  have eF:¬n≤O[i]:=by omega
  have ih2:=ih _ rfl
  generalize yO n (Bc (O.take i))=C at *
  generalize yO n (Bc (O.take (i+1)))=C2 at *
  simp[hi,hw,dM,me,Ar,gl,gg,gs,hz,eF,iW,dS,Ax]
  exact ih2
 ·rintro st rfl
  rw[aD]
  simp[Ar]
  exact hk _
theorem d4i (n:Nat) (E:List (Nat×Nat)) (rH:E.length≤1000000) (at':Nat→Nat) (hE:∀e∈E,e.1<n∧e.2<n∧at' e.1<at' e.2) (a:Nat) (h:List PObj) (ha:h[a]? = some (.cells (yO n at'))) (V0 V1 V2 V3 V4 V5 V6 V7 V8 V10 V12 V14 V15:PV) (g:Nat) {Q:PExit→St→Prop}
  (hk:∀y13,Q (.exit 4) ⟨[V0,V1,V2,V3,V4,V5,V6,V7,V8,.list false (E.map eE),V10,.rowp a 1 false n,V12,y13,V14,V15],[],g,h⟩):
  wpL L LU ⟨[V0,V1,V2,V3,V4,V5,V6,V7,V8,.list false (E.map eE),V10,.rowp a 1 false n,V12,.int .i64 0,V14,V15],[],g,h⟩ Q:=by
 rw[LU]
 have _:=hL
 obtain⟨dS,wN⟩:=ah.1 ha
 refine yU E.length (λi st=>st=⟨[V0,V1,V2,V3,V4,V5,V6,V7,V8,.list false (E.map eE),V10,.rowp a 1 false n,V12,.int .i64 (i:Nat),V14,V15],[],g,h⟩) ?_ ?_ rfl
 ·rintro i hi st rfl ih
  have hw:=yz i (by omega)
  obtain⟨h1,h2,h3⟩:=hE _ (ak hi)
  have gl:=BN n at'
  have g1:=BO h1 at'
  have g2:=BO h2 at'
  have fw:¬(E[i].1:Int)<0:=by omega
  have eZ:¬(E[i].2:Int)<0:=by omega
  have ei:¬n≤E[i].1:=by omega
  have eJ:¬n≤E[i].2:=by omega
  have eX:¬at' E[i].2≤at' E[i].1:=by omega
  generalize yO n at'=C at *
  simp[hi,hw,eE,gl,g1,g2,fw,eZ,ei,eJ,h1,h2,eX,dS,wN]
  exact ih _ rfl
 ·rintro st rfl
  simp
  exact hk _
theorem d4j (p:Prog) (hw:PW p) (hs:parts p≤1100000) (hb:Ep p=CO) (hN:∀n∈p.nodes,EdN n) (V0 V3 V4 V7 V8 V9 V10 V11 V12 V13 V14 V15:PV) (g:Nat) {Q:PExit→St→Prop}
  (hk:∀y6 y7 y8 y9 y10 y11 y12 y13 bb h,(bb=true↔Fu p)→Q (.exit 0) ⟨[V0,.loc 0 [.list false (p.enums.map yG),.list false (p.nodes.map yL)],.bool false,V3,V4,.bool bb,y6,y7,y8,y9,y10,y11,y12,y13,V14,V15],[],g,h⟩):
  wpL L LV ⟨[V0,.loc 0 [.list false (p.enums.map yG),.list false (p.nodes.map yL)],.bool false,V3,V4,.bool true,.int .i64 0,V7,V8,V9,V10,V11,V12,V13,V14,V15],[],g,[]⟩ Q:=by
 rw[LV]
 have fA:=hw.nodes
 refine yU p.nodes.length (λi st=>∃y7 y8 y9 y10 y11 y12 y13 bb h,(bb=true↔∀n∈p.nodes.take i,¬Dc n.eqs.length (edN n))∧st=⟨[V0,.loc 0 [.list false (p.enums.map yG),.list false (p.nodes.map yL)],.bool false,V3,V4,.bool bb,.int .i64 (i:Nat),y7,y8,y9,y10,y11,y12,y13,V14,V15],[],g,h⟩) ?_ ?_ ⟨_,_,_,_,_,_,_,true,[],by simp,rfl⟩
 ·rintro i hi st ⟨y7,y8,y9,y10,y11,y12,y13,bb,h,ke,rfl⟩ ih
  have kg:=yz i (by omega)
  have rQ:=hN _ (ak hi)
  have uY:=rQ.eqs
  obtain⟨h1,c1⟩:=QN hL p hw hs hb i hi rQ
  rw[M2] at c1
  have hE:=M3 p.nodes[i]
  have rH:=M4 p.nodes[i] rQ
  have dX:∀n,n∈p.nodes.take (i+1)↔n∈p.nodes.take i∨n=p.nodes[i]:=by
   intro n
   rw[AH hi,aw,aQ]
  rcases c6O hL p hw hs hb i hi rQ with⟨h2,O,c2,io⟩|⟨h2,c2,no⟩
  ·have dL:¬Dc p.nodes[i].eqs.length (edN p.nodes[i]):=λhh=>hh (λv=>O.idxOf v) λe he=>by
    obtain⟨e1,e2⟩:=hE e he
    exact M5 (n:=p.nodes[i].eqs.length) (N:=λv=>As (edN p.nodes[i]) v) (λv _ w hw=>(hE _ (CC.1 hw)).2) io.nd io.mem (λi h a _ hm=>io.ord i h a (CC.1 hm)) e.1 e1 e.2 (CC.2 he)
   have eP:8*(p.nodes[i].eqs.length:Int)≤281474976710656:=by omega
   have dK:(p.nodes[i].eqs.length:Int)≤9223372036854775807:=by omega
   have s8:=io.len
   simp[hi,kg,c1,c2,Es,Ge,yC,eP,dK,Ar,s8]
   have nY:List.replicate p.nodes[i].eqs.length (PV.int .i64 0)=yO p.nodes[i].eqs.length λ_=>0:=by unfold yO; apply b6<;>simp
   rw[nY]
   have u4:(PV.int .i64 (p.nodes[i].eqs.length:Int)) = .int .i64 (O.length:Int):=by rw[s8]
   refine d4h hL p.nodes[i].eqs.length O io.nd (λv hv=>(io.mem v).1 hv) (by omega) h.length _ (by rw[aq (am _)]; simp) _ _ _ _ _ _ _ _ _ _ _ _ _ _ ?_
   intro y12
   simp
   refine d4i hL p.nodes[i].eqs.length (edN p.nodes[i]) (by omega) (Bc O) (λe he =>?_) h.length _ ?_ _ _ _ _ _ _ _ _ _ _ _ _ _ _ ?_
   ·obtain⟨e1,e2⟩:=hE e he
    have ht:=M5 (n:=p.nodes[i].eqs.length) (N:=λv=>As (edN p.nodes[i]) v) (λv _ w hw=>(hE _ (CC.1 hw)).2) io.nd io.mem (λi h a _ hm=>io.ord i h a (CC.1 hm)) e.1 e1 e.2 (CC.2 he)
    refine⟨e1,e2,?_⟩
    unfold Bc
    rw[af ((io.mem _).2 e1),af ((io.mem _).2 e2)]
    simp only at ht
    omega
   ·simp
   ·intro y13
    simp[kg]
    refine ih _ ⟨_,_,_,_,_,_,_,bb,_,?_,rfl⟩
    rw[ke]
    constructor
    ·intro hh n hn
     rcases(dX n).1 hn with hn|rfl
     ·exact hh n hn
     ·exact dL
    ·exact λhh n hn=>hh n ((dX n).2 (.inl hn))
  ·simp[hi,kg,c1,c2,Es,yC,yD]
   refine ih _ ⟨_,_,_,_,_,_,_,false,h,?_,rfl⟩
   simp only[aJ,false_iff]
   exact λhh=>hh _ ((dX _).2 (.inr rfl)) no
 ·rintro st ⟨y7,y8,y9,y10,y11,y12,y13,bb,h,ke,rfl⟩
  rw[aD] at ke
  simp
  exact hk _ _ _ _ _ _ _ _ bb h ke
end
theorem b4q (p:Prog) (hw:PW p) (hs:parts p≤1100000):∃h',ym LS 194 [zA p] []=some (.bool true,h'):=by
 have hL:∀k f,LS k=some f→LS k=some f:=λ_ _ h=>h
 suffices H:∃r,ym LS 194 [zA p] []=some r∧r.1 = .bool true by
  obtain⟨⟨r,h⟩,h1,h2⟩:=H
  simp only at h2; subst h2
  exact⟨h,h1⟩
 obtain⟨ha,mD⟩:=c1B
 obtain⟨hc,jh⟩:=Pm hL p hw hs
 unfold A1 at jh
 have fl:=Qz hL p (by have:=hw.nodes; omega) []
 refine AP rfl rfl ?_
 by_cases he:(BL (Cz p)).err=0
 ·cases fq:plain p with
  | false =>
    rw[fq] at fl
    simp[Hq,jh,he,fl,mD,yJ]
  | true =>
    rw[fq] at fl
    have fp:Cz p=none:=by
     cases hb:Cz p with
     | none=>rfl
     | some b=>rw[hb] at he; exact absurd he (b8C hb)
    have hN:∀n∈p.nodes,EdN n:=λn hn=>c6R (hw.ns n hn) (b8D fp n hn)
    obtain⟨h3,w,e,c3,kQ,⟨a,b,rfl⟩⟩:=c1R hL p hw hs (QR fp fq) hN
    simp[Hq,jh,he,fl]
    refine d4j hL p hw hs (QR fp fq) hN _ _ _ _ _ _ _ _ _ _ _ _ _ ?_
    intro y6 y7 y8 y9 y10 y11 y12 y13 bb h ke
    rcases kQ with⟨rfl,hf⟩|⟨rfl,hf⟩
    ·have:bb=true:=ke.2 hf
     subst this
     simp[c3,mD,yJ]
    ·have:bb=false:=by
      cases bb with
      | false=>rfl
      | true=>exact absurd (ke.1 rfl) hf
     subst this
     simp[c3,mD,yJ]
 ·simp[Hq,jh,he,mD,yJ]
end PI.Sc
set_option linter.unusedSimpArgs false
set_option linter.unusedVariables false
namespace PI
open Go Go.RowKit Go.WideShapes Go.ChangeShapes
section
variable {H:Type} {enc:TypeId×Value→H} {P:Program} {W:World} {base':Nat} {N:Nm} {D:Nat→TyD} {tm:Nat→TypeId}
def Hc (D:Nat→TyD):List Nat→List PV→Prop
 | [],[]=>True
 | i::is,p::ps=>Sh D i p∧Hc D is ps
 | _,_=>False
theorem Ss {n:Nat} {r:Reach} {spare:Nat→Bool} {held:Bool} {base:Nat} (hM:∀i,i<n→EO P D tm n i=true):
  ∀{idxs:List Nat} {vs:List Value} {ds:List (DataW H)} {p:List MemPlace},(∀i∈idxs,i<n) →
  (∀(j:Nat) (t:TypeId) (v:Value),(idxs.map tm)[j]? = some t→vs[j]? = some v→Value.okWide P W r base' t v) →
  DataW.TrodAll enc P W base spare held (idxs.map tm) vs ds p→(DataW.weightsEach P (idxs.map tm) ds).all (·≤reachBytes)=true →
  ∃ pvs : List PV, vs.length = pvs.length ∧ ds.length = idxs.length ∧ wts pvs ≤ C7 ds ∧ Hc D idxs pvs ∧
    ∀(j:Nat) (v:Value) (p:PV),vs[j]? = some v→pvs[j]? = some p→VR N W (CI W) (λ_=>none) v p
 | [], vs, ds, p, _, _, h, _ => by
   obtain⟨rfl,rfl,rfl⟩:=trodAll_nil h
   exact⟨[],rfl,rfl,by simp[wts],trivial,by simp⟩
 | i :: is, vs, ds, p, hi, hv, h, jv => by
   obtain⟨v,vs',d,ds',p1,q1,rfl,rfl,rfl,h1,h2⟩:=trodAll_cons h
   simp only[aA,DataW.weightsEach,cz,ap] at jv
   obtain⟨pvs,a1,a2,a3,a4,a5⟩:=Ss hM (λj hj=>hi j (bo _ hj)) (λj t u ht hu=>hv (j+1) t u (by simpa using ht) (by simpa using hu)) h2 jv.2
   obtain⟨pv,b1,b2⟩:=d07 (N:=N) hM (hi i (bZ ..)) (hv 0 (tm i) v rfl rfl) h1 jv.1
   refine⟨pv::pvs,by simp[a1],by simp[a2],by simp only[wts,C7]; omega,⟨b1.1,a4⟩,?_⟩
   intro j u q hu hq
   cases j with
   | zero=>simp at hu hq; subst hu hq; exact b2
   | succ j=>exact a5 j u q (by simpa using hu) (by simpa using hq)
theorem Su {W':World} (hl:laidOutB P=true) (hb:Below W.heap.size W W') {sp:Nat→Bool}:
  ∀{ts:List TypeId} {vs:List Value} {ds:List (DataW H)} {p:List MemPlace},(∀t∈ts,P.readableRec t=true∧t<P.types.size) →
  (∀x∈p,x.block<W.heap.size)→(∀x∈p,sp x.block=true) →
  DataW.TrodAll enc P W 0 (λ_=>true) true ts vs ds p→DataW.TrodAll enc P W' 0 sp true ts vs ds p
 | [], vs, ds, p, _, _, _, h => by
   obtain⟨rfl,rfl,rfl⟩:=trodAll_nil h
   exact rfl
 | t :: ts, vs, ds, p, ht, dc, jt, h => by
   obtain⟨v,vs',d,ds',p1,q1,rfl,rfl,rfl,h1,h2⟩:=trodAll_cons h
   have:=ht t (bZ ..)
   exact trodAll_cons_mk (WideElems.Trod_stays hl this.1 this.2 h1 (λx hx=>hb.same (dc x (b9 _ hx))) (λx hx=>jt x (b9 _ hx)))
    (Su hl hb (λt' h'=>ht t' (bo _ h')) (λx hx=>dc x (cC _ hx)) (λx hx=>jt x (cC _ hx)) h2)
theorem b69 {ts us:List TypeId} {ds:List (DataW H)}:∀(_:ts.length=ds.length),(DataW.weightsEach P (ts++us) ds).all (·≤reachBytes)=true→(DataW.weightsEach P ts ds).all (·≤reachBytes)=true:=by
 induction ts generalizing ds with
 | nil=>intro _ _; simp[DataW.weightsEach]
 | cons t ts ih =>
   intro hl h
   cases ds with
   | nil=>simp[DataW.weightsEach]
   | cons d ds =>
     simp only[aK,DataW.weightsEach,cz,ap] at h ⊢
     exact⟨h.1,ih (by simpa using hl) h.2⟩
theorem Sv {base:Nat} {spare:Nat→Bool} {held:Bool}:∀{ts:List TypeId} {vs:List Value} {ds:List (DataW H)} {p:List MemPlace},DataW.TrodAll enc P W base spare held ts vs ds p→ts.length=ds.length
 | [],vs,ds,p,h=>by obtain⟨rfl,rfl,rfl⟩:=trodAll_nil h; rfl
 | t :: ts, vs, ds, p, h => by
   obtain⟨v,vs',d,ds',p1,q1,rfl,rfl,rfl,h1,h2⟩:=trodAll_cons h
   simp[Sv h2]
theorem b8R {E:Env} {L:Nat→Option PFunc} (hE:EnvOk E N) (hP:E.P=P) (dR:P.follows .mixedOrders=true) (hL:∀k pf,L k=some pf→FnS E N k pf) (hT:∀t∈N.tabs,W.cell? ⟨t.1,t.2.1,none⟩=some t.2.2) (pH:∀r∈N.rows,W.shape? r.1=some r.2)
  {n k:Nat} (hM:∀i,i<n→EO P D tm n i=true) (qI:laidOutB P=true) {f:Func} {s:ChangeSpec} {idxs:List Nat} {tb:TypeId}
  (mM:f.params.toList=idxs.map tm) (ky:∀i∈idxs,i<n∧P.readableRec (tm i)=true∧tm i<P.types.size) (ni:s.vars=[])
  (vA:P.underlying tb=some .bool) (dZ:f.resultTypes = #[tb]) (qJ:∀ds:List (DataW H),ds.length=idxs.length→s.fn H ds={ results:=[.lit (.bool true)],args:=ds })
  {Gn fresh mN again:Bool} {args:Array Value} {ds gs:List (DataW H)} {before:List MemPlace}
  (eI:∀(j:Nat) (t:TypeId) (v:Value),f.params[j]? = some t→args[j]? = some v→Value.okWide P W .any base' t v)
  (hW:DataW.Whole enc P f.params.toList s.vars Gn W args.toList ds gs before)
  (jv:(DataW.weightsEach P (f.params.toList++s.plain.varTypes P) (ds++gs)).all (·≤reachBytes)=true)
  (tC:∀pvs:List PV,Hc D idxs pvs→wts pvs≤C7 (ds++gs)→∃m h',call L m k pvs []=some (.bool true,h')):
  Calls P (N.fn k) args W λe W'=>∃v,e = .returned v∧s.post enc P f Gn fresh mN again W args v W':=by
 have vB:=hW
 rw[ni] at hW
 obtain⟨p,q,hA,hV,rfl,xh,dx⟩:=hW
 obtain⟨rfl,rfl⟩:=trodVars_none hV
 rw[mM] at hA
 obtain⟨pvs,a1,a2,a3,a4,a5⟩:=Ss (N:=N) (n:=n) (base':=base') hM (λi hi=>(ky i hi).1) (λj t v ht hv=>eI j t v (by rw[← mM] at ht; simpa using ht) (by simpa using hv)) hA (by rw[aW,mM] at jv; exact b69 (by simpa using Sv hA) jv)
 obtain⟨m,h',da⟩:=tC pvs a4 (by simpa using a3)
 refine(c4D (W:=W) hE hP dR hL hT pH da (by simpa using a1) (λi v p hv hp=>a5 i v p (by simpa using hv) hp)).mono ?_
 rintro e W' ⟨rfl,hb⟩
 refine⟨_,rfl,?_⟩
 have oB:∀x∈p,x.block<W.heap.size:=λx hx=>vB.lt x (by simpa using hx)
 have ft:∀t∈idxs.map tm,P.readableRec t=true∧t<P.types.size:=by
  intro t ht
  obtain⟨i,hi,rfl⟩:=bh.1 ht
  exact(ky i hi).2
 have dz:∀sp:Nat→Bool,(∀x∈p,sp x.block=true)→DataW.TrodAll enc P W' 0 sp true f.params.toList args.toList ds p:=λsp jt=>by
  rw[mM]; exact Su qI hb ft oB jt hA
 have hr:s.fn H (ds++[])={ results:=[.lit (.bool true)],args:=ds }:=by rw[aW]; exact qJ ds a2
 have nj:∀(b:Nat) (sp:Nat→Bool) (hd:Bool),DataW.TrodAll enc P W' b sp hd f.resultTypes.toList ((Value.bool true).resultList f.resultTypes.size) (s.fn H (ds++[])).results []:=by
  intro b sp hd
  rw[dZ,hr]
  exact trodAll_cons_mk (shut_bool vA _) trodAll_mk0
 have jm:∀sp:Nat→Bool,DataW.TrodVars enc P W' sp s.vars (s.fn H (ds++[])).vars []:=by
  intro sp; rw[ni,hr]; rfl
 have vC:∀sp:Nat→Bool,(∀x∈p,sp x.block=true)→DataW.TrodAll enc P W' 0 sp true f.params.toList args.toList (s.fn H (ds++[])).args p:=by
  intro sp jt; rw[hr]; exact dz sp jt
 refine⟨ds,[],p++[],[],p,[],vB,nj _ _ _,vC _ (λx hx=>by simpa using oB x hx),jm _,hb.frame _,λ_ =>?_⟩
 refine⟨ok_one dZ rfl (okWide_bool_mk vA _),_,_,([]++p)++[],⟨[]++p,[],trodAll_append (vC _ (λ_ _=>rfl)) (nj _ _ _),jm _,rfl,?_,?_⟩,?_⟩
 ·intro b off hp
  have dc:=oB _ (by simpa using hp)
  rw[hb.frozen (p:=⟨b,off,none⟩) dc]
  exact xh b off (by simpa using hp)
 ·intro ha
  simpa using dx ha
 ·intro x hx _
  simpa using hx
end
section
variable {D:Nat→TyD} {i:Nat} {p:PV}
theorem Sh.inv_int {k:IntKind} (hd:D i = .int k) (h:Sh D i p):∃n,p = .int k n∧k.min≤n∧n≤k.max:=by
 cases h with
 | bool _ b h=>rw[hd] at h; cases h
 | int _ k n h h1 h2=>rw[hd] at h; cases h; exact⟨n,rfl,h1,h2⟩
 | str _ s h=>rw[hd] at h; cases h
 | slice _ e b es h=>rw[hd] at h; cases h
 | struct _ fs ps h=>rw[hd] at h; cases h
theorem Sh.inv_str (hd:D i = .str) (h:Sh D i p):∃s,p = .str s∧s.length≤9223372036854775807:=by
 cases h with
 | bool _ b h=>rw[hd] at h; cases h
 | int _ k n h=>rw[hd] at h; cases h
 | str _ s _ hl=>exact⟨s,rfl,hl⟩
 | slice _ e b es h=>rw[hd] at h; cases h
 | struct _ fs ps h=>rw[hd] at h; cases h
theorem Sh.inv_slice {e b:Nat} (hd:D i = .slice e b) (h:Sh D i p):∃es,p = .list false es∧es.length≤9223372036854775807∧es.length*b≤140737488351232∧∀x∈es,Sh D e x:=by
 cases h with
 | bool _ b h=>rw[hd] at h; cases h
 | int _ k n h=>rw[hd] at h; cases h
 | str _ s h=>rw[hd] at h; cases h
 | slice _ e b es h hl hb hs=>rw[hd] at h; cases h; exact⟨es,rfl,hl,hb,hs⟩
 | struct _ fs ps h=>rw[hd] at h; cases h
theorem Sh.inv_struct {fs:List Nat} (hd:D i = .struct fs) (h:Sh D i p):∃ps:List PV,p = .agg (ps.flatMap PV.cells)∧Hc D fs ps:=by
 cases h with
 | bool _ b h=>rw[hd] at h; cases h
 | int _ k n h=>rw[hd] at h; cases h
 | str _ s h=>rw[hd] at h; cases h
 | slice _ e b es h=>rw[hd] at h; cases h
 | struct _ fs' ps h hl hs =>
   rw[hd] at h; cases h
   refine⟨ps,rfl,?_⟩
   clear hd
   induction fs generalizing ps with
   | nil =>
     cases ps with
     | nil=>trivial
     | cons p ps=>simp at hl
   | cons f fs ih =>
     cases ps with
     | nil=>simp at hl
     | cons p ps=>exact⟨hs 0 f p rfl rfl,ih ps (by simpa using hl) (λj f' p' hf hp=>hs (j+1) f' p' (by simpa using hf) (by simpa using hp))⟩
end
end PI
set_option maxRecDepth 100000
set_option linter.unusedVariables false
namespace PI.Sc
open Go (IntKind BinOp UnOp)
def D:Nat→TyD
 | 0 => .str
 | 1 => .int .i64
 | 2 => .slice 0 16
 | 3 => .struct [0,2]
 | 4 => .slice 3 40
 | 5 => .struct [0,1,1]
 | 6 => .slice 5 32
 | 7 => .struct [0,1,6]
 | 8 => .slice 7 48
 | 9 => .struct [1,1,1,1,0,10]
 | 10 => .slice 9 72
 | 11 => .struct [2,9]
 | 12 => .slice 11 96
 | 13 => .bool
 | 14 => .struct [9,1,13]
 | 15 => .slice 14 88
 | 16 => .struct [0,8,12,18,15,15]
 | 17 => .struct [19]
 | 18 => .slice 17 24
 | 19 => .slice 16 136
 | 20 => .struct [0,8,8,8,12,18,10,10]
 | 21 => .slice 20 184
 | 22 => .struct [4,21]
 | _ => .int .u8
theorem all_map {α:Type} {f:α→PV} {G:α→Prop}:∀es:List PV,(∀x∈es,∃y,x=f y∧G y)→∃l:List α,es=l.map f∧∀x∈l,G x
 | [],_=>⟨[],rfl,by simp⟩
 | x :: xs, h => by
   obtain⟨y,rfl,hy⟩:=h x (bZ ..)
   obtain⟨l,rfl,hl⟩:=all_map xs (λy hy=>h y (bo _ hy))
   refine⟨y::l,rfl,?_⟩
   intro z hz
   rcases az.1 hz with rfl|hz
   ·exact hy
   ·exact hl z hz
theorem CG {α:Type} {f:α→PV} {G:α→Prop} {i e b:Nat} (he:∀p,Sh D e p→∃x,p=f x∧G x) (hD:D i = .slice e b) (hb:0<b) (p:PV) (h:Sh D i p):∃l:List α,p = .list false (l.map f)∧l.length≤140737488351232∧∀x∈l,G x:=by
 obtain⟨es,rfl,_,hl,hs⟩:=Sh.inv_slice hD h
 obtain⟨l,rfl,h1⟩:=all_map es λx hx=>he x (hs x hx)
 rw[aG] at hl
 exact⟨l,rfl,aH (Nat.le_mul_of_pos_right _ hb) hl,h1⟩
theorem FF (p:PV) (h:Sh D 0 p):∃s,p = .str s∧s.length≤9223372036854775807:=by
 obtain⟨s,rfl,hl⟩:=Sh.inv_str (D:=D) rfl h
 exact⟨s,rfl,hl⟩
theorem E0 (p:PV) (h:Sh D 1 p):∃n,p = .int .i64 n∧CV n:=by
 obtain⟨n,rfl,h1,h2⟩:=Sh.inv_int (D:=D) (k := .i64) rfl h
 exact⟨n,rfl,h1,h2⟩
theorem c7g (p:PV) (h:Sh D 13 p):∃b,p = .bool b:=by
 cases h with
 | bool _ b _=>exact⟨b,rfl⟩
 | int _ _ _ h=>cases h
 | str _ _ h=>cases h
 | slice _ _ _ _ h=>cases h
 | struct _ _ _ h=>cases h
theorem R9 (p:PV) (h:Sh D 2 p):∃l:List Str,p = .list false (l.map .str)∧l.length≤140737488351232:=by
 obtain⟨l,e,hl,_⟩:=CG FF rfl (by decide) p h
 exact⟨l,e,hl⟩
theorem c7h (p:PV) (h:Sh D 3 p):∃x:Enum,p=yG x∧x.tags.length≤140737488351232:=by
 obtain⟨ps,rfl,hq⟩:=Sh.inv_struct (D:=D) (fs:=[0,2]) rfl h
 match ps,hq with
 | [a, b], ⟨ha, hb, _⟩ =>
   obtain⟨s,rfl,_⟩:=FF a ha
   obtain⟨l,rfl,hl⟩:=R9 b hb
   exact⟨⟨s,l⟩,rfl,hl⟩
theorem d4s (p:PV) (h:Sh D 5 p):∃x:On,p=eOn x∧CV x.t:=by
 obtain⟨ps,rfl,hq⟩:=Sh.inv_struct (D:=D) (fs:=[0,1,1]) rfl h
 match ps,hq with
 | [a, b, c], ⟨ha, hb, hc, _⟩ =>
   obtain⟨s,rfl,_⟩:=FF a ha
   obtain⟨n,rfl,hn⟩:=E0 b hb
   obtain⟨m,rfl,_⟩:=E0 c hc
   exact⟨⟨s,n,m⟩,rfl,hn⟩
theorem JV (p:PV) (h:Sh D 7 p):∃x:Decl,p=yw x∧DF x:=by
 obtain⟨ps,rfl,hq⟩:=Sh.inv_struct (D:=D) (fs:=[0,1,6]) rfl h
 match ps,hq with
 | [a, b, c], ⟨ha, hb, hc, _⟩ =>
   obtain⟨s,rfl,hs⟩:=FF a ha
   obtain⟨n,rfl,hn⟩:=E0 b hb
   obtain⟨l,rfl,hl,ho⟩:=CG d4s rfl (by decide) c hc
   exact⟨⟨s,n,l⟩,rfl,⟨hn,by show l.length≤_; omega,hs,ho⟩⟩
theorem c4w:∀(i:Nat) (p:PV),Sh D i p→(i=9→∃x:Expr,p=yq x∧EW x)∧(i=10→∃l:List Expr,p = .list false (l.map yq)∧l.length≤140737488351232∧∀x∈l,EW x):=by
 intro i p h
 induction h with
 | bool i b h=>exact⟨λe=>(by subst e; cases h),λe=>(by subst e; cases h)⟩
 | int i k n h=>exact⟨λe=>(by subst e; cases h),λe=>(by subst e; cases h)⟩
 | str i s h=>exact⟨λe=>(by subst e; cases h),λe=>(by subst e; cases h)⟩
 | slice i e b es h hl hb hs ih =>
   refine⟨λe=>(by subst e; cases h),λhi =>?_⟩
   subst hi
   obtain⟨rfl,rfl⟩:e=9∧b=72:=by cases h; exact⟨rfl,rfl⟩
   obtain⟨l,rfl,h1⟩:=all_map (f:=yq) (G:=EW) es λx hx=>(ih x hx).1 rfl
   rw[aG] at hb
   exact⟨l,rfl,by omega,h1⟩
 | struct i fs ps h hl hs ih =>
   refine⟨λhi =>?_,λe=>(by subst e; cases h)⟩
   subst hi
   obtain rfl:fs=[1,1,1,1,0,10]:=by cases h; rfl
   match ps,hl with
   | [a, b, c, d, e, f], _ =>
     obtain⟨k,rfl,_⟩:=E0 a (hs 0 1 a rfl rfl)
     obtain⟨o,rfl,_⟩:=E0 b (hs 1 1 b rfl rfl)
     obtain⟨t,rfl,ht⟩:=E0 c (hs 2 1 c rfl rfl)
     obtain⟨v,rfl,hv⟩:=E0 d (hs 3 1 d rfl rfl)
     obtain⟨s,rfl,_⟩:=FF e (hs 4 0 e rfl rfl)
     obtain⟨l,rfl,hl,hE⟩:=(ih 5 10 f rfl rfl).2 rfl
     refine⟨.mk k o t v s l,by rw[Ds]; rfl,?_⟩
     intro x hx
     rw[Expr.list_eq] at hx
     rcases az.1 hx with rfl|hx
     ·exact⟨ht,hv,by show l.length≤_; omega⟩
     ·obtain⟨y,hy,kS⟩:=bN.1 hx
      exact hE y hy x kS
theorem JW (p:PV) (h:Sh D 9 p):∃x:Expr,p=yq x∧EW x:=(c4w 9 p h).1 rfl
theorem Sa (p:PV) (h:Sh D 11 p):∃x:Eqn,p=yZ x∧QF x:=by
 obtain⟨ps,rfl,hq⟩:=Sh.inv_struct (D:=D) (fs:=[2,9]) rfl h
 match ps,hq with
 | [a, b], ⟨ha, hb, _⟩ =>
   obtain⟨l,rfl,hl⟩:=R9 a ha
   obtain⟨x,rfl,hx⟩:=JW b hb
   exact⟨⟨l,x⟩,by rw[Hz]; simp[-MM],⟨by show l.length≤_; omega,hx⟩⟩
theorem Sb (p:PV) (h:Sh D 14 p):∃x:Trn,p=zF x∧EW x.cond:=by
 obtain⟨ps,rfl,hq⟩:=Sh.inv_struct (D:=D) (fs:=[9,1,13]) rfl h
 match ps,hq with
 | [a, b, c], ⟨ha, hb, hc, _⟩ =>
   obtain⟨x,rfl,hx⟩:=JW a ha
   obtain⟨n,rfl,_⟩:=E0 b hb
   obtain⟨r,rfl⟩:=c7g c hc
   exact⟨⟨x,n,r⟩,by rw[HA]; simp[-MN],hx⟩
theorem c2q:∀(i:Nat) (p:PV),Sh D i p→(i=16→∃x:State,p=yQ x∧SF x)∧(i=19→∃l:List State,p = .list false (l.map yQ)∧l.length≤140737488351232∧∀x∈l,SF x) ∧
  (i=17→∃a:Bu,p=zk a∧(a.length≤140737488351232∧∀x∈a,SF x))∧(i=18→∃l:List Bu,p = .list false (l.map zk)∧AsF l):=by
 intro i p h
 induction h with
 | bool i b h=>exact⟨λe=>(by subst e; cases h),λe=>(by subst e; cases h),λe=>(by subst e; cases h),λe=>(by subst e; cases h)⟩
 | int i k n h=>exact⟨λe=>(by subst e; cases h),λe=>(by subst e; cases h),λe=>(by subst e; cases h),λe=>(by subst e; cases h)⟩
 | str i s h=>exact⟨λe=>(by subst e; cases h),λe=>(by subst e; cases h),λe=>(by subst e; cases h),λe=>(by subst e; cases h)⟩
 | slice i e b es h hl hb hs ih =>
   refine⟨λe=>(by subst e; cases h),λhi =>?_,λe=>(by subst e; cases h),λhi =>?_⟩
   ·subst hi
    obtain⟨rfl,rfl⟩:e=16∧b=136:=by cases h; exact⟨rfl,rfl⟩
    obtain⟨l,rfl,h1⟩:=all_map (f:=yQ) (G:=SF) es λx hx=>(ih x hx).1 rfl
    rw[aG] at hb
    exact⟨l,rfl,by omega,h1⟩
   ·subst hi
    obtain⟨rfl,rfl⟩:e=17∧b=24:=by cases h; exact⟨rfl,rfl⟩
    obtain⟨l,rfl,h1⟩:=all_map (f:=zk) (G:=λa=>a.length≤140737488351232∧∀x∈a,SF x) es λx hx=>(ih x hx).2.2.1 rfl
    rw[aG] at hb
    exact⟨l,rfl,⟨by omega,λa ha=>by have:=(h1 a ha).1; omega,λa ha=>(h1 a ha).2⟩⟩
 | struct i fs ps h hl hs ih =>
   refine⟨λhi =>?_,λe=>(by subst e; cases h),λhi =>?_,λe=>(by subst e; cases h)⟩
   ·subst hi
    obtain rfl:fs=[0,8,12,18,15,15]:=by cases h; rfl
    match ps,hl with
    | [a, b, c, d, e, f], _ =>
      obtain⟨n,rfl,_⟩:=FF a (hs 0 0 a rfl rfl)
      obtain⟨l,rfl,h1,h2⟩:=CG JV rfl (by decide) b (hs 1 8 b rfl rfl)
      obtain⟨q,rfl,h3,h4⟩:=CG Sa rfl (by decide) c (hs 2 12 c rfl rfl)
      obtain⟨au,rfl,h5⟩:=(ih 3 18 d rfl rfl).2.2.2 rfl
      obtain⟨u,rfl,h6,h7⟩:=CG Sb rfl (by decide) e (hs 4 15 e rfl rfl)
      obtain⟨w,rfl,h8,h9⟩:=CG Sb rfl (by decide) f (hs 5 15 f rfl rfl)
      exact⟨.mk n l q au u w,by rw[Dt]; rfl,.mk _ (by show l.length≤_; omega) h2 (by show q.length≤_; omega) h4 (by show u.length≤_; omega) h7 (by show w.length≤_; omega) h9 h5.len h5.as h5.ss⟩
   ·subst hi
    obtain rfl:fs=[19]:=by cases h; rfl
    match ps,hl with
    | [a], _ =>
      obtain⟨l,rfl,h1,h2⟩:=(ih 0 19 a rfl rfl).2.1 rfl
      exact⟨l,rfl,h1,h2⟩
theorem c7i (p:PV) (h:Sh D 20 p):∃x:Node,p=yL x∧NF x:=by
 obtain⟨ps,rfl,hq⟩:=Sh.inv_struct (D:=D) (fs:=[0,8,8,8,12,18,10,10]) rfl h
 match ps,hq with
 | [a, b, c, d, e, f, g, k], ⟨ha, hb, hc, hd, he, hf, hg, hk, _⟩ =>
   obtain⟨n,rfl,_⟩:=FF a ha
   obtain⟨i,rfl,i1,i2⟩:=CG JV rfl (by decide) b hb
   obtain⟨o,rfl,o1,o2⟩:=CG JV rfl (by decide) c hc
   obtain⟨l,rfl,l1,l2⟩:=CG JV rfl (by decide) d hd
   obtain⟨q,rfl,q1,q2⟩:=CG Sa rfl (by decide) e he
   obtain⟨au,rfl,a1⟩:=(c2q 18 f hf).2.2.2 rfl
   obtain⟨s,rfl,s1,s2⟩:=CG JW rfl (by decide) g hg
   obtain⟨r,rfl,r1,r2⟩:=CG JW rfl (by decide) k hk
   exact⟨⟨n,i,o,l,q,au,s,r⟩,rfl,⟨by show i.length≤_; omega,i2,by show o.length≤_; omega,o2,by show l.length≤_; omega,l2,by show q.length≤_; omega,q2,a1,by show s.length≤_; omega,s2,by show r.length≤_; omega,r2⟩⟩
theorem c7j (p:PV) (h:Sh D 22 p):∃x:Prog,p=zA x∧PF x:=by
 obtain⟨ps,rfl,hq⟩:=Sh.inv_struct (D:=D) (fs:=[4,21]) rfl h
 match ps,hq with
 | [a, b], ⟨ha, hb, _⟩ =>
   obtain⟨e,rfl,e1,e2⟩:=CG c7h rfl (by decide) a ha
   obtain⟨n,rfl,n1,n2⟩:=CG c7i rfl (by decide) b hb
   exact⟨⟨e,n⟩,rfl,⟨by show e.length≤_; omega,λu hu=>by have:=e2 u hu; omega,by show n.length≤_; omega,n2⟩⟩
theorem DF.dw {d:Decl} (h:DF d) (hp:d.parts≤1100000):DW d:=⟨h.type,by unfold Decl.parts at hp; omega,h.on⟩
theorem QF.qw {q:Eqn} (h:QF q) (hp:q.parts≤1100000):QW q:=⟨by unfold Eqn.parts at hp; omega,⟨by unfold Eqn.parts at hp; omega,h.right⟩⟩
theorem C0 {α:Type} (f:α→Nat) (h1:∀x,1≤f x) {l:List α} (h:yE f l≤1100000):l.length≤1100000∧∀x∈l,f x≤1100000:=
 ⟨aH (JL f h1 l) h,λx hx=>aH (Ei f hx) h⟩
theorem JX (d:Decl):1≤d.parts:=by unfold Decl.parts; omega
theorem Sd (q:Eqn):1≤q.parts:=by unfold Eqn.parts; omega
theorem Se (t:Trn):1≤t.parts:=by unfold Trn.parts; omega
theorem d03 (s:State):1≤s.parts:=by cases s; simp only[State.parts]; omega
theorem Sf {l:List (List State)} (h:B1 l≤1100000):l.length≤1100000∧(∀a∈l,a.length≤1100000)∧∀a∈l,∀x∈a,x.parts≤1100000:=by
 rw[G9] at h
 obtain⟨h1,h2⟩:=C0 (λa:List State=>1+yE State.parts a) (λa=>by omega) h
 refine⟨h1,λa ha =>?_,λa ha x hx =>?_⟩
 ·have:1+yE State.parts a≤1100000:=h2 a ha
  have h3:=JL State.parts d03 a
  omega
 ·have:1+yE State.parts a≤1100000:=h2 a ha
  have h3:=Ei State.parts hx
  omega
theorem SF.sw {s:State} (h:SF s) (hp:s.parts≤1100000):SW s:=by
 induction s using State.ind with
 | h s ih =>
   have e:=State.parts_eq s
   obtain⟨a1,a2⟩:=C0 Decl.parts JX (l:=s.locals) (by omega)
   obtain⟨b1,b2⟩:=C0 Eqn.parts Sd (l:=s.eqs) (by omega)
   obtain⟨c1,c2⟩:=C0 Trn.parts Se (l:=s.unl) (by omega)
   obtain⟨d1,d2⟩:=C0 Trn.parts Se (l:=s.til) (by omega)
   obtain⟨e1,e2,e3⟩:=Sf (l:=s.autos) (by omega)
   exact .mk s a1 (λd hd=>(h.ls d hd).dw (a2 d hd)) b1 (λq hq=>(h.es q hq).qw (b2 q hq)) c1 (λt ht=>⟨by have:=c2 t ht; unfold Trn.parts at this; omega,h.us t ht⟩) d1 (λt ht=>⟨by have:=d2 t ht; unfold Trn.parts at this; omega,h.ts t ht⟩) e1 e2 (λa ha x hx=>ih a ha x hx (h.ss a ha x hx) (e3 a ha x hx))
theorem NF.nw {n:Node} (h:NF n) (hp:n.parts≤1100000):NW n:=by
 have e:n.parts=1+yE Decl.parts n.ins+yE Decl.parts n.outs+yE Decl.parts n.locals+yE Eqn.parts n.eqs+yE (λe=>1+Expr.parts e) n.assume+yE (λe=>1+Expr.parts e) n.ensure+B1 n.autos:=rfl
 obtain⟨a1,a2⟩:=C0 Decl.parts JX (l:=n.ins) (by omega)
 obtain⟨b1,b2⟩:=C0 Decl.parts JX (l:=n.outs) (by omega)
 obtain⟨c1,c2⟩:=C0 Decl.parts JX (l:=n.locals) (by omega)
 obtain⟨d1,d2⟩:=C0 Eqn.parts Sd (l:=n.eqs) (by omega)
 obtain⟨f1,f2⟩:=C0 (λe=>1+Expr.parts e) (λx=>by omega) (l:=n.assume) (by omega)
 obtain⟨g1,g2⟩:=C0 (λe=>1+Expr.parts e) (λx=>by omega) (l:=n.ensure) (by omega)
 obtain⟨e1,e2,e3⟩:=Sf (l:=n.autos) (by omega)
 exact⟨a1,λd hd=>(h.is d hd).dw (a2 d hd),b1,λd hd=>(h.os d hd).dw (b2 d hd),c1,λd hd=>(h.ls d hd).dw (c2 d hd),d1,λq hq=>(h.es q hq).qw (d2 q hq),⟨e1,e2,λa ha x hx=>(h.autos.ss a ha x hx).sw (e3 a ha x hx)⟩,
  f1,λx hx=>⟨by have:1+x.parts≤1100000:=f2 x hx; omega,h.as x hx⟩,g1,λx hx=>⟨by have:1+x.parts≤1100000:=g2 x hx; omega,h.gs x hx⟩⟩
theorem PF.pw {p:Prog} (h:PF p) (hs:parts p≤1100000):PW p:=by
 have kP:=hs
 unfold parts at hs
 obtain⟨a1,a2⟩:=C0 Enum.parts (λu=>by unfold Enum.parts; omega) (l:=p.enums) (by omega)
 obtain⟨b1,b2⟩:=C0 Node.parts (λu=>by unfold Node.parts; omega) (l:=p.nodes) (by omega)
 exact⟨a1,λu hu=>by have:=a2 u hu; unfold Enum.parts at this; omega,b1,λn hn=>(h.ns n hn).nw (b2 n hn)⟩
theorem CH {α:Type} (g:α→PV) (f:α→Nat) (h:∀x,f x≤wt (g x)):∀l:List α,yE f l≤wts (l.map g)
 | []=>am _
 | x :: l => by
   have:=h x
   have:=CH g f h l
   simp only[yE,aA,wts]; omega
theorem JY {α:Type} (g:α→PV) (f:α→Nat):∀l:List α,(∀x∈l,f x≤wt (g x))→yE f l≤wts (l.map g)
 | [],_=>am _
 | x :: l, h => by
   have:=h x (by simp)
   have:=JY g f l (λy hy=>h y (by simp[hy]))
   simp only[yE,aA,wts]; omega
theorem JZ {α:Type} (g:α→PV) (h:∀x,1≤wt (g x)):∀l:List α,l.length≤wts (l.map g)
 | []=>am _
 | x :: l => by
   have:=h x
   have:=JZ g h l
   simp only[aB,aA,wts]; omega
theorem NA (p:PV):1≤wt p:=by cases p<;>simp[wt]
theorem NB (e:Expr):e.parts+1≤wt (yq e):=by
 induction e using Expr.ind with
 | h e ih =>
   have h1:=JY yq Expr.parts e.args (λx hx=>by have:=ih x hx; omega)
   rw[parts_eq,Ds]
   simp only[wt,wts]
   omega
theorem J0 (d:Decl):d.parts≤wt (yw d):=by
 have h1:=JZ eOn (λx=>NA _) d.clock
 unfold Decl.parts yw
 simp only[wt,wts]
 omega
theorem c7k (u:Enum):u.parts≤wt (yG u):=by
 have h1:=JZ PV.str (λx=>NA _) u.tags
 unfold Enum.parts yG
 simp only[wt,wts]
 omega
theorem Sg (e:Expr):e.parts≤1+wts (e.args.map yq):=by
 have h1:=CH yq Expr.parts (λx=>by have:=NB x; omega) e.args
 rw[parts_eq]; omega
theorem Si (q:Eqn):q.parts≤wt (yZ q):=by
 have h1:=JZ PV.str (λx=>NA _) q.left
 have h2:=Sg q.right
 unfold Eqn.parts
 rw[Hz]
 simp only[wt,wts]
 omega
theorem Sj (t:Trn):t.parts≤wt (zF t):=by
 have h2:=Sg t.cond
 unfold Trn.parts
 rw[HA]
 simp only[wt,wts]
 omega
theorem Sk (l:List (List State)) (h:∀a∈l,∀x∈a,x.parts≤wt (yQ x)):B1 l≤wts (l.map zk):=by
 rw[G9]
 refine JY zk _ l λa ha =>?_
 have h1:=JY yQ State.parts a (h a ha)
 unfold zk
 simp only[wt,wts]
 omega
theorem c4x (s:State):s.parts≤wt (yQ s):=by
 induction s using State.ind with
 | h s ih =>
   have h1:=CH yw Decl.parts J0 s.locals
   have h2:=CH yZ Eqn.parts Si s.eqs
   have h3:=CH zF Trn.parts Sj s.unl
   have h4:=CH zF Trn.parts Sj s.til
   have h5:=Sk s.autos ih
   rw[State.parts_eq,Dt]
   simp only[wt,wts]
   omega
theorem c7l (n:Node):n.parts≤wt (yL n):=by
 have h1:=CH yw Decl.parts J0 n.ins
 have h2:=CH yw Decl.parts J0 n.outs
 have h3:=CH yw Decl.parts J0 n.locals
 have h4:=CH yZ Eqn.parts Si n.eqs
 have h5:=Sk n.autos (λ_ _ x _=>c4x x)
 have h6:=CH yq (λe=>1+Expr.parts e) (λx=>by have:=NB x; omega) n.assume
 have h7:=CH yq (λe=>1+Expr.parts e) (λx=>by have:=NB x; omega) n.ensure
 unfold Node.parts
 rw[MP]
 simp only[wt,wts]
 omega
theorem c7m (p:Prog):parts p≤wt (zA p):=by
 have h1:=CH yG Enum.parts c7k p.enums
 have h2:=CH yL Node.parts c7l p.nodes
 unfold parts
 rw[MQ]
 simp only[wt,wts]
 omega
end PI.Sc
set_option linter.unusedSimpArgs false
set_option linter.unusedVariables false
namespace PI
open Go Go.RowKit Go.Shelf Go.Proofs
section
variable {N:Nm} {P:Program} {ρ:Ren}
theorem Tw {w w':World} {G:GS} (h:Below w.heap.size w w') (fQ:∀b o,G.fix b o→b<w.heap.size):Ext w G w' G:=
 ⟨h.os,h.tape,h.output,h.size,λb hb _=>h.block b hb,λb o hf=>⟨hf,by simp only[World.cell?,h.block b (fQ b o hf)]⟩,λ_ _ h => .inl h,λ_ h => .inr h,λ_ _ h=>h,.same λk hk=>h.block k hk,rfl⟩
theorem b5V {w w':World} {G:GS} {hp:List PObj} (h:Below w.heap.size w w') (hb:Between N w G hp):Between N w' G hp:=by
 refine⟨hb.only,λb o hf=>aP (hb.fixlt b o hf) h.size,λb k ho=>aP (hb.owlt b k ho) h.size,?_,hb.hdom⟩
 exact hb.heap.keep (K:=λ_=>False) (Tw h hb.fixlt) ⟨λb k ho _=>⟨ho,h.block b (hb.owlt b k ho),λ_ h=>h⟩,λ_ _ h=>h⟩ (λ_ _ h=>h)
theorem c2W {k:Nat} {vals:Array Value} {w:World} {G:GS} {hp:List PObj} {r:PV} (hb:Between N w G hp) {R:Ending→World→Prop} (hc:Calls P (N.fn k) vals w R)
  (hR:∀e w',R e w'→∃v,e = .returned v∧VR N w' G.fix G.heap v r∧Below w.heap.size w w'):
  Calls P (N.fn k) vals w λe w'=>∃v G',e = .returned v∧VR N w' G'.fix G'.heap v r∧Ext w G w' G'∧Between N w' G' hp:=by
 refine hc.mono ?_
 intro e w' h
 obtain⟨v,rfl,h1,h2⟩:=hR e w' h
 exact⟨v,G,rfl,h1,Tw h2 hb.fixlt,b5V h2 hb⟩
theorem two {vals:Array Value} {p q:PV} {w:World} {G:GS} (dj:vals.size=[p,q].length) (di:∀(i:Nat) (v:Value) (x:PV),vals[i]? = some v→[p,q][i]? = some x→VR N w G.fix G.heap v x):
  ∃v u,vals = #[v,u]∧VR N w G.fix G.heap v p∧VR N w G.fix G.heap u q:=by
 obtain⟨l⟩:=vals
 match l,dj with
 | [v,u],_=>exact⟨v,u,rfl,di 0 v p rfl rfl,di 1 u q rfl rfl⟩
theorem c08 {w:World} {fix:Nat→Nat→Prop} {hp:Nat→Option Nat} {v:Value} {s:List UInt8} (h:VR N w fix hp v (.str s)):v = .string ⟨s.toArray⟩:=by
 cases h with
 | str s=>cases s; simp
theorem b7q {k:Nat} (hk:N.fn k=ρ.f 217) (L:Lays.n217 P ρ):EQ N P k Jt:=by
 intro args r h h' hg w G vals ef dj di
 unfold Jt at hg
 split at hg
 ·simp only[aa,ac] at hg
  obtain⟨rfl,rfl⟩:=hg
  obtain⟨v,u,rfl,hv,hu⟩:=two dj di
  have:=c08 hv; subst this
  cases hu
  refine c2W ef (hk▸Any.stringslite_IndexByte L _ _ w) ?_
  rintro e w' ⟨rfl,rfl⟩
  exact⟨_,rfl,by simpa using VR.int (N:=N) (w:=w') (fix:=G.fix) (hp:=G.heap) _ _,Below.refl _ _⟩
 ·simp at hg
end
end PI
set_option linter.unusedSimpArgs false
set_option linter.unusedVariables false
namespace PI
open Go Go.RowKit Go.Shelf Go.Proofs Go.Sort
section
variable {N:Nm} {P:Program} {ρ:Ren}
theorem Tx:∀{cs:List PV} {zs:List Int},Fv cs=some zs→cs=zs.map (PV.int .i64)
 | [],zs,h=>by simp[Fv] at h; subst h; rfl
 | e :: es, zs, h => by
   unfold Fv at h
   split at h
   ·rename_i h0; simp at h0
   ·rename_i n r h0
    simp only[bF] at h0
    obtain⟨rfl,rfl⟩:=h0
    simp only[ab] at h
    obtain⟨ys,h1,rfl⟩:=h
    rw[Tx h1]; rfl
   ·simp at h
theorem Ty {w:World} {fix:Nat→Nat→Prop} {hp:Nat→Option Nat}:VR N w fix hp (.tuple #[]) (.tuple []) := .tuple _ _ rfl (by intro i c p hc hp; simp at hc)
theorem c7G {k:Nat} (hk:N.fn k=ρ.f 189) (L:Lays.n189 P ρ):EQ N P k Fj:=by
 intro args r h h' hg w G vals ef dj di
 unfold Fj at hg
 split at hg
 ·rename_i n len
  split at hg
  ·rename_i cs d9
   split at hg
   ·rename_i cY
    simp only[ab,ac] at hg
    obtain⟨zs,iq,rfl,rfl⟩:=hg
    rw[c2V]
    have hz:=Tx iq
    have kD:zs.length=len:=by
     have:=aL List.length hz
     simp at this; omega
    obtain⟨l⟩:=vals
    match l,dj with
    | [v],_=>
    have hv:=di 0 v _ rfl rfl
    cases hv with
    | rowp _ _ _ _ b cap hb dl ep=>
    rcases ef.heap.1 n _ d9 with hx|⟨b',k1,k2,f,cv,T,a1,a2,a3⟩
    ·simp at hx
    have:b'=b:=by rw[hb] at k1; simpa using k1.symm
    subst this
    have fK:b'<w.heap.size:=(aX.1 a1).1
    have lQ:cv.toList.take zs.length=zs.map (Value.int .i64):=by
     apply bO
     intro j
     by_cases hj:j<zs.length
     ·rw[cD hj,bM]
      have h1:cs[j]? = some (.int .i64 zs[j]):=by
       have:=aL (λl=>l[j]?) hz
       simp only[aF,an hj,aC] at this
       rw[cD (by omega)] at this
       exact this
      have oO:j<cv.size:=by omega
      have h2:=(a3 j cv[j] _ (by simp[oO]) h1).1
      generalize cv[j]'oO=c at h2
      have h3:cv[j]? = some cv[j]:=by simp[oO]
      have h4:=(a3 j cv[j] _ (by simp[oO]) h1).1
      generalize hc:cv[j]=c4 at h4 h3
      cases h4
      rw[h3]
      simp[hj]
     ·rw[List.getElem?_take_eq_none (by omega),cL (by simp; omega)]
    have hH:=holds_of_blockI a1 lQ
    have hc:=Any.slices_Sort_int L b' 0 cap zs w hH fK (by rw[kD]; exact cY.2)
    rw[kD] at hc
    refine(hk▸hc).mono ?_
    rintro e w' ⟨rfl,m,os,rfl⟩
    let ts:=zs.mergeSort λx y=>decide (x≤y)
    have pU:ts.length=len:=by rw[← kD]; exact List.length_mergeSort _
    have qX:=grownBy_sortedI (w:=w) (g:=b') (n:=m) (os:=os) ts.toArray
    have mP:=heap_sortedI (n:=m) (os:=os) ts.toArray a1
    generalize iz:grow (putRow (Value.int .i64) (Sort.ahead w m) b' 0 ts.toArray) os=w' at qX mP
    obtain⟨g1,g2,g3,g4,g5⟩:=qX
    have gw:∀x,x<w.heap.size→x≠b'→w'.heap[x]? = w.heap[x]? := λx hx dh=>g5 x hx (by simpa using dh)
    have eW:(putCells (Value.int .i64) 0 ts.toArray cv).size=cv.size:=by simp[putCells]
    have jN:ShapeLe w w' := .one b' (λx hx dh=>gw x hx dh) (λs hs=>by
     simp only[World.shape?,a1] at hs
     simp only[World.shape?,mP,eW]
     exact hs) (λs hs=>by rw[Ow a1] at hs; simp at hs)
    have cX:Ext w G w' G:=by
     refine⟨g1,g2,g3,g4,?_,?_,λ_ _ h => .inl h,λ_ h => .inr h,λ_ _ h=>h,jN,rfl⟩
     ·intro x hx ho
      exact gw x hx (by rintro rfl; rw[k2] at ho; simp at ho)
     ·intro x o hf
      refine⟨hf,?_⟩
      have dh:x≠b':=by rintro rfl; exact f o hf
      simp only[World.cell?,gw x (ef.fixlt x o hf) dh]
    have db:zu (λk=>k = .hobj n) w G w' G:=by
     refine⟨?_,λ_ _ h=>h⟩
     intro x kx hx dh
     refine⟨hx,gw x (ef.owlt x kx hx) ?_,λ_ h=>h⟩
     rintro rfl
     rw[k2] at hx
     simp only[aa] at hx
     exact dh hx.symm
    refine⟨_,G,rfl,Ty,cX,?_⟩
    refine⟨ef.only,λx o hf=>aP (ef.fixlt x o hf) g4,λx kx hx=>aP (ef.owlt x kx hx) g4,?_,λm x hx=>by simpa using ef.hdom m x hx⟩
    refine ef.heap.keepBut cX db (by intro n' k' dh; simp[dh]) ?_
    intro jy
    refine .inr ⟨b',hb,k2,f,_,T,mP,?_,?_⟩
    ·rw[eW]
     have h0:=cY.1
     simp only[ao,aG,cm]
     show ts.length+_≤_
     omega
    ·intro j c x hc hx
     have mj:j<cv.size:=by rw[← eW]; exact(aX.1 hc).1
     by_cases hj:j<len
     ·have mr:j<ts.length:=by omega
      rw[al (by rw[aG]; exact mr)] at hx
      simp only[aF,ab] at hx
      obtain⟨z,fw,rfl⟩:=hx
      have fw:ts[j]? = some z:=fw
      have:c = .int .i64 z:=by
       simp[putCells,mj,mr] at hc
       rw[an mr] at fw
       simp only[aa] at fw
       rw[← hc,fw]
      subst this
      exact⟨.int _ _,rfl,True.intro⟩
     ·have mr:ts.length≤j:=by omega
      rw[aq (by rw[aG]; exact mr)] at hx
      simp only[aG,bc] at hx
      have hx:cs[len+(j - ts.length)]? = some x:=hx
      rw[show len+(j - ts.length)=j by omega] at hx
      have gU:cv[j]? = some c:=by
       simp[putCells,mj,show ¬j<ts.length by omega] at hc
       simp[mj,hc]
      exact(a3 j c x gU hx).keep cX db (by simp)
   ·simp at hg
  ·simp at hg
 ·rename_i o
  simp only[aa,ac] at hg
  obtain⟨rfl,rfl⟩:=hg
  obtain⟨l⟩:=vals
  match l,dj with
  | [v],_=>
  have hv:=di 0 v _ rfl rfl
  obtain⟨p,cap,rfl⟩:∃p cap,v = .slice p 0 cap:=by
   cases hv with
   | nils=>exact⟨none,0,rfl⟩
   | void _ a cap=>exact⟨some a,cap,rfl⟩
   | list _ b off len cap sz _ cv cY dl _ _ _ _=>simp at cY; subst cY; exact⟨_,cap,rfl⟩
  refine(hk▸Any.slices_Sort_int_none L p cap w).mono ?_
  rintro e w' ⟨rfl,rfl⟩
  exact⟨_,G,rfl,Ty,Ext.refl _ _,ef⟩
 ·simp at hg
end
end PI
