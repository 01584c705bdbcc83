import Derived.Test.YtljbhgpanekomaaGreatPiCaSpec
import Derived.Test.YtljbhgpanekomaaGreatPiBase
import Derived.Test.YtljbhgpanekomaaGreatPiCaCode
import Derived.Test.YtljbhgpanekomaaGreatPiLaw
import Derived.Carry
import Derived.ChangeSame
import Derived.OpenShut
import Derived.Test.YtljbhgpanekomaaGreatPiFunc
import Derived.Shelf.Strings.OnBuilder
import Derived.Shelf.Strings.BuilderK
import Derived.Shelf.Strings.Search1
import Derived.Shelf.Strconv.Itoa3
import Derived.Shelf.Strconv.ErrVarAll
import Derived.Shelf.Sort.Plain
import Derived.Shelf.Slices.In.SortNone
import Derived.Sort.OwnSortedInts
set_option maxRecDepth 100000
set_option linter.unusedSimpArgs false
set_option linter.unusedVariables false
set_option linter.unusedSectionVars false
namespace PI.Sc
open Go (IntKind BinOp UnOp)
open Short
section
variable {L:Nat→Option PFunc} (hL:∀k f,LS k=some f→L k=some f) (en:List Enum) (ns:List Node) (a b:Int) (ents:zJ)
include hL
theorem c0W (k:Nat) (dl:NodesIn ents ns k) (s:Place) (fm:s.before=ns.take k) (dX:Db ents s.tags) (l:List (List State)) (hl:l.length≤1100000) (hq:∀x∈l,GT L en ns a b ents x) (h:List PObj) (h2:h[2]? = some (yv ents)) (h3:h[3]? = some (yo en ns a b)) (q' n o d:Nat) (i dv up:PV) (f:Fr) (fs:List Fr) (t:TopAt h h.length q' n o d i dv up f fs) (dC:∀x,zn (f::fs) x=true↔x∈s.vis)
  (d0:List Str) (hD:f.D=f.df) (dI:∀x,(x∈f.I∨A6 fs x=true)↔(x∈s.inputs∨x∈d0)) (jE:f.df.length+(zj l).length≤4000000)
  (V2 V4 V5 V6 V7 V8 V9 V10 V11 V12 V13 V14 V18 V19 V20:PV) (g:Nat) {Q:PExit→St→Prop}
  (ok:(zc s (d0++f.df) l).1=0→∀h' dv' df' y7 g',Kp q' h h'→(zc s (d0++f.df) l).2=d0++df'→TopAt h' h'.length q' n o d i dv' up { f with D:=df',df:=df' } fs→Q (.exit 4) ⟨[.ptr 3 0,.int .i64 k,V2,.ptr n 0,V4,V5,V6,y7,V8,V9,V10,V11,V12,V13,V14,.list false (l.map yS),.int .i64 l.length,.int .i64 l.length,V18,V19,V20],[],g',h'⟩)
  (no:(zc s (d0++f.df) l).1≠0→∀h' W g',Kp q' h h'→Q (.boom (zA 1 a b (zc s (d0++f.df) l).1)) ⟨W,[],g',h'⟩):
  wpL L KV ⟨[.ptr 3 0,.int .i64 k,V2,.ptr n 0,V4,V5,V6,V7,V8,V9,V10,V11,V12,V13,V14,.list false (l.map yS),.int .i64 l.length,.int .i64 0,V18,V19,V20],[],g,h⟩ Q:=by
 have _:=hL
 rw[KV]
 refine yK l.length (λj st=>∃y7 g' h' dv' df',st=⟨[.ptr 3 0,.int .i64 k,V2,.ptr n 0,V4,V5,V6,y7,V8,V9,V10,V11,V12,V13,V14,.list false (l.map yS),.int .i64 l.length,.int .i64 j,V18,V19,V20],[],g',h'⟩∧Kp q' h h'∧TopAt h' h'.length q' n o d i dv' up { f with D:=df',df:=df' } fs∧zc s (d0++f.df) l=zc s (d0++df') (l.drop j)∧df'.length+(zj (l.drop j)).length=f.df.length+(zj l).length) ?_ ?_ ⟨_,_,h,dv,f.df,rfl,Kp.refl _ _,by rw[Fr.same hD]; exact t,rfl,rfl⟩
 ·rintro j hj st ⟨y7,g',h',dv',df',rfl,dg,ht,dm,cS⟩ ih
  have hw:=yn j (by omega)
  have eu:h'[2]? = some (yv ents):=(dg.2 2 (by have:=ht.four; omega)).trans h2
  have eU:h'[3]? = some (yo en ns a b):=(dg.2 3 (by have:=ht.four; omega)).trans h3
  have rY:(zj (l.drop j)).length=(zj [l[j]]).length+(zj (l.drop (j+1))).length:=by
   rw[a8 hj,Fh,Fh]; simp[zj]
  obtain⟨h'',hx,fD,lD⟩:=hq _ (ak hj) k dl s fm dX h' eu eU q' n o d i dv' up _ fs ht (by intro x; exact dC x) d0 rfl dI (by simp only; omega)
  simp only at hx lD
  rw[a8 hj,KW] at dm
  by_cases hz:(AX s (d0++df') l[j]).1=0
  ·obtain⟨dv'',df'',eJ,gM⟩:=lD hz
   have iR:zc s (d0++f.df) l=zc s (d0++df'') (l.drop (j+1)):=by
    rw[dm]
    unfold z8
    rw[ai hz]
    exact aI (λz=>zc s z (l.drop (j+1))) eJ
   have ej:df''.length=df'.length+(zj [l[j]]).length:=by
    rw[O7 hz] at eJ
    have:=aI List.length eJ
    simp at this
    omega
   rw[hz] at hx
   simp[ym] at hx
   simp[hj,hx,hw]
   exact ih _ ⟨_,_,h'',dv'',df'',rfl,dg.trans fD,gM,iR,by omega⟩
  ·rw[BZ hz] at dm
   simp[ym,hz] at hx
   simp[hj,hx]
   have:=no (by rw[dm]; exact hz) h''
   rw[dm] at this
   exact this _ _ (dg.trans fD)
 ·rintro st ⟨y7,g',h',dv',df',rfl,dg,ht,dm,cS⟩
  rw[bk (an _)] at dm
  simp
  exact ok (by rw[dm]; simp[zc]) h' dv' df' y7 g' dg (by rw[dm]; simp[zc]) ht
theorem c0X (l:List Decl) (hl:l.length≤3300000) (h:List PObj) (h3:h[3]? = some (yo en ns a b)) (q q' n o d:Nat) (i dv up:PV) (f:Fr) (fs:List Fr) (t:TopAt h q q' n o d i dv up f fs)
  (V1 V2 V4 V5 V6 V7 V8 V9 V10 V11 V12 V13 V14 V15 V16 V17:PV) (g:Nat) {Q:PExit→St→Prop}
  (ok:(∀x∈yd l,x∈f.D)→∀y8 g',Q (.exit 6) ⟨[.ptr 3 0,V1,V2,.ptr n 0,V4,V5,V6,V7,y8,V9,V10,V11,V12,V13,V14,V15,V16,V17,.list false (l.map yi),.int .i64 l.length,.int .i64 l.length],[],g',h⟩)
  (no:¬(∀x∈yd l,x∈f.D)→∀W g',Q (.boom (zA 1 a b 8)) ⟨W,[],g',h⟩):
  wpL L KX ⟨[.ptr 3 0,V1,V2,.ptr n 0,V4,V5,V6,V7,V8,V9,V10,V11,V12,V13,V14,V15,V16,V17,.list false (l.map yi),.int .i64 l.length,.int .i64 0],[],g,h⟩ Q:=by
 have hT:=DB hL en ns a b h h3 8
 have hF:=DC hL en ns a b h h3 8
 have hn:=t.hn
 have hd:=t.hd
 rw[KX]
 refine yK l.length (λj st=>∃y8 g',st=⟨[.ptr 3 0,V1,V2,.ptr n 0,V4,V5,V6,V7,y8,V9,V10,V11,V12,V13,V14,V15,V16,V17,.list false (l.map yi),.int .i64 l.length,.int .i64 j],[],g',h⟩∧∀x∈yd (l.take j),x∈f.D) ?_ ?_ ⟨_,_,rfl,by simp[yd]⟩
 ·rintro j hj st ⟨y8,g',rfl,el⟩ ih
  have hw:=yn j (by omega)
  obtain⟨r,hr,ft,_⟩:=Da l[j].name f.D
  have gN:yd (l.take (j+1))=yd (l.take j)++[l[j].name]:=by rw[AB hj,IP hL]; rfl
  by_cases hx:l[j].name∈f.D
  ·simp[hx] at ft
   obtain⟨c,rfl⟩:=ft
   simp[hj,hn,hd,hr,zi,hT,hw]
   refine ih _ ⟨_,_,rfl,?_⟩
   rw[gN]
   intro x hm
   rcases ay.1 hm with h1|h1
   ·exact el x h1
   ·rw[aP.1 h1]; exact hx
  ·simp[hx] at ft
   subst ft
   simp[hj,hn,hd,hr,zi,hF]
   exact no (λdJ=>hx (dJ _ (by unfold yd; exact bc.2 ⟨_,ak hj,rfl⟩))) _ _
 ·rintro st ⟨y8,g',rfl,el⟩
  rw[aC] at el
  simp
  exact ok el _ _
end
theorem TopAt.low {h:List PObj} {b b' n o d:Nat} {i dv up:PV} {f:Fr} (t:TopAt h b b' n o d i dv up f []) (k:Nat) (hk:k<4) (ob:PObj):TopAt (h.set k ob) b b' n o d i dv up f []:=by
 have key:∀j,4≤j→(h.set k ob)[j]? = h[j]? := λj hj=>af (by omega)
 have h4:=t.four
 exact⟨t.ln,t.lo,t.ld,t.un,t.uo,t.ud,t.no,t.nd,t.od,t.four,(key _ (by have:=t.ln; omega)).trans t.hn,(key _ (by have:=t.lo; omega)).trans t.ho,(key _ (by have:=t.ld; omega)).trans t.hd,t.hi.imp id (fun⟨m,e1,e2,e3,e4,e5,e6,e7⟩=>⟨m,e1,e2,e3,e4,e5,e6,(key _ (by omega)).trans e7⟩),t.row.imp id (fun⟨k,e1,e2,e3,e4⟩=>⟨k,e1,e2,e3,(key _ (by omega)).trans e4⟩),t.rne,t.hup⟩
def IU (ents:zJ) (ns:List Node) (i:Nat):Prop:=∀x,((1:Int),x)∈AY ents↔x∈(ns.take i).map (·.name)
section
variable {L:Nat→Option PFunc} (hL:∀k f,LS k=some f→L k=some f) (en:List Enum) (ns:List Node) (a b:Int) (ents:zJ)
include hL
theorem c7t (i:Nat) (hi:i<ns.length) (eN:ns.length≤1100000) (hn:NW ns[i]) (pD:ns[i].parts≤1100000) (fw:∀d∈ns[i].ins++ns[i].outs,d.clock=[]) (tags:List Str) (dX:Db ents tags) (dl:NodesIn ents ns i) (ki:IU ents ns i) (h:List PObj) (h4:4≤h.length) (h2:h[2]? = some (yv ents)) (h3:h[3]? = some (yo en ns a b)):
  ∃h',yy L 29 [.ptr 3 0,.int .i64 i] h=some (zM 1 (AZ (ns.take i) tags ns[i]),h')∧h'[0]? = h[0]?∧h'[1]? = h[1]?∧4≤h'.length∧(AZ (ns.take i) tags ns[i]=none→h'[2]? = some (yv (ents++[((1,ns[i].name),(i:Int))]))∧h'[3]? = some (yo en ns i (-1))):=by
 obtain⟨N,hN⟩:∃N,N=ns[i]:=⟨_,rfl⟩
 rw[← hN] at hn pD fw ⊢
 have cS:(ns.take i).length=i:=by simp; omega
 obtain⟨R,hR⟩:∃R,R=AZ (ns.take i) tags N:=⟨_,rfl⟩
 rw[← hR]
 suffices H:∃res,yy L 29 [.ptr 3 0,.int .i64 i] h=some res∧∃h',res=(zM 1 R,h')∧h'[0]? = h[0]?∧h'[1]? = h[1]?∧4≤h'.length∧(R=none→h'[2]? = some (yv (ents++[((1,N.name),(i:Int))]))∧h'[3]? = some (yo en ns i (-1))) by
  obtain⟨res,e1,h',e2,e3⟩:=H
  exact⟨h',by rw[e1,e2],e3⟩
 have mE:h[3]? = some (.cells [.list false (en.map yu),.list false (ns.map yx),.int .i64 a,.int .i64 b,.map (some 2)]):=h3
 have hA:∀X:PObj,(h++[X])[3]? = some (.cells [.list false (en.map yu),.list false (ns.map yx),.int .i64 a,.int .i64 b,.map (some 2)]):=λX=>by rw[al (by omega)]; exact mE
 obtain⟨H1,fE⟩:∃H1,(h++[PObj.cells [.str N.name,.list false (N.ins.map yi),.list false (N.outs.map yi),.list false (N.locals.map yi),.list false (N.eqs.map yI),.list false (N.autos.map yS),.list false (N.assume.map ye),.list false (N.ensure.map ye)]]).set 3 (PObj.cells [.list false (en.map yu),.list false (ns.map yx),.int .i64 i,.int .i64 (-1),.map (some 2)])=H1:=⟨_,rfl⟩
 have H1l:H1.length=h.length+1:=by rw[← fE]; simp
 have H1k:∀k,k<h.length→k≠3→H1[k]? = h[k]? := λk h1 h2=>by rw[← fE,af (Ne.symm h2),al h1]
 have H13:H1[3]? = some (yo en ns i (-1)):=by rw[← fE,ar (by simp; omega)]; rfl
 have H12:H1[2]? = some (yv ents):=(H1k 2 (by omega) (by decide)).trans h2
 have H1n:H1[h.length]? = some (.cells [.str N.name,.list false (N.ins.map yi),.list false (N.outs.map yi),.list false (N.locals.map yi),.list false (N.eqs.map yI),.list false (N.autos.map yS),.list false (N.assume.map ye),.list false (N.ensure.map ye)]):=by rw[← fE,af (by omega)]; simp
 have pE:∀d∈vars N,DW d:=by
  intro d hd
  unfold vars at hd
  rcases ay.1 hd with hd|hd
  ·rcases ay.1 hd with hd|hd
   ·exact hn.is d hd
   ·exact hn.os d hd
  ·exact hn.ls d hd
 have nb:(vars N).length≤3300000:=by have:=hn.ins; have:=hn.outs; have:=hn.locals; simp[vars]; omega
 by_cases lS:N.name∈(ns.take i).map (·.name)
 ·have vN:R=some ⟨i,-1,7⟩:=by rw[hR]; unfold AZ; rw[ai lS,cS]
  have dV:=KY hL en ns i (-1) H1 H13 ents H12 (1,N.name) i ((ki _).2 lS)
  have fF:Bp (1,N.name) = .agg [.int .i64 1,.str N.name]:=rfl
  rw[fF] at dV
  refine DA (hL 29 _ rfl) rfl ?_
  simp[FS,mE,hi,← hN,hA,fE,H1n,dV,vN,zM]
  exact⟨H1k 0 (by omega) (by decide),H1k 1 (by omega) (by decide),by omega⟩
 have dV:=KZ hL en ns i (-1) H1 H13 ents H12 (1,N.name) i (λhh=>lS ((ki _).1 hh))
 have fF:Bp (1,N.name) = .agg [.int .i64 1,.str N.name]:=rfl
 rw[fF] at dV
 obtain⟨ents',kF⟩:∃e,e=ents++[((1,N.name),(i:Int))]:=⟨_,rfl⟩
 rw[← kF] at dV ⊢
 obtain⟨H3,kE⟩:∃H3,H3=H1.set 2 (yv ents'):=⟨_,rfl⟩
 rw[← kE] at dV
 have H3l:H3.length=h.length+1:=by rw[kE]; simpa using H1l
 have H3k:∀k,k<H1.length→k≠2→H3[k]? = H1[k]? := λk h1 h2=>by rw[kE,af (Ne.symm h2)]
 have H32:H3[2]? = some (yv ents'):=by rw[kE,ar (by omega)]
 have H33:H3[3]? = some (yo en ns i (-1)):=(H3k 3 (by omega) (by decide)).trans H13
 have H3n:=(H3k h.length (by omega) (by omega)).trans H1n
 have H30:H3[0]? = h[0]? := (H3k 0 (by omega) (by decide)).trans (H1k 0 (by omega) (by decide))
 have H31:H3[1]? = h[1]? := (H3k 1 (by omega) (by decide)).trans (H1k 1 (by omega) (by decide))
 have pF:Db ents' tags:=by
  intro x
  rw[kF,← dX x]
  simp[AY]
 have kG:NodesIn ents' ns i:=by
  have jR:∀x:Str,At (1,x) ents'=(At (1,x) ents).or (if x=N.name then some (i:Int) else none):=by
   intro x
   rw[kF]
   generalize ents=l
   induction l with
   | nil=>by_cases hx:x=N.name<;>simp[At,hx]
   | cons y l ih =>
     simp only[aK,At]
     by_cases hy:((1:Int),x)=y.1
     ·rw[ai hy,ai hy]; rfl
     ·rw[ae hy,ae hy]; exact ih
  intro x
  have hx:=dl x
  cases hc:callee (ns.take i) x with
  | none =>
    rw[hc] at hx
    simp only at hx ⊢
    intro c fc
    rw[jR] at fc
    cases he:At (1,x) ents with
    | some z =>
      rw[he] at fc
      have fc:z=c:=by simpa using fc
      subst fc
      exact hx z he
    | none =>
      rw[he] at fc
      rw[Option.none_or] at fc
      split at fc
      ·have:(i:Int)=c:=by simpa using fc
       omega
      ·simp at fc
  | some m =>
    rw[hc] at hx
    obtain⟨j,e1,e2,e3⟩:=hx
    exact⟨j,by rw[jR,e1]; rfl,e2,e3⟩
 obtain⟨H4,dI,H4l,K4,t4⟩:=O1 hL H3 (by omega)
 obtain⟨H5,oK⟩:∃H5,(H4++[PObj.map []]).set (H3.length+2) (PObj.cells [.nilptr,.map (some H3.length),.map (some (H3.length+1)),.map (some H4.length),.list true []])=H5:=⟨_,rfl⟩
 have e5:(H4++[PObj.map []])[H3.length+2]? = some (.cells [.nilptr,.map (some H3.length),.map (some (H3.length+1)),.map none,.list true []]):=by rw[al (by omega)]; exact t4.hn
 have t5:=t4.newI rfl rfl
 rw[oK] at t5
 have H5l:H5.length=H4.length+1:=by rw[← oK]; simp
 rw[← H5l] at t5
 have K5:Kp H3.length H3 H5:=by
  refine⟨by omega,λk hk =>?_⟩
  rw[← oK,af (by omega),al (by omega)]
  exact K4.2 k hk
 have at5:∀{H:List PObj},Kp H3.length H3 H→H[2]? = some (yv ents')∧H[3]? = some (yo en ns i (-1))∧H[0]? = h[0]?∧H[1]? = h[1]?∧4≤H.length∧H[h.length]? = some (.cells [.str N.name,.list false (N.ins.map yi),.list false (N.outs.map yi),.list false (N.locals.map yi),.list false (N.eqs.map yI),.list false (N.autos.map yS),.list false (N.assume.map ye),.list false (N.ensure.map ye)]):=λ{H} hk=>
  ⟨(hk.2 2 (by omega)).trans H32,(hk.2 3 (by omega)).trans H33,(hk.2 0 (by omega)).trans H30,(hk.2 1 (by omega)).trans H31,by have:=hk.1; omega,(hk.2 _ (by omega)).trans H3n⟩
 obtain⟨a52,a53,a50,a51,a54,a5n⟩:=at5 K5
 obtain⟨hv,v1⟩:=O8 hL N hn.ins hn.outs hn.locals (λd hd=>(pE d hd).clock)
 obtain⟨H6,O,iA,K6,H6l,t6,rZ⟩:=O9 hL en ns i (-1) ents' tags pF (vars N) nb false H5 a52 a53 _ _ _ _ _ _ _ _ _ _ t5 [] (λx=>by simp[zn])
 have K6':=K5.trans K6
 obtain⟨a62,a63,a60,a61,a64,a6n⟩:=at5 K6'
 have hE:AZ (ns.take i) tags N=if (Aa [] tags (vars N)).1≠0 then some ⟨i,-1,(Aa [] tags (vars N)).1⟩ else match AM ⟨ns.take i,(Aa [] tags (vars N)).2,yd N.ins,tags⟩ N.eqs 0 [] with
   | .inl (k,e)=>some ⟨i,k,e⟩
   | .inr d =>
     if (zc ⟨ns.take i,(Aa [] tags (vars N)).2,yd N.ins,tags⟩ d N.autos).1≠0 then some ⟨i,-1,(zc ⟨ns.take i,(Aa [] tags (vars N)).2,yd N.ins,tags⟩ d N.autos).1⟩
     else if yj (λe=>yZ ⟨ns.take i,yd N.ins,yd N.ins,tags⟩ e 1) N.assume≠0 then some ⟨i,-1,yj (λe=>yZ ⟨ns.take i,yd N.ins,yd N.ins,tags⟩ e 1) N.assume⟩
     else if yj (λe=>yZ ⟨ns.take i,yd N.ins++yd N.outs,yd N.ins,tags⟩ e 1) N.ensure≠0 then some ⟨i,-1,yj (λe=>yZ ⟨ns.take i,yd N.ins++yd N.outs,yd N.ins,tags⟩ e 1) N.ensure⟩
     else if zk (yd N.outs++yd N.locals) (zc ⟨ns.take i,(Aa [] tags (vars N)).2,yd N.ins,tags⟩ d N.autos).2=[] then none else some ⟨i,-1,8⟩:=by
  unfold AZ
  rw[ae lS,cS]
  rfl
 rw[hE] at hR
 refine DA (hL 29 _ rfl) rfl ?_
 by_cases oL:(zw tags (vars N) []).1=0
 ·obtain⟨r5,hO6⟩:=rZ oL
  obtain⟨vis,dC⟩:∃vis,vis=(zw tags (vars N) []).2:=⟨_,rfl⟩
  rw[← dC] at r5
  have kH:=Pa hL en ns i (-1) N.locals (by have:=hn.locals; omega) hn.ls false H6 a63 _ _ _ t6.holds vis r5
  have lE:CX vis (vars N)=CX vis N.locals:=by
   unfold CX vars
   rw[Pb]
   have:yj (λd:Decl=>yj (λo:On=>need (decide (o.name∈vis)) 6) d.clock) (N.ins++N.outs)=0:=Bz.2 λd hd=>by rw[fw d hd]; rfl
   rw[this]; rfl
  have r6:Aa [] tags (vars N)=(CX vis N.locals,vis):=by
   unfold Aa z8
   rw[ai oL,← dC]
   exact aI (λz=>(z,vis)) lE
  rw[r6] at hR
  rw[oL] at iA
  simp[ym] at iA
  by_cases r7:CX vis N.locals=0
  ·rw[r7] at hR kH
   simp only[ne_eq,bA,if_false] at hR
   simp[ym] at kH
   obtain⟨S,hS⟩:∃S:Place,S=⟨ns.take i,vis,yd N.ins,tags⟩:=⟨_,rfl⟩
   rw[← hS] at hR
   simp[FS,mE,hi,← hN,hA,fE,H1n,dV,dI,e5,oK,a5n,v1,iA,a6n,kH]
   have t6':TopAt H6 H5.length H3.length (H3.length+2) H3.length (H3.length+1) (.map (some H4.length)) (.list true []) .nilptr ⟨O,[],[],[]⟩ []:=t6
   have r8:N.parts=1+yr Decl.parts N.ins+yr Decl.parts N.outs+yr Decl.parts N.locals+yr Eqn.parts N.eqs+yr (λe=>1+Expr.parts e) N.assume+yr (λe=>1+Expr.parts e) N.ensure+B0 N.autos:=rfl
   have nf:=K0 N.eqs
   have hdp:=K1 N.autos (λa ha x hx=>IV x)
   refine c0U hL N.ins hn.ins H6 H5.length H3.length _ _ _ H4.length _ _ _ [] t6' rfl _ _ _ _ _ _ _ _ _ _ _ _ _ _ _ _ _ _ ?_
   intro y4 g7 H7 I H7l K7 t7 hI
   obtain⟨a72,a73,a70,a71,a74,a7n⟩:=at5 (K6'.trans K7)
   have H7l':H5.length=H7.length:=by omega
   rw[H7l'] at t7
   have t7':TopAt H7 H7.length H3.length (H3.length+2) H3.length (H3.length+1) (.map (some H4.length)) (.list true []) .nilptr ⟨O,[],I,[]⟩ []:=t7
   have kj:∀D df x,zn [(⟨O,D,I,df⟩:Fr)] x=true↔x∈S.vis:=λD df x=>by have:=r5 x; rw[hS]; simpa[zn] using this
   simp[a7n]
   refine c0V hL en ns ents' i kG S (by rw[hS]) N.eqs hn.eqs hn.es H7 a72 (-1) a73 H3.length _ _ _ _ _ _ _ t7' (kj _ _) rfl (λx=>by rw[hS]; exact hI x) (by simp only[bo]; omega) rfl _ _ _ _ _ _ _ _ _ _ _ _ _ _ _ _ ?_ ?_
   ·intro df fj y5 y6 g8 H8 c8 dv8 K8 vO t8
    rw[fj] at hR
    simp only at hR
    have vP:df.length≤1100000:=by
     have h1:=((DD S N.eqs [] df).1 ((GU S N.eqs 0 [] df).1 fj)).1
     rw[h1,bg]; omega
    have r9:H8[3]? = some (.cells [.list false (en.map yu),.list false (ns.map yx),.int .i64 i,.int .i64 c8,.map (some 2)]):=vO
    obtain⟨H9,rk⟩:∃H9,H8.set 3 (PObj.cells [.list false (en.map yu),.list false (ns.map yx),.int .i64 i,.int .i64 (-1),.map (some 2)])=H9:=⟨_,rfl⟩
    have K9:Kp H3.length H7 H9:=by rw[← rk]; exact K8
    have t9:TopAt H9 H9.length H3.length (H3.length+2) H3.length (H3.length+1) (.map (some H4.length)) dv8 .nilptr ⟨O,df,I,df⟩ []:=by
     have:=t8.low 3 (by decide) (PObj.cells [.list false (en.map yu),.list false (ns.map yx),.int .i64 i,.int .i64 (-1),.map (some 2)])
     rw[rk] at this
     have hl:H8.length=H9.length:=by rw[← rk]; simp
     rw[hl] at this
     exact this
    obtain⟨a92,a93,a90,a91,a94,a9n⟩:=at5 ((K6'.trans K7).trans K9)
    simp[r9,rk,a9n]
    refine c0W hL en ns i (-1) ents' i kG S (by rw[hS]) (by rw[hS]; exact pF) N.autos hn.autos.len (λx hx=>c5n hL en ns i (-1) ents' x (hn.autos.as x hx) (hn.autos.ss x hx) (λy hy=>by
     have h1:DE x≤B0 N.autos:=by
      rw[GV,FT]
      have:=D9 (λa=>1+yr State.parts a) hx
      omega
     have h2:y.parts≤DE x:=by rw[FT]; exact D9 _ hy
     omega)) H9 a92 a93 H3.length _ _ _ _ _ _ _ [] t9 (kj _ _) [] rfl (λx=>by rw[hS]; simp[A6,hI]) (by simp only; omega) _ _ _ _ _ _ _ _ _ _ _ _ _ _ _ _ ?_ ?_
    ·intro hz kI dv10 df10 y7 g10 K10 mF t10
     simp only[bg] at hz mF
     have t10':TopAt kI kI.length H3.length (H3.length+2) H3.length (H3.length+1) (.map (some H4.length)) dv10 .nilptr ⟨O,df10,I,df10⟩ []:=t10
     rw[hz,mF] at hR
     simp only[ne_eq,bA,if_false] at hR
     have K10':=((K6'.trans K7).trans K9).trans K10
     obtain⟨a102,a103,a100,a101,a104,a10n⟩:=at5 K10'
     obtain⟨H11,c11,K11⟩:=O3 hL en ns i (-1) ents' i kG ⟨ns.take i,yd N.ins,yd N.ins,tags⟩ rfl N.assume hn.assume hn.as [N.ins] (by simp) (by simp[zX,yr]; have:=hn.ins; omega) (λx=>by simp) false false kI a104 a102 a103
     have mG:As yi [N.ins]=[.list false (N.ins.map yi)]:=rfl
     rw[mG] at c11
     have K11':=K10'.trans (K11.le K10'.1)
     by_cases nh:yj (λe=>yZ ⟨ns.take i,yd N.ins,yd N.ins,tags⟩ e 1) N.assume=0
     ·rw[nh] at hR c11
      simp only[bA,if_false] at hR
      simp[ym] at c11
      obtain⟨a112,a113,a110,a111,a114,a11n⟩:=at5 K11'
      obtain⟨H12,c12,K12⟩:=O3 hL en ns i (-1) ents' i kG ⟨ns.take i,yd N.ins++yd N.outs,yd N.ins,tags⟩ rfl N.ensure hn.ensure hn.gs [N.ins,N.outs] (by simp) (by simp[zX,yr]; have:=hn.ins; have:=hn.outs; omega) (λx=>by simp[yd]) false false H11 a114 a112 a113
      have lF:As yi [N.ins,N.outs]=[.list false (N.ins.map yi),.list false (N.outs.map yi)]:=rfl
      rw[lF] at c12
      have K12':=K11'.trans (K12.le K11'.1)
      by_cases ni:yj (λe=>yZ ⟨ns.take i,yd N.ins++yd N.outs,yd N.ins,tags⟩ e 1) N.ensure=0
      ·rw[ni] at hR c12
       simp only[bA,if_false] at hR
       simp[ym] at c12
       obtain⟨a122,a123,a120,a121,a124,a12n⟩:=at5 K12'
       have t12:=t10'.keep (K11.trans (K12.le K11.1)).2
       have sa:N.ins.length≤(vars N).length:=by simp[vars]
       have pG:List.drop N.ins.length (List.take (vars N).length (List.map yi (vars N)))=(N.outs++N.locals).map yi:=by
        rw[bQ (by simp),← List.map_drop]
        congr 1
        simp[vars]
       obtain⟨G,hG⟩:∃G,G=N.outs++N.locals:=⟨_,rfl⟩
       have vQ:yd G=yd N.outs++yd N.locals:=by rw[hG,IP hL]
       have vR:G.length≤3300000:=by rw[hG]; have:=hn.outs; have:=hn.locals; simp; omega
       rw[← hG] at pG
       rw[← vQ] at hR
       simp[a10n,c11,a11n,c12,a12n,v1,sa,pG]
       refine c0X hL en ns i (-1) G vR H12 a123 _ _ _ _ _ _ _ _ _ _ t12 _ _ _ _ _ _ _ _ _ _ _ _ _ _ _ _ _ ?_ ?_
       ·intro dJ y8 g'
        rw[ai (FU.2 dJ)] at hR
        simp[hR,zM]
        exact⟨a120,a121,a124,a122,a123⟩
       ·intro dJ W g'
        rw[ae (λhh=>dJ (FU.1 hh))] at hR
        simp[hR,zM]
        exact⟨a120,a121,a124⟩
      ·rw[ai ni] at hR
       simp[ym,ni] at c12
       simp[a10n,c11,a11n,c12,hR,zM]
       obtain⟨_,_,b0,b1,b4,_⟩:=at5 K12'
       exact⟨b0,b1,b4⟩
     ·rw[ai nh] at hR
      simp[ym,nh] at c11
      simp[a10n,c11,hR,zM]
      obtain⟨_,_,b0,b1,b4,_⟩:=at5 K11'
      exact⟨b0,b1,b4⟩
    ·intro hz h' W g' K'
     simp only[bg] at hz
     rw[ai hz] at hR
     obtain⟨b2,b3,b0,b1,b4,bn⟩:=at5 (((K6'.trans K7).trans K9).trans K')
     simp[hR,zM]
     exact⟨b0,b1,b4⟩
   ·intro k e mH W g' H' K'
    rw[mH] at hR
    simp only at hR
    obtain⟨b2,b3,b0,b1,b4,bn⟩:=at5 ((K6'.trans K7).trans K')
    rw[af (by decide)] at b0 b1
    simp[hR,zM]
    exact⟨b0,b1,by simpa using b4⟩
  ·simp only[ne_eq,r7,cH,if_true] at hR
   simp[ym,r7] at kH
   simp[FS,mE,hi,← hN,hA,fE,H1n,dV,dI,e5,oK,a5n,v1,iA,a6n,kH,hR,zM]
   exact⟨a60,a61,a64⟩
 ·have r6:(Aa [] tags (vars N)).1=(zw tags (vars N) []).1:=by unfold Aa z8; rw[ae oL]
  rw[r6,ai oL] at hR
  simp[ym,oL] at iA
  simp[FS,mE,hi,← hN,hA,fE,H1n,dV,dI,e5,oK,a5n,v1,iA,hR,zM]
  exact⟨a60,a61,a64⟩
end
structure EnumKeys (ents:zJ) (T Nm:List Str):Prop where
 tags:∀x,((0:Int),x)∈AY ents↔x∈T
 nodes:∀x,((1:Int),x)∉AY ents
 types:∀x,((2:Int),x)∈AY ents↔x∈Nm
theorem EnumKeys.tag {ents:zJ} {T Nm:List Str} (h:EnumKeys ents T Nm) (s:Str) (i:Int):EnumKeys (ents++[((0,s),i)]) (T++[s]) Nm:=by
 have hk:∀k,k∈AY (ents++[(((0:Int),s),i)])↔k∈AY ents∨k=(0,s):=by simp[AY]
 refine⟨λx =>?_,λx =>?_,λx =>?_⟩
 ·rw[hk,h.tags]; simp
 ·rw[hk]; simp[h.nodes x]
 ·rw[hk,h.types]; simp
theorem EnumKeys.type {ents:zJ} {T Nm:List Str} (h:EnumKeys ents T Nm) (s:Str) (i:Int):EnumKeys (ents++[((2,s),i)]) T (Nm++[s]):=by
 have hk:∀k,k∈AY (ents++[(((2:Int),s),i)])↔k∈AY ents∨k=(2,s):=by simp[AY]
 refine⟨λx =>?_,λx =>?_,λx =>?_⟩
 ·rw[hk,h.tags]; simp
 ·rw[hk]; simp[h.nodes x]
 ·rw[hk,h.types]; simp
section
variable {L:Nat→Option PFunc} (hL:∀k f,LS k=some f→L k=some f) (en:List Enum) (ns:List Node)
include hL
theorem b8K (i:Nat) (l:List Str) (hl:l.length≤1100000) (T Nm:List Str) (hT:T.Nodup) (ents:zJ) (hk:EnumKeys ents T Nm) (c0 c1:PObj) (V0 V1 V2 V3 V4 V5 V8 V9 V10 V11 V12 V13 V14 V18 V19:PV) (g:Nat) {Q:PExit→St→Prop}
  (ok:(T++l).Nodup→∀y9 ents',EnumKeys ents' (T++l) Nm→Q (.exit 2) ⟨[V0,V1,V2,V3,V4,V5,.ptr 3 0,.int .i64 i,V8,y9,V10,V11,V12,V13,V14,.list false (l.map .str),.int .i64 l.length,.int .i64 l.length,V18,V19],[],g,[c0,c1,yv ents',yo en ns (-1) (-1)]⟩)
  (no:¬(T++l).Nodup→∀W o2 o3,W[2]? = some V2→W[3]? = some V3→Q (.boom (zA 1 (-1) (-1) 7)) ⟨W,[],g,[c0,c1,o2,o3]⟩):
  wpL L K2 ⟨[V0,V1,V2,V3,V4,V5,.ptr 3 0,.int .i64 i,V8,V9,V10,V11,V12,V13,V14,.list false (l.map .str),.int .i64 l.length,.int .i64 0,V18,V19],[],g,[c0,c1,yv ents,yo en ns (-1) (-1)]⟩ Q:=by
 rw[K2]
 refine yK l.length (λj st=>∃y9 ents',st=⟨[V0,V1,V2,V3,V4,V5,.ptr 3 0,.int .i64 i,V8,y9,V10,V11,V12,V13,V14,.list false (l.map .str),.int .i64 l.length,.int .i64 j,V18,V19],[],g,[c0,c1,yv ents',yo en ns (-1) (-1)]⟩∧EnumKeys ents' (T++l.take j) Nm∧∀k (hk:k<l.length),k<j→l[k]∉T++l.take k) ?_ ?_ ⟨_,ents,rfl,by simpa using hk,λk _ h=>by omega⟩
 ·rintro j hj st ⟨y9,ents',rfl,hk,el⟩ ih
  have hw:=yn j (by omega)
  by_cases hd:l[j]∈T++l.take j
  ·have dV:=KY hL en ns (-1) (-1) [c0,c1,yv ents',yo en ns (-1) (-1)] rfl ents' rfl (0,l[j]) i ((hk.tags _).2 hd)
   have fF:Bp (0,l[j]) = .agg [.int .i64 0,.str l[j]]:=rfl
   rw[fF] at dV
   simp[hj,dV]
   exact no (λhn=>(Pc.1 hn).2 j hj hd) _ _ _ rfl rfl
  ·have dV:=KZ hL en ns (-1) (-1) [c0,c1,yv ents',yo en ns (-1) (-1)] rfl ents' rfl (0,l[j]) i (λhh=>hd ((hk.tags _).1 hh))
   have fF:Bp (0,l[j]) = .agg [.int .i64 0,.str l[j]]:=rfl
   have dn:[c0,c1,yv ents',yo en ns (-1) (-1)].set 2 (yv (ents'++[((0,l[j]),(i:Int))]))=[c0,c1,yv (ents'++[((0,l[j]),(i:Int))]),yo en ns (-1) (-1)]:=rfl
   rw[fF,dn] at dV
   simp[hj,dV,hw]
   refine ih _ ⟨_,_,rfl,?_,λk eO vS =>?_⟩
   ·rw[AB hj,← aN]; exact hk.tag _ _
   ·by_cases he:k=j
    ·subst he; exact hd
    ·exact el k eO (by omega)
 ·rintro st ⟨y9,ents',rfl,hk,el⟩
  rw[aC] at hk
  simp
  exact ok (Pc.2 ⟨hT,λk hk=>el k hk hk⟩) _ _ hk
theorem b8L (he:en.length≤1100000) (pH:∀u∈en,u.tags.length≤1100000) (c0 c1:PObj) (V0 V1 V2 V3 V4 V5 V7 V8 V9 V10 V11 V15 V16 V17 V18 V19:PV) (g:Nat) {Q:PExit→St→Prop}
  (ok:DG en=true→∀y7 y8 y9 y15 y16 y17 g' ents',EnumKeys ents' (Bq en) (en.map (·.name))→Q (.exit 0) ⟨[V0,V1,V2,V3,V4,V5,.ptr 3 0,y7,y8,y9,V10,V11,.list false (en.map yu),.int .i64 en.length,.int .i64 en.length,y15,y16,y17,V18,V19],[],g',[c0,c1,yv ents',yo en ns (-1) (-1)]⟩)
  (no:DG en=false→∀W g' o2 o3,W[2]? = some V2→W[3]? = some V3→Q (.boom (zA 1 (-1) (-1) 7)) ⟨W,[],g',[c0,c1,o2,o3]⟩):
  wpL L K3 ⟨[V0,V1,V2,V3,V4,V5,.ptr 3 0,V7,V8,V9,V10,V11,.list false (en.map yu),.int .i64 en.length,.int .i64 0,V15,V16,V17,V18,V19],[],g,[c0,c1,yv [],yo en ns (-1) (-1)]⟩ Q:=by
 have pI:∀j (hj:j<en.length),Ea en j en[j]=false→DG en=false:=by
  intro j hj h1
  cases h:DG en with
  | false=>rfl
  | true=>rw[Pd.1 h j hj] at h1; simp at h1
 rw[K3]
 refine yK en.length (λj st=>∃y7 y8 y9 y15 y16 y17 g' ents',st=⟨[V0,V1,V2,V3,V4,V5,.ptr 3 0,y7,y8,y9,V10,V11,.list false (en.map yu),.int .i64 en.length,.int .i64 j,y15,y16,y17,V18,V19],[],g',[c0,c1,yv ents',yo en ns (-1) (-1)]⟩∧EnumKeys ents' (Bq (en.take j)) ((en.take j).map (·.name))∧∀k (hk:k<en.length),k<j→Ea en k en[k]=true) ?_ ?_ ⟨_,_,_,_,_,_,_,[],rfl,⟨by simp[AY,Bq],by simp[AY],by simp[AY]⟩,λk _ h=>by omega⟩
 ·rintro j hj st ⟨y7,y8,y9,y15,y16,y17,g',ents',rfl,hk,el⟩ ih
  have hw:=yn j (by omega)
  have vT:=pH _ (ak hj)
  by_cases hd:en[j].name∈(en.take j).map (·.name)
  ·have dV:=KY hL en ns (-1) (-1) [c0,c1,yv ents',yo en ns (-1) (-1)] rfl ents' rfl (2,en[j].name) j ((hk.types _).2 hd)
   have fF:Bp (2,en[j].name) = .agg [.int .i64 2,.str en[j].name]:=rfl
   rw[fF] at dV
   simp[hj,dV]
   exact no (pI j hj (by unfold Ea; simp only[cm]; exact λh=>h.1 hd)) _ _ _ _ rfl rfl
  ·have dV:=KZ hL en ns (-1) (-1) [c0,c1,yv ents',yo en ns (-1) (-1)] rfl ents' rfl (2,en[j].name) j (λhh=>hd ((hk.types _).1 hh))
   have fF:Bp (2,en[j].name) = .agg [.int .i64 2,.str en[j].name]:=rfl
   have dn:[c0,c1,yv ents',yo en ns (-1) (-1)].set 2 (yv (ents'++[((2,en[j].name),(j:Int))]))=[c0,c1,yv (ents'++[((2,en[j].name),(j:Int))]),yo en ns (-1) (-1)]:=rfl
   rw[fF,dn] at dV
   simp[hj,dV]
   refine b8K hL en ns j en[j].tags vT (Bq (en.take j)) ((en.take j).map (·.name)++[en[j].name]) (c1j (by omega) el) _ (hk.type _ _) c0 c1 _ _ _ _ _ _ _ _ _ _ _ _ _ _ _ _ ?_ ?_
   ·intro dl y9' ents'' dq
    simp[hw]
    refine ih _ ⟨_,_,_,_,_,_,_,_,rfl,?_,λk eO vS =>?_⟩
    ·rw[IW hj,AB hj,bh]; exact dq
    ·by_cases mH:k=j
     ·subst mH
      unfold Ea
      simp only[av]
      exact⟨hd,dl⟩
     ·exact el k eO (by omega)
   ·intro dl W o2 o3 sb sc
    simp
    exact no (pI j hj (by unfold Ea; simp only[cm]; exact λh=>dl h.2)) _ _ _ _ sb sc
 ·rintro st ⟨y7,y8,y9,y15,y16,y17,g',ents',rfl,hk,el⟩
  rw[aC] at hk
  simp
  exact ok (Pd.2 λk hk=>el k hk hk) _ _ _ _ _ _ _ _ hk
end
theorem b5H {en:List Enum} {n:Node} (h:AC en n=0):∀d∈n.ins++n.outs,d.clock=[]:=by
 unfold AC at h
 simp only[Br] at h
 obtain⟨_,_,_,h1,h2,_⟩:=h
 have key:∀d,A0 en true d=0→d.clock=[]:=by
  intro d hd
  unfold A0 at hd
  simp only[Br] at hd
  obtain⟨_,_,h3,_⟩:=hd
  refine co λhn =>?_
  simp[need,hn] at h3
 intro d hd
 rcases ay.1 hd with hd|hd
 ·exact key d (Bz.1 h1 d hd)
 ·exact key d (Bz.1 h2 d hd)
theorem b8M {p:Prog} (h:Ba p=none):∀n∈p.nodes,∀d∈n.ins++n.outs,d.clock=[]:=by
 unfold Ba at h
 split at h
 ·simp at h
 ·split at h
  ·simp at h
  ·intro n hn
   exact b5H (b7c.1 ((Pe p.enums p.nodes 0).1 h n hn 0)).1
theorem NodesIn.step {ents:zJ} {ns:List Node} {i:Nat} (hi:i<ns.length) (h:NodesIn ents ns i) (hk:IU ents ns i) (hd:ns[i].name∉(ns.take i).map (·.name)):
  NodesIn (ents++[((1,ns[i].name),(i:Int))]) ns (i+1)∧IU (ents++[((1,ns[i].name),(i:Int))]) ns (i+1):=by
 have jR:∀x:Str,At (1,x) (ents++[((1,ns[i].name),(i:Int))])=(At (1,x) ents).or (if x=ns[i].name then some (i:Int) else none):=by
  intro x
  generalize ents=l
  induction l with
  | nil=>by_cases hx:x=ns[i].name<;>simp[At,hx]
  | cons y l ih =>
    simp only[aK,At]
    by_cases hy:((1:Int),x)=y.1
    ·rw[ai hy,ai hy]; rfl
    ·rw[ae hy,ae hy]; exact ih
 have lT:∀x,callee (ns.take (i+1)) x=(callee (ns.take i) x).or (if ns[i].name=x then some ns[i] else none):=by
  intro x
  unfold callee
  rw[AB hi,List.find?_append]
  congr 1
  by_cases hx:ns[i].name=x<;>simp[hx]
 constructor
 ·intro x
  have hx:=h x
  rw[lT]
  cases hc:callee (ns.take i) x with
  | some m =>
    rw[hc] at hx
    obtain⟨j,e1,e2,e3⟩:=hx
    exact⟨j,by rw[jR,e1]; rfl,by omega,e3⟩
  | none =>
    have iS:((1:Int),x)∉AY ents:=by
     rw[hk]
     unfold callee at hc
     rw[List.find?_eq_none] at hc
     intro hm
     obtain⟨n,h1,h2⟩:=bc.1 hm
     exact hc n h1 (by simpa using h2)
    have lG:=Fi.2 iS
    by_cases oM:ns[i].name=x
    ·rw[ai oM]
     exact⟨i,by rw[jR,lG,ai oM.symm]; rfl,by omega,am hi⟩
    ·rw[ae oM]
     intro c fc
     rw[jR,lG,ae (λe=>oM e.symm)] at fc
     simp at fc
 ·intro x
  rw[AB hi,bh,ay,← hk x]
  simp[AY]
section
variable {L:Nat→Option PFunc} (hL:∀k f,LS k=some f→L k=some f)
include hL
theorem rec27 (a b e:Int) (h:List PObj) (w1 w2 c:Int) (h0:h[0]? = some (.cells [.int .i64 w1,.int .i64 w2])) (h1:h[1]? = some (.cells [.int .i64 c])):Ar L 27 [zA 1 a b e,.ptr 0 0,.ptr 1 0] h=some ((h.set 0 (.cells [.int .i64 a,.int .i64 b])).set 1 (.cells [.int .i64 e])):=by
 unfold Ar
 rw[hL 27 _ rfl]
 simp[La,CL,zA,h0,h1]
theorem d1c (h:List PObj):Ar L 27 [.nilIface,.ptr 0 0,.ptr 1 0] h=some h:=by
 unfold Ar
 rw[hL 27 _ rfl]
 simp[La,CL]
theorem c4D (p:Prog) (hp:PW p) (hs:parts p≤1100000):∃h',x8 L 8 [zh p] []=some (A7 (BN (Bs p)),h'):=by
 suffices H:∃r,x8 L 8 [zh p] []=some r∧r.1=A7 (BN (Bs p)) by
  obtain⟨⟨v,h'⟩,h1,h2⟩:=H
  exact⟨h',by rw[h1]; simp only at h2; rw[h2]⟩
 refine Pf (hL 8 _ rfl) rfl ?_
 obtain⟨vU,ec⟩:=c5l hL p hp
 unfold Bs
 cases hS:Ba p with
 | some b =>
   have nj:=b87 hS
   rw[hS] at ec
   simp only[BN,Option.getD_some,A7] at ec ⊢
   simp[IX,ec,nj,yB,yh]
 | none =>
   have fw:=b8M hS
   rw[hS] at ec
   simp only[BN,Option.getD_none,Eb,A7] at ec
   simp only
   obtain⟨RES,eB⟩:∃RES,RES=(if DG p.enums then Bb (Bq p.enums) [] p.nodes else some (⟨-1,-1,7⟩:Bad)):=⟨_,rfl⟩
   rw[← eB]
   simp[IX,ec]
   rw[Pg (cs:=[.ptr 0 0,.ptr 1 0]) _ _ _ rfl (by simp)]
   have dY:PObj.cells [PV.list false (p.enums.map yu),PV.list false (p.nodes.map yx),.int .i64 (-1),.int .i64 (-1),.map (some 2)]=yo p.enums p.nodes (-1) (-1):=rfl
   have nk:PObj.map []=yv []:=rfl
   have gH:(PV.map (some 2)).cells=[.map (some 2)]:=rfl
   have fx:=hp.nodes
   simp[gH,dY,nk]
   refine b8L hL p.enums p.nodes hp.enums hp.tags _ _ _ _ _ _ _ _ _ _ _ _ _ _ _ _ _ _ _ ?_ ?_
   ·intro de y7 y8 y9 y15 y16 y17 g' ents' hk
    rw[ai de] at eB
    simp
    rw[Ph]
    refine yK p.nodes.length (λj st=>∃y10 h' ents a b,st=⟨[zh p,.loc 0 [.list false (p.enums.map yu),.list false (p.nodes.map yx)],.ptr 0 0,.ptr 1 0,.loc 1 [.int .i64 0,.int .i64 0],.int .i64 0,.ptr 3 0,y7,y8,y9,y10,.ptr 3 0,.list false (p.enums.map yu),.int .i64 p.enums.length,.int .i64 p.enums.length,y15,y16,y17,.int .i64 p.nodes.length,.int .i64 j],[],g',h'⟩ ∧
     h'[0]? = some (.cells [.int .i64 0,.int .i64 0])∧h'[1]? = some (.cells [.int .i64 0])∧4≤h'.length∧h'[2]? = some (yv ents)∧h'[3]? = some (yo p.enums p.nodes a b)∧Db ents (Bq p.enums)∧NodesIn ents p.nodes j∧IU ents p.nodes j∧RES=Bb (Bq p.enums) (p.nodes.take j) (p.nodes.drop j)) ?_ ?_
     ⟨_,_,ents',-1,-1,rfl,rfl,rfl,by simp,rfl,rfl,hk.tags,λx=>by
      have:At (1,x) ents'=none:=Fi.2 (hk.nodes x)
      simp[callee,this],λx=>by simp[hk.nodes x],by simpa using eB⟩
    ·rintro j hj st ⟨y10,h',ents,a,b,rfl,e0,e1,e4,e2,e3,dX,dl,ki,hR⟩ ih
     have hw:=yn j (by omega)
     rw[a8 hj] at hR
     have pD:p.nodes[j].parts≤1100000:=by
      have:=D9 Node.parts (ak hj)
      unfold parts at hs; omega
     obtain⟨h2,hx,k0,k1,k4,kn⟩:=c7t hL p.enums p.nodes a b ents j hj hp.nodes (hp.ns _ (ak hj)) pD (fw _ (ak hj)) (Bq p.enums) dX dl ki h' e4 e2 e3
     cases hN:AZ (p.nodes.take j) (Bq p.enums) p.nodes[j] with
     | none =>
       have hd:p.nodes[j].name∉(p.nodes.take j).map (·.name):=by
        intro hm
        unfold AZ at hN
        rw[ai hm] at hN
        simp at hN
       obtain⟨n2,n3⟩:=NodesIn.step hj dl ki hd
       obtain⟨q2,q3⟩:=kn hN
       rw[hN] at hx
       simp only[Bb,hN] at hR
       rw[← AB hj] at hR
       simp[zM] at hx
       simp[hj,hx,hw]
       refine ih _ ⟨_,h2,_,_,_,rfl,k0.trans e0,k1.trans e1,k4,q2,q3,λx =>?_,n2,n3,hR⟩
       rw[← dX x]
       simp[AY]
     | some bd =>
       rw[hN] at hx
       simp only[Bb,hN] at hR
       have eo:=rec27 hL bd.node bd.eq bd.err h2 0 0 0 (k0.trans e0) (k1.trans e1)
       have jF:0<h2.length:=by omega
       have d8:1<h2.length:=by omega
       simp[zM] at hx
       simp[hj,hx,eo,hR,BN,A7,yh,jF,d8]
       rfl
    ·rintro st ⟨y10,h',ents,a,b,rfl,e0,e1,e4,e2,e3,dX,dl,ki,hR⟩
     rw[bk (an _)] at hR
     simp only[Bb] at hR
     have eo:=d1c hL h'
     have jF:0<h'.length:=by omega
     have d8:1<h'.length:=by omega
     have nn:h'.set 0 (.cells [.int .i64 0,.int .i64 0])=h':=Cu e0
     have kJ:h'.set 1 (.cells [.int .i64 0])=h':=Cu e1
     simp[e0,e1,nn,kJ,eo,hR,BN,Eb,A7,yh]
     rfl
   ·intro de W g' o2 o3 sb sc
    rw[de] at eB
    simp only[aL,if_false] at eB
    have eo:=rec27 hL (-1) (-1) 7 [.cells [.int .i64 0,.int .i64 0],.cells [.int .i64 0],o2,o3] 0 0 0 rfl rfl
    simp[eo,eB,BN,A7,yh,sb,sc]
    rfl
end
section
variable {L:Nat→Option PFunc} (hL:∀k f,LS k=some f→L k=some f)
include hL
theorem c7L (n:Node) (h:List PObj):x8 L 212 [yx n] h=some (.bool (!decide (n.autos=[])),h):=by
 refine yp (hL 212 _ rfl) rfl ?_
 have:(0<n.autos.length)↔¬n.autos=[]:=by cases n.autos<;>simp
 simp[Mh,this]
theorem c4S (p:Prog) (hn:p.nodes.length≤2000000000) (h:List PObj):x8 L 201 [zh p] h=some (.bool (plain p),h):=by
 obtain⟨P,hP⟩:∃P:Node→Bool,∀n,P n = !decide (n.autos=[]):=⟨_,λ_=>rfl⟩
 have hi:x8 L 115 [.list false (p.nodes.map yx),.func 212 [] []] []=some (.int .i64 (CN P p.nodes),[]):=by
  refine yp (hL 115 _ rfl) rfl ?_
  simp[Jb]
  rw[Pw]
  refine yK p.nodes.length (λj st=>∃y3,st=⟨[.list false (p.nodes.map yx),.func 212 [] [],.int .i64 0,y3,.int .i64 p.nodes.length,.int .i64 j],[],0,[]⟩∧∀i (hi:i<p.nodes.length),i<j→P p.nodes[i]=false) ?_ ?_ ⟨_,rfl,λi _ hi=>by omega⟩
  ·rintro j hj st ⟨y3,rfl,gI⟩ ih
   have hw:=yn j (by omega)
   have hc:x8 L 212 [yx p.nodes[j]] []=some (.bool (P p.nodes[j]),[]):=by rw[hP]; exact c7L hL p.nodes[j] []
   cases hp:P p.nodes[j] with
   | false =>
     rw[hp] at hc
     simp[hj,hw,hc]
     refine ih _ ⟨_,rfl,λi hi mJ =>?_⟩
     by_cases he:i=j
     ·subst he; exact hp
     ·exact gI i hi (by omega)
   | true =>
     rw[hp] at hc
     simp[hj,hw,hc,Hw hj hp gI]
  ·rintro st ⟨y3,rfl,gI⟩
   simp[Jb,Hx (λi hi=>gI i hi hi)]
 have dK:x8 L 211 [.list false (p.nodes.map yx),.func 212 [] []] []=some (.bool (p.nodes.any P),[]):=by
  refine yp (hL 211 _ rfl) rfl ?_
  simp[Mg,hi,← Jz]
 have e:plain p = !(p.nodes.any P):=by
  unfold plain
  rw[List.not_any_eq_all_not]
  congr 1
  funext n
  rw[hP]; simp
 refine yp (hL 201 _ rfl) rfl ?_
 simp[LU,dK,e]
theorem Qs (p:Prog) (hp:PW p) (hs:parts p≤1100000):∃h',x8 L 204 [zh p] []=some (A7 (Ei p),h'):=by
 obtain⟨h1,hc⟩:=c4D hL p hp hs
 unfold A7 at hc
 have fH:=c4S hL p (by have:=hp.nodes; omega) []
 suffices H:∃r,x8 L 204 [zh p] []=some r∧r.1=A7 (Ei p) by
  obtain⟨⟨v,h'⟩,h1,h2⟩:=H
  simp only at h2; subst h2
  exact⟨h',h1⟩
 refine AW (hL 204 _ rfl) rfl ?_
 unfold Ei
 generalize BN (Bs p)=b at *
 by_cases he:b.err=0
 ·cases gJ:plain p with
  | true =>
    rw[gJ] at fH
    simp[Hl,A7,hc,fH,he,yA,Eb]
  | false =>
    rw[gJ] at fH
    simp[Hl,A7,hc,fH,he,yA]
 ·simp[Hl,A7,hc,fH,he,yA]
end
@[simp] theorem d5h (n sz:Nat) (ag:Bool) (o l:Nat):cp (.rows n sz ag o l)=some (.rows n sz ag o l):=rfl
@[simp] theorem d3R (n sz:Nat) (ag:Bool) (o l:Nat):dem (.rows n sz ag o l) = .rows n sz ag o l:=rfl
@[simp] theorem d3S (n sz:Nat) (ag:Bool) (o l:Nat):tkv (.rows n sz ag o l)=some (.rows n sz ag o l,false):=rfl
section
variable {L:Nat→Option PFunc} (hL:∀k f,LS k=some f→L k=some f)
include hL
def Qt (h:List PObj) (n:Nat) (len:Nat) (l:List Pr):Prop:=l.length=len∧∃rest,h[n]? = some (.cells (l.flatMap yW++rest))
theorem c09 (l:List Pr) (hl:l.length≤2000000000) (n:Nat) (h:List PObj) (cs:List PV) (hn:h[n]? = some (.cells cs)) (dS:Prs cs l) (q:Nat) (h1:1≤q) (iB:q<l.length) (hc:AO (l.take q)=l.take q) (he:l[q]=l[q - 1])
  {Q:PExit→St→Prop} (hk:∀cs' cur k y4,Prs cs' cur→cur.length=l.length→k≤l.length→1≤k→cur.take k=AO l→Q (.exit 2) ⟨[.rowp n 2 true l.length,.list true [],.int .i64 (k:Nat),.rows n 2 true q (l.length - q),y4],[],0,h.set n (.cells cs')⟩):
  wpL L Mm ⟨[.rowp n 2 true l.length,.list true [],.int .i64 q,.rows n 2 true q (l.length - q),.int .i64 1],[],0,h⟩ Q:=by
 have fx:n<h.length:=(ah.1 hn).1
 have yw:h.set n (.cells cs)=h:=Cu hn
 have jG:q - 1<l.length:=by omega
 have fU:(l.take q).getLast? = some l[q - 1]:=by
  have:=MM l jG
  rw[show q - 1+1=q by omega,hc] at this
  exact this
 have jc:l.take q=AO (l.take (q+1)):=by rw[Hy l iB,hc,Be,ai (by rw[fU,he])]
 rw[Mm]
 refine yK (l.length - q - 1) (λj st=>∃k2 k cs' cur,k2=j+1∧st=⟨[.rowp n 2 true l.length,.list true [],.int .i64 (k:Nat),.rows n 2 true q (l.length - q),.int .i64 (k2:Nat)],[],0,h.set n (.cells cs')⟩∧Prs cs' cur∧cur.length=l.length∧cur.take k=AO (l.take (q+k2))∧1≤k∧k≤q+k2 - 1∧∀i,q+k2 - 1≤i→cur[i]? = l[i]?) ?_ ?_ ⟨1,q,cs,l,rfl,by rw[yw]; rfl,dS,rfl,jc,h1,by omega,λ_ _=>rfl⟩
 ·rintro j hj st ⟨k2,k,cs',cur,em,rfl,hp,dA,d9,eV,pL,dz⟩ ih
  have cV:k2<l.length - q:=by omega
  have eC:q+k2<l.length:=by omega
  have hi:q+k2<cur.length:=by omega
  have gu:q+(k2 - 1)<cur.length:=by omega
  have ic:k<cur.length:=by omega
  have eO:k<l.length:=by omega
  obtain⟨g1,g3⟩:=hp.get hi
  obtain⟨g2,g4⟩:=hp.get gu
  have hw:=yn k2 (by omega)
  have sj:=yn k (by omega)
  have hs:IntKind.i64.wrap ((k2:Int) - 1)=((k2 - 1:Nat):Int):=by rw[show ((k2:Int) - 1)=((k2 - 1:Nat):Int) by omega]; exact BA _ (by omega)
  have kK:k2 - 1<l.length - q:=by omega
  have e1:cur[q+k2]=l[q+k2]:=by
   have:=dz (q+k2) (by omega)
   rw[am hi,am eC] at this
   simpa using this
  have e2':cur[q+(k2 - 1)]=l[q+(k2 - 1)]:=by
   have:=dz (q+(k2 - 1)) (by omega)
   rw[am gu,am (by omega)] at this
   simpa using this
  have jd:=Hy l eC
  have ny:(AO (l.take (q+k2))).getLast? = some l[q+(k2 - 1)]:=by
   have:=MM l (i:=q+(k2 - 1)) (by omega)
   rwa [show q+(k2 - 1)+1=q+k2 by omega] at this
  rw[e1] at g3
  rw[e2'] at g4
  by_cases hd:l[q+k2]=l[q+(k2 - 1)]
  ·simp[cV,hw,fx,hs,kK,g1,g2,g3,g4,A5,Bm,hd]
   refine ih _ ⟨k2+1,k,cs',cur,by omega,rfl,hp,dA,?_,eV,by omega,λi hi=>dz i (by omega)⟩
   ·rw[show q+(k2+1)=q+k2+1 by omega,jd,Be,ai (by rw[ny,hd])]
    exact d9
  ·have gm:¬l[q+k2].1=l[q+(k2 - 1)].1∨¬l[q+k2].2=l[q+(k2 - 1)].2:=by
    by_cases ha:l[q+k2].1=l[q+(k2 - 1)].1
    ·exact .inr λhb=>hd (Prod.ext ha hb)
    ·exact .inl ha
   have fo:=hp.set ic l[q+k2]
   have nz:k*2+2≤cs'.length:=by rw[hp.len]; omega
   simp[cV,hw,sj,fx,hs,kK,eO,g1,g2,g3,g4,A5,Bm,gm,nz]
   refine ih _ ⟨k2+1,k+1,_,cur.set k l[q+k2],by omega,rfl,fo,by rw[ba]; exact dA,?_,by omega,by omega,λi hi =>?_⟩
   ·rw[show q+(k2+1)=q+k2+1 by omega,jd,Be,ae (by rw[ny]; intro e; exact hd (by simpa using e.symm)),← d9]
    rw[aX,ar ic]
    simp only[Option.toList_some]
    congr 1
    rw[List.take_set_of_le (an k)]
   ·rw[af (by omega)]
    exact dz i (by omega)
 ·rintro st ⟨k2,k,cs',cur,em,rfl,hp,dA,d9,eV,pL,dz⟩
  have e:q+k2=l.length:=by omega
  have je:¬k2<l.length - q:=by omega
  rw[e,aC] at d9
  simp[je]
  exact hk cs' cur k _ hp dA (by omega) eV d9
theorem c1a (l:List Pr) (hl:l.length≤2000000000) (n:Nat) (h:List PObj) (cs:List PV) (hn:h[n]? = some (.cells cs)) (dS:Prs cs l):
  ∃h',x8 L 220 [.rowp n 2 true l.length] h=some (.rowp n 2 true (AO l).length,h')∧Qt h' n (AO l).length (AO l):=by
 suffices H:∃r,x8 L 220 [.rowp n 2 true l.length] h=some r∧r.1 = .rowp n 2 true (AO l).length∧Qt r.2 n (AO l).length (AO l) by
  obtain⟨⟨v,h'⟩,h1,h2,h3⟩:=H
  simp only at h2 h3; subst h2
  exact⟨h',h1,h3⟩
 have fx:n<h.length:=(ah.1 hn).1
 refine AW (hL 220 _ rfl) rfl ?_
 by_cases h2:l.length<2
 ·have eu:(l.length:Int)<2:=by omega
  have e:AO l=l:=by
   match l,h2 with
   | [],_=>rfl
   | [x],_=>rfl
  simp[Hq,tf eu,yA,e]
  exact⟨rfl,[],by rw[be,← dS.eq]; exact hn⟩
 ·have eu:¬(l.length:Int)<2:=by omega
  simp[Hq,eu]
  rw[PZ]
  have dr:0<l.length:=by omega
  refine yK (l.length - 1) (λj st=>∃y3 y4 q,q=j+1∧st=⟨[.rowp n 2 true l.length,.list true [],.int .i64 q,y3,y4],[],0,h⟩∧AO (l.take q)=l.take q) ?_ ?_ ⟨_,_,1,rfl,rfl,?_⟩
  ·rintro j hj st ⟨y3,y4,q,hq,rfl,hc⟩ ih
   have iB:q<l.length:=by omega
   have hw:=yn q (by omega)
   have hs:IntKind.i64.wrap ((q:Int) - 1)=((q - 1:Nat):Int):=by rw[show ((q:Int) - 1)=((q - 1:Nat):Int) by omega]; exact BA _ (by omega)
   have jG:q - 1<l.length:=by omega
   obtain⟨g1,g3⟩:=dS.get iB
   obtain⟨g2,g4⟩:=dS.get jG
   have gl:AO (l.take (q+1))=Be (l.take q) l[q]:=by rw[Hy l iB,hc]
   have fU:(l.take q).getLast? = some l[q - 1]:=by
    have:=MM l jG
    rw[show q - 1+1=q by omega,hc] at this
    exact this
   have nA:q≤l.length:=by omega
   have pM:¬q=0:=by omega
   by_cases he:l[q]=l[q - 1]
   ·simp[iB,hw,hn,hs,jG,g1,g2,g3,g4,A5,Bm,he,nA,pM]
    refine c09 hL l hl n h cs hn dS q (by omega) iB hc he ?_
    intro cs' cur k y4 hp dA eO eV d9
    have lI:¬k=0:=by omega
    have em:k*2≤cs'.length:=by rw[hp.len]; omega
    have ic:(AO l).length=k:=by rw[← d9,aY]; omega
    simp[eO,fx,lI,em,yA,ic]
    refine⟨ic,[],?_⟩
    rw[← d9,← MN,← hp.eq]
    simp[fx]
   ·have gm:¬(l[q].1=l[q - 1].1∧l[q].2=l[q - 1].2):=λe=>he (Prod.ext e.1 e.2)
    simp[iB,hw,hn,hs,jG,g1,g2,g3,g4,A5,Bm,gm]
    refine ih _ ⟨_,_,q+1,by omega,rfl,?_⟩
    rw[gl,Be,ae (by rw[fU]; intro e; exact he (by simpa using e.symm)),aX,am iB]
    rfl
  ·rintro st ⟨y3,y4,q,hq,rfl,hc⟩
   have sk:q=l.length:=by omega
   subst sk
   rw[aC] at hc
   simp[yA,hc]
   exact⟨rfl,[],by rw[be,← dS.eq]; exact hn⟩
  ·rw[show (1:Nat)=0+1 from rfl,Hy l dr]
   rw[aX,am dr]
   rfl
end
end PI.Sc
set_option maxRecDepth 100000
set_option linter.unusedSimpArgs false
set_option linter.unusedVariables false
namespace PI.Sc
open Go (IntKind BinOp UnOp)
section
variable {α:Type}
def yM (m:List (Str×α)) (x:Str):Option α:=(m.find? λe=>decide (e.1=x)).map (·.2)
def Bf:List (Str×α)→Str→α→List (Str×α)
 | [],x,v=>[(x,v)]
 | e::m,x,v=>if e.1=x then(x,v)::m else e::Bf m x v
theorem MP (m:List (Str×α)) (x:Str) (v:α) (y:Str):yM (Bf m x v) y=if y=x then some v else yM m y:=by
 induction m with
 | nil =>
   by_cases h:y=x
   ·subst h; simp[Bf,yM]
   ·have h':¬x=y:=λe=>h e.symm
    simp[Bf,yM,h,h']
 | cons e m ih =>
   unfold Bf
   by_cases h:e.1=x
   ·rw[ai h]
    by_cases h2:y=x
    ·subst h2; simp[yM]
    ·have eu:¬x=y:=λe=>h2 e.symm
     have h3:¬e.1=y:=by rw[h]; exact eu
     simp[yM,h2,eu,h3]
   ·rw[ae h]
    by_cases h3:e.1=y
    ·have h2:¬y=x:=by rw[← h3]; exact h
     simp[yM,h3,h2]
    ·have:yM (e::Bf m x v) y=yM (Bf m x v) y:=by simp[yM,h3]
     rw[this,ih]
     have:yM (e::m) y=yM m y:=by simp[yM,h3]
     rw[this]
def Cd (emb:α→PV) (m:List (Str×α)):List (PV×PV):=m.map λe=>(.str e.1,emb e.2)
theorem Rd (emb:α→PV) (x:Str):∀(m:List (Str×α)) (i:Nat),∃r0:Option (Nat×PV),zu false [.s] (.str x) (Cd emb m) i=some (r0.map λq=>(i+q.1,q.2))∧r0.map (·.2)=(yM m x).map emb∧∀v,Ej (Cd emb m) (.str x) (emb v) r0=Cd emb (Bf m x v)
 | [],i=>⟨none,rfl,rfl,λv=>rfl⟩
 | e :: m, i => by
   obtain⟨r0,h1,h2,h3⟩:=Rd emb x m (i+1)
   have hp:peq false [.s] (.str x) (.str e.1)=some (decide (x=e.1)):=by
    simp only[peq,Bm]
    congr 1
    by_cases h:x=e.1<;>simp[h]
   by_cases h:e.1=x
   ·refine⟨some (0,emb e.2),?_,?_,?_⟩
    ·have fk:decide (x=e.1)=true:=by simp[h]
     simp only[Cd,az,zu,hp,aw,fk,if_true]; rfl
    ·simp[yM,h]
    ·intro v; simp[Ej,Cd,Bf,h]
   ·have h':¬x=e.1:=λq=>h q.symm
    refine⟨r0.map λq=>(q.1+1,q.2),?_,?_,?_⟩
    ·have e1:zu false [.s] (.str x) (Cd emb (e::m)) i=zu false [.s] (.str x) (Cd emb m) (i+1):=by
      simp only[Cd,az,zu,hp,aw,h',decide_false,aL,if_false]
     rw[e1,h1]
     cases r0 with
     | none=>rfl
     | some q=>simp; omega
    ·have:yM (e::m) x=yM m x:=by simp[yM,h]
     rw[this,← h2]
     cases r0<;>rfl
    ·intro v
     have h3:=h3 v
     have e2:Bf (e::m) x v=e::Bf m x v:=by rw[Bf,ae h]
     rw[e2]
     cases r0 with
     | none =>
       simp only[Ej,b9] at h3 ⊢
       simp only[Cd,az,aK] at h3 ⊢
       rw[h3]
     | some q =>
       simp only[Ej,aH] at h3 ⊢
       simp only[Cd,az,List.set_cons_succ] at h3 ⊢
       rw[h3]
theorem JA (emb:α→PV) (x:Str) (m:List (Str×α)):∃r,zu false [.s] (.str x) (Cd emb m) 0=some r∧r.map (·.2)=(yM m x).map emb∧∀v,Ej (Cd emb m) (.str x) (emb v) r=Cd emb (Bf m x v):=by
 obtain⟨r0,h1,h2,h3⟩:=Rd emb x m 0
 have e:(r0.map λq=>(0+q.1,q.2))=r0:=by cases r0<;>simp
 rw[e] at h1
 exact⟨r0,h1,h2,h3⟩
end
def byL (i:Nat) (m:List (Str×Int)) (l:List Str):List (Str×Int):=l.foldl (λm s=>Bf m s (i:Int)) m
def byE:List (List Str)→Nat→List (Str×Int)→List (Str×Int)
 | [],_,m=>m
 | l::ls,i,m=>byE ls (i+1) (byL i m l)
def clk (m:List (Str×List On)) (l:List Decl):List (Str×List On):=l.foldl (λm d=>Bf m d.name d.clock) m
def AP (by':List (Str×Int)) (j:Nat) (s:Str):List Pr:=match yM by' s with
 | some i=>[(i,(j:Int))]
 | none=>[]
def Am (c:List (Str×List On)) (s:Str):List Str:=((yM c s).getD []).map (·.name)
def Dh (by':List (Str×Int)) (c:List (Str×List On)) (j:Nat) (ns left:List Str):List Pr:=(ns++left.flatMap (Am c)).flatMap (AP by' j)
def zK (by':List (Str×Int)) (c:List (Str×List On)):List (List Str×List Str)→Nat→List Pr
 | [],_=>[]
 | q::qs,j=>Dh by' c j q.2 q.1++zK by' c qs (j+1)
def JB (vs:List Decl) (qs:List (List Str×List Str)):List Pr:=AO (Bg Av (zK (byE (qs.map (·.1)) 0 []) (clk [] vs) qs 0))
def yX (n:Node):List (List Str×List Str):=n.eqs.map λq=>(q.left,Bd [] q.right)
def C0 (n:Node):List Pr:=JB (vars n) (yX n)
end PI.Sc
set_option linter.unusedSimpArgs false
set_option linter.unusedVariables false
namespace PI.Sc
structure Like (x y:Expr):Prop where
 kind:x.kind=y.kind
 op:x.op=y.op
 t:x.t=y.t
 v:x.v=y.v
 name:x.name=y.name
 args:x.args.length=y.args.length
def vr (nm:Str):Expr := .mk 2 0 0 0 nm []
theorem Like.argsOK {x y:Expr} (h:Like x y):argsOK x=argsOK y:=by unfold PI.Sc.argsOK; simp only[h.kind,h.op,h.t,h.v,h.args]
theorem Like.typedOK {x y:Expr} (h:Like x y):typedOK x=typedOK y:=by unfold PI.Sc.typedOK; simp only[h.kind,h.t,h.v]
theorem Like.one {x y:Expr} (h:Like x y):CA x=CA y:=by
 unfold CA HN Gb JN
 rw[h.argsOK,h.typedOK]
 simp only[h.kind,h.op,h.name,h.args]
theorem Se {α:Type} {f:α→Int}:∀(l:List α) (i:Nat),AH f l i=none↔yj f l=0
 | [],i=>by simp[AH,yj]
 | x :: l, i => by
   unfold AH yj
   by_cases h:f x=0
   ·rw[ai h,ai h]; exact Se l (i+1)
   ·rw[ae h,ae h]; simp[h]
def EU (en:List Enum) (n:Node):Prop:=AC en n=0∧yj (BE en) n.eqs=0∧BW en n=0
theorem Sf {en:List Enum} {n:Node} {i:Nat}:zZ en n i=none↔EU en n:=by
 unfold zZ EU
 rw[← Se n.eqs 0]
 by_cases h:AC en n=0
 ·cases hf:AH (BE en) n.eqs 0 with
  | none=>by_cases ht:BW en n=0<;>simp[h,ht]
  | some r=>simp[h]
 ·simp[h]
theorem HK {en:List Enum}:∀{l:List Node} {i:Nat},AG en l i=none↔∀n∈l,EU en n
 | [],i=>by simp[AG]
 | n :: l, i => by
   unfold AG
   cases h:zZ en n i with
   | some b =>
     have:¬EU en n:=λhn=>by rw[Sf.2 hn] at h; cases h
     simp[this]
   | none =>
     have:=Sf.1 h
     simp only[aA,forall_eq_or_imp]
     exact⟨λh2=>⟨this,(HK (l:=l)).1 h2⟩,λh2=>(HK (l:=l)).2 h2.2⟩
theorem JK {b:Bool} {e:Int} (he:e≠0) (h:need b e=0):b=true:=by
 cases b with
 | true=>rfl
 | false=>exact absurd h he
def sig (n:Node):Str×Nat×Nat:=(n.name,n.ins.length,n.outs.length)
theorem c1x {b b':List Node} (h:b.map sig=b'.map sig) (x:Str):(callee b x).map sig=(callee b' x).map sig:=by
 have key:∀b:List Node,(callee b x).map sig=(b.map sig).find? λs=>decide (s.1=x):=by
  intro b
  unfold callee
  rw[List.find?_map]; rfl
 rw[key,key,h]
theorem b9j {s s':Place} (h:s.before.map sig=s'.before.map sig) (e:Expr) (o:Nat):Eo s e o=Eo s' e o:=by
 have:=c1x h e.name
 unfold Eo
 cases h1:callee s.before e.name<;>cases h2:callee s'.before e.name<;>rw[h1,h2] at this<;>simp[sig] at this ⊢
 obtain⟨_,a,b⟩:=this
 rw[a,b]
theorem Sg {s s':Place} (h:s.before.map sig=s'.before.map sig) (hv:s.vis=s'.vis) (o:Nat) (e:Expr):oneN s o e=oneN s' o e:=by
 unfold oneN; rw[hv,b9j h]
theorem Si {s s':Place} (h:s.before.map sig=s'.before.map sig) (hv:s.vis=s'.vis) (e:Expr) (o:Nat):yZ s e o=yZ s' e o:=by
 unfold yZ
 rw[Sg h hv,show oneN s 1=oneN s' 1 from funext λx=>Sg h hv 1 x]
theorem Sj {s s':Place} (hv:s.vis=s'.vis) (hi:s.inputs=s'.inputs):∀(l d:List Str),BD s l d=BD s' l d
 | [],d=>rfl
 | x::l,d=>by simp only[BD,hv,hi,Sj hv hi l]
theorem Sk {s s':Place} (h:s.before.map sig=s'.before.map sig) (hv:s.vis=s'.vis) (hi:s.inputs=s'.inputs):∀(l:List Eqn) (k:Nat) (d:List Str),AM s l k d=AM s' l k d
 | [],k,d=>rfl
 | q :: l, k, d => by
   have e:Ak s q d=Ak s' q d:=by
    unfold Ak
    rw[Sj hv hi]
    congr 1
    funext d
    rw[Si h hv]
   simp only[AM,e,Sk h hv hi l]
theorem c3d {b b':List Node} (h:b.map sig=b'.map sig) (tags:List Str) (n:Node) (ha:n.autos=[]):AZ b tags n=AZ b' tags n:=by
 have hl:b.length=b'.length:=by simpa using aI List.length h
 have hn:b.map (·.name)=b'.map (·.name):=by
  have:=aI (List.map Prod.fst) h
  simpa[b7,sig,Function.comp_def] using this
 unfold AZ
 simp only[hl,hn,ha,zc]
 rw[Sk (s:=⟨b,(Aa [] tags (vars n)).2,yd n.ins,tags⟩) (s':=⟨b',(Aa [] tags (vars n)).2,yd n.ins,tags⟩) h rfl rfl]
 have e1:∀(vis:List Str) (e:Expr),yZ (Place.at ⟨b,(Aa [] tags (vars n)).2,yd n.ins,tags⟩ vis) e 1=yZ (Place.at ⟨b',(Aa [] tags (vars n)).2,yd n.ins,tags⟩ vis) e 1:=λvis e=>Si (s:=Place.at ⟨b,_,_,_⟩ vis) (s':=Place.at ⟨b',_,_,_⟩ vis) h rfl e 1
 simp only[e1]
theorem Like.oneN {x y:Expr} (s:Place) (o:Nat) (h:Like x y):oneN s o x=oneN s o y:=by
 unfold PI.Sc.oneN Eo
 simp only[h.kind,h.name,h.v,h.args]
theorem b9k {p:Prog} (h:plain p=true):∀n∈p.nodes,n.autos=[]:=λn hn=>by
 have:=aJ.1 h n hn
 simpa using this
def zl (n:Node):Node:={ n with eqs:=n.eqs.reverse }
def AJ (p:Prog):Prog:={ p with nodes:=p.nodes.map zl }
theorem Sl (n:Node):zl (zl n)=n:=by simp[zl]
theorem Sm (p:Prog):AJ (AJ p)=p:=by simp[AJ,Sl,Function.comp_def]
theorem b56 {en:List Enum} {n:Node} (h:EU en n):EU en (zl n):=by
 obtain⟨h1,h2,h3⟩:=h
 refine⟨?_,Bz.2 λx hx=>Bz.1 h2 x ?_,h3⟩
 ·have:AC en (zl n)=AC en n:=by
   have e:(zl n).eqs.length=n.eqs.length:=by simp[zl]
   unfold AC; rw[e]; rfl
  rw[this]; exact h1
 ·simpa[zl] using hx
theorem b9l {s:Place} {l:List Eqn} {d:List Str} (h:AM s l 0 [] = .inr d):∃d',AM s l.reverse 0 [] = .inr d'∧∀x,x∈d'↔x∈d:=by
 obtain⟨h1,⟨h2,h3⟩,h4⟩:=(DD s l [] d).1 ((GU s l 0 [] d).1 h)
 have hm:∀x,x∈zg l.reverse↔x∈zg l:=by intro x; simp[zg]
 refine⟨_,(GU s l.reverse 0 [] _).2 ((DD s l.reverse [] _).2 ⟨rfl,⟨λx hx=>h2 x ((hm x).1 hx),?_⟩,λq hq=>h4 q (by simpa using hq)⟩),λx =>?_⟩
 ·have hp:(zg l.reverse).Perm (zg l):=(List.reverse_perm l).flatMap_right _
  exact hp.nodup_iff.2 h3
 ·rw[h1]; simpa using hm x
theorem Sn {a b:List Str}:zk a b=[]↔∀x∈a,x∈b:=by
 unfold zk
 rw[List.filter_eq_nil_iff]
 simp
theorem c1y {b:List Node} {tags:List Str} {n:Node} (ha:n.autos=[]) (h:AZ b tags n=none):AZ b tags (zl n)=none:=by
 unfold AZ at h ⊢
 have hv:vars (zl n)=vars n:=rfl
 simp only[hv] at h ⊢
 have e1:(zl n).name=n.name:=rfl
 have e2:(zl n).ins=n.ins:=rfl
 have e3:(zl n).outs=n.outs:=rfl
 have e4:(zl n).locals=n.locals:=rfl
 have e5:(zl n).autos=n.autos:=rfl
 have e6:(zl n).assume=n.assume:=rfl
 have e7:(zl n).ensure=n.ensure:=rfl
 have e8:(zl n).eqs=n.eqs.reverse:=rfl
 simp only[e1,e2,e3,e4,e5,e6,e7,e8]
 split at h
 ·cases h
 ·rename_i h1
  rw[ae h1]
  split at h
  ·cases h
  ·rename_i h2
   rw[ae h2]
   cases hq:AM ⟨b,(Aa [] tags (vars n)).2,yd n.ins,tags⟩ n.eqs 0 [] with
   | inl r=>rw[hq] at h; cases h
   | inr d =>
     rw[hq] at h
     obtain⟨d',gm,hm⟩:=b9l hq
     rw[gm]
     rw[ha] at h ⊢
     simp only[zc] at h ⊢
     have e:(zk (yd n.outs++yd n.locals) d'=[])=(zk (yd n.outs++yd n.locals) d=[]):=by
      rw[Sn,Sn]
      simp only[hm]
     simp only[e]
     exact h
theorem So {tags:List Str}:∀(l:List Node) (b b':List Node),b.map sig=b'.map sig→(∀n∈l,n.autos=[])→Bb tags b l=none→Bb tags b' (l.map zl)=none
 | [],b,b',_,_,_=>by simp[Bb]
 | n :: l, b, b', hb, ha, h => by
   simp only[Bb] at h
   cases h1:AZ b tags n with
   | some x=>rw[h1] at h; cases h
   | none =>
     rw[h1] at h
     have hn:=ha n (by simp)
     have e:=c1y hn h1
     rw[c3d hb tags (zl n) hn] at e
     simp only[az,Bb,e]
     exact So l (b++[n]) (b'++[zl n]) (by simp only[bh,hb,az,bB]; rfl) (λx hx=>ha x (by simp[hx])) h
theorem Sp {p:Prog} (h:Bs p=none) (fH:plain p=true):Bs (AJ p)=none∧plain (AJ p)=true:=by
 have ha:=b9k fH
 refine⟨?_,aJ.2 λn hn =>?_⟩
 ·unfold Bs at h ⊢
  cases hs:Ba p with
  | some b=>rw[hs] at h; cases h
  | none =>
    rw[hs] at h
    simp only at h
    split at h
    ·rename_i lG
     unfold Ba at hs
     split at hs
     ·cases hs
     ·rename_i h1
      split at hs
      ·cases hs
      ·rename_i h2
       have fK:=HK.1 hs
       have hq:Ba (AJ p)=none:=by
        unfold Ba AJ
        simp only[aG]
        rw[ae h1,ae h2]
        refine HK.2 λn hn =>?_
        obtain⟨m,hm,rfl⟩:=bc.1 hn
        exact b56 (fK m hm)
       rw[hq]
       show (if DG p.enums=true then _ else _)=none
       rw[ai lG]
       exact So p.nodes [] [] rfl ha h
    ·cases h
 ·obtain⟨m,hm,rfl⟩:=bc.1 hn
  exact decide_eq_true (show (zl m).autos=[] from ha m hm)
end PI.Sc
set_option linter.unusedVariables false
set_option linter.unusedSimpArgs false
namespace PI.Sc
def fup {α:Type} (f:Nat→α) (v:Nat) (x:α):Nat→α:=λu=>if u=v then x else f u
theorem zU {α:Type} (f:Nat→α) (v:Nat) (x:α):fup f v x v=x:=by simp[fup]
theorem Aw {α:Type} (f:Nat→α) {v u:Nat} (x:α) (h:u≠v):fup f v x u=f u:=by simp[fup,h]
def MQ (n:Nat) (N:Nat→List Nat) (f:Nat→Nat):Prop:=∀u,u<n→∀w∈N u,f u<f w
structure TS where
 ix:Nat→Nat
 lo:Nat→Nat
 on:Nat→Bool
 st:List Nat
 ct:Nat
 nu:Nat→Nat
 pa:Nat
def A3 (t:TS) (w:Nat):TS:={ t with ct:=t.ct+1,ix:=fup t.ix w (t.ct+1),lo:=fup t.lo w (t.ct+1),st:=w::t.st,on:=fup t.on w true }
def EP (t:TS) (p k:Nat):TS:={ t with lo:=fup t.lo p (min (t.lo p) k) }
def EQ (t:TS) (w:Nat) (r:List Nat):TS:={ t with st:=r,on:=fup t.on w false,nu:=fup t.nu w t.pa }
def Cx (v:Nat):List Nat→TS→TS
 | [],t=>t
 | w::r,t=>if w=v then EQ t w r else Cx v r (EQ t w r)
def zF (t:TS) (v:Nat):TS:=if t.lo v=t.ix v then { Cx v t.st t with pa:=t.pa+1 } else t
def Fin1 (t:TS) (k:Nat) (l:List Nat):Prop:=∀w∈l,0<t.ix w∧(w∈t.st→k≤t.ix w)
theorem Fin1.mono {t t':TS} {k k':Nat} {l:List Nat} (h:Fin1 t k l) (gY:∀w,0<t.ix w→t'.ix w=t.ix w) (dn:∀w,0<t.ix w→w∈t'.st→w∈t.st) (hk:k'≤k):Fin1 t' k' l:=by
 intro w hw
 obtain⟨h1,h2⟩:=h w hw
 rw[gY w h1]
 exact⟨h1,λh3=>aD hk (h2 (dn w h1 h3))⟩
def Seg (N:Nat→List Nat) (b:Nat) (t:TS):List (Nat×Nat)→List Nat→Prop
 | [],r=>r=[]
 | (v,i)::F,r=>(F=[]→t.ix v=b)∧∃s r',r=s++v::r'∧i≤(N v).length∧t.lo v≤t.ix v∧(∀x∈s,Fin1 t (t.lo v) (N x))∧Fin1 t (t.lo v) ((N v).take i)∧Seg N b t F r'
theorem Seg.mono {N:Nat→List Nat} {b:Nat} {t t':TS} (gY:∀w,0<t.ix w→t'.ix w=t.ix w) (dn:∀w,0<t.ix w→w∈t'.st→w∈t.st):
  ∀(F:List (Nat×Nat)) (r:List Nat),Seg N b t F r→(∀v∈r,0<t.ix v)→(∀v∈r,t'.lo v≤t.lo v)→Seg N b t' F r
 | [],r,h,_,_=>h
 | (v, i) :: F, r, ⟨h0, s, r', e, h1, h2, h3, h4, h5⟩, hp, hl => by
   subst e
   have hv:=hp v (by simp)
   have uH:=hl v (by simp)
   refine⟨λe =>?_,s,r',rfl,h1,?_,λx hx=>(h3 x hx).mono gY dn uH,h4.mono gY dn uH,Seg.mono gY dn F r' h5 (λx hx=>hp x (by simp[hx])) (λx hx=>hl x (by simp[hx]))⟩
   ·rw[gY v hv]; exact h0 e
   ·rw[gY v hv]; omega
theorem Seg.step {N:Nat→List Nat} {b v i:Nat} {t:TS} {F:List (Nat×Nat)} {r:List Nat} (h:Seg N b t ((v,i)::F) r) (hi:i<(N v).length) (hf:Fin1 t (t.lo v) [(N v)[i]]):Seg N b t ((v,i+1)::F) r:=by
 obtain⟨h0,s,r',e,h1,h2,h3,h4,h5⟩:=h
 refine⟨h0,s,r',e,hi,h2,h3,?_,h5⟩
 intro w hw
 rw[aX,am hi] at hw
 rcases ay.1 hw with hw|hw
 ·exact h4 w hw
 ·exact hf w hw
structure TI (n:Nat) (N:Nat→List Nat) (b k:Nat) (t:TS) (F:List (Nat×Nat)):Prop where
 on:∀v,t.on v=true↔v∈t.st
 nd:t.st.Pairwise (λa c=>t.ix c<t.ix a)
 lt:∀v∈t.st,v<n
 pos:∀v∈t.st,b≤t.ix v∧b≤t.lo v∧t.ix v≤t.ct
 b0:0<b
 cl:∀v,0<t.ix v→v∉t.st→t.nu v<t.pa∧∀w∈N v,0<t.ix w∧w∉t.st∧t.nu w≤t.nu v
 seg:Seg N b t F t.st
 vis:∀v,v<k→0<t.ix v
section
variable {n:Nat} {N:Nat→List Nat} {b k v i:Nat} {t:TS} {F:List (Nat×Nat)}
theorem TI.ixp (h:TI n N b k t F):∀x∈t.st,0<t.ix x:=λx hx=>by
 have:=(h.pos x hx).1; have:=h.b0; omega
theorem TI.top (h:TI n N b k t ((v,i)::F)):v∈t.st∧i≤(N v).length∧t.lo v≤t.ix v:=by
 obtain⟨h0,s,r',e,h1,h2,_⟩:=h.seg
 exact⟨by rw[e]; simp,h1,h2⟩
theorem TI.nodup (h:TI n N b k t F):t.st.Nodup:=h.nd.imp (λh e=>by subst e; omega)
theorem TI.step (h:TI n N b k t ((v,i)::F)) (hi:i<(N v).length) (hf:Fin1 t (t.lo v) [(N v)[i]]):TI n N b k t ((v,i+1)::F):=
 { h with seg:=h.seg.step hi hf }
theorem TI.skip (h:TI n N b k t ((v,i)::F)) (hi:i<(N v).length) (h0:0<t.ix (N v)[i]) (h1:t.on (N v)[i]=false):TI n N b k t ((v,i+1)::F):=by
 refine h.step hi ?_
 intro w hw
 rw[aP] at hw
 subst hw
 exact⟨h0,λhm=>by rw[(h.on _).2 hm] at h1; cases h1⟩
theorem TI.min (h:TI n N b k t F) {p m:Nat} (hm:b≤m):TI n N b k (EP t p m) F:=by
 have mD:∀x,(EP t p m).lo x≤t.lo x:=by
  intro x
  show fup t.lo p _ x≤_
  by_cases e:x=p
  ·subst e; rw[zU]; omega
  ·rw[Aw _ _ e]; exact an _
 refine { on:=h.on,nd:=h.nd,lt:=h.lt,b0:=h.b0,cl:=h.cl,vis:=h.vis,seg:=Seg.mono (t:=t) (t':=EP t p m) (λ_ _=>rfl) (λ_ _ h=>h) F t.st h.seg h.ixp (λx _=>mD x),pos := ?_ }
 intro x hx
 obtain⟨h1,h2,h3⟩:=h.pos x hx
 refine⟨h1,?_,h3⟩
 show _≤fup t.lo p _ x
 by_cases e:x=p
 ·subst e; rw[zU]; omega
 ·rw[Aw _ _ e]; exact h2
theorem TI.back (h:TI n N b k t ((v,i)::F)) (hi:i<(N v).length) (h1:t.on (N v)[i]=true):TI n N b k (EP t v (t.ix (N v)[i])) ((v,i+1)::F):=by
 have hm:=(h.on _).1 h1
 refine(h.min (h.pos _ hm).1).step hi ?_
 intro w hw
 rw[aP] at hw
 subst hw
 refine⟨h.ixp _ hm,λ_ =>?_⟩
 show fup t.lo v _ v≤t.ix _
 rw[zU]; omega
theorem TI.enter0 (h:TI n N b k t F) (hb:F≠[]→b≤t.ct) {w:Nat} (hw:w<n) (h0:t.ix w=0) {b':Nat} (di:F≠[]→b'=b) (dE:F=[]→b'=t.ct+1) {k':Nat} (hk:k'=k∨(k'=k+1∧w=k)):TI n N b' k' (A3 t w) ((w,0)::F):=by
 have hp:=h.ixp
 have fJ:w∉t.st:=λhm=>by have:=hp w hm; omega
 have gY:∀x,0<t.ix x→(A3 t w).ix x=t.ix x:=λx hx=>Aw _ _ (by rintro rfl; omega)
 have pO:∀x,x∈t.st→(A3 t w).lo x=t.lo x:=λx hx=>Aw _ _ (by rintro rfl; exact fJ hx)
 have dn:∀x,0<t.ix x→x∈(A3 t w).st→x∈t.st:=by
  intro x hx hm
  rcases aA.1 hm with rfl|hm
  ·omega
  ·exact hm
 have eD:(A3 t w).ix w=t.ct+1:=zU _ _ _
 have pP:F=[]→t.st=[]:=λe=>by have:=h.seg; rw[e] at this; exact this
 have hb'p:b'≤t.ct+1∧0<b':=by
  by_cases e:F=[]
  ·rw[dE e]; omega
  ·rw[di e]; have:=hb e; have:=h.b0; omega
 refine { on := ?_,nd := ?_,lt := ?_,pos := ?_,b0:=hb'p.2,cl := ?_,seg := ?_,vis := ?_ }
 ·intro u
  show fup t.on w true u=true↔u∈w::t.st
  by_cases e:u=w
  ·subst e; simp[fup]
  ·rw[Aw _ _ e,h.on]; simp[e]
 ·refine bO.2 ⟨λc hc =>?_,h.nd.imp_of_mem λha hc cV =>?_⟩
  ·rw[gY c (hp c hc),eD]; have:=(h.pos c hc).2.2; omega
  ·rw[gY _ (hp _ ha),gY _ (hp _ hc)]; exact cV
 ·intro x hx
  rcases aA.1 hx with rfl|hx
  ·exact hw
  ·exact h.lt x hx
 ·intro x hx
  rcases aA.1 hx with rfl|hx
  ·rw[eD]
   show _∧_≤fup t.lo x _ x∧_≤t.ct+1
   rw[zU]; omega
  ·have e:F≠[]:=λe=>by rw[pP e] at hx; cases hx
   rw[gY x (hp x hx),pO x hx,di e]
   obtain⟨h1,h2,h3⟩:=h.pos x hx
   exact⟨h1,h2,Nat.le_succ_of_le h3⟩
 ·intro x hx hm
  have nC:x≠w:=λe=>hm (by subst e; exact bS)
  have fp:0<t.ix x:=by
   have:(A3 t w).ix x=t.ix x:=Aw _ _ nC
   omega
  obtain⟨h1,h2⟩:=h.cl x fp (λhh=>hm (bl _ hh))
  refine⟨h1,λy hy =>?_⟩
  obtain⟨h3,h4,h5⟩:=h2 y hy
  refine⟨by rw[gY y h3]; exact h3,?_,h5⟩
  intro hh
  exact h4 (dn y h3 hh)
 ·refine⟨λe=>(by rw[eD,dE e]),[],t.st,rfl,bG _,?_,λx hx=>(by cases hx),λx hx=>(by simp at hx),?_⟩
  ·rw[eD]; show fup t.lo w _ w≤_; rw[zU]; exact an _
  ·by_cases e:F=[]
   ·subst e; exact pP rfl
   ·rw[di e]; exact Seg.mono gY dn F t.st h.seg hp (λx hx=>by rw[pO x hx]; exact an _)
 ·intro x hx
  by_cases e:x=w
  ·subst e; rw[eD]; omega
  ·have h1:=h.vis x (by rcases hk with rfl|⟨rfl,rfl⟩<;>omega)
   rw[gY x h1]; exact h1
theorem TI.enter (h:TI n N b k t ((v,i)::F)) (hi:i<(N v).length) (hw:(N v)[i]<n) (h0:t.ix (N v)[i]=0):TI n N b k (A3 t (N v)[i]) (((N v)[i],0)::(v,i+1)::F):=by
 obtain⟨hv,_,hl⟩:=h.top
 obtain⟨p1,p2,p3⟩:=h.pos v hv
 have h1:TI n N b k (A3 t (N v)[i]) (((N v)[i],0)::(v,i)::F):=h.enter0 (λ_=>by omega) hw h0 (λ_=>rfl) (λe=>by cases e) (.inl rfl)
 refine { h1 with seg := ?_ }
 obtain⟨g0,s,r',e,g1,g2,g3,g4,g5⟩:=h1.seg
 refine⟨λe=>(by cases e),s,r',e,g1,g2,g3,g4,g5.step hi ?_⟩
 intro w hw
 rw[aP] at hw
 subst hw
 have da:v≠(N v)[i]:=λe=>by have:=h.ixp v hv; rw[← e] at h0; omega
 show 0<fup t.ix _ _ _∧(_→fup t.lo _ _ v≤fup t.ix _ _ _)
 rw[zU,Aw _ _ da]
 exact⟨by omega,λ_=>by omega⟩
theorem TI.begin (h:TI n N b k t []) (hk:k<n) (h0:t.ix k=0):TI n N (t.ct+1) (k+1) (A3 t k) [(k,0)]:=
 h.enter0 (λe=>absurd rfl e) hk h0 (λe=>absurd rfl e) (λ_=>rfl) (.inr ⟨rfl,rfl⟩)
theorem TI.known (h:TI n N b k t []) (h0:t.ix k≠0):TI n N b (k+1) t []:=by
 refine { h with vis := ?_ }
 intro v hv
 by_cases e:v=k
 ·subst e; omega
 ·exact h.vis v (by omega)
theorem MS (v:Nat) (r:List Nat):∀(s:List Nat) (t:TS),v∉s→Cx v (s++v::r) t={ t with st:=r,on:=λu=>if u∈s++[v] then false else t.on u,nu:=λu=>if u∈s++[v] then t.pa else t.nu u }
 | [], t, _ => by
   simp only[bg,Cx,if_true,EQ,aP]
   rfl
 | w :: s, t, h => by
   have da:w≠v:=λe=>h (by simp[e])
   rw[aK,Cx,ae da,MS v r s _ (λhh=>h (by simp[hh]))]
   unfold EQ
   congr 1
   ·funext u
    show (if u∈s++[v] then false else fup t.on w false u)=if u∈w::s++[v] then false else t.on u
    by_cases h1:u∈s++[v]
    ·have:u∈w::s++[v]:=bl _ h1
     rw[ai h1,ai this]
    ·rw[ae h1]
     by_cases h2:u=w
     ·subst h2; rw[zU,ai (by simp)]
     ·rw[Aw _ _ h2,ae (show ¬u∈w::s++[v] from λhh=>(aA.1 hh).elim h2 h1)]
   ·funext u
    show (if u∈s++[v] then t.pa else fup t.nu w t.pa u)=if u∈w::s++[v] then t.pa else t.nu u
    by_cases h1:u∈s++[v]
    ·have:u∈w::s++[v]:=bl _ h1
     rw[ai h1,ai this]
    ·rw[ae h1]
     by_cases h2:u=w
     ·subst h2; rw[zU,ai (by simp)]
     ·rw[Aw _ _ h2,ae (show ¬u∈w::s++[v] from λhh=>(aA.1 hh).elim h2 h1)]
theorem TI.close (h:TI n N b k t ((v,i)::F)) (hi:i=(N v).length) (he:t.lo v=t.ix v):TI n N b k (zF t v) F:=by
 obtain⟨h0,s,r,e,h1,h2,h3,h4,h5⟩:=h.seg
 have dl:=h.nd
 rw[e] at dl
 obtain⟨n1,n2,n3⟩:=List.pairwise_append.1 dl
 obtain⟨n4,n5⟩:=bO.1 n2
 have iC:v∉s:=λhm=>by have:=n3 v hm v (by simp); omega
 unfold zF
 rw[ai he,e,MS v r s t iC]
 rw[hi,aC] at h4
 have hd:∀u,u∈s++[v]→u∉r:=by
  intro u hu hr
  rcases ay.1 hu with hu|hu
  ·have:=n3 u hu u (by simp[hr]); omega
  ·rw[aP] at hu; subst hu; have:=n4 u hr; omega
 have dT:∀u,u∈t.st↔u∈s++[v]∨u∈r:=by intro u; rw[e]; simp[or_assoc]
 have eM:∀u,u∈s++[v]→Fin1 t (t.lo v) (N u):=by
  intro u hu
  rcases ay.1 hu with hu|hu
  ·exact h3 u hu
  ·rw[aP] at hu; subst hu; exact h4
 refine { on := ?_,nd:=n5,lt:=λx hx=>h.lt x ((dT x).2 (.inr hx)),pos:=λx hx=>h.pos x ((dT x).2 (.inr hx)),b0:=h.b0,cl := ?_,seg := ?_,vis:=h.vis }
 ·intro u
  show (if u∈s++[v] then false else t.on u)=true↔u∈r
  by_cases hu:u∈s++[v]
  ·rw[ai hu]; exact⟨λh=>(by cases h),λhr=>absurd hr (hd u hu)⟩
  ·rw[ae hu,h.on,dT]; exact⟨λh=>h.resolve_left hu,.inr⟩
 ·intro u hu hr
  show (if u∈s++[v] then t.pa else t.nu u)<t.pa+1∧∀w∈N u,0<t.ix w∧w∉r∧(if w∈s++[v] then t.pa else t.nu w)≤(if u∈s++[v] then t.pa else t.nu u)
  by_cases hm:u∈s++[v]
  ·simp only[ai hm]
   refine⟨by omega,λw hw =>?_⟩
   obtain⟨g1,g2⟩:=eM u hm w hw
   have kq:w∉r:=λkq=>by
    have:=g2 ((dT w).2 (.inr kq))
    have:=n4 w kq
    omega
   refine⟨g1,kq,?_⟩
   by_cases np:w∈s++[v]
   ·rw[ai np]; exact an _
   ·rw[ae np]
    have:=(h.cl w g1 (λhh=>((dT w).1 hh).elim np kq)).1
    omega
  ·have eF:u∉t.st:=λhh=>((dT u).1 hh).elim hm hr
   obtain⟨g1,g2⟩:=h.cl u hu eF
   simp only[ae hm]
   refine⟨by omega,λw hw =>?_⟩
   obtain⟨g3,g4,g5⟩:=g2 w hw
   rw[ae (λhh=>g4 ((dT w).2 (.inl hh)))]
   exact⟨g3,λhh=>g4 ((dT w).2 (.inr hh)),g5⟩
 ·refine Seg.mono (t:=t) ?_ ?_ F r h5 (λx hx=>h.ixp x ((dT x).2 (.inr hx))) ?_
  ·intro _ _; rfl
  ·intro x _ hx; exact(dT x).2 (.inr hx)
  ·intro x _; exact an _
theorem TI.merge {p j:Nat} (h:TI n N b k t ((v,i)::(p,j)::F)) (hi:i=(N v).length) (hl:t.lo p≤t.lo v):TI n N b k t ((p,j)::F):=by
 obtain⟨h0,s,r,e,h1,h2,h3,h4,g0,s2,r2,e2,g1,g2,g3,g4,g5⟩:=h.seg
 rw[hi,aC] at h4
 have mn:∀{l},Fin1 t (t.lo v) l→Fin1 t (t.lo p) l:=λh=>h.mono (λ_ _=>rfl) (λ_ _ h=>h) hl
 refine { h with seg:=⟨g0,s++v::s2,r2,by rw[e,e2]; simp,g1,g2,?_,g4,g5⟩ }
 intro x hx
 rcases ay.1 hx with hx|hx
 ·exact mn (h3 x hx)
 ·rcases aA.1 hx with rfl|hx
  ·exact mn h4
  ·exact g3 x hx
theorem TI.root (h:TI n N b k t [(v,i)]):t.lo v=t.ix v:=by
 obtain⟨hv,_,hl⟩:=h.top
 have:=h.seg.1 rfl
 have:=(h.pos v hv).2.1
 omega
theorem TI.leave {p j:Nat} (h:TI n N b k t ((v,i)::(p,j)::F)) (hi:i=(N v).length):TI n N b k (EP (zF t v) p ((zF t v).lo v)) ((p,j)::F):=by
 obtain⟨hv,_,hl⟩:=h.top
 have hb:=(h.pos v hv).2.1
 by_cases he:t.lo v=t.ix v
 ·refine(h.close hi he).min ?_
  unfold zF
  rw[ai he]
  obtain⟨_,s,r,e,_⟩:=h.seg
  have dl:=h.nd
  rw[e] at dl
  have iC:v∉s:=λhm=>by have:=(List.pairwise_append.1 dl).2.2 v hm v (by simp); omega
  rw[e,MS v r s t iC]
  exact hb
 ·have e:zF t v=t:=ae he
  rw[e]
  refine TI.merge (v:=v) (i:=i) (h.min hb) hi ?_
  show fup t.lo p _ p≤fup t.lo p _ v
  rw[zU]
  by_cases e:v=p
  ·subst e; rw[zU]; exact an _
  ·rw[Aw _ _ e]; omega
theorem TI.done (h:TI n N b k t []) (hk:n≤k):∀v,v<n→t.nu v<t.pa∧∀w∈N v,t.nu w≤t.nu v:=by
 intro v hv
 have hs:t.st=[]:=h.seg
 obtain⟨h1,h2⟩:=h.cl v (h.vis v (by omega)) (by rw[hs]; simp)
 exact⟨h1,λw hw=>(h2 w hw).2.2⟩
end
theorem b5I {n:Nat} {N:Nat→List Nat} {nu:Nat→Nat} {pa:Nat} (hn:∀v,v<n→∀w∈N v,w<n) (h:∀v,v<n→nu v<pa∧∀w∈N v,nu w≤nu v) (hs:∀v,v<n→v∉N v)
  (hi:∀u v,u<n→v<n→nu u=nu v→u=v):MQ n N λv=>pa - nu v:=by
 intro u hu w hw
 have fJ:=hn u hu w hw
 obtain⟨h1,h2⟩:=h u hu
 have h3:=h2 w hw
 have h4:=(h w fJ).1
 have:nu w≠nu u:=λe=>hs u hu (by rw[hi u w hu fJ e.symm] at hw ⊢; exact hw)
 show pa - nu u<pa - nu w
 omega
def tot:Nat→(Nat→Nat)→Nat
 | 0,_=>0
 | n+1,f=>tot n f+f n
theorem HA {f g:Nat→Nat}:∀n,(∀v,v<n→f v=g v)→tot n f=tot n g
 | 0,_=>rfl
 | n+1,h=>by rw[tot,tot,HA n (λv hv=>h v (by omega)),h n (by omega)]
theorem HC {f g:Nat→Nat}:∀n,(∀v,v<n→f v≤g v)→tot n f≤tot n g
 | 0,_=>an _
 | n+1,h=>by have:=HC n (λv hv=>h v (by omega)); have:=h n (by omega); simp only[tot]; omega
theorem HD {f g:Nat→Nat} {w c:Nat}:∀n,(∀v,v<n→f v≤g v)→w<n→f w+c≤g w→tot n f+c≤tot n g
 | 0,_,h,_=>by omega
 | n + 1, h, hw, hc => by
   by_cases e:w=n
   ·subst e; have:=HC w (λv hv=>h v (by omega)); simp only[tot]; omega
   ·have:=HD n (λv hv=>h v (by omega)) (by omega) hc; have:=h n (by omega); simp only[tot]; omega
theorem c42 {f:Nat→Nat} {n v:Nat} (h:tot n f=0) (hv:v<n):f v=0:=by
 have:=HD (f:=λ_=>0) (g:=f) (w:=v) (c:=f v) n (λ_ _=>bG _) hv (by omega)
 omega
theorem MT {f g:Nat→Nat} {w c:Nat}:∀n,(∀v,v<n→v≠w→f v=g v)→w<n→f w+c=g w→tot n f+c=tot n g
 | 0,_,h,_=>by omega
 | n + 1, h, hw, hc => by
   by_cases e:w=n
   ·subst e; have:=HA w (λv hv=>h v (by omega) (by omega)); simp only[tot]; omega
   ·have:=MT n (λv hv=>h v (by omega)) (by omega) hc; have:=h n (by omega) (λe'=>e e'.symm); simp only[tot]; omega
def cnt (n:Nat) (N:Nat→List Nat) (O:List Nat) (w:Nat):Nat:=tot n λu=>if u∈O then 0 else(N u).count w
structure OI (n:Nat) (N:Nat→List Nat) (O R:List Nat) (rest:List Nat) (c:Nat→Nat):Prop where
 cn:∀w,w<n→c w=cnt n N O w+rest.count w
 nd:(O++R).Nodup
 mem:∀v,v∈O++R↔v<n∧c v=0
 ord:∀i (h:i<O.length) a,a<n→O[i]∈N a→a∈O.take i
section
variable {n:Nat} {N:Nat→List Nat} {O R:List Nat} {c:Nat→Nat}
theorem c1f {l:List Nat} {a:Nat} (h:a∈l):0<l.count a:=List.count_pos_iff.2 h
theorem OI.pop {v:Nat} {R':List Nat} (h:OI n N O R [] c) (hp:R.Perm (v::R')):v<n∧OI n N (O++[v]) R' (N v) c:=by
 have wj:v∈R:=hp.mem_iff.2 (by simp)
 obtain⟨hv,jK⟩:=(h.mem v).1 (by simp[wj])
 have oS:(O++R).Perm ((O++[v])++R'):=by
  rw[aN]; exact hp.append_left O
 have dl:=oS.nodup_iff.1 h.nd
 have pU:v∉O:=by
  intro hm
  rw[aN] at dl
  exact(bW.1 dl).2.2 v hm v (by simp) rfl
 refine⟨hv,?_,dl,λu=>by rw[← oS.mem_iff]; exact h.mem u,?_⟩
 ·intro w hw
  rw[h.cn w hw,List.count_nil,bw]
  symm
  refine MT (w:=v) n ?_ hv ?_
  ·intro u _ hu; simp[hu]
  ·simp[pU]
 ·intro i hi a ha hm
  by_cases e:i<O.length
  ·rw[List.getElem_append_left e] at hm
   rw[cN (by omega)]
   exact h.ord i e a ha hm
  ·have:i=O.length:=by simp at hi; omega
   subst this
   simp at hm
   rw[List.take_left']
   ·by_cases hx:a∈O
    ·exact hx
    ·exfalso
     have h1:=h.cn v hv
     rw[jK,List.count_nil] at h1
     have h2:=c42 (n:=n) (v:=a) (f:=λu=>if u∈O then 0 else(N u).count v) (by unfold cnt at h1; omega) ha
     simp only[hx,if_false] at h2
     have:=c1f hm
     omega
   ·rfl
theorem OI.dec {w:Nat} {r:List Nat} (h:OI n N O R (w::r) c) (hw:w<n):0<c w∧(c w=1→OI n N O (w::R) r (fup c w (c w - 1)))∧(c w≠1→OI n N O R r (fup c w (c w - 1))):=by
 have h0:=h.cn w hw
 rw[List.count_cons_self] at h0
 have dr:0<c w:=by omega
 have hc:∀x,x<n→fup c w (c w - 1) x=cnt n N O x+r.count x:=by
  intro x hx
  by_cases e:x=w
  ·subst e; rw[zU]; omega
  ·rw[Aw _ _ e,h.cn x hx,List.count_cons_of_ne (λe'=>e e'.symm)]
 have sD:w∉O++R:=λhm=>by have:=((h.mem w).1 hm).2; omega
 refine⟨dr,λh1=>⟨hc,?_,?_,h.ord⟩,λh1=>⟨hc,h.nd,?_,h.ord⟩⟩
 ·have hp:(O++w::R).Perm (w::(O++R)):=List.perm_middle
  exact hp.nodup_iff.2 (b8.2 ⟨sD,h.nd⟩)
 ·intro v
  have hp:(O++w::R).Perm (w::(O++R)):=List.perm_middle
  rw[hp.mem_iff,aA,h.mem]
  by_cases e:v=w
  ·subst e; rw[zU]; simp[hw,h1]
  ·rw[Aw _ _ e]; simp[e]
 ·intro v
  rw[h.mem]
  by_cases e:v=w
  ·subst e; rw[zU]; constructor<;>intro hh<;>omega
  ·rw[Aw _ _ e]
theorem OI.perm {R' rest:List Nat} (h:OI n N O R rest c) (hp:R'.Perm R):OI n N O R' rest c:=
 ⟨h.cn,(hp.append_left O).nodup_iff.2 h.nd,λv=>by rw[(hp.append_left O).mem_iff]; exact h.mem v,h.ord⟩
theorem OI.lt {rest:List Nat} (h:OI n N O R rest c):∀v∈O++R,v<n:=λv hv=>((h.mem v).1 hv).1
end
theorem F7:∀(n:Nat) (O:List Nat),O.Nodup→(∀v∈O,v<n)→O.length≤n∧(O.length=n→∀v,v<n→v∈O)
 | 0, O, _, hl => by
   cases O with
   | nil=>simp
   | cons x O=>have:=hl x (by simp); omega
 | n + 1, O, hn, hl => by
   have h1:∀v∈O.erase n,v<n:=by
    intro v hv
    have:=hl v (List.mem_of_mem_erase hv)
    have:v≠n:=(List.Nodup.mem_erase_iff hn |>.1 hv).1
    omega
   obtain⟨h2,h3⟩:=F7 n (O.erase n) (hn.erase n) h1
   have h4:=List.length_erase (a:=n) (l:=O)
   by_cases hm:n∈O
   ·have:0<O.length:=List.length_pos_of_mem hm
    rw[ai hm] at h4
    refine⟨by omega,λhe v hv =>?_⟩
    by_cases e:v=n
    ·subst e; exact hm
    ·exact List.mem_of_mem_erase (h3 (by omega) v (by omega))
   ·rw[ae hm] at h4
    exact⟨by omega,λhe=>by omega⟩
theorem QR:∀(n:Nat) (O:List Nat),(∀v,v<n→v∈O)→n≤O.length
 | 0,_,_=>bG _
 | n + 1, O, h => by
   have h1:=QR n (O.erase n) (λv hv=>(List.mem_erase_of_ne (by omega)).2 (h v (by omega)))
   have hm:=h n (by omega)
   have h2:=List.length_erase_of_mem hm
   have:0<O.length:=List.length_pos_of_mem hm
   omega
theorem MY:∀n,tot n (λ_=>0)=0
 | 0=>rfl
 | n+1=>by rw[tot,MY n]
section
variable {n:Nat} {N:Nat→List Nat} {O:List Nat} {c:Nat→Nat}
theorem OI.no_topo (h:OI n N O [] [] c) (hl:O.length<n) (f:Nat→Nat) (hf:MQ n N f):False:=by
 have da:∃v,v<n∧v∉O:=by
  apply co
  intro hh
  have dJ:∀v,v<n→v∈O:=λv hv=>co λhc=>hh ⟨v,hv,hc⟩
  have:=QR n O dJ
  omega
 have key:∀k v,v<n→v∉O→f v=k→False:=by
  intro k
  induction k using Nat.strongRecOn with
  | _ k ih =>
    intro v hv pU hk
    have jV:c v=0:=by
     rw[h.cn v hv,List.count_nil,bw]
     have:cnt n N O v=tot n λ_=>0:=by
      refine HA n λu hu =>?_
      by_cases hm:u∈O
      ·simp[hm]
      ·simp only[hm,if_false]
       refine List.count_eq_zero.2 λiV =>?_
       have:=hf u hu v iV
       exact ih (f u) (by omega) u hu hm rfl
     rw[this,MY]
    have:=(h.mem v).2 ⟨hv,jV⟩
    rw[be] at this
    exact pU this
 obtain⟨v,hv,pU⟩:=da
 exact key _ v hv pU rfl
theorem OI.order (h:OI n N O [] [] c) (hl:¬O.length<n):O.length=n∧O.Nodup∧(∀v,v∈O↔v<n)∧∀i (h:i<O.length) a,a<n→O[i]∈N a→a∈O.take i:=by
 have dl:=h.nd
 rw[be] at dl
 have cV:∀v∈O,v<n:=λv hv=>h.lt v (by simp[hv])
 obtain⟨h1,h2⟩:=F7 n O dl cV
 exact⟨by omega,dl,λv=>⟨cV v,h2 (by omega) v⟩,h.ord⟩
theorem b5J {O:List Nat} (hn:∀v,v<n→∀w∈N v,w<n) (dl:O.Nodup) (hm:∀v,v∈O↔v<n) (ho:∀i (h:i<O.length) a,a<n→O[i]∈N a→a∈O.take i):MQ n N λv=>O.idxOf v:=by
 intro u hu w hw
 have wk:=(hm w).2 (hn u hu w hw)
 obtain⟨i,hi,rfl⟩:=bH.1 wk
 have h1:=ho i hi u hu hw
 obtain⟨j,hj,rfl⟩:=bH.1 h1
 rw[List.getElem_take]
 rw[aY] at hj
 show O.idxOf O[j]<O.idxOf O[i]
 rw[dl.idxOf_getElem,dl.idxOf_getElem]
 omega
end
end PI.Sc
set_option maxRecDepth 100000
set_option linter.unusedSimpArgs false
set_option linter.unusedVariables false
namespace PI.Sc
open Go (IntKind BinOp UnOp)
open Short
def yc (l:List Nat):List PV:=l.map λ(x:Nat)=>PV.int .i64 (x:Int)
theorem A4 (l:List Nat):(yc l).length=l.length:=by simp[yc]
theorem Di {l:List Nat} {i:Nat} (h:i<l.length) (rest:List PV):(yc l++rest)[i]? = some (.int .i64 (l[i]:Int)):=by
 rw[al (by rw[A4]; exact h)]
 simp[yc,h]
theorem MZ {l:List Nat} {i:Nat} (h:i<l.length) (rest:List PV) (x:Nat):(yc l++rest).set i (.int .i64 (x:Int))=yc (l.set i x)++rest:=by
 rw[List.set_append_left _ _ (by rw[A4]; exact h)]
 simp[yc,List.map_set]
theorem HH {L:Nat→Option PFunc} {c:PC} {Q:PExit→St→Prop} (Inv:Nat→St→Prop)
  (step:∀k st,Inv k st→(∀k' st',k'<k→Inv k' st'→wpL L (.loop c) st' Q)→wpL L c st (zP L c Q)) (k:Nat) {st:St} (h:Inv k st):wpL L (.loop c) st Q:=by
 induction k using Nat.strongRecOn generalizing st with
 | _ k ih =>
   rw[Ct]
   exact step k st h λk' st' hk h'=>ih k' hk h'
section
variable {L:Nat→Option PFunc} (hL:∀k f,LS k=some f→L k=some f)
include hL
theorem M0 {k n:Nat} {R:List Nat} (hn:R.length=n) {rest:List PV} {h:List PObj} (hk:h[k]? = some (.cells (yc R++rest))) {i j:Nat} (hi:i<R.length) (hj:j<R.length):
  x8 L 226 [.rowp k 1 false n,.int .i64 (i:Int),.int .i64 (j:Int)] h=some (.bool (decide (R[i]<R[j])),h):=by
 subst hn
 have g1:=Di hi rest
 have g2:=Di hj rest
 refine yp (hL 226 _ rfl) rfl ?_
 simp[Mu,hk,hi,hj,g1,g2,yA]
theorem M1 {k n:Nat} {h:List PObj}:x8 L 224 [.rowp k 1 false n] h=some (.int .i64 (n:Int),h):=by
 refine yp (hL 224 _ rfl) rfl ?_
 simp[Ms,yA]
theorem M2 {k n:Nat} {R:List Nat} (hn:R.length=n) {rest:List PV} {h:List PObj} (hk:h[k]? = some (.cells (yc R++rest))) {i j:Nat} (hi:i<R.length) (hj:j<R.length):
  x8 L 229 [.rowp k 1 false n,.int .i64 (i:Int),.int .i64 (j:Int)] h=some (.tuple [],h.set k (.cells (yc ((R.set i R[j]).set j R[i])++rest))):=by
 subst hn
 have g1:=Di hi rest
 have g2:=Di hj rest
 obtain⟨eO,mH⟩:=ah.1 hk
 have s1:=MZ hi rest R[j]
 have s2:=MZ (l:=R.set i R[j]) (i:=j) (by rw[ba]; exact hj) rest R[i]
 refine yp (hL 229 _ rfl) rfl ?_
 have lj:j<(yc (R.set i R[j])++rest).length:=by rw[ap,A4,ba]; omega
 generalize yc R++rest=cs at *
 generalize yc (R.set i R[j])++rest=cs1 at *
 generalize yc ((R.set i R[j]).set j R[i])++rest=cs2 at *
 obtain⟨l1',e1⟩:=ah.1 g1
 obtain⟨l2',e2⟩:=ah.1 g2
 simp[Mx,mH,hi,hj,e1,e2,s1,s2,eO,l1',l2',lj,Ay]
theorem d1R {rb k:Nat} {R:List Nat} {rest:List PV} {h:List PObj} (da:rb≠k) (hb:h[rb]? = some (.cells [.rowp k 1 false R.length])) (hk:h[k]? = some (.cells (yc R++rest))) {j:Nat} (hj:j<R.length) (hR:R.length≤100000):
  ∃R',R'.Perm R∧x8 L 238 [.iface 4 (.ptr rb 0),.int .i64 (j:Int)] h=some (.tuple [],h.set k (.cells (yc R'++rest))):=by
 suffices H:∃r,x8 L 238 [.iface 4 (.ptr rb 0),.int .i64 (j:Int)] h=some r∧r.1 = .tuple []∧∃R',R'.Perm R∧r.2=h.set k (.cells (yc R'++rest)) by
  obtain⟨⟨v,h'⟩,h1,h2,R',h3,h4⟩:=H
  simp only at h2 h4; subst h2 h4
  exact⟨R',h3,h1⟩
 have eO:k<h.length:=(ah.1 hk).1
 refine AW (hL 238 _ rfl) rfl ?_
 simp[ME]
 rw[P5]
 refine HH (λm st=>∃y R',m<R.length∧R'.Perm R∧st=⟨[.iface 4 (.ptr rb 0),.int .i64 (m:Int),y],[],0,h.set k (.cells (yc R'++rest))⟩) ?_ j ⟨_,R,hj,List.Perm.refl _,by rw[Cu hk]⟩
 rintro m st ⟨y,R',hm,hp,rfl⟩ ih
 have hl:=hp.length_eq
 have di:(h.set k (.cells (yc R'++rest)))[rb]? = some (.cells [.rowp k 1 false R.length]):=by rw[af (λe=>da e.symm)]; exact hb
 have dq:(h.set k (.cells (yc R'++rest)))[k]? = some (.cells (yc R'++rest)):=by rw[ar eO]
 by_cases h0:m=0
 ·subst h0
  have wm:IntKind.i64.wrap (-1) = -1:=by decide
  have pM:(-1:Int).tdiv 2=0:=by decide
  have lH:IntKind.i64.wrap 0=0:=by decide
  simp[di,wm,pM,lH,yA]
  exact⟨R',hp,rfl⟩
 ·have hw:IntKind.i64.wrap ((m:Int) - 1)=((m - 1:Nat):Int):=by rw[show ((m:Int) - 1)=((m - 1:Nat):Int) by omega]; exact BA _ (by omega)
  obtain⟨i,hi⟩:∃i,i=(m - 1) / 2:=⟨_,rfl⟩
  have mM:i<m:=by omega
  have km:=M0 hL hl dq (i:=m) (j:=i) (by omega) (by omega)
  have rp:=M2 hL hl dq (i:=i) (j:=m) (by omega) (by omega)
  have hq:((m - 1:Nat):Int).tdiv 2=(i:Int):=by rw[Int.tdiv_eq_ediv_of_nonneg (by omega)]; omega
  have sE:=BA i (by omega)
  have sF:¬(i:Int)=(m:Int):=by omega
  have sG:¬i=m:=by omega
  simp[di,hw,hq,sE,sF,sG,BU,Cr,CH,km]
  by_cases ez:R'[i]≤R'[m]
  ·simp[ez,yA]
   exact⟨R',hp,rfl⟩
  ·simp[ez,rp]
   refine ih i _ mM ⟨_,_,by omega,?_,rfl⟩
   exact(List.set_set_perm (by omega) (by omega)).trans hp
theorem c47 {rb k:Nat} {R:List Nat} {rest:List PV} {h:List PObj} (da:rb≠k) (hb:h[rb]? = some (.cells [.rowp k 1 false R.length])) (hk:h[k]? = some (.cells (yc R++rest))) {n:Nat} (hn:n<R.length) (hR:R.length≤100000):
  ∃R' b,R'.Perm R∧x8 L 239 [.iface 4 (.ptr rb 0),.int .i64 0,.int .i64 (n:Int)] h=some (.bool b,h.set k (.cells (yc R'++rest))):=by
 suffices H:∃r,x8 L 239 [.iface 4 (.ptr rb 0),.int .i64 0,.int .i64 (n:Int)] h=some r∧∃R' b,r.1 = .bool b∧R'.Perm R∧r.2=h.set k (.cells (yc R'++rest)) by
  obtain⟨⟨v,h'⟩,h1,R',b,h2,h3,h4⟩:=H
  simp only at h2 h4; subst h2 h4
  exact⟨R',b,h3,h1⟩
 have eO:k<h.length:=(ah.1 hk).1
 refine AW (hL 239 _ rfl) rfl ?_
 simp[MF]
 rw[P6]
 refine HH (λm st=>∃i y3 y5 y6 y7 R',i+m=R.length∧0<m∧R'.Perm R∧st=⟨[.iface 4 (.ptr rb 0),.int .i64 0,.int .i64 (n:Int),y3,.int .i64 (i:Nat),y5,y6,y7],[],0,h.set k (.cells (yc R'++rest))⟩) ?_ R.length ⟨0,_,_,_,_,R,by omega,by omega,List.Perm.refl _,by rw[Cu hk]; rfl⟩
 rintro m st ⟨i,y3,y5,y6,y7,R',mM,iX,hp,rfl⟩ ih
 have hl:=hp.length_eq
 have di:(h.set k (.cells (yc R'++rest)))[rb]? = some (.cells [.rowp k 1 false R.length]):=by rw[af (λe=>da e.symm)]; exact hb
 have dq:(h.set k (.cells (yc R'++rest)))[k]? = some (.cells (yc R'++rest)):=by rw[ar eO]
 obtain⟨j1,hj1⟩:∃j,j=2*i+1:=⟨_,rfl⟩
 obtain⟨j2,wn⟩:∃j,j=j1+1:=⟨_,rfl⟩
 have gZ:IntKind.i64.wrap (2*(i:Int))=2*(i:Int):=by rw[show (2*(i:Int))=((2*i:Nat):Int) by omega]; exact BA _ (by omega)
 have ky:IntKind.i64.wrap (2*(i:Int)+1)=(j1:Int):=by rw[show (2*(i:Int)+1)=(j1:Int) by omega]; exact BA _ (by omega)
 have oT:IntKind.i64.wrap ((j1:Int)+1)=(j2:Int):=by rw[wn]; exact yn j1 (by omega)
 have hz:¬(j1:Int)<0:=by omega
 by_cases h1:j1<n
 ·have hU:¬n≤j1:=by omega
  have fin:∀j,j<n→i<j→∃b Rn,x8 L 226 [.rowp k 1 false R.length,.int .i64 (j:Int),.int .i64 (i:Int)] (h.set k (.cells (yc R'++rest)))=some (.bool b,h.set k (.cells (yc R'++rest)))∧x8 L 229 [.rowp k 1 false R.length,.int .i64 (i:Int),.int .i64 (j:Int)] (h.set k (.cells (yc R'++rest)))=some (.tuple [],h.set k (.cells (yc Rn++rest)))∧Rn.Perm R:=by
   intro j hj mJ
   have km:=M0 hL hl dq (i:=j) (j:=i) (by omega) (by omega)
   have rp:=M2 hL hl dq (i:=i) (j:=j) (by omega) (by omega)
   rw[List.set_set] at rp
   exact⟨_,_,km,rp,(List.set_set_perm (by omega) (by omega)).trans hp⟩
  by_cases h2:j2<n
  ·obtain⟨c,km⟩:∃c,x8 L 226 [.rowp k 1 false R.length,.int .i64 (j2:Int),.int .i64 (j1:Int)] (h.set k (.cells (yc R'++rest)))=some (.bool c,h.set k (.cells (yc R'++rest))):=⟨_,M0 hL hl dq (i:=j2) (j:=j1) (by omega) (by omega)⟩
   cases c with
   | true =>
     obtain⟨b,Rn,f1,f2,f3⟩:=fin j2 h2 (by omega)
     cases b with
     | true =>
       simp[di,gZ,ky,oT,hz,hU,h2,BU,Cr,CH,km,f1,f2]
       exact ih (m - (j2 - i)) _ (by omega) ⟨j2,_,_,_,_,_,by omega,by omega,f3,rfl⟩
     | false =>
       simp[di,gZ,ky,oT,hz,hU,h2,BU,Cr,CH,km,f1,yA]
       exact⟨by omega,_,hp,rfl⟩
   | false =>
     obtain⟨b,Rn,f1,f2,f3⟩:=fin j1 h1 (by omega)
     cases b with
     | true =>
       simp[di,gZ,ky,oT,hz,hU,h2,BU,Cr,CH,km,f1,f2]
       exact ih (m - (j1 - i)) _ (by omega) ⟨j1,_,_,_,_,_,by omega,by omega,f3,rfl⟩
     | false =>
       simp[di,gZ,ky,oT,hz,hU,h2,BU,Cr,CH,km,f1,yA]
       exact⟨by omega,_,hp,rfl⟩
  ·obtain⟨b,Rn,f1,f2,f3⟩:=fin j1 h1 (by omega)
   cases b with
   | true =>
     simp[di,gZ,ky,oT,hz,hU,h2,BU,Cr,CH,f1,f2]
     exact ih (m - (j1 - i)) _ (by omega) ⟨j1,_,_,_,_,_,by omega,by omega,f3,rfl⟩
   | false =>
     simp[di,gZ,ky,oT,hz,hU,h2,BU,Cr,CH,f1,yA]
     exact⟨by omega,_,hp,rfl⟩
 ·have hU:n≤j1:=by omega
  simp[gZ,ky,hU,yA]
  exact⟨by omega,_,hp,rfl⟩
end
theorem QS (R:List Nat) (rest:List PV):(yc R++rest).take R.length=yc R:=by rw[List.take_left' (A4 R)]
theorem JE {h:List PObj} {k n:Nat} {R:List Nat} {rest:List PV} (hn:R.length=n) (hk:h[k]? = some (.cells (yc R++rest))) (hR:n<2147483647) (x:Nat) (V l:List PV) (g:Nat):
  AD h 1 false 8 [.int .i64 (x:Int)] (.rowp k 1 false n) ⟨V,l,g,h⟩=some (.rowp h.length 1 false (n+1),⟨V,l,g,h.set k .gone++[.cells (yc (R++[x]))]⟩):=by
 subst hn
 have e:yc (R++[x])=yc R++[.int .i64 (x:Int)]:=by simp[yc]
 have e1:R.length≤(yc R).length+rest.length:=by rw[A4]; omega
 have e2:R.length≤2147483646:=by omega
 have e3:=QS R rest
 simp[AD,hk,e,e1,e3]
 omega
section
variable {L:Nat→Option PFunc} (hL:∀k f,LS k=some f→L k=some f)
include hL
structure HB (h:List PObj) (rb k:Nat) (R:List Nat):Prop where
 ne:rb≠k
 box:h[rb]? = some (.cells [.rowp k 1 false R.length])
 row:∃rest,h[k]? = some (.cells (yc R++rest))
structure HF (h h':List PObj) (rb k k':Nat):Prop where
 len:h.length≤h'.length
 same:∀a,a<h.length→a≠rb→a≠k→h'[a]? = h[a]?
 new:k'=k∨h.length≤k'
theorem QT {rb k:Nat} {R:List Nat} {h:List PObj} (hb:HB h rb k R) (x:Nat) (hR:R.length<100000):
  ∃h' k' R',x8 L 223 [.iface 4 (.ptr rb 0),.iface 3 (.int .i64 (x:Int))] h=some (.tuple [],h')∧HB h' rb k' R'∧R'.Perm (x::R)∧HF h h' rb k k':=by
 obtain⟨da,it,rest,hk⟩:=hb
 have eO:k<h.length:=(ah.1 hk).1
 have oU:rb<h.length:=(ah.1 it).1
 obtain⟨h1,ie⟩:∃h1,h1=(h.set k .gone++[PObj.cells (yc (R++[x]))]).set rb (PObj.cells [.rowp h.length 1 false (R.length+1)]):=⟨_,rfl⟩
 have hs:∀X:List PObj,(h.set k .gone++X)[rb]? = some (.cells [.rowp k 1 false R.length]):=λX=>by rw[al (by simpa using oU),af (λe=>da e.symm),it]
 have c1:x8 L 228 [.ptr rb 0,.iface 3 (.int .i64 (x:Int))] h=some (.tuple [],h1):=by
  refine yp (hL 228 _ rfl) rfl ?_
  simp[Mw,it,JE rfl hk (show R.length<2147483647 by omega),hs,Ay,ie]
 have eP:h1[rb]? = some (.cells [.rowp h.length 1 false (R++[x]).length]):=by
  rw[ie,ar (by simp; omega)]; simp
 have eV:h1[h.length]? = some (.cells (yc (R++[x])++[])):=by
  rw[ie,af (by omega),aq (by simp)]; simp
 obtain⟨R',hp,c2⟩:=d1R hL (by omega) eP eV (j:=R.length) (by simp) (by simp; omega)
 refine⟨h1.set h.length (.cells (yc R'++[])),h.length,R',?_,⟨by omega,?_,[],?_⟩,?_,⟨?_,?_,.inr (an _)⟩⟩
 ·refine yp (hL 223 _ rfl) rfl ?_
  have c3:=M1 hL (k:=h.length) (n:=R.length+1) (h:=h1)
  have hw:IntKind.i64.wrap (((R.length+1:Nat):Int) - 1)=(R.length:Int):=by rw[show (((R.length+1:Nat):Int) - 1)=(R.length:Int) by omega]; exact BA _ (by omega)
  simp only[ap,aB,bo,aS] at eP
  generalize R.length+1=n1 at *
  simp[Mr,BU,Cr,CH,c1,eP,c3,hw,c2]
 ·rw[af (by omega),eP,hp.length_eq]
 ·rw[ar (by rw[ie]; simp)]
 ·refine hp.trans ?_
  exact List.perm_append_comm
 ·rw[ie]; simp
 ·intro a ha h2 h3
  rw[af (by omega),ie,af (λe=>h2 e.symm),al (by simpa using ha),af (λe=>h3 e.symm)]
theorem c48 {rb k:Nat} {R:List Nat} {h:List PObj} (hb:HB h rb k R) (hR:R.length<100000) (h0:R≠[]):
  ∃h' v,∃R':List Nat,x8 L 225 [.iface 4 (.ptr rb 0)] h=some (.iface 3 (.int .i64 ((v:Nat):Int)),h')∧HB h' rb k R'∧R.Perm (v::R')∧HF h h' rb k k:=by
 obtain⟨da,it,rest,hk⟩:=hb
 have eO:k<h.length:=(ah.1 hk).1
 have oU:rb<h.length:=(ah.1 it).1
 have dr:0<R.length:=bI.2 h0
 obtain⟨n,hn⟩:∃n,n=R.length - 1:=⟨_,rfl⟩
 have fx:n<R.length:=by omega
 have yw:∀C:List PV,(h.set k (.cells C))[rb]? = some (.cells [.rowp k 1 false R.length]):=λC=>by rw[af (λe=>da e.symm),it]
 have yC:∀C:List PV,(h.set k (.cells C))[k]? = some (.cells C):=λC=>ar eO
 have c1:x8 L 229 [.rowp k 1 false R.length,.int .i64 0,.int .i64 (n:Int)] h=_:=M2 hL rfl hk (i:=0) (j:=n) dr fx
 obtain⟨R1,hZ⟩:∃R1,R1=(R.set 0 R[n]).set n R[0]:=⟨_,rfl⟩
 rw[← hZ] at c1
 have iE:R1.Perm R:=by rw[hZ]; exact List.set_set_perm dr fx
 have l1:=iE.length_eq
 obtain⟨R2,b,nJ,c2⟩:=c47 hL (R:=R1) (rest:=rest) (h:=h.set k (.cells (yc R1++rest))) da (by rw[l1]; exact yw _) (yC _) (n:=n) (by omega) (by omega)
 rw[List.set_set] at c2
 have l2:=nJ.length_eq
 have c3:=M1 hL (k:=k) (n:=R.length) (h:=h)
 have hw:IntKind.i64.wrap ((R.length:Int) - 1)=(n:Int):=by rw[show ((R.length:Int) - 1)=(n:Int) by omega]; exact BA _ (by omega)
 have rq:n<R2.length:=by omega
 have g1:=Di rq rest
 obtain⟨h2,fR⟩:∃h2,h2=h.set k (.cells (yc R2++rest)):=⟨_,rfl⟩
 obtain⟨h3,mI⟩:∃h3,h3=h2.set rb (.cells [.rowp k 1 false n]):=⟨_,rfl⟩
 have dE:h2[rb]? = some (.cells [.rowp k 1 false R.length]):=by rw[fR]; exact yw _
 have em:h2[k]? = some (.cells (yc R2++rest)):=by rw[fR]; exact yC _
 have ez:n≤R.length:=by omega
 have c4:x8 L 227 [.ptr rb 0] h2=some (.iface 3 (.int .i64 (R2[n]:Int)),h3):=by
  refine yp (hL 227 _ rfl) rfl ?_
  simp[Mv,dE,em,hw,fx,ez,g1,Ay,mI,yA]
 have eR:R2.take n++[R2[n]]=R2:=by
  have:=aX (l:=R2) (i:=n)
  rw[bQ (by omega),am rq] at this
  exact this.symm
 refine⟨h3,R2[n],R2.take n,?_,⟨da,?_,[.int .i64 (R2[n]:Int)]++rest,?_⟩,?_,⟨?_,?_,.inl rfl⟩⟩
 ·refine yp (hL 225 _ rfl) rfl ?_
  rw[← fR] at c2
  simp[Mt,BU,Cr,CH,it,c3,hw,c1,yw,c2,c4,yA]
 ·rw[mI,ar (by rw[fR]; simpa using oU),aY,Nat.min_eq_left (by omega)]
 ·rw[mI,af da,em,← aN]
  congr 3
  have:yc R2=yc (R2.take n++[R2[n]]):=by rw[eR]
  rw[this]
  unfold yc
  rw[bh]; rfl
 ·refine(iE.symm.trans nJ.symm).trans ?_
  exact(List.Perm.of_eq eR.symm).trans List.perm_append_comm
 ·rw[mI,fR]; simp
 ·intro a ha h2 eU
  rw[mI,af (λe=>h2 e.symm),fR,af (λe=>eU e.symm)]
end
def B3 (z:List Nat) (x:Nat):List Nat:=if z.getLast? = some x then z else z++[x]
def AF (l:List Nat):List Nat:=l.foldl B3 []
theorem c2B (z:List Nat) (x:Nat):(B3 z x).getLast? = some x:=by
 unfold B3
 split
 ·assumption
 ·simp
theorem HI (l:List Nat) {i:Nat} (h:i<l.length):AF (l.take (i+1))=B3 (AF (l.take i)) l[i]:=by
 unfold AF
 rw[aX,am h,cJ]; rfl
theorem M3 (l:List Nat) {i:Nat} (h:i<l.length):(AF (l.take (i+1))).getLast? = some l[i]:=by
 rw[HI l h,c2B]
theorem c49 (z:List Nat) (x y:Nat):y∈B3 z x↔y∈z∨y=x:=by
 unfold B3
 split
 ·rename_i h
  have:=List.mem_of_getLast? h
  constructor
  ·exact .inl
  ·rintro(h|rfl)
   ·exact h
   ·exact this
 ·simp
theorem b64 (l:List Nat) (y:Nat):y∈AF l↔y∈l:=by
 have:∀(l z:List Nat),y∈l.foldl B3 z↔y∈z∨y∈l:=by
  intro l
  induction l with
  | nil=>intro z; simp
  | cons x l ih=>intro z; rw[cD,ih,c49]; simp[or_assoc]
 unfold AF
 rw[this]; simp
section
variable {L:Nat→Option PFunc} (hL:∀k f,LS k=some f→L k=some f)
include hL
theorem b8X (l:List Nat) (hl:l.length≤2000000000) (n:Nat) (rest:List PV) (h:List PObj) (hn:h[n]? = some (.cells (yc l++rest))) (q:Nat) (h1:1≤q) (iB:q<l.length) (hc:AF (l.take q)=l.take q) (he:l[q]=l[q - 1])
  {Q:PExit→St→Prop} (hk:∀cur k y4,cur.length=l.length→k≤l.length→1≤k→cur.take k=AF l→Q (.exit 2) ⟨[.rowp n 1 false l.length,.list true [],.int .i64 (k:Nat),.rows n 1 false q (l.length - q),y4],[],0,h.set n (.cells (yc cur++rest))⟩):
  wpL L MD ⟨[.rowp n 1 false l.length,.list true [],.int .i64 q,.rows n 1 false q (l.length - q),.int .i64 1],[],0,h⟩ Q:=by
 have fx:n<h.length:=(ah.1 hn).1
 have yw:h.set n (.cells (yc l++rest))=h:=Cu hn
 have jG:q - 1<l.length:=by omega
 have fU:(l.take q).getLast? = some l[q - 1]:=by
  have:=M3 l jG
  rw[show q - 1+1=q by omega,hc] at this
  exact this
 have jc:l.take q=AF (l.take (q+1)):=by rw[HI l iB,hc,B3,ai (by rw[fU,he])]
 rw[MD]
 refine yK (l.length - q - 1) (λj st=>∃k2 k cur,k2=j+1∧st=⟨[.rowp n 1 false l.length,.list true [],.int .i64 (k:Nat),.rows n 1 false q (l.length - q),.int .i64 (k2:Nat)],[],0,h.set n (.cells (yc cur++rest))⟩∧cur.length=l.length∧cur.take k=AF (l.take (q+k2))∧1≤k∧k≤q+k2 - 1∧∀i,q+k2 - 1≤i→cur[i]? = l[i]?) ?_ ?_ ⟨1,q,l,rfl,by rw[yw]; rfl,rfl,jc,h1,by omega,λ_ _=>rfl⟩
 ·rintro j hj st ⟨k2,k,cur,em,rfl,dA,d9,eV,pL,dz⟩ ih
  have cV:k2<l.length - q:=by omega
  have eC:q+k2<l.length:=by omega
  have hi:q+k2<cur.length:=by omega
  have gu:q+(k2 - 1)<cur.length:=by omega
  have ic:k<cur.length:=by omega
  have eO:k<l.length:=by omega
  have g1:=Di hi rest
  have g2:=Di gu rest
  have hw:=yn k2 (by omega)
  have sj:=yn k (by omega)
  have hs:IntKind.i64.wrap ((k2:Int) - 1)=((k2 - 1:Nat):Int):=by rw[show ((k2:Int) - 1)=((k2 - 1:Nat):Int) by omega]; exact BA _ (by omega)
  have kK:k2 - 1<l.length - q:=by omega
  have e1:cur[q+k2]=l[q+k2]:=by
   have:=dz (q+k2) (by omega)
   rw[am hi,am eC] at this
   simpa using this
  have e2':cur[q+(k2 - 1)]=l[q+(k2 - 1)]:=by
   have:=dz (q+(k2 - 1)) (by omega)
   rw[am gu,am (by omega)] at this
   simpa using this
  have jd:=HI l eC
  have ny:(AF (l.take (q+k2))).getLast? = some l[q+(k2 - 1)]:=by
   have:=M3 l (i:=q+(k2 - 1)) (by omega)
   rwa [show q+(k2 - 1)+1=q+k2 by omega] at this
  rw[e1] at g1
  rw[e2'] at g2
  by_cases hd:l[q+k2]=l[q+(k2 - 1)]
  ·simp[cV,hw,fx,hs,kK,g1,g2,hd]
   refine ih _ ⟨k2+1,k,cur,by omega,rfl,dA,?_,eV,by omega,λi hi=>dz i (by omega)⟩
   ·rw[show q+(k2+1)=q+k2+1 by omega,jd,B3,ai (by rw[ny,hd])]
    exact d9
  ·have gm:¬(l[q+k2]:Int)=(l[q+(k2 - 1)]:Int):=by omega
   have dn:=MZ ic rest l[q+k2]
   have dS:k<(yc cur).length+rest.length:=by rw[A4]; omega
   simp[cV,hw,sj,fx,hs,kK,eO,g1,g2,hd,gm,dn,dS]
   refine ih _ ⟨k2+1,k+1,cur.set k l[q+k2],by omega,rfl,by rw[ba]; exact dA,?_,by omega,by omega,λi hi =>?_⟩
   ·rw[show q+(k2+1)=q+k2+1 by omega,jd,B3,ae (by rw[ny]; intro e; exact hd (by simpa using e.symm)),← d9]
    rw[aX,ar ic]
    simp only[Option.toList_some]
    congr 1
    rw[List.take_set_of_le (an k)]
   ·rw[af (by omega)]
    exact dz i (by omega)
 ·rintro st ⟨k2,k,cur,em,rfl,dA,d9,eV,pL,dz⟩
  have e:q+k2=l.length:=by omega
  have je:¬k2<l.length - q:=by omega
  rw[e,aC] at d9
  simp[je]
  exact hk cur k _ dA (by omega) eV d9
theorem b65 (l:List Nat) (hl:l.length≤2000000000) (n:Nat) (rest:List PV) (h:List PObj) (hn:h[n]? = some (.cells (yc l++rest))):
  ∃rest',x8 L 237 [.rowp n 1 false l.length] h=some (.rowp n 1 false (AF l).length,h.set n (.cells (yc (AF l)++rest'))):=by
 suffices H:∃r,x8 L 237 [.rowp n 1 false l.length] h=some r∧r.1 = .rowp n 1 false (AF l).length∧∃rest',r.2=h.set n (.cells (yc (AF l)++rest')) by
  obtain⟨⟨v,h'⟩,h1,h2,r',h3⟩:=H
  simp only at h2 h3; subst h2 h3
  exact⟨r',h1⟩
 have fx:n<h.length:=(ah.1 hn).1
 refine AW (hL 237 _ rfl) rfl ?_
 by_cases h2:l.length<2
 ·have eu:(l.length:Int)<2:=by omega
  have e:AF l=l:=by
   match l,h2 with
   | [],_=>rfl
   | [x],_=>rfl
  simp[Hs,tf eu,yA,e]
  exact⟨rest,(Cu hn).symm⟩
 ·have eu:¬(l.length:Int)<2:=by omega
  simp[Hs,eu]
  rw[P4]
  have dr:0<l.length:=by omega
  refine yK (l.length - 1) (λj st=>∃y3 y4 q,q=j+1∧st=⟨[.rowp n 1 false l.length,.list true [],.int .i64 q,y3,y4],[],0,h⟩∧AF (l.take q)=l.take q) ?_ ?_ ⟨_,_,1,rfl,rfl,?_⟩
  ·rintro j hj st ⟨y3,y4,q,hq,rfl,hc⟩ ih
   have iB:q<l.length:=by omega
   have hw:=yn q (by omega)
   have hs:IntKind.i64.wrap ((q:Int) - 1)=((q - 1:Nat):Int):=by rw[show ((q:Int) - 1)=((q - 1:Nat):Int) by omega]; exact BA _ (by omega)
   have jG:q - 1<l.length:=by omega
   have g1:=Di iB rest
   have g2:=Di jG rest
   have gl:AF (l.take (q+1))=B3 (l.take q) l[q]:=by rw[HI l iB,hc]
   have fU:(l.take q).getLast? = some l[q - 1]:=by
    have:=M3 l jG
    rw[show q - 1+1=q by omega,hc] at this
    exact this
   have nA:q≤l.length:=by omega
   have pM:¬q=0:=by omega
   by_cases he:l[q]=l[q - 1]
   ·simp[iB,hw,hn,hs,jG,g1,g2,he,nA,pM]
    refine b8X hL l hl n rest h hn q (by omega) iB hc he ?_
    intro cur k y4 dA eO eV d9
    have lI:¬k=0:=by omega
    have ic:(AF l).length=k:=by rw[← d9,aY]; omega
    have lR:k≤(yc cur).length+rest.length:=by rw[A4]; omega
    have sH:k≤(yc cur).length:=by rw[A4]; omega
    have pV:(yc cur++rest).take k=yc (AF l):=by rw[cN sH,← d9,yc,yc,List.map_take]
    simp[eO,fx,lI,yA,ic,lR,pV]
    exact⟨[],by simp⟩
   ·have gm:¬(l[q]:Int)=(l[q - 1]:Int):=by omega
    simp[iB,hw,hn,hs,jG,g1,g2,gm,he]
    refine ih _ ⟨_,_,q+1,by omega,rfl,?_⟩
    rw[gl,B3,ae (by rw[fU]; intro e; exact he (by simpa using e.symm)),aX,am iB]
    rfl
  ·rintro st ⟨y3,y4,q,hq,rfl,hc⟩
   have sk:q=l.length:=by omega
   subst sk
   rw[aC] at hc
   simp[yA,hc]
   exact⟨rest,(Cu hn).symm⟩
  ·rw[show (1:Nat)=0+1 from rfl,HI l dr]
   rw[aX,am dr]
   rfl
end
def eE (e:Nat×Nat):PV := .agg [.int .i64 (e.1:Int),.int .i64 (e.2:Int)]
def AE (E:List (Nat×Nat)) (v:Nat):List Nat:=(E.filter λe=>e.1==v).map (·.2)
theorem ES {E:List (Nat×Nat)} {v w:Nat}:w∈AE E v↔(v,w)∈E:=by
 unfold AE
 simp only[bc,cE,br]
 constructor
 ·rintro⟨⟨a,b⟩,⟨h1,h2⟩,h3⟩
  simp only at h2 h3; subst h2 h3; exact h1
 ·intro h; exact⟨(v,w),⟨h,rfl⟩,rfl⟩
theorem c2C (E:List (Nat×Nat)) (e:Nat×Nat):AE (E++[e])=fup (AE E) e.1 (AE E e.1++[e.2]):=by
 funext v
 unfold AE fup
 rw[List.filter_append,bh]
 by_cases h:v=e.1
 ·subst h; simp
 ·rw[ae h]
  have:(e.1==v)=false:=by simpa using λe'=>h e'.symm
  simp[this]
section
variable {L:Nat→Option PFunc} (hL:∀k f,LS k=some f→L k=some f)
include hL
theorem QU (x n:Nat) (h:List PObj):x8 L 234 [.int .i64 (x:Int),.cptr [.int .i64 (n:Int)]] h=some (.bool (decide (x<n)),h):=by
 refine yp (hL 234 _ rfl) rfl ?_
 simp[MB,yA]
theorem c5a (v:PV) (hv:v = .list false []∨v = .nils) (fv:PV) (hf:∃k a c,fv = .func k a c) (h:List PObj):x8 L 244 [v,fv] h=some (.int .i64 (-1),h):=by
 obtain⟨k,a,c,rfl⟩:=hf
 refine yp (hL 244 _ rfl) rfl ?_
 rcases hv with rfl|rfl
 all_goals
  simp[MG,P9,Ct,yA]
theorem c2D (v:PV) (hv:v = .list false []∨v = .nils) (fv:PV) (hf:∃k a c,fv = .func k a c) (h:List PObj):x8 L 235 [v,fv] h=some (.bool false,h):=by
 have hc:=c5a hL v hv fv hf h
 obtain⟨k,a,c,rfl⟩:=hf
 refine yp (hL 235 _ rfl) rfl ?_
 rcases hv with rfl|rfl
 all_goals
  simp[MC,hc,yA]
theorem QI (n:Nat) (hn:n≤4096) (E:List (Nat×Nat)) (hE:∀e∈E,e.1<n∧e.2<n) (hl:E.length≤2000000000) (v:PV) (hv:v = .list false []∨v = .nils):x8 L 221 [.int .i64 (n:Int),.list false (E.map eE),v] []=some (.bool true,[]):=by
 have h0:¬(n:Int)<0:=by omega
 have h1:¬4096<(n:Int):=by omega
 have hd:dem v=v:=by rcases hv with rfl|rfl<;>rfl
 have hn:=λh=>c2D hL v hv (.func 236 [] [.cptr [.func 234 [] [.cptr [.int .i64 (n:Int)]]]]) ⟨_,_,_,rfl⟩ h
 have gc:cp v=some v:=by rcases hv with rfl|rfl<;>rfl
 have rt:yt v=true:=by rcases hv with rfl|rfl<;>rfl
 refine yp (hL 221 _ rfl) rfl ?_
 simp[Mn,h0,h1,PV.flat,hd]
 rw[P0]
 refine yK E.length (λi st=>∃y6 g',st=⟨[.int .i64 (n:Int),.list false (E.map eE),v,.cptr [.int .i64 (n:Int)],.bool false,.loc 1 [.func 234 [] [.cptr [.int .i64 (n:Int)]]],y6,.list false (E.map eE),.int .i64 (E.length:Nat),.int .i64 (i:Nat)],[],g',[]⟩) ?_ ?_ ⟨_,_,rfl⟩
 ·rintro i hi st ⟨y6,g',rfl⟩ ih
  have hw:=yn i (by omega)
  obtain⟨e1,e2⟩:=hE E[i] (ak hi)
  have c1:=QU hL E[i].1 n []
  have c2:=QU hL E[i].2 n []
  simp[e1] at c1
  simp[e2] at c2
  simp[hi,hw,eE,c1,c2]
  exact ih _ ⟨_,_,rfl⟩
 ·rintro st ⟨y6,g',rfl⟩
  simp[hn,gc,rt,yA]
end
theorem b67 (l:List Nat):(AF l).length≤l.length:=by
 have:∀(l z:List Nat),(l.foldl B3 z).length≤z.length+l.length:=by
  intro l
  induction l with
  | nil=>intro z; simp
  | cons x l ih =>
    intro z
    have:=ih (B3 z x)
    have h2:(B3 z x).length≤z.length+1:=by unfold B3; split<;>simp
    simp only[cD,aB]; omega
 have:=this l []
 unfold AF
 simpa using this
theorem QV:∀R:List Nat,Fs (yc R)=some (R.map λ(x:Nat)=>(x:Int))
 | []=>rfl
 | x :: R => by
   have ih:=QV R
   unfold yc at ih ⊢
   simp only[az,Fs,ih,aH]
structure NS (n:Nat) (h:List PObj) (f:Nat→List Nat) (ns:List PV) (ow:Nat→Nat):Prop where
 obj:h[0]? = some (.cells ns)
 len:ns.length=n
 row:∀v,v<n→(f v=[]∧∃o,ns[v]? = some (.list o []))∨∃k rest,ns[v]? = some (.rowp k 1 false (f v).length)∧1≤k∧ow k=v∧h[k]? = some (.cells (yc (f v)++rest))
theorem NS.upd {n:Nat} {h H:List PObj} {f:Nat→List Nat} {ns:List PV} {ow:Nat→Nat} (eN:NS n h f ns ow) {v:Nat} (hv:v<n) (x:Nat) (hK:H[h.length]? = some (.cells (yc (f v++[x])))) (h0:0<h.length)
  (hs:∀a,1≤a→a<h.length→ow a≠v→H[a]? = h[a]?) {m:Nat} (hm:m=(f v).length+1):
  NS n (H.set 0 (.cells (ns.set v (.rowp h.length 1 false m)))) (fup f v (f v++[x])) (ns.set v (.rowp h.length 1 false m)) (fup ow h.length v):=by
 have hH:h.length<H.length:=(ah.1 hK).1
 have hl:=eN.len
 refine⟨ar (by omega),by rw[ba]; exact hl,λu hu =>?_⟩
 by_cases e:u=v
 ·subst e
  refine .inr ⟨h.length,[],?_,h0,zU _ _ _,?_⟩
  ·rw[zU,ar (by omega),hm]; simp
  ·rw[zU,af (by omega),hK,be]
 ·rw[Aw _ _ e]
  rcases eN.row u hu with⟨h1,o,h2⟩|⟨k,rest,h1,h2,h3,h4⟩
  ·exact .inl ⟨h1,o,by rw[af (λe'=>e e'.symm)]; exact h2⟩
  ·have eO:k<h.length:=(ah.1 h4).1
   refine .inr ⟨k,rest,by rw[af (λe'=>e e'.symm)]; exact h1,h2,?_,?_⟩
   ·rw[Aw _ _ (by omega)]; exact h3
   ·rw[af (by omega),hs k h2 eO (by rw[h3]; exact e)]; exact h4
section
variable {L:Nat→Option PFunc} (hL:∀k f,LS k=some f→L k=some f)
include hL
theorem d5l (n:Nat) (hn:n≤4096) (E:List (Nat×Nat)) (hE:∀e∈E,e.1<n∧e.2<n) (hl:E.length≤2000000000) (V0 V2 V9 V10:PV) {Q:PExit→St→Prop}
  (hk:∀y4 g' h' ns ow,NS n h' (AE E) ns ow→Q (.exit 0) ⟨[V0,.list false (E.map eE),V2,.rowp 0 1 false n,y4,.dead,.list false (E.map eE),.int .i64 (E.length:Nat),.int .i64 (E.length:Nat),V9,V10],[],g',h'⟩):
  wpL L Mo ⟨[V0,.list false (E.map eE),V2,.rowp 0 1 false n,.dead,.dead,.list false (E.map eE),.int .i64 (E.length:Nat),.int .i64 0,V9,V10],[],0,[.cells (List.replicate n (.list true []))]⟩ Q:=by
 rw[Mo]
 have _:=hL
 refine yK E.length (λi st=>∃y4 g' h',∃ns:List PV,∃ow,NS n h' (AE (E.take i)) ns ow∧(∀(v:Nat) (o:Bool),ns[v]? = some (PV.list o [])→o=true)∧st=⟨[V0,.list false (E.map eE),V2,.rowp 0 1 false n,y4,.dead,.list false (E.map eE),.int .i64 (E.length:Nat),.int .i64 (i:Nat),V9,V10],[],g',h'⟩) ?_ ?_ ⟨_,_,_,_,λ_=>0,⟨rfl,by simp,λv hv => .inl ⟨rfl,true,by simp[hv]⟩⟩,λv o h=>by simp[cu] at h; exact h.2,rfl⟩
 ·rintro i hi st ⟨y4,g',h',ns,ow,eN,pV,rfl⟩ ih
  obtain⟨ho,cS,gP⟩:=id eN
  have trues:∀m,(∀(v:Nat) (o:Bool),ns[v]? = some (PV.list o [])→o=true)→∀(v:Nat) (o:Bool),(ns.set E[i].1 (.rowp h'.length 1 false m))[v]? = some (PV.list o [])→o=true:=by
   intro m ht v o hv
   rw[aU] at hv
   split at hv
   ·split at hv<;>simp at hv
   ·exact ht v o hv
  have hw:=yn i (by omega)
  obtain⟨e1,e2⟩:=hE E[i] (ak hi)
  have e1':E[i].1<ns.length:=by omega
  have jd:=c2C (E.take i) E[i]
  rw[← AB hi] at jd
  have nK:0<h'.length:=(ah.1 ho).1
  have fG:(AE (E.take i) E[i].1).length≤i:=by
   unfold AE
   rw[aG]
   refine aD (List.length_filter_le _ _) ?_
   rw[aY]; omega
  rcases gP E[i].1 e1 with⟨hf,o,lX⟩|⟨k,rest,lX,eV,de,lR⟩
  ·have:=pV _ _ lX
   subst this
   obtain⟨H1,fE⟩:∃H,H=h'.set 0 (.cells (ns.set E[i].1 (.list false []))):=⟨_,rfl⟩
   obtain⟨H2,eZ⟩:∃H,H=H1++[PObj.cells [.int .i64 (E[i].2:Int)]]:=⟨_,rfl⟩
   have gk:∀V l g,AD H1 1 false 8 [.int .i64 (E[i].2:Int)] (.list true []) ⟨V,l,g,H1⟩=some (.rowp H1.length 1 false 1,⟨V,l,g,H2⟩):=by
    intro V l g
    simp[AD,eZ]
   have kL:H2[0]? = some (.cells (ns.set E[i].1 (.list false []))):=by rw[eZ,al (by rw[fE]; simpa using nK),fE,ar nK]
   have da:=(ah.1 lX).2
   simp[hi,hw,eE,ho,e1,e1',da,← fE,gk,kL,Ay]
   have d8:H1.length=h'.length:=by rw[fE,ba]
   have ee:=eN.upd e1 E[i].2 (H:=H2) (m:=1) (by rw[eZ,hf,← d8,aq (an _)]; simp[yc]) nK (λa h1 h2 _=>by rw[eZ,al (by omega),fE,af (by omega)]) (by rw[hf]; rfl)
   rw[← jd] at ee
   rw[d8]
   exact ih _ ⟨_,_,_,_,_,ee,trues _ pV,rfl⟩
  ·obtain⟨H2,eZ⟩:∃H,H=h'.set k .gone++[PObj.cells (yc (AE (E.take i) E[i].1++[E[i].2]))]:=⟨_,rfl⟩
   have gk:=JE rfl lR (by omega) E[i].2
   simp only[← eZ] at gk
   have kL:H2[0]? = some (.cells ns):=by rw[eZ,al (by simpa using nK),af (by omega),ho]
   have da:=(ah.1 lX).2
   simp[hi,hw,eE,ho,e1,e1',da,gk,kL,Ay]
   have ee:=eN.upd e1 E[i].2 (H:=H2) (m:=(AE (E.take i) E[i].1).length+1) (by rw[eZ,aq (by simp)]; simp) nK (λa h1 h2 h3=>by rw[eZ,al (by simpa using h2),af (by rintro rfl; exact h3 de)]) rfl
   rw[← jd] at ee
   exact ih _ ⟨_,_,_,_,_,ee,trues _ pV,rfl⟩
 ·rintro st ⟨y4,g',h',ns,ow,eN,_,rfl⟩
  rw[aC] at eN
  simp
  exact hk _ _ _ _ _ eN
theorem b5N (h:List PObj):x8 L 237 [.list false []] h=some (.list false [],h):=by
 refine yp (hL 237 _ rfl) rfl ?_
 simp[Hs]
theorem c1g (h:List PObj):x8 L 39 [.list false []] h=some (.tuple [],h):=by
 rw[Hz (hL 39 _ rfl) rfl rfl]
 have hx:Fj [.list false []] h=some (.tuple [],h):=rfl
 simp[hx]
theorem c2E (k:Nat) (R:List Nat) (rest:List PV) (h:List PObj) (hk:h[k]? = some (.cells (yc R++rest))) (hR:R.length≤2000000000):
  ∃R':List Nat,R'.Perm R∧x8 L 39 [.rowp k 1 false R.length] h=some (.tuple [],h.set k (.cells (yc R'++rest))):=by
 obtain⟨zs,hz⟩:∃zs,zs=Bg Ft (R.map λ(x:Nat)=>(x:Int)):=⟨_,rfl⟩
 have hp:zs.Perm (R.map λ(x:Nat)=>(x:Int)):=by rw[hz]; exact EO _ _
 have wo:(zs.map Int.toNat).map (λ(x:Nat)=>(x:Int))=zs:=by
  rw[b7]
  refine(List.map_congr_left λz h =>?_).trans (List.map_id zs)
  obtain⟨x,_,rfl⟩:=bc.1 (hp.mem_iff.1 h)
  rfl
 refine⟨zs.map Int.toNat,?_,?_⟩
 ·have:=hp.map Int.toNat
  rw[b7] at this
  have e:List.map (Int.toNat∘λ(x:Nat)=>(x:Int)) R=R:=(List.map_congr_left λz h=>rfl).trans (List.map_id R)
  rwa [e] at this
 ·rw[Hz (hL 39 _ rfl) rfl rfl]
  have e:yc (zs.map Int.toNat)=zs.map (PV.int .i64 ·):=by
   rw[yc,b7]
   conv=>rhs; rw[← wo]
   rw[b7,b7]
   rfl
  have hx:Fj [.rowp k 1 false R.length] h=some (.tuple [],h.set k (.cells (yc (zs.map Int.toNat)++rest))):=by
   simp only[Fj,hk]
   rw[ai ⟨by rw[ap,A4]; omega,by omega⟩,QS,QV,e,hz,List.drop_left' (A4 R)]
   rfl
  simp[hx]
end
theorem NS.upd2 {n:Nat} {h H:List PObj} {f:Nat→List Nat} {ns:List PV} {ow:Nat→Nat} (eN:NS n h f ns ow) {v:Nat} (hv:v<n) (l:List Nat) (c:PV) (h0:0<H.length)
  (hs:∀a,1≤a→a<h.length→ow a≠v→H[a]? = h[a]?) (hc:(l=[]∧∃o,c = .list o [])∨∃k rest,c = .rowp k 1 false l.length∧1≤k∧ow k=v∧H[k]? = some (.cells (yc l++rest))):
  NS n (H.set 0 (.cells (ns.set v c))) (fup f v l) (ns.set v c) ow:=by
 have hl:=eN.len
 refine⟨ar h0,by rw[ba]; exact hl,λu hu =>?_⟩
 by_cases e:u=v
 ·subst e
  rw[zU,ar (by omega)]
  rcases hc with⟨h1,o,h2⟩|⟨k,rest,h1,h2,h3,h4⟩
  ·exact .inl ⟨h1,o,by rw[h2]⟩
  ·exact .inr ⟨k,rest,by rw[h1],h2,h3,by rw[af (by omega)]; exact h4⟩
 ·rw[Aw _ _ e,af (λe'=>e e'.symm)]
  rcases eN.row u hu with⟨h1,o,h2⟩|⟨k,rest,h1,h2,h3,h4⟩
  ·exact .inl ⟨h1,o,h2⟩
  ·have eO:k<h.length:=(ah.1 h4).1
   refine .inr ⟨k,rest,h1,h2,h3,?_⟩
   rw[af (by omega),hs k h2 eO (by rw[h3]; exact e)]; exact h4
section
variable {L:Nat→Option PFunc} (hL:∀k f,LS k=some f→L k=some f)
include hL
theorem d5m (n:Nat) (hn:n≤4096) (f:Nat→List Nat) (hf:∀v,(f v).length≤2000000000) (h:List PObj) (ns:List PV) (ow:Nat→Nat) (eN:NS n h f ns ow) (V0 V1 V2 V4 V5 V6 V7 V8:PV) (g:Nat) {Q:PExit→St→Prop}
  (hk:∀y5 y10 h' f' ns ow,NS n h' f' ns ow→(∀v w,w∈f' v↔w∈f v)→(∀v,(f' v).length≤(f v).length)→Q (.exit 2) ⟨[V0,V1,V2,.rowp 0 1 false n,V4,y5,V6,V7,V8,.int .i64 (n:Nat),y10],[],g,h'⟩):
  wpL L Mp ⟨[V0,V1,V2,.rowp 0 1 false n,V4,V5,V6,V7,V8,.int .i64 (n:Nat),.int .i64 0],[],g,h⟩ Q:=by
 rw[Mp]
 refine yK n (λi st=>∃y5 h' f' ns ow,NS n h' f' ns ow∧(∀v w,w∈f' v↔w∈f v)∧(∀v,(f' v).length≤(f v).length)∧st=⟨[V0,V1,V2,.rowp 0 1 false n,V4,y5,V6,V7,V8,.int .i64 (n:Nat),.int .i64 (i:Nat)],[],g,h'⟩) ?_ ?_ ⟨_,h,f,ns,ow,eN,λ_ _=>Iff.rfl,λ_=>an _,rfl⟩
 ·rintro i hi st ⟨y5,h',f',ns,ow,eN,hm,fG,rfl⟩ ih
  obtain⟨ho,cS,gP⟩:=id eN
  have hw:=yn i (by omega)
  have e1':i<ns.length:=by omega
  have nK:0<h'.length:=(ah.1 ho).1
  rcases gP i hi with⟨ge,o,lX⟩|⟨k,rest,lX,eV,de,lR⟩
  ·have da:=(ah.1 lX).2
   have c1:=c1g hL h'
   have c2:=b5N hL h'
   simp[hi,hw,ho,e1',da,c1,c2,Ay]
   have ee:=eN.upd2 (H:=h') hi [] (.list false []) nK (λ_ _ _ _=>rfl) (.inl ⟨rfl,_,rfl⟩)
   have e:fup f' i []=f':=by
    funext u
    by_cases e:u=i
    ·subst e; rw[zU,ge]
    ·exact Aw _ _ e
   rw[e] at ee
   exact ih _ ⟨_,_,_,_,_,ee,hm,fG,rfl⟩
  ·have da:=(ah.1 lX).2
   have ge:=fG i
   have sI:=hf i
   obtain⟨R',hp,c1⟩:=c2E hL k (f' i) rest h' lR (by omega)
   obtain⟨H1,fE⟩:∃H,H=h'.set k (.cells (yc R'++rest)):=⟨_,rfl⟩
   rw[← fE] at c1
   have eO:k<h'.length:=(ah.1 lR).1
   have fH:=hp.length_eq
   obtain⟨rest',c2⟩:=b65 hL R' (by omega) k rest H1 (by rw[fE]; exact ar eO)
   rw[fH] at c2
   obtain⟨H2,eZ⟩:∃H,H=H1.set k (.cells (yc (AF R')++rest')):=⟨_,rfl⟩
   rw[← eZ] at c2
   have pW:H1[0]? = some (.cells ns):=by rw[fE,af (by omega),ho]
   have kL:H2[0]? = some (.cells ns):=by rw[eZ,af (by omega),pW]
   have eK:H2.length=h'.length:=by rw[eZ,ba,fE,ba]
   simp[hi,hw,ho,e1',da,c1,c2,pW,kL,Ay]
   have ee:=eN.upd2 (H:=H2) hi (AF R') (.rowp k 1 false (AF R').length) (by omega) (λa h1 h2 h3=>by
    have:a≠k:=by rintro rfl; exact h3 de
    rw[eZ,af (λe=>this e.symm),fE,af (λe=>this e.symm)]) (.inr ⟨k,rest',rfl,eV,de,by rw[eZ]; exact ar (by rw[fE,ba]; exact eO)⟩)
   refine ih _ ⟨_,_,_,_,_,ee,?_,?_,rfl⟩
   ·intro v w
    by_cases e:v=i
    ·subst e; rw[zU,b64,hp.mem_iff]; exact hm v w
    ·rw[Aw _ _ e]; exact hm v w
   ·intro v
    by_cases e:v=i
    ·subst e; rw[zU]
     have:=b67 R'
     omega
    ·rw[Aw _ _ e]; exact fG v
 ·rintro st ⟨y5,h',f',ns,ow,eN,hm,fG,rfl⟩
  simp
  exact hk _ _ _ _ _ _ eN hm fG
end
theorem JC (cs:List PV) (G:Nat→PV):∀n off,(∀i,i<off+n→yh 1 false cs i=some (G i))→Aj 1 false cs n off=some ((List.range' off n).map G)
 | 0,off,_=>rfl
 | n + 1, off, h => by
   have ih:=JC cs G n (off+1) (λi hi=>h i (by omega))
   simp only[Aj,h off (by omega),aw,ih,aH]
   rfl
theorem c2F {R:List Nat} {i:Nat} (h:i<R.length) (rest:List PV):yh 1 false (yc R++rest) i=some (.int .i64 (R[i]:Int)):=by
 simp only[yh,Di h rest]; rfl
theorem c2G (l:List Nat):(List.range' 0 l.length).map (λi=>l.getD i 0)=l:=by
 apply b6
 ·simp
 ·intro i h1 h2; simp[h2]
theorem QX (R:List Nat) (rest:List PV):Aj 1 false (yc R++rest) R.length 0=some (yc R):=by
 rw[JC _ (λi=>PV.int .i64 ((R.getD i 0:Nat):Int)) R.length 0 (λi hi=>by
  have hi:i<R.length:=by omega
  rw[c2F hi rest]; simp[hi])]
 congr 1
 unfold yc
 conv=>rhs; rw[← c2G R]
 rw[b7]; rfl
def AQ (n:Nat) (N:Nat→List Nat):List PV:=(List.range' 0 n).map λv => .list false (yc (N v))
section
variable {L:Nat→Option PFunc} (hL:∀k f,LS k=some f→L k=some f)
include hL
theorem QJ (n:Nat) (hn:n≤4096) (E:List (Nat×Nat)) (hE:∀e∈E,e.1<n∧e.2<n) (hl:E.length≤2000000000):
  ∃r h' N,x8 L 222 [.int .i64 (n:Int),.list false (E.map eE)] []=some (r,h')∧frz h' r = .list false (AQ n N)∧(∀v w,w∈N v↔(v,w)∈E)∧∀v,(N v).length≤(AE E v).length:=by
 suffices H:∃r,x8 L 222 [.int .i64 (n:Int),.list false (E.map eE)] []=some r∧∃N,frz r.2 r.1 = .list false (AQ n N)∧(∀v w,w∈N v↔(v,w)∈E)∧∀v,(N v).length≤(AE E v).length by
  obtain⟨⟨r,h'⟩,h1,N,h2,h3⟩:=H
  exact⟨r,h',N,h1,h2,h3⟩
 refine AW (hL 222 _ rfl) rfl ?_
 have eP:24*(n:Int)≤281474976710656:=by omega
 have dE:(n:Int)≤9223372036854775807:=by omega
 have jI:∀v,(AE E v).length≤2000000000:=by
  intro v
  unfold AE
  rw[aG]
  exact aD (List.length_filter_le _ _) hl
 simp[Mq,eP,dE]
 refine d5l hL n hn E hE hl _ _ _ _ ?_
 intro y4 g' h' ns ow eN
 simp
 refine d5m hL n hn (AE E) jI h' ns ow eN _ _ _ _ _ _ _ _ _ ?_
 intro y5 y10 h2 N ns2 ow2 sJ hm jH
 obtain⟨ho,cS,gP⟩:=sJ
 obtain⟨G,hG⟩:∃G:Nat→PV,∀i,i<n→yh 1 false ns2 i=some (G i)∧frz (h2.set 0 .gone) (G i) = .list false (yc (N i)):=by
  have:∀i,∃c:PV,i<n→yh 1 false ns2 i=some c∧frz (h2.set 0 .gone) c = .list false (yc (N i)):=by
   intro i
   by_cases hi:i<n
   ·rcases gP i hi with⟨h1,o,eu⟩|⟨k,rest,h1,eu,h3,h4⟩
    ·refine⟨.list false [],λ_=>⟨?_,by rw[h1]; rfl⟩⟩
     simp only[yh,eu]; rfl
    ·refine⟨.rowp k 1 false (N i).length,λ_=>⟨?_,?_⟩⟩
     ·simp only[yh,h1]; rfl
     ·have h5:(h2.set 0 .gone)[k]? = some (.cells (yc (N i)++rest)):=by rw[af (by omega)]; exact h4
      simp only[frz,Co,h5,QX]
      rfl
   ·exact⟨.dead,λh=>absurd h hi⟩
  exact⟨λi=>Classical.choose (this i),λi=>Classical.choose_spec (this i)⟩
 have fI:=JC ns2 G n 0 (λi hi=>(hG i (by omega)).1)
 simp[yA,ho,fI]
 refine⟨N,?_,λv w=>by rw[hm,ES],jH⟩
 have key:∀l:List Nat,(∀v∈l,v<n)→BL (h2.set 0 .gone) (l.map G)=l.map λv => .list false (yc (N v)):=by
  intro l
  induction l with
  | nil=>intro _; rfl
  | cons v l ih =>
    intro h
    rw[az,az,BL,(hG v (h v (by simp))).2,ih (λx hx=>h x (by simp[hx]))]
 simp only[frz]
 rw[key _ (λv hv=>by simp[List.mem_range'] at hv; omega)]
 rfl
end
def yT (n:Nat) (c:Nat→Nat):List PV:=(List.range' 0 n).map λv=>PV.int .i64 (c v:Int)
theorem B2 (n:Nat) (c:Nat→Nat):(yT n c).length=n:=by simp[yT]
theorem c5b {n v:Nat} (h:v<n) (c:Nat→Nat):(yT n c)[v]? = some (.int .i64 (c v:Int)):=by simp[yT,h]
theorem Ce {n v:Nat} (h:v<n) (c:Nat→Nat) (p:v<(yT n c).length):(yT n c)[v] = .int .i64 (c v:Int):=by simp[yT]
theorem ER {n v:Nat} (h:v<n) (c:Nat→Nat) (x:Nat):(yT n c).set v (.int .i64 (x:Int))=yT n (fup c v x):=by
 apply b6
 ·simp[yT]
 ·intro i h1 h2
  have hi:i<n:=by rw[B2] at h2; exact h2
  rw[List.getElem_set,Ce hi _ h2]
  by_cases e:v=i
  ·subst e; rw[ai rfl,zU]
  ·rw[ae e,Ce hi,Aw _ _ (λe'=>e e'.symm)]
theorem HG (n:Nat) (N:Nat→List Nat):(AQ n N).length=n:=by simp[AQ]
theorem QY (f:Nat→Nat) {i:Nat}:∀{n},i≤n→tot i f≤tot n f
 | 0,h=>by rw[show i=0 by omega]; exact an _
 | n + 1, h => by
   by_cases e:i=n+1
   ·rw[e]; exact an _
   ·have:=QY f (i:=i) (n:=n) (by omega); simp only[tot]; omega
theorem QZ (N:Nat→List Nat) (w:Nat):∀n,(tot n λu=>(N u).count w)≤tot n λu=>(N u).length:=λn=>HC n λv _=>List.count_le_length ..
section
variable {L:Nat→Option PFunc} (hL:∀k f,LS k=some f→L k=some f)
include hL
theorem d1S (n:Nat) (R:List Nat) (hR:∀w∈R,w<n) (ru:R.length≤1000000) (c:Nat→Nat) (hc:∀v,c v≤1000000000) (V0 V1 V2 V3 V4 V6 V7 V8 V9 V10 V11 V12 V13 V14 V15 V16 V20 V21 V22 V23 V24 V25 V26:PV) (g:Nat) {Q:PExit→St→Prop}
  (hk:∀y7 y19,Q (.exit 2) ⟨[V0,V1,V2,V3,V4,.rowp 0 1 false n,V6,y7,V8,V9,V10,V11,V12,V13,V14,V15,V16,.list false (yc R),.int .i64 (R.length:Nat),y19,V20,V21,V22,V23,V24,V25,V26],[],g,[.cells (yT n λv=>c v+R.count v)]⟩):
  wpL L Ma ⟨[V0,V1,V2,V3,V4,.rowp 0 1 false n,V6,V7,V8,V9,V10,V11,V12,V13,V14,V15,V16,.list false (yc R),.int .i64 (R.length:Nat),.int .i64 0,V20,V21,V22,V23,V24,V25,V26],[],g,[.cells (yT n c)]⟩ Q:=by
 rw[Ma]
 have _:=hL
 refine yK R.length (λi st=>∃y7,st=⟨[V0,V1,V2,V3,V4,.rowp 0 1 false n,V6,y7,V8,V9,V10,V11,V12,V13,V14,V15,V16,.list false (yc R),.int .i64 (R.length:Nat),.int .i64 (i:Nat),V20,V21,V22,V23,V24,V25,V26],[],g,[.cells (yT n λv=>c v+(R.take i).count v)]⟩) ?_ ?_ ⟨V7,by simp⟩
 ·rintro i hi st ⟨y7,rfl⟩ ih
  have hw:=yn i (by omega)
  have fJ:=hR _ (ak hi)
  have lM:(R.take i).count R[i]≤i:=aD (List.count_le_length ..) (by rw[aY]; omega)
  have hci:=hc R[i]
  have ky:=yn (c R[i]+(R.take i).count R[i]) (by omega)
  have e:fup (λv=>c v+(R.take i).count v) R[i] (c R[i]+(R.take i).count R[i]+1)=λv=>c v+(R.take (i+1)).count v:=by
   funext v
   rw[AB hi,List.count_append]
   by_cases e:v=R[i]
   ·subst e; rw[zU]; simp; omega
   ·rw[Aw _ _ e]
    have:List.count v [R[i]]=0:=List.count_eq_zero.2 (by simpa using e)
    rw[this]; rfl
  have dF:i<(yc R).length:=by rw[A4]; exact hi
  have mL:(yc R)[i] = .int .i64 (R[i]:Int):=by simp[yc]
  obtain⟨C,hC⟩:∃C,C=yT n (λv=>c v+(R.take i).count v):=⟨_,rfl⟩
  have mC:C.length=n:=by rw[hC,B2]
  have hg:∀p:R[i]<C.length,C[R[i]]'p = .int .i64 ((c R[i]+(R.take i).count R[i]:Nat):Int):=λp=>by subst hC; exact Ce fJ _ p
  have hs:=ER fJ (λv=>c v+(R.take i).count v) (c R[i]+(R.take i).count R[i]+1)
  rw[e,← hC] at hs
  rw[← hC]
  generalize c R[i]+(R.take i).count R[i]=z at *
  have ih2:=λy7=>ih _ ⟨y7,rfl⟩
  generalize (yT n λv=>c v+(R.take (i+1)).count v)=C' at *
  have kl:C.set R[i] (.int .i64 ((z:Int)+1))=C':=hs
  simp[hi,hw,dF,mL,fJ,mC,hg,ky,Ay]
  rw[kl]
  exact ih2 _
 ·rintro st ⟨y7,rfl⟩
  rw[aC]
  simp
  exact hk _ _
theorem d1T (n:Nat) (hn:n≤4096) (N:Nat→List Nat) (hN:∀v,v<n→∀w∈N v,w<n) (jT:(tot n λu=>(N u).length)≤1000000) (V0 V1 V2 V3 V4 V6 V7 V8 V9 V10 V11 V12 V13 V17 V18 V19 V20 V21 V22 V23 V24 V25 V26:PV) (g:Nat) {Q:PExit→St→Prop}
  (hk:∀y6 y7 y16 y17 y18 y19,Q (.exit 0) ⟨[V0,V1,V2,V3,V4,.rowp 0 1 false n,y6,y7,V8,V9,V10,V11,V12,V13,.list false (AQ n N),.int .i64 (n:Nat),y16,y17,y18,y19,V20,V21,V22,V23,V24,V25,V26],[],g,[.cells (yT n λw=>tot n λu=>(N u).count w)]⟩):
  wpL L Mb ⟨[V0,V1,V2,V3,V4,.rowp 0 1 false n,V6,V7,V8,V9,V10,V11,V12,V13,.list false (AQ n N),.int .i64 (n:Nat),.int .i64 0,V17,V18,V19,V20,V21,V22,V23,V24,V25,V26],[],g,[.cells (List.replicate n (.int .i64 0))]⟩ Q:=by
 rw[Mb]
 have sK:List.replicate n (PV.int .i64 0)=yT n λw=>tot 0 λu=>(N u).count w:=by
  unfold yT tot
  apply b6<;>simp
 rw[sK]
 refine yK n (λi st=>∃y6 y7 y17 y18 y19,st=⟨[V0,V1,V2,V3,V4,.rowp 0 1 false n,y6,y7,V8,V9,V10,V11,V12,V13,.list false (AQ n N),.int .i64 (n:Nat),.int .i64 (i:Nat),y17,y18,y19,V20,V21,V22,V23,V24,V25,V26],[],g,[.cells (yT n λw=>tot i λu=>(N u).count w)]⟩) ?_ ?_ ⟨_,_,_,_,_,rfl⟩
 ·rintro i hi st ⟨y6,y7,y17,y18,y19,rfl⟩ ih
  have hw:=yn i (by omega)
  have dF:i<(AQ n N).length:=by rw[HG]; exact hi
  have mL:(AQ n N)[i] = .list false (yc (N i)):=by simp[AQ]
  have fx:(N i).length≤1000000:=by
   have:=HD (f:=λ_=>0) (g:=λu=>(N u).length) (w:=i) (c:=(N i).length) n (λ_ _=>bG _) hi (by omega)
   omega
  simp[hi,hw,dF,mL,A4]
  refine d1S hL n (N i) (hN i hi) fx _ ?_ _ _ _ _ _ _ _ _ _ _ _ _ _ _ _ _ _ _ _ _ _ _ _ _ ?_
  ·intro w
   have h1:=QZ N w i
   have h2:(tot i λu=>(N u).length)≤tot n λu=>(N u).length:=QY _ (by omega)
   omega
  ·intro y7 y19
   simp[hw]
   exact ih _ ⟨_,_,_,_,_,rfl⟩
 ·rintro st ⟨y6,y7,y17,y18,y19,rfl⟩
  simp
  exact hk _ _ _ _ _ _
end
structure OS (h:List PObj) (n:Nat) (c:Nat→Nat) (k:Nat) (R:List Nat) (v:PV) (O:List Nat):Prop where
 inn:h[0]? = some (.cells (yT n c))
 hb:HB h 2 k R
 k0:k≠0
 out:(v = .list true []∧O=[])∨∃ko rest,v = .rowp ko 1 false O.length∧ko≠2∧ko≠k∧ko≠0∧h[ko]? = some (.cells (yc O++rest))
theorem OS.heap {h h':List PObj} {n:Nat} {c:Nat→Nat} {k k':Nat} {R R':List Nat} {v:PV} {O:List Nat} (s:OS h n c k R v O) (hb:HB h' 2 k' R') (hf:HF h h' 2 k k'):OS h' n c k' R' v O:=by
 have h0:0<h.length:=(ah.1 s.inn).1
 have lI:=s.k0
 refine⟨by rw[hf.same 0 h0 (by omega) (λe=>s.k0 e.symm)]; exact s.inn,hb,by rcases hf.new with e | e<;>omega,?_⟩
 rcases s.out with h1|⟨ko,rest,h1,h2,h3,h4,h5⟩
 ·exact .inl h1
 ·have jU:ko<h.length:=(ah.1 h5).1
  exact .inr ⟨ko,rest,h1,h2,by rcases hf.new with e|e<;>omega,h4,by rw[hf.same ko jU h2 h3]; exact h5⟩
theorem OS.setc {h:List PObj} {n:Nat} {c:Nat→Nat} {k:Nat} {R:List Nat} {v:PV} {O:List Nat} (s:OS h n c k R v O) (c':Nat→Nat):OS (h.set 0 (.cells (yT n c'))) n c' k R v O:=by
 have h0:0<h.length:=(ah.1 s.inn).1
 obtain⟨da,it,rest,hk⟩:=s.hb
 refine⟨ar h0,⟨da,by rw[af (by omega)]; exact it,rest,by rw[af (λe=>s.k0 e.symm)]; exact hk⟩,s.k0,?_⟩
 rcases s.out with h1|⟨ko,rest,h1,h2,h3,h4,h5⟩
 ·exact .inl h1
 ·exact .inr ⟨ko,rest,h1,h2,h3,h4,by rw[af (λe=>h4 e.symm)]; exact h5⟩
section
variable {L:Nat→Option PFunc} (hL:∀k f,LS k=some f→L k=some f)
include hL
theorem d1U (n:Nat) (hn:n≤4096) (c:Nat→Nat) (h:List PObj) (k:Nat) (s:OS h n c k [] (.list true []) []) (V0 V1 V2 V3 V4 V6 V7 V9 V10 V11 V12 V13 V14 V15 V16 V17 V18 V19 V20 V24 V25 V26:PV) (g:Nat) {Q:PExit→St→Prop}
  (hk:∀y9 y10 y23 h' k' R,OS h' n c k' R (.list true []) []→R.Nodup→(∀v,v∈R↔v<n∧c v=0)→Q (.exit 4) ⟨[V0,V1,V2,V3,V4,.rowp 0 1 false n,V6,V7,.ptr 2 0,y9,y10,V11,V12,V13,V14,V15,V16,V17,V18,V19,V20,.rowp 0 1 false n,.int .i64 (n:Nat),y23,V24,V25,V26],[],g,h'⟩):
  wpL L Mc ⟨[V0,V1,V2,V3,V4,.rowp 0 1 false n,V6,V7,.ptr 2 0,V9,V10,V11,V12,V13,V14,V15,V16,V17,V18,V19,V20,.rowp 0 1 false n,.int .i64 (n:Nat),.int .i64 0,V24,V25,V26],[],g,h⟩ Q:=by
 rw[Mc]
 refine yK n (λi st=>∃y9 y10 h' k' R,OS h' n c k' R (.list true []) []∧R.Nodup∧(∀v,v∈R↔v<i∧c v=0)∧st=⟨[V0,V1,V2,V3,V4,.rowp 0 1 false n,V6,V7,.ptr 2 0,y9,y10,V11,V12,V13,V14,V15,V16,V17,V18,V19,V20,.rowp 0 1 false n,.int .i64 (n:Nat),.int .i64 (i:Nat),V24,V25,V26],[],g,h'⟩) ?_ ?_ ⟨_,_,h,k,[],s,List.nodup_nil,by simp,rfl⟩
 ·rintro i hi st ⟨y9,y10,h',k',R,s',dl,hm,rfl⟩ ih
  have hw:=yn i (by omega)
  have hg:=c5b hi c
  have dI:=s'.inn
  by_cases h0:c i=0
  ·have ru:=(F7 i R dl (λv hv=>((hm v).1 hv).1)).1
   obtain⟨h2,k2,R2,c1,dE,hp,hf⟩:=QT hL s'.hb i (by omega)
   have hz:((c i:Nat):Int)=0:=by omega
   simp[hi,hw,dI,hg,tf h0,c1]
   refine ih _ ⟨_,_,h2,k2,R2,s'.heap dE hf,?_,?_,rfl⟩
   ·refine hp.nodup_iff.2 (b8.2 ⟨λhx =>?_,dl⟩)
    have:=((hm i).1 hx).1; omega
   ·intro v
    rw[hp.mem_iff,aA,hm]
    by_cases e:v=i
    ·subst e; simp[h0]
    ·constructor
     ·rintro(h|⟨h1,h2⟩)
      ·exact absurd h e
      ·exact⟨by omega,h2⟩
     ·rintro⟨h1,h2⟩; exact .inr ⟨by omega,h2⟩
  ·have hz:¬((c i:Nat):Int)=0:=by omega
   simp[hi,hw,dI,hg,h0]
   refine ih _ ⟨_,_,h',k',R,s',dl,?_,rfl⟩
   intro v
   rw[hm]
   by_cases e:v=i
   ·subst e; simp[h0]
   ·constructor<;>rintro⟨h1,h2⟩<;>exact⟨by omega,h2⟩
 ·rintro st ⟨y9,y10,h',k',R,s',dl,hm,rfl⟩
  simp
  exact hk _ _ _ _ _ _ s' dl hm
theorem Q0 (n:Nat) (hn:n≤4096) (N:Nat→List Nat) (W:List Nat) (hW:∀w∈W,w<n) (hWl:W.length≤1000000) (O R:List Nat) (c:Nat→Nat) (hc:∀v,c v≤1000000000) (oi:OI n N O R W c) (ze:PV) (h:List PObj) (k:Nat) (s:OS h n c k R ze O) (V0 V1 V2 V3 V4 V6 V7 V9 V10 V12 V13 V14 V15 V16 V17 V18 V19 V20 V21 V22 V23:PV) (g:Nat) {Q:PExit→St→Prop}
  (hk:∀y13 y26 h' k' R' c',OS h' n c' k' R' ze O→OI n N O R' [] c'→(∀v,c' v≤1000000000)→Q (.exit 8) ⟨[V0,V1,V2,V3,V4,.rowp 0 1 false n,V6,V7,.ptr 2 0,V9,V10,ze,V12,y13,V14,V15,V16,V17,V18,V19,V20,V21,V22,V23,.list false (yc W),.int .i64 (W.length:Nat),y26],[],g,h'⟩):
  wpL L Md ⟨[V0,V1,V2,V3,V4,.rowp 0 1 false n,V6,V7,.ptr 2 0,V9,V10,ze,V12,V13,V14,V15,V16,V17,V18,V19,V20,V21,V22,V23,.list false (yc W),.int .i64 (W.length:Nat),.int .i64 0],[],g,h⟩ Q:=by
 rw[Md]
 refine yK W.length (λi st=>∃y13 h' k' R' c',OS h' n c' k' R' ze O∧OI n N O R' (W.drop i) c'∧(∀v,c' v≤1000000000)∧st=⟨[V0,V1,V2,V3,V4,.rowp 0 1 false n,V6,V7,.ptr 2 0,V9,V10,ze,V12,y13,V14,V15,V16,V17,V18,V19,V20,V21,V22,V23,.list false (yc W),.int .i64 (W.length:Nat),.int .i64 (i:Nat)],[],g,h'⟩) ?_ ?_ ⟨_,h,k,R,c,s,oi,hc,rfl⟩
 ·rintro i hi st ⟨y13,h',k',R',c',s',oi',gO,rfl⟩ ih
  have hw:=yn i (by omega)
  have fJ:=hW _ (ak hi)
  have dI:=s'.inn
  have dF:i<(yc W).length:=by rw[A4]; exact hi
  have mL:(yc W)[i] = .int .i64 (W[i]:Int):=by simp[yc]
  have rx:W.drop i=W[i]::W.drop (i+1):=a8 hi
  rw[rx] at oi'
  obtain⟨dr,kM,pX⟩:=oi'.dec fJ
  have hcw:=gO W[i]
  have dS:∀v,fup c' W[i] (c' W[i] - 1) v≤1000000000:=by
   intro v
   by_cases e:v=W[i]
   ·subst e; rw[zU]; omega
   ·rw[Aw _ _ e]; exact gO v
  have s2:=s'.setc (fup c' W[i] (c' W[i] - 1))
  obtain⟨h1,ie⟩:∃h1,h1=h'.set 0 (.cells (yT n (fup c' W[i] (c' W[i] - 1)))):=⟨_,rfl⟩
  rw[← ie] at s2
  have hg:=Ce fJ c'
  have nL:=s2.inn
  have nM:=Ce fJ (fup c' W[i] (c' W[i] - 1))
  rw[zU] at nM
  have dn:=ER fJ c' (c' W[i] - 1)
  have fG:=B2 n c'
  have nN:=B2 n (fup c' W[i] (c' W[i] - 1))
  have ky:IntKind.i64.wrap ((c' W[i]:Int) - 1)=((c' W[i] - 1:Nat):Int):=by rw[show ((c' W[i]:Int) - 1)=((c' W[i] - 1:Nat):Int) by omega]; exact BA _ (by omega)
  have gw:R'.length≤n:=(F7 n R' (bW.1 oi'.nd).2.1 (λv hv=>oi'.lt v (by simp[hv]))).1
  obtain⟨h3,k3,R3,c1,jJ,hp,hf⟩:=QT hL s2.hb W[i] (by omega)
  generalize hz:c' W[i] - 1=z at *
  obtain⟨C2,wq⟩:∃C2,C2=yT n (fup c' W[i] z):=⟨_,rfl⟩
  simp only[← wq] at nM dn nN nL ie
  obtain⟨C,hC⟩:∃C,C=yT n c':=⟨_,rfl⟩
  simp only[← hC] at hg dn fG dI
  by_cases h0:c' W[i]=1
  ·have pY:z=0:=by omega
   subst pY
   have nn:C.set W[i] (.int .i64 0)=C2:=dn
   have ry:∀p:W[i]<C2.length,C2[W[i]]'p = .int .i64 0:=nM
   simp[nn,ry,hi,hw,dF,mL,dI,hg,ky,dn,fG,nN,fJ,← ie,nL,nM,Ay,c1]
   refine ih _ ⟨_,h3,k3,R3,_,s2.heap jJ hf,(kM h0).perm hp,dS,rfl⟩
  ·have pY:¬z=0:=by omega
   simp[hi,hw,dF,mL,dI,hg,ky,dn,fG,nN,fJ,← ie,nL,nM,Ay,pY]
   exact ih _ ⟨_,h1,k',R',_,s2,pX h0,dS,rfl⟩
 ·rintro st ⟨y13,h',k',R',c',s',oi',gO,rfl⟩
  rw[List.drop_length] at oi'
  simp
  exact hk _ _ _ _ _ _ s' oi' gO
end
theorem Q1 (h:List PObj) (x:Nat) (V l:List PV) (g:Nat):AD h 1 false 8 [.int .i64 (x:Int)] (.list true []) ⟨V,l,g,h⟩=some (.rowp h.length 1 false 1,⟨V,l,g,h++[.cells (yc [x])]⟩):=by
 simp[AD,yc]
theorem OS.app {h h2:List PObj} {n:Nat} {c:Nat→Nat} {k:Nat} {R:List Nat} {v:PV} {O:List Nat} (s:OS h n c k R v O) {x:Nat} (hn:h2[h.length]? = some (.cells (yc (O++[x])))) (hs:∀a,a<h.length→(a=0∨a=2∨a=k)→h2[a]? = h[a]?) {m:Nat} (hm:m=O.length+1):
  OS h2 n c k R (.rowp h.length 1 false m) (O++[x]):=by
 have h0:0<h.length:=(ah.1 s.inn).1
 obtain⟨da,it,rest,hk⟩:=s.hb
 have wr:2<h.length:=(ah.1 it).1
 have eO:k<h.length:=(ah.1 hk).1
 refine⟨by rw[hs 0 h0 (.inl rfl)]; exact s.inn,⟨da,by rw[hs 2 wr (.inr (.inl rfl))]; exact it,rest,by rw[hs k eO (.inr (.inr rfl))]; exact hk⟩,s.k0,.inr ⟨h.length,[],?_,by omega,by omega,by omega,by rw[be]; exact hn⟩⟩
 rw[hm]; simp
section
variable {L:Nat→Option PFunc} (hL:∀k f,LS k=some f→L k=some f)
include hL
theorem d1V (n:Nat) (hn:n≤4096) (N:Nat→List Nat) (hN:∀v,v<n→∀w∈N v,w<n) (jT:∀v,v<n→(N v).length≤1000000) (R:List Nat) (c:Nat→Nat) (hc:∀v,c v≤1000000000) (oi:OI n N [] R [] c) (h:List PObj) (k:Nat) (s:OS h n c k R (.list true []) []) (V0 V1 V2 V3 V6 V7 V9 V10 V12 V13 V14 V15 V16 V17 V18 V19 V20 V21 V22 V23 V24 V25 V26:PV) (g:Nat) {Q:PExit→St→Prop}
  (hk:∀y11 y12 y13 y24 y25 y26 h' k' O c',OS h' n c' k' [] y11 O→OI n N O [] [] c'→Q (.exit 6) ⟨[V0,V1,V2,V3,.list false (AQ n N),.rowp 0 1 false n,V6,V7,.ptr 2 0,V9,V10,y11,y12,y13,V14,V15,V16,V17,V18,V19,V20,V21,V22,V23,y24,y25,y26],[],g,h'⟩):
  wpL L Me ⟨[V0,V1,V2,V3,.list false (AQ n N),.rowp 0 1 false n,V6,V7,.ptr 2 0,V9,V10,.list true [],V12,V13,V14,V15,V16,V17,V18,V19,V20,V21,V22,V23,V24,V25,V26],[],g,h⟩ Q:=by
 rw[Me]
 refine HH (λm st=>∃y11 y12 y13 y24 y25 y26 h' k' O R' c',n=O.length+m∧OS h' n c' k' R' y11 O∧OI n N O R' [] c'∧(∀v,c' v≤1000000000)∧st=⟨[V0,V1,V2,V3,.list false (AQ n N),.rowp 0 1 false n,V6,V7,.ptr 2 0,V9,V10,y11,y12,y13,V14,V15,V16,V17,V18,V19,V20,V21,V22,V23,y24,y25,y26],[],g,h'⟩) ?_ n ⟨_,_,_,_,_,_,h,k,[],R,c,by simp,s,oi,hc,rfl⟩
 rintro m st ⟨y11,y12,y13,y24,y25,y26,h',k',O,R',c',hm,s',oi',gO,rfl⟩ ih
 obtain⟨da,it,gP⟩:=id s'.hb
 have c0:=M1 hL (k:=k') (n:=R'.length) (h:=h')
 by_cases h0:R'=[]
 ·subst h0
  have c0':x8 L 224 [.rowp k' 1 false 0] h'=some (.int .i64 0,h'):=c0
  have sL:h'[2]? = some (.cells [.rowp k' 1 false 0]):=it
  simp[sL,c0']
  exact hk _ _ _ _ _ _ _ _ _ _ s' oi'
 ·have dr:0<R'.length:=bI.2 h0
  have ru:O.length+R'.length≤n:=by
   have:=(F7 n (O++R') oi'.nd (λv hv=>oi'.lt v hv)).1
   rw[ap] at this; exact this
  have pZ:¬R'.length=0:=by omega
  obtain⟨h2,v,R2,c1,dE,hp,hf⟩:=c48 hL s'.hb (by omega) h0
  have s2:=s'.heap dE hf
  obtain⟨hv,oi2⟩:=oi'.pop hp
  have hO1:O.length+1≤n:=by omega
  have fx:v<(AQ n N).length:=by rw[HG]; exact hv
  have nO:(AQ n N)[v] = .list false (yc (N v)):=by simp[AQ]
  have gw:R2.length≤n:=by have:=hp.length_eq; simp at this; omega
  rcases s2.out with⟨rfl,rfl⟩|⟨ko,rest,rfl,h1,eu,h3,h4⟩
  ·have gk:=Q1 h2 v
   simp[it,c0,pZ,c1,gk,nO,fx,A4,dr]
   have s3:=s2.app (x:=v) (m:=1) (h2:=h2++[PObj.cells (yc [v])]) (by rw[aq (an _)]; simp) (λa ha _=>al ha) rfl
   refine Q0 hL n hn N (N v) (hN v hv) (jT v hv) ([]++[v]) R2 c' gO oi2 _ _ k' s3 _ _ _ _ _ _ _ _ _ _ _ _ _ _ _ _ _ _ _ _ _ _ ?_
   intro y13 y26 h5 k5 R5 c5 s5 oi5 sM
   simp
   exact ih (m - 1) _ (by omega) ⟨_,_,_,_,_,_,h5,k5,_,R5,c5,by simp at hm ⊢; omega,s5,oi5,sM,rfl⟩
  ·have gk:=JE rfl h4 (by omega) v
   simp[it,c0,pZ,c1,gk,nO,fx,A4,dr]
   have s3:=s2.app (x:=v) (m:=O.length+1) (h2:=h2.set ko .gone++[PObj.cells (yc (O++[v]))]) (by rw[aq (by simp)]; simp) (λa ha hx=>by
    rw[al (by simpa using ha),af (by omega)]) rfl
   refine Q0 hL n hn N (N v) (hN v hv) (jT v hv) (O++[v]) R2 c' gO oi2 _ _ k' s3 _ _ _ _ _ _ _ _ _ _ _ _ _ _ _ _ _ _ _ _ _ _ ?_
   intro y13 y26 h5 k5 R5 c5 s5 oi5 sM
   simp
   exact ih (m - 1) _ (by omega) ⟨_,_,_,_,_,_,h5,k5,_,R5,c5,by simp; omega,s5,oi5,sM,rfl⟩
end
theorem HE:∀E:List (Nat×Nat),yq (E.map eE)=true
 | []=>rfl
 | e::E=>by simp only[az,yq,HE E,bu]; rfl
theorem JD:∀R:List Nat,yq (yc R)=true
 | []=>rfl
 | x::R=>by have:=JD R; unfold yc at this ⊢; simp only[az,yq,this,bu]; rfl
theorem Q2 (N:Nat→List Nat):∀l:List Nat,yq (l.map λv=>PV.list false (yc (N v)))=true
 | []=>rfl
 | v::l=>by simp only[az,yq,yt,JD,Q2 N l,bu]
theorem QK (n:Nat) (N:Nat→List Nat):yq (AQ n N)=true:=Q2 N _
theorem MW (f g:Nat→Nat):∀n,(tot n λv=>f v+g v)=tot n f+tot n g
 | 0=>rfl
 | n+1=>by simp only[tot]; rw[MW f g n]; omega
theorem Q3 (a:Nat):∀n,(tot n λv=>if a=v then 1 else 0)≤1∧(n≤a→(tot n λv=>if a=v then 1 else 0)=0)
 | 0=>⟨bG _,λ_=>rfl⟩
 | n + 1 => by
   obtain⟨h1,h2⟩:=Q3 a n
   simp only[tot]
   by_cases e:a=n
   ·have:=h2 (by omega); simp only[ai e]; exact⟨by omega,λh=>by omega⟩
   ·simp only[ae e]; exact⟨by omega,λh=>by have:=h2 (by omega); omega⟩
theorem MV (n:Nat):∀E:List (Nat×Nat),(tot n λv=>(AE E v).length)≤E.length
 | [] => by have : (tot n fun v => (AE [] v).length) = tot n fun _ => 0 := rfl
            rw[this,MY]; exact bG _
 | e :: E => by
   have ih:=MV n E
   have h1:=(Q3 e.1 n).1
   have:(tot n λv=>(AE (e::E) v).length)=tot n λv=>(if e.1=v then 1 else 0)+(AE E v).length:=by
    refine HA n λv _ =>?_
    unfold AE
    rw[cF]
    by_cases h:e.1=v
    ·simp[h]; omega
    ·simp[h]
   rw[this,MW]
   simp only[aB]; omega
section
variable {L:Nat→Option PFunc} (hL:∀k f,LS k=some f→L k=some f)
include hL
def DM (n:Nat) (E:List (Nat×Nat)):Prop:=∀f:Nat→Nat,¬∀e∈E,f e.1<f e.2
structure IsOrder (n:Nat) (E:List (Nat×Nat)) (O:List Nat):Prop where
 len:O.length=n
 nd:O.Nodup
 mem:∀v,v∈O↔v<n
 ord:∀i (h:i<O.length) a,(a,O[i])∈E→a∈O.take i
theorem c2I (n:Nat) (hn:n≤4096) (E:List (Nat×Nat)) (hE:∀e∈E,e.1<n∧e.2<n) (hl:E.length≤500000):
  (∃h' O,x8 L 210 [.int .i64 (n:Int),.list false (E.map eE)] []=some (.tuple [.list false (yc O),.int .i64 0],h')∧IsOrder n E O) ∨
  (∃h',x8 L 210 [.int .i64 (n:Int),.list false (E.map eE)] []=some (.tuple [.list false [],.int .i64 13],h')∧DM n E):=by
 suffices H:∃r,x8 L 210 [.int .i64 (n:Int),.list false (E.map eE)] []=some r∧((∃O,r.1 = .tuple [.list false (yc O),.int .i64 0]∧IsOrder n E O)∨(r.1 = .tuple [.list false [],.int .i64 13]∧DM n E)) by
  obtain⟨⟨v,h'⟩,h1,⟨O,h2,h3⟩|⟨h2,h3⟩⟩:=H
  ·simp only at h2; subst h2; exact .inl ⟨h',O,h1,h3⟩
  ·simp only at h2; subst h2; exact .inr ⟨h',h1,h3⟩
 have cv:=QI hL n hn E hE (by omega) (.list false []) (.inl rfl)
 obtain⟨r,gI,N,cn,nH,hN,pR⟩:=QJ hL n hn E hE (by omega)
 have ro:∀v,v<n→∀w∈N v,w<n:=λv _ w hw=>(hE _ ((hN v w).1 hw)).2
 have we:(tot n λu=>(N u).length)≤500000:=aD (HC n λv _=>pR v) (aD (MV n E) hl)
 have jT:∀v,v<n→(N v).length≤1000000:=λv hv=>by
  have:=HD (f:=λ_=>0) (g:=λu=>(N u).length) (w:=v) (c:=(N v).length) n (λ_ _=>bG _) hv (by omega)
  omega
 have eP:8*(n:Int)≤281474976710656:=by omega
 have dE:(n:Int)≤9223372036854775807:=by omega
 refine AW (hL 210 _ rfl) rfl ?_
 simp[Mf,cv,cn,nH,HE,QK,yt,eP,dE,HG]
 refine d1T hL n hn N ro (by omega) _ _ _ _ _ _ _ _ _ _ _ _ _ _ _ _ _ _ _ _ _ _ _ _ ?_
 intro y6 y7 y16 y17 y18 y19
 simp[PV.cells]
 refine d1U hL n hn _ _ 1 ⟨rfl,⟨by omega,rfl,[],rfl⟩,by omega,.inl ⟨rfl,rfl⟩⟩ _ _ _ _ _ _ _ _ _ _ _ _ _ _ _ _ _ _ _ _ _ _ _ ?_
 intro y9 y10 y23 h1 k1 R s1 dl hm
 simp
 have oi:OI n N [] R [] (λw=>tot n λu=>(N u).count w):=by
  refine⟨λw hw =>?_,by simpa using dl,λv=>by simpa using hm v,λi h=>by simp at h⟩
  rw[List.count_nil]
  exact HA n λu _=>by simp
 refine d1V hL n hn N ro jT R _ (λw=>by have:=QZ N w n; omega) oi h1 k1 s1 _ _ _ _ _ _ _ _ _ _ _ _ _ _ _ _ _ _ _ _ _ _ _ _ ?_
 intro y11 y12 y13 y24 y25 y26 h2 k2 O c2 s2 oi2
 by_cases hO:O.length<n
 ·have fS:DM n E:=λf hf=>oi2.no_topo hO f λu hu w hw=>hf (u,w) ((hN u w).1 hw)
  rcases s2.out with⟨rfl,rfl⟩|⟨ko,rest,rfl,hU,eu,eU,ig⟩
  ·have wu:0<n:=hO
   simp[wu,yA,fS]
  ·simp[hO,yA,fS]
 ·obtain⟨o1,o2,o3,o4⟩:=oi2.order hO
  have uK:IsOrder n E O:=⟨o1,o2,o3,λi h a ha=>o4 i h a (hE _ ha).1 ((hN a _).2 ha)⟩
  rcases s2.out with⟨rfl,rfl⟩|⟨ko,rest,rfl,hU,eu,eU,ig⟩
  ·have eW:n=0:=by simp at o1; omega
   subst eW
   simp[yA]
   exact⟨[],rfl,uK⟩
  ·have fI:=QX O rest
   simp[hO,yA,ig,fI]
   exact⟨O,rfl,uK⟩
end
def Cf (n:Nat) (c:Nat→Bool):List PV:=(List.range' 0 n).map λv=>PV.bool (c v)
theorem JF (n:Nat) (c:Nat→Bool):(Cf n c).length=n:=by simp[Cf]
theorem M4 {n v:Nat} (h:v<n) (c:Nat→Bool) (p:v<(Cf n c).length):(Cf n c)[v] = .bool (c v):=by simp[Cf]
theorem Q4 {n v:Nat} (h:v<n) (c:Nat→Bool) (x:Bool):(Cf n c).set v (.bool x)=Cf n (fup c v x):=by
 apply b6
 ·simp[Cf]
 ·intro i h1 h2
  have hi:i<n:=by rw[JF] at h2; exact h2
  rw[List.getElem_set,M4 hi _ h2]
  by_cases e:v=i
  ·subst e; rw[ai rfl,zU]
  ·rw[ae e,M4 hi,Aw _ _ (λe'=>e e'.symm)]
def BV (n:Nat) (N:Nat→List Nat) (t:TS) (stk:PV):List PV:=[.list false (AQ n N),.rowp 0 1 false n,.rowp 1 1 false n,.rowp 2 1 false n,stk,.int .i64 (t.ct:Int),.rowp 3 1 false n,.int .i64 (t.pa:Int)]
structure TSt (h:List PObj) (n:Nat) (N:Nat→List Nat) (t:TS) (stk:PV):Prop where
 ix:h[0]? = some (.cells (yT n t.ix))
 lo:h[1]? = some (.cells (yT n t.lo))
 on:h[2]? = some (.cells (Cf n t.on))
 nu:h[3]? = some (.cells (yT n t.nu))
 obj:h[4]? = some (.cells (BV n N t stk))
 stk:(stk = .list true []∧t.st=[])∨∃ks rest,stk = .rowp ks 1 false t.st.length∧5≤ks∧h[ks]? = some (.cells (yc t.st.reverse++rest))
def Off (stk:PV) (a:Nat):Prop:=5≤a∧∀ks len,stk = .rowp ks 1 false len→ks≠a
structure Keeps (h:List PObj) (stk:PV) (h':List PObj) (stk':PV):Prop where
 len:h.length≤h'.length
 same:∀a,a<h.length→Off stk a→h'[a]? = h[a]?∧Off stk' a
theorem Off.ne {stk:PV} {a:Nat} (h:Off stk a) {ks len:Nat} (e:stk = .rowp ks 1 false len):a≠ks:=λe'=>h.2 ks len e e'.symm
theorem TSt.off {h:List PObj} {n:Nat} {N:Nat→List Nat} {t:TS} {stk:PV} (s:TSt h n N t stk) {ks len:Nat} (e:stk = .rowp ks 1 false len):5≤ks∧ks<h.length:=by
 rcases s.stk with⟨h1,_⟩|⟨k,rest,h1,h2,h3⟩
 ·rw[h1] at e; simp at e
 ·rw[h1] at e; simp only[PV.rowp.injEq] at e
  obtain⟨rfl,_⟩:=e
  exact⟨h2,(ah.1 h3).1⟩
theorem Q5 {h H1 H2:List PObj} {n:Nat} {N:Nat→List Nat} {t:TS} {stk:PV} {v:Nat} (s:TSt h n N t stk) (l1:H1.length=h.length) (h1:∀a,a≠0→a≠1→a≠4→H1[a]? = h[a]?)
  (kI:H1[0]? = some (.cells (yT n (fup t.ix v (t.ct+1))))) (gQ:H1[1]? = some (.cells (yT n (fup t.lo v (t.ct+1)))))
  (l2:H2.length=h.length+1) (h2:∀a,a<h.length→(∀ks len,stk = .rowp ks 1 false len→a≠ks)→H2[a]? = H1[a]?) (hn:H2[h.length]? = some (.cells (yc (t.st.reverse++[v])))) {m:Nat} (hm:m=t.st.length+1):
  TSt ((H2.set 4 (.cells (BV n N (A3 t v) (.rowp h.length 1 false m)))).set 2 (.cells (Cf n (fup t.on v true)))) n N (A3 t v) (.rowp h.length 1 false m) ∧
   Keeps h stk ((H2.set 4 (.cells (BV n N (A3 t v) (.rowp h.length 1 false m)))).set 2 (.cells (Cf n (fup t.on v true)))) (.rowp h.length 1 false m):=by
 have rz:4<h.length:=(ah.1 s.obj).1
 have low:∀a,a<5→H2[a]? = H1[a]? := λa ha=>h2 a (by omega) λks len e=>by have:=(s.off e).1; omega
 subst hm
 refine⟨⟨?_,?_,?_,?_,?_,.inr ⟨h.length,[],by simp[A3],by omega,?_⟩⟩,⟨?_,λa ha ho=>⟨?_,ho.1,λks len e =>?_⟩⟩⟩
 ·rw[af (by omega),af (by omega),low 0 (by omega)]; exact kI
 ·rw[af (by omega),af (by omega),low 1 (by omega)]; exact gQ
 ·rw[ar (by simp; omega)]; rfl
 ·rw[af (by omega),af (by omega),low 3 (by omega),h1 3 (by omega) (by omega) (by omega)]; exact s.nu
 ·rw[af (by omega),ar (by omega)]
 ·rw[af (by omega),af (by omega),hn]; simp[A3]
 ·simp; omega
 ·have h5:=ho.1
  rw[af (by omega),af (by omega),h2 a ha (λks len e=>ho.ne e),h1 a (by omega) (by omega) (by omega)]
 ·simp only[PV.rowp.injEq] at e; omega
section
variable {L:Nat→Option PFunc} (hL:∀k f,LS k=some f→L k=some f)
include hL
theorem QH (n:Nat) (hn:n≤4096) (N:Nat→List Nat) (t:TS) (ht:t.ct<1000000) (hs:t.st.length<1000000) (h:List PObj) (stk:PV) (s:TSt h n N t stk) (v:Nat) (hv:v<n):
  ∃h' stk',x8 L 240 [.ptr 4 0,.int .i64 (v:Int)] h=some (.agg [.int .i64 (v:Int),.int .i64 0],h')∧TSt h' n N (A3 t v) stk'∧Keeps h stk h' stk':=by
 obtain⟨i0,i1,i2,i3,i4,dn⟩:=s
 obtain⟨l0',e0⟩:=ah.1 i0
 obtain⟨l1',e1⟩:=ah.1 i1
 obtain⟨l2',e2⟩:=ah.1 i2
 obtain⟨l3',e3⟩:=ah.1 i3
 obtain⟨l4',e4⟩:=ah.1 i4
 have hw:=yn t.ct (by omega)
 have g1:=B2 n t.ix
 have g2:=B2 n t.lo
 have g3:=JF n t.on
 have s1:(yT n t.ix).set v (.int .i64 ((t.ct:Int)+1))=yT n (fup t.ix v (t.ct+1)):=ER hv t.ix (t.ct+1)
 have s2:(yT n t.lo).set v (.int .i64 ((t.ct:Int)+1))=yT n (fup t.lo v (t.ct+1)):=ER hv t.lo (t.ct+1)
 have s3:=Q4 hv t.on true
 suffices H:∃r,x8 L 240 [.ptr 4 0,.int .i64 (v:Int)] h=some r∧r.1 = .agg [.int .i64 (v:Int),.int .i64 0]∧∃stk',TSt r.2 n N (A3 t v) stk'∧Keeps h stk r.2 stk' by
  obtain⟨⟨r,h'⟩,h1,h2,stk',h3,h4⟩:=H
  simp only at h2; subst h2
  exact⟨h',stk',h1,h3,h4⟩
 refine AW (hL 240 _ rfl) rfl ?_
 have s':TSt h n N t stk:=⟨i0,i1,i2,i3,i4,dn⟩
 unfold BV at e4
 rcases dn with⟨rfl,fV⟩|⟨ks,rest,rfl,uI,hk⟩
 ·simp[Ju,l0',l1',l2',l3',l4',e0,e1,e2,e3,e4,hw,hv,g1,g2,g3,s1,s2,s3,Ay]
  generalize fE:((((h.set 4 _).set 0 _).set 1 _).set 4 _)=H1
  have q:H1.length=h.length∧(∀a,a≠0→a≠1→a≠4→H1[a]? = h[a]?)∧H1[0]? = some (.cells (yT n (fup t.ix v (t.ct+1))))∧H1[1]? = some (.cells (yT n (fup t.lo v (t.ct+1))))∧H1[4]? = some (.cells [.list false (AQ n N),.rowp 0 1 false n,.rowp 1 1 false n,.rowp 2 1 false n,.list false [],.int .i64 ((t.ct:Int)+1),.rowp 3 1 false n,.int .i64 (t.pa:Int)]):=by
   subst fE
   refine⟨by simp,λa h0 h1 h4 =>?_,?_,?_,?_⟩
   ·rw[af (by omega),af (by omega),af (by omega),af (by omega)]
   ·rw[af (by omega),af (by omega),ar (by simp; omega)]
   ·rw[af (by omega),ar (by simp; omega)]
   ·rw[ar (by simp; omega)]
  clear fE
  obtain⟨q1,q2,q3,q4,q5⟩:=q
  obtain⟨H2,eZ⟩:∃H2,H2=H1++[PObj.cells (yc [v])]:=⟨_,rfl⟩
  have gk:=Q1 H1 v
  simp only[← eZ,q1] at gk
  have low:∀a,a<h.length→H2[a]? = H1[a]? := λa ha=>by rw[eZ,al (by omega)]
  have l2:H2.length=h.length+1:=by rw[eZ]; simp[q1]
  have w4:H2[4]? = _:=(low 4 l4').trans q5
  have w2:H2[2]? = _:=(low 2 l2').trans ((q2 2 (by omega) (by omega) (by omega)).trans i2)
  have fin:=Q5 (v:=v) (m:=1) s' q1 q2 q3 q4 l2 (λa ha _=>low a ha) (by rw[eZ,aq (by omega),q1,fV]; simp) (by rw[fV]; rfl)
  obtain⟨w4l,w4⟩:=ah.1 w4
  obtain⟨w2l,w2⟩:=ah.1 w2
  simp[gk,w4,w4l,w2,w2l,g3,hv,s3,Ay,yA]
  exact⟨_,fin⟩
 ·simp[Ju,l0',l1',l2',l3',l4',e0,e1,e2,e3,e4,hw,hv,g1,g2,g3,s1,s2,s3,Ay]
  generalize fE:(((h.set 4 _).set 0 _).set 1 _)=H1
  have q:H1.length=h.length∧(∀a,a≠0→a≠1→a≠4→H1[a]? = h[a]?)∧H1[0]? = some (.cells (yT n (fup t.ix v (t.ct+1))))∧H1[1]? = some (.cells (yT n (fup t.lo v (t.ct+1))))∧H1[4]? = some (.cells [.list false (AQ n N),.rowp 0 1 false n,.rowp 1 1 false n,.rowp 2 1 false n,.rowp ks 1 false t.st.length,.int .i64 ((t.ct:Int)+1),.rowp 3 1 false n,.int .i64 (t.pa:Int)]):=by
   subst fE
   refine⟨by simp,λa h0 h1 h4 =>?_,?_,?_,?_⟩
   ·rw[af (by omega),af (by omega),af (by omega)]
   ·rw[af (by omega),ar (by simp; omega)]
   ·rw[ar (by simp; omega)]
   ·rw[af (by omega),af (by omega),ar l4']
  clear fE
  obtain⟨q1,q2,q3,q4,q5⟩:=q
  obtain⟨H2,eZ⟩:∃H2,H2=H1.set ks .gone++[PObj.cells (yc (t.st.reverse++[v]))]:=⟨_,rfl⟩
  have gk:=JE (n:=t.st.length) (by simp) ((q2 ks (by omega) (by omega) (by omega)).trans hk) (by omega) v
  simp only[← eZ,q1] at gk
  have low:∀a,a<h.length→a≠ks→H2[a]? = H1[a]? := λa ha da=>by rw[eZ,al (by simp; omega),af (λe=>da e.symm)]
  have l2:H2.length=h.length+1:=by rw[eZ]; simp[q1]
  have w4:H2[4]? = _:=(low 4 l4' (by omega)).trans q5
  have w2:H2[2]? = _:=(low 2 l2' (by omega)).trans ((q2 2 (by omega) (by omega) (by omega)).trans i2)
  have fin:=Q5 (v:=v) (m:=t.st.length+1) s' q1 q2 q3 q4 l2 (λa ha hh=>low a ha (hh ks _ rfl)) (by rw[eZ,aq (by simp; omega)]; simp[q1]) rfl
  obtain⟨w4l,w4⟩:=ah.1 w4
  obtain⟨w2l,w2⟩:=ah.1 w2
  simp[gk,w4,w4l,w2,w2l,g3,hv,s3,Ay,yA]
  exact⟨_,fin⟩
end
theorem Keeps.refl (h:List PObj) (stk:PV):Keeps h stk h stk:=⟨an _,λ_ _ ho=>⟨rfl,ho⟩⟩
theorem Keeps.trans {h h1 h2:List PObj} {s s1 s2:PV} (k1:Keeps h s h1 s1) (k2:Keeps h1 s1 h2 s2):Keeps h s h2 s2:=by
 refine⟨aD k1.len k2.len,λa ha ho =>?_⟩
 obtain⟨e1,o1⟩:=k1.same a ha ho
 obtain⟨e2,o2⟩:=k2.same a (aT ha k1.len) o1
 exact⟨e2.trans e1,o2⟩
theorem c7O {h:List PObj} {n:Nat} {N:Nat→List Nat} {t:TS} {ks w:Nat} {r:List Nat} (s:TSt h n N t (.rowp ks 1 false (r.length+1))) (e:t.st=w::r):
  TSt (((h.set 4 (.cells (BV n N t (.rowp ks 1 false r.length)))).set 2 (.cells (Cf n (fup t.on w false)))).set 3 (.cells (yT n (fup t.nu w t.pa)))) n N (EQ t w r) (.rowp ks 1 false r.length) ∧
   Keeps h (.rowp ks 1 false (r.length+1)) (((h.set 4 (.cells (BV n N t (.rowp ks 1 false r.length)))).set 2 (.cells (Cf n (fup t.on w false)))).set 3 (.cells (yT n (fup t.nu w t.pa)))) (.rowp ks 1 false r.length):=by
 have rz:4<h.length:=(ah.1 s.obj).1
 obtain⟨h5,_⟩:=s.off rfl
 refine⟨⟨?_,?_,?_,?_,?_,.inr ⟨ks,?_⟩⟩,⟨by simp,λa ha ho=>⟨?_,ho.1,λk' len e' =>?_⟩⟩⟩
 ·rw[af (by omega),af (by omega),af (by omega)]; exact s.ix
 ·rw[af (by omega),af (by omega),af (by omega)]; exact s.lo
 ·rw[af (by omega),ar (by simp; omega)]; rfl
 ·rw[ar (by simp; omega)]; rfl
 ·rw[af (by omega),af (by omega),ar (by omega)]; rfl
 ·rcases s.stk with⟨h1,_⟩|⟨k,rest,h1,h2,h3⟩
  ·simp at h1
  ·simp only[PV.rowp.injEq] at h1
   obtain⟨rfl,-,-,-⟩:=h1
   refine⟨[.int .i64 (w:Int)]++rest,rfl,h5,?_⟩
   rw[af (by omega),af (by omega),af (by omega),h3,e]
   simp[EQ,yc]
 ·have:=ho.1
  rw[af (by omega),af (by omega),af (by omega)]
 ·simp only[PV.rowp.injEq] at e'
  have:=ho.2 ks _ rfl
  omega
theorem TSt.pa {h:List PObj} {n:Nat} {N:Nat→List Nat} {t:TS} {stk:PV} (s:TSt h n N t stk) (p:Nat):
  TSt (h.set 4 (.cells (BV n N { t with pa:=p } stk))) n N { t with pa:=p } stk∧Keeps h stk (h.set 4 (.cells (BV n N { t with pa:=p } stk))) stk:=by
 have rz:4<h.length:=(ah.1 s.obj).1
 refine⟨⟨?_,?_,?_,?_,?_,?_⟩,⟨by simp,λa ha ho=>⟨?_,ho⟩⟩⟩
 ·rw[af (by omega)]; exact s.ix
 ·rw[af (by omega)]; exact s.lo
 ·rw[af (by omega)]; exact s.on
 ·rw[af (by omega)]; exact s.nu
 ·rw[ar (by omega)]
 ·rcases s.stk with h1|⟨k,rest,h1,h2,h3⟩
  ·exact .inl h1
  ·exact .inr ⟨k,rest,h1,h2,by rw[af (by omega)]; exact h3⟩
 ·have:=ho.1
  rw[af (by omega)]
section
variable {L:Nat→Option PFunc} (hL:∀k f,LS k=some f→L k=some f)
include hL
theorem c2J (n:Nat) (hn:n≤4096) (N:Nat→List Nat) (t:TS) (hs:t.st.length<1000000) (hp:t.pa<1000000) (cV:∀w∈t.st,w<n) (h:List PObj) (stk:PV) (s:TSt h n N t stk) (v:Nat) (hv:v∈t.st):
  ∃h' stk',x8 L 241 [.ptr 4 0,.int .i64 (v:Int)] h=some (.tuple [],h')∧TSt h' n N (zF t v) stk'∧Keeps h stk h' stk':=by
 suffices H:∃r,x8 L 241 [.ptr 4 0,.int .i64 (v:Int)] h=some r∧r.1 = .tuple []∧∃stk',TSt r.2 n N (zF t v) stk'∧Keeps h stk r.2 stk' by
  obtain⟨⟨r,h'⟩,h1,h2,stk',h3,h4⟩:=H
  simp only at h2; subst h2
  exact⟨h',stk',h1,h3,h4⟩
 obtain⟨l0',e0⟩:=ah.1 s.ix
 obtain⟨l1',e1⟩:=ah.1 s.lo
 obtain⟨l4',e4⟩:=ah.1 s.obj
 have jW:=cV v hv
 have g1:=B2 n t.ix
 have g2:=B2 n t.lo
 have r1:=Ce jW t.ix
 have r2:=Ce jW t.lo
 refine AW (hL 241 _ rfl) rfl ?_
 unfold BV at e4
 by_cases he:t.lo v=t.ix v
 ·have hi:((t.lo v:Nat):Int)=(t.ix v:Int):=by omega
  simp[Jv,l0',l1',l4',e0,e1,e4,jW,g1,g2,r1,r2,he]
  rw[P7]
  refine HH (λm st=>∃y2 h' stk' t',m=t'.st.length∧TSt h' n N t' stk'∧Keeps h stk h' stk'∧v∈t'.st∧(∀w∈t'.st,w<n)∧t'.st.length<1000000∧t'.pa=t.pa∧Cx v t'.st t'=Cx v t.st t∧st=⟨[.ptr 4 0,.int .i64 (v:Int),y2],[],0,h'⟩) ?_ t.st.length ⟨_,h,stk,t,rfl,s,Keeps.refl _ _,hv,cV,hs,rfl,rfl,rfl⟩
  rintro m st ⟨y2,h',stk',t',rfl,s',kp,ev,eC,jf,rA,kN,rfl⟩ ih
  cases dn:t'.st with
  | nil=>rw[dn] at ev; cases ev
  | cons w r =>
    rcases s'.stk with⟨_,h1⟩|⟨ks,rest,h1,h5,hk⟩
    ·rw[dn] at h1; cases h1
    rw[dn,aB] at h1
    subst h1
    have fJ:=eC w (by rw[dn]; simp)
    rw[dn,aB] at jf
    obtain⟨fin,kp2⟩:=c7O s' dn
    rw[dn,Cx] at kN
    obtain⟨m0,d0⟩:=ah.1 s'.obj
    obtain⟨m2,d2⟩:=ah.1 s'.on
    obtain⟨m3,d3⟩:=ah.1 s'.nu
    obtain⟨mk,dk⟩:=ah.1 hk
    unfold BV at d0
    have np:IntKind.i64.wrap ((r.length:Int)+1 - 1)=(r.length:Int):=by rw[show ((r.length:Int)+1 - 1)=(r.length:Int) by omega]; exact BA _ (by omega)
    have sN:IntKind.i64.wrap (r.length:Int)=(r.length:Int):=BA _ (by omega)
    have sO:r.length≤r.length+1:=by omega
    have ku:(r.length:Int)<(r.length:Int)+1:=by omega
    have kO:(r.length:Int)≤(r.length:Int)+1:=by omega
    have sP:t'.st.reverse=r.reverse++[w]:=by rw[dn]; simp
    rw[sP] at dk
    obtain⟨X,hX⟩:∃X,X=yc (r.reverse++[w])++rest:=⟨_,rfl⟩
    rw[← hX] at dk
    have wv:r.length<X.length:=by rw[hX,ap,A4]; simp; omega
    have ww:∀p:r.length<X.length,X[r.length]'p = .int .i64 (w:Int):=by
     intro p
     subst hX
     simp[yc]
    have u2:=JF n t'.on
    have u3:=B2 n t'.nu
    have z2:=Q4 fJ t'.on false
    have z3:=ER fJ t'.nu t'.pa
    simp[m0,d0,m2,d2,m3,d3,mk,dk,np,sN,sO,ku,kO,wv,ww,u2,u3,z2,z3,fJ,Ay]
    by_cases sQ:w=v
    ·rw[ai sQ] at kN
     have nP:(w:Int)=(v:Int):=by omega
     have rB:IntKind.i64.wrap ((t'.pa:Int)+1)=((t'.pa+1:Nat):Int):=yn t'.pa (by omega)
     obtain⟨f2,k2⟩:=fin.pa (t'.pa+1)
     have e:({ EQ t' w r with pa:=t'.pa+1 }:TS)=zF t v:=by rw[zF,ai he,kN,rA]
     rw[ai nP,rB]
     simp[yA]
     rw[← e]
     exact⟨_,f2,kp.trans (kp2.trans k2)⟩
    ·rw[ae sQ] at kN
     have nP:¬(w:Int)=(v:Int):=by omega
     rw[ae nP]
     have cZ:v∈r:=by
      rw[dn] at ev
      rcases aA.1 ev with e|e
      ·exact absurd e.symm sQ
      ·exact e
     exact ih r.length _ (by rw[dn]; simp) ⟨_,_,_,EQ t' w r,rfl,fin,kp.trans kp2,cZ,λx hx=>eC x (by rw[dn]; exact bl _ hx),by show r.length<_; omega,rA,kN,rfl⟩
 ·have hi:¬((t.lo v:Nat):Int)=(t.ix v:Int):=by omega
  simp[Jv,l0',l1',l4',e0,e1,e4,jW,g1,g2,r1,r2,he,hi,yA]
  exact⟨stk,by rw[zF,ae he]; exact s,Keeps.refl _ _⟩
end
def fC:List (Nat×Nat)→List PV
 | []=>[]
 | f::F=>fC F++[.int .i64 (f.1:Int),.int .i64 (f.2:Int)]
theorem ET:∀F,(fC F).length=F.length*2
 | []=>rfl
 | f::F=>by simp only[fC,ap,ET F,aB,bo]; omega
def unv (n:Nat) (N:Nat→List Nat) (ix:Nat→Nat):Nat:=tot n λv=>if ix v=0 then(N v).length+2 else 0
def frm (N:Nat→List Nat):List (Nat×Nat)→Nat
 | []=>0
 | f::F=>((N f.1).length - f.2+1)+frm N F
theorem QG {n:Nat} {N:Nat→List Nat} {ix:Nat→Nat} {w k:Nat} (hw:w<n) (h0:ix w=0):unv n N (fup ix w (k+1))+((N w).length+2)=unv n N ix:=by
 refine MT (w:=w) n (λv _ hv =>?_) hw ?_
 ·rw[Aw _ _ hv]
 ·rw[zU,h0]; simp
theorem TSt.frame {h h2:List PObj} {n:Nat} {N:Nat→List Nat} {t:TS} {stk:PV} (s:TSt h n N t stk) {kf:Nat} (ho:Off stk kf) (hs:∀a,a<h.length→a≠kf→h2[a]? = h[a]?):TSt h2 n N t stk:=by
 have rz:4<h.length:=(ah.1 s.obj).1
 have h5:=ho.1
 refine⟨by rw[hs 0 (by omega) (by omega)]; exact s.ix,by rw[hs 1 (by omega) (by omega)]; exact s.lo,by rw[hs 2 (by omega) (by omega)]; exact s.on,by rw[hs 3 (by omega) (by omega)]; exact s.nu,by rw[hs 4 (by omega) (by omega)]; exact s.obj,?_⟩
 rcases s.stk with h1|⟨k,rest,h1,eu,h3⟩
 ·exact .inl h1
 ·refine .inr ⟨k,rest,h1,eu,?_⟩
  rw[hs k (ah.1 h3).1 (ho.2 k _ h1)]; exact h3
theorem TSt.low {h:List PObj} {n:Nat} {N:Nat→List Nat} {t:TS} {stk:PV} (s:TSt h n N t stk) (lo:Nat→Nat):TSt (h.set 1 (.cells (yT n lo))) n N { t with lo:=lo } stk:=by
 have rz:4<h.length:=(ah.1 s.obj).1
 refine⟨by rw[af (by omega)]; exact s.ix,ar (by omega),by rw[af (by omega)]; exact s.on,by rw[af (by omega)]; exact s.nu,by rw[af (by omega)]; exact s.obj,?_⟩
 rcases s.stk with h1|⟨k,rest,h1,eu,h3⟩
 ·exact .inl h1
 ·exact .inr ⟨k,rest,h1,eu,by rw[af (by omega)]; exact h3⟩
theorem c7P {h:List PObj} {kf:Nat} {F:List (Nat×Nat)} {rest:List PV} (hk:h[kf]? = some (.cells (fC F++rest))) (hF:F.length<1000000) (w m:Nat) (hm:m=F.length) (V l:List PV) (g:Nat):
  AD h 2 true 16 [.agg [.int .i64 (w:Int),.int .i64 0]] (.rowp kf 2 true m) ⟨V,l,g,h⟩=some (.rowp h.length 2 true (m+1),⟨V,l,g,h.set kf .gone++[.cells (fC ((w,0)::F))]⟩):=by
 subst hm
 have e1:F.length*2≤(fC F).length+rest.length:=by rw[ET]; omega
 have e2:F.length≤2147483647:=by omega
 have e3:List.take (F.length*2) (fC F++rest)=fC F:=List.take_left' (ET F)
 simp[AD,hk,e1,e2,e3,fC,yU]
theorem Q6 (v:Nat):∀(l:List Nat) (t:TS),(Cx v l t).ix=t.ix∧(Cx v l t).ct=t.ct∧(Cx v l t).pa=t.pa∧(Cx v l t).lo=t.lo
 | [],t=>⟨rfl,rfl,rfl,rfl⟩
 | w :: l, t => by
   rw[Cx]
   split
   ·exact⟨rfl,rfl,rfl,rfl⟩
   ·exact Q6 v l _
theorem b80 (t:TS) (v:Nat):(zF t v).ix=t.ix∧(zF t v).ct+(zF t v).pa≤t.ct+t.pa+1:=by
 obtain⟨h1,h2,h3,_⟩:=Q6 v t.st t
 unfold zF
 split
 ·exact⟨h1,by show (Cx v t.st t).ct+(t.pa+1)≤_; omega⟩
 ·exact⟨rfl,by omega⟩
section
variable {L:Nat→Option PFunc} (hL:∀k f,LS k=some f→L k=some f)
include hL
theorem c2K (n:Nat) (hn:n≤4096) (N:Nat→List Nat) (hN:∀v,v<n→∀w∈N v,w<n) (jT:∀v,v<n→(N v).length≤1000000) (b k0 C:Nat) (hC:C<1000000) (V1 V3 V4 V5 V6:PV) (t:TS) (F:List (Nat×Nat)) (ti:TI n N b k0 t F) (hF:F≠[]) (h:List PObj) (stk:PV) (s:TSt h n N t stk) (kf:Nat) (rest:List PV) (ho:Off stk kf) (hk:h[kf]? = some (.cells (fC F++rest))) (mB:t.ct+t.pa+unv n N t.ix+frm N F≤C) {Q:PExit→St→Prop}
  (hq:∀y2 y3 y4 y5 y6 h' stk' t',TSt h' n N t' stk'→TI n N b k0 t' []→t'.ct+t'.pa+unv n N t'.ix≤C→Q (.exit 0) ⟨[.ptr 4 0,V1,y2,y3,y4,y5,y6],[],0,h'⟩):
  wpL L My ⟨[.ptr 4 0,V1,.rowp kf 2 true F.length,V3,V4,V5,V6],[],0,h⟩ Q:=by
 rw[My]
 refine HH (λm st=>∃y3 y4 y5 y6 h' stk' kf rest t' F,m=unv n N t'.ix+frm N F∧TSt h' n N t' stk'∧TI n N b k0 t' F∧Off stk' kf∧h'[kf]? = some (.cells (fC F++rest))∧t'.ct+t'.pa+unv n N t'.ix+frm N F≤C∧st=⟨[.ptr 4 0,V1,.rowp kf 2 true F.length,y3,y4,y5,y6],[],0,h'⟩) ?_ _ ⟨_,_,_,_,h,stk,kf,rest,t,F,rfl,s,ti,ho,hk,mB,rfl⟩
 rintro m st ⟨y3,y4,y5,y6,h',stk',kf,rest,t',F,hm,s',ti',eA,dq,iD,rfl⟩ ih
 cases F with
 | nil =>
   simp
   exact hq _ _ _ _ _ _ _ _ s' ti' (by simp only[frm] at iD; omega)
 | cons f F =>
   obtain⟨v,i⟩:=f
   obtain⟨iC,dF,mD⟩:=ti'.top
   have jW:=ti'.lt v iC
   have wx:=(F7 n t'.st ti'.nodup ti'.lt).1
   have mA:F.length+1<1000000:=by
    have:∀F:List (Nat×Nat),F.length≤frm N F:=by
     intro F
     induction F with
     | nil=>simp
     | cons f F ih=>simp only[frm,aB]; omega
    have:=this ((v,i)::F)
    simp only[aB] at this
    omega
   obtain⟨l0',e0⟩:=ah.1 s'.ix
   obtain⟨l1',e1⟩:=ah.1 s'.lo
   obtain⟨l2',e2⟩:=ah.1 s'.on
   obtain⟨l4',e4⟩:=ah.1 s'.obj
   unfold BV at e4
   obtain⟨Y,hY⟩:∃Y,Y=fC ((v,i)::F)++rest:=⟨_,rfl⟩
   rw[← hY] at dq
   obtain⟨lk,ek⟩:=ah.1 dq
   have Yl:Y.length=F.length*2+2+rest.length:=by rw[hY,ap,ET,aB]; omega
   have Yl0:F.length*2<Y.length:=by omega
   have Yl1:F.length*2+1<Y.length:=by omega
   have Yg0:∀p:F.length*2<Y.length,Y[F.length*2]'p = .int .i64 (v:Int):=by
    intro p
    subst hY
    have:=ET F
    simp[fC,List.getElem_append,this]
   have Yg1:∀p:F.length*2+1<Y.length,Y[F.length*2+1]'p = .int .i64 (i:Int):=by
    intro p
    subst hY
    have:=ET F
    simp[fC,List.getElem_append,this]
   have gZ:IntKind.i64.wrap (F.length:Int)=(F.length:Int):=BA _ (by omega)
   have ku:(F.length:Int)<(F.length:Int)+1:=by omega
   have kO:(F.length:Int)≤(F.length:Int)+1:=by omega
   have dr:0<(F.length:Int)+1:=by omega
   have nl:v<(AQ n N).length:=by rw[HG]; exact jW
   have ng:∀p:v<(AQ n N).length,(AQ n N)[v]'p = .list false (yc (N v)):=by intro p; simp[AQ]
   have g0:=B2 n t'.ix
   have g1:=B2 n t'.lo
   have g2:=JF n t'.on
   by_cases hi:i<(N v).length
   ·have sD:=ak hi
    have fJ:=hN v jW _ sD
    have wl:i<(yc (N v)).length:=by rw[A4]; exact hi
    have wg:∀p:i<(yc (N v)).length,(yc (N v))[i]'p = .int .i64 ((N v)[i]:Int):=by intro p; simp[yc]
    have fx:=jT v jW
    have sE:=yn i (by omega)
    obtain⟨Y2,rC⟩:∃Y2,Y2=Y.set (F.length*2+1) (.int .i64 ((i:Int)+1)):=⟨_,rfl⟩
    have nQ:Y2=fC ((v,i+1)::F)++rest:=by
     rw[rC,hY]
     have:=ET F
     simp[fC,List.set_append,this]
    obtain⟨H1,fE⟩:∃H1,H1=h'.set kf (.cells Y2):=⟨_,rfl⟩
    have s1:TSt H1 n N t' stk':=s'.frame eA λa _ da=>by rw[fE,af (λe=>da e.symm)]
    have eV:H1[kf]? = some (.cells Y2):=by rw[fE,ar lk]
    obtain⟨m0,d0⟩:=ah.1 s1.ix
    obtain⟨m1,d1⟩:=ah.1 s1.lo
    obtain⟨m2,d2⟩:=ah.1 s1.on
    obtain⟨m4,d4⟩:=ah.1 s1.obj
    obtain⟨mk,dk⟩:=ah.1 eV
    unfold BV at d4
    have x0:=Ce fJ t'.ix
    have x1:=Ce jW t'.lo
    have x2:=M4 fJ t'.on
    have Y2l:Y2.length=Y.length:=by rw[rC,ba]
    have Y2l0:F.length*2<Y2.length:=by omega
    have Y2g0:∀p:F.length*2<Y2.length,Y2[F.length*2]'p = .int .i64 (v:Int):=by
     intro p
     subst rC
     rw[List.getElem_set_ne (by omega)]
     exact Yg0 _
    simp[dr,gZ,ku,kO,l0',l1',l2',l4',e0,e1,e2,e4,lk,ek,Yl0,Yl1,Yg0,Yg1,nl,ng,A4,hi,wl,wg,sE,← rC,← fE,m0,d0,m1,d1,m2,d2,m4,d4,mk,dk,g0,g1,g2,fJ,x0,Y2l0,Y2g0]
    by_cases h0:t'.ix (N v)[i]=0
    ·obtain⟨h2,stk2,c1,s2,kp⟩:=QH hL n hn N t' (by omega) (by omega) H1 stk' s1 (N v)[i] fJ
     have sR:kf<H1.length:=mk
     obtain⟨e2',o2⟩:=kp.same kf sR eA
     have em:h2[kf]? = some (.cells (fC ((v,i+1)::F)++rest)):=by rw[e2',eV,nQ]
     have gk:=c7P em (by simp; omega) (N v)[i] (F.length+1) rfl
     obtain⟨H3,kE⟩:∃H3,H3=h2.set kf .gone++[PObj.cells (fC (((N v)[i],0)::(v,i+1)::F))]:=⟨_,rfl⟩
     simp only[← kE] at gk
     have s3:TSt H3 n N (A3 t' (N v)[i]) stk2:=s2.frame o2 λa ha da=>by rw[kE,al (by simpa using ha),af (λe=>da e.symm)]
     have wy:Off stk2 h2.length:=by
      refine⟨?_,λks len e =>?_⟩
      ·have:=eA.1; have:=kp.len; omega
      ·have:=(s2.off e).2; omega
     have hu:=QG (n:=n) (N:=N) (k:=t'.ct) fJ h0
     have nD:(A3 t' (N v)[i]).ct+(A3 t' (N v)[i]).pa+unv n N (A3 t' (N v)[i]).ix+frm N (((N v)[i],0)::(v,i+1)::F)≤C:=by
      show t'.ct+1+t'.pa+unv n N (fup t'.ix (N v)[i] (t'.ct+1))+_≤C
      simp only[frm] at iD ⊢
      omega
     simp[tf h0,c1,gk]
     refine ih (unv n N (A3 t' (N v)[i]).ix+frm N (((N v)[i],0)::(v,i+1)::F)) _ ?_ ⟨_,_,_,_,H3,stk2,h2.length,[],_,((N v)[i],0)::(v,i+1)::F,rfl,s3,ti'.enter hi fJ h0,wy,?_,nD,rfl⟩
     ·rw[hm]
      show unv n N (fup t'.ix (N v)[i] (t'.ct+1))+_<_
      simp only[frm]
      omega
     ·rw[kE,aq (by simp)]; simp
    ·have eN:frm N ((v,i+1)::F)+1=frm N ((v,i)::F):=by simp only[frm]; omega
     cases lJ:t'.on (N v)[i] with
     | false =>
       simp[h0,lJ,x2,m2,d2]
       exact ih (unv n N t'.ix+frm N ((v,i+1)::F)) _ (by omega) ⟨_,_,_,_,H1,stk',kf,rest,t',(v,i+1)::F,rfl,s1,ti'.skip hi (by omega) lJ,eA,by rw[eV,nQ],by omega,rfl⟩
     | true =>
       have nR:∀a b:Nat,(if b<a then(b:Int) else(a:Int))=((min a b:Nat):Int):=by intro a b; split<;>omega
       have z1:=ER jW t'.lo (min (t'.lo v) (t'.ix (N v)[i]))
       have s3:=s1.low (fup t'.lo v (min (t'.lo v) (t'.ix (N v)[i])))
       simp[h0,lJ,x2,m0,d0,m1,d1,m2,d2,m4,d4,mk,dk,g0,g1,x0,x1,Y2l0,Y2g0,jW,fJ]
       rw[nR,z1]
       have wz:=eA.1
       exact ih (unv n N t'.ix+frm N ((v,i+1)::F)) _ (by omega) ⟨_,_,_,_,_,stk',kf,rest,EP t' v (t'.ix (N v)[i]),(v,i+1)::F,rfl,s3,ti'.back hi lJ,eA,by rw[af (by omega),eV,nQ],by show t'.ct+t'.pa+unv n N t'.ix+_≤C; omega,rfl⟩
   ·have oV:i=(N v).length:=by omega
    obtain⟨h2,stk2,c1,s2,kp⟩:=c2J hL n hn N t' (by omega) (by omega) ti'.lt h' stk' s' v iC
    have rx:fC ((v,i)::F)++rest=fC F++([.int .i64 (v:Int),.int .i64 (i:Int)]++rest):=by simp[fC]
    obtain⟨e2',o2⟩:=kp.same kf lk eA
    have em:h2[kf]? = some (.cells Y):=by rw[e2',dq]
    have nH:frm N F+1≤frm N ((v,i)::F):=by simp only[frm]; omega
    obtain⟨gY,gc⟩:=b80 t' v
    by_cases mN:F=[]
    ·have sS:¬0<F.length:=by rw[mN]; simp
     simp[dr,gZ,ku,kO,l0',e0,l1',e1,l4',e4,lk,ek,Yl0,Yl1,Yg0,Yg1,nl,ng,A4,hi,c1,sS]
     subst mN
     rw[rx] at hY
     exact ih (unv n N (zF t' v).ix+frm N []) _ (by rw[gY,hm]; simp only[frm] at nH ⊢; omega) ⟨_,_,_,_,h2,stk2,kf,_,zF t' v,[],rfl,s2,ti'.close oV ti'.root,o2,by rw[em,hY],by rw[gY]; simp only[frm] at nH iD ⊢; omega,rfl⟩
    ·have sS:0<F.length:=bI.2 mN
     simp[dr,gZ,ku,kO,l0',e0,l1',e1,l4',e4,lk,ek,Yl0,Yl1,Yg0,Yg1,nl,ng,A4,hi,c1,sS]
     obtain⟨f,F2,rD⟩:∃f F2,F=f::F2:=by
      cases wA:F with
      | nil=>exact absurd wA mN
      | cons f F2=>exact⟨f,F2,rfl⟩
     obtain⟨pv,pj⟩:=f
     have hFe:F.length=F2.length+1:=by rw[rD]; rfl
     have wB:IntKind.i64.wrap ((F.length:Int) - 1)=(F2.length:Int):=by rw[show ((F.length:Int) - 1)=(F2.length:Int) by omega]; exact BA _ (by omega)
     have wC:F2.length<F.length:=by omega
     have ti2:=ti'
     rw[rD] at ti2
     have ti3:=ti2.leave oV
     have gJ:=ti3.lt pv ti3.top.1
     obtain⟨m1,d1⟩:=ah.1 s2.lo
     obtain⟨m4,d4⟩:=ah.1 s2.obj
     obtain⟨mk,dk⟩:=ah.1 em
     unfold BV at d4
     have x1:=Ce gJ (zF t' v).lo
     have x2:=Ce jW (zF t' v).lo
     have g3:=B2 n (zF t' v).lo
     have Z0:F2.length*2<Y.length:=by omega
     have Zg:∀p:F2.length*2<Y.length,Y[F2.length*2]'p = .int .i64 (pv:Int):=by
      intro p
      subst hY
      have:=ET F2
      simp[rD,fC,List.getElem_append,this]
     have nR:∀a b:Nat,(if b<a then(b:Int) else(a:Int))=((min a b:Nat):Int):=by intro a b; split<;>omega
     have z1:=ER gJ (zF t' v).lo (min ((zF t' v).lo pv) ((zF t' v).lo v))
     have s3:=s2.low (fup (zF t' v).lo pv (min ((zF t' v).lo pv) ((zF t' v).lo v)))
     have wz:=o2.1
     simp[wB,wC,m1,d1,m4,d4,mk,dk,Z0,Zg,x1,x2,g3,gJ,jW]
     rw[nR,z1]
     exact ih (unv n N (EP (zF t' v) pv ((zF t' v).lo v)).ix+frm N F) _ (by rw[hm]; show unv n N (zF t' v).ix+_<_; rw[gY]; omega) ⟨_,_,_,_,_,stk2,kf,_,EP (zF t' v) pv ((zF t' v).lo v),F,rfl,s3,by rw[rD]; exact ti3,o2,by rw[af (by omega),em,hY,rx],by show (zF t' v).ct+(zF t' v).pa+unv n N (zF t' v).ix+_≤C; rw[gY]; omega,rfl⟩
end
section
variable {L:Nat→Option PFunc} (hL:∀k f,LS k=some f→L k=some f)
include hL
theorem c1e (n:Nat) (hn:n≤4096) (N:Nat→List Nat) (hN:∀v,v<n→∀w∈N v,w<n) (jT:∀v,v<n→(N v).length≤1000000) (b v C:Nat) (hC:C<1000000) (t:TS) (ti:TI n N b v t []) (hv:v<n) (h0:t.ix v=0) (h:List PObj) (stk:PV) (s:TSt h n N t stk) (mB:t.ct+t.pa+unv n N t.ix≤C):
  ∃h' stk' t' b',x8 L 230 [.ptr 4 0,.int .i64 (v:Int)] h=some (.tuple [],h')∧TSt h' n N t' stk'∧TI n N b' (v+1) t' []∧t'.ct+t'.pa+unv n N t'.ix≤C:=by
 suffices H:∃r,x8 L 230 [.ptr 4 0,.int .i64 (v:Int)] h=some r∧r.1 = .tuple []∧∃stk' t' b',TSt r.2 n N t' stk'∧TI n N b' (v+1) t' []∧t'.ct+t'.pa+unv n N t'.ix≤C by
  obtain⟨⟨r,h'⟩,h1,h2,stk',t',b',h3⟩:=H
  simp only at h2; subst h2
  exact⟨h',stk',t',b',h1,h3⟩
 have hu:=QG (n:=n) (N:=N) (k:=t.ct) hv h0
 have dn:t.st=[]:=ti.seg
 obtain⟨h1,stk1,c1,s1,kp⟩:=QH hL n hn N t (by omega) (by rw[dn]; simp) h stk s v hv
 obtain⟨h2,fR⟩:∃h2,h2=h1++[PObj.cells [.int .i64 (v:Int),.int .i64 0]]:=⟨_,rfl⟩
 have h5:5≤h1.length:=by have:=(ah.1 s1.obj).1; omega
 have ho:Off stk1 h1.length:=⟨h5,λks len e=>by have:=(s1.off e).2; omega⟩
 have s2:TSt h2 n N (A3 t v) stk1:=s1.frame ho λa ha _=>by rw[fR,al ha]
 refine AW (hL 230 _ rfl) rfl ?_
 simp[Mz,c1,B8,B7,yU,PV.cells,← fR]
 refine c2K hL n hn N hN jT (t.ct+1) (v+1) C hC _ _ _ _ _ (A3 t v) [(v,0)] (ti.begin hv h0) (by simp) h2 stk1 s2 h1.length [] ho (by rw[fR,aq (an _)]; simp[fC]) ?_ ?_
 ·show t.ct+1+t.pa+unv n N (fup t.ix v (t.ct+1))+_≤C
  simp only[frm]
  omega
 ·intro y2 y3 y4 y5 y6 h' stk' t' s' ti' hc
  simp[yA]
  exact⟨_,_,s',⟨_,ti'⟩,hc⟩
theorem c43 (n:Nat) (hn:n≤4096) (N:Nat→List Nat) (hN:∀v,v<n→∀w∈N v,w<n) (jT:∀v,v<n→(N v).length≤1000000) (b C:Nat) (hC:C<1000000) (t:TS) (ti:TI n N b 0 t []) (h:List PObj) (stk:PV) (s:TSt h n N t stk) (mB:t.ct+t.pa+unv n N t.ix≤C) (V0 V1 V2 V3 V5 V6 V7 V8 V9 V10 V13 V14:PV) (g:Nat) {Q:PExit→St→Prop}
  (hk:∀y5 y12 h' stk' t' b',TSt h' n N t' stk'→TI n N b' n t' []→t'.ct+t'.pa+unv n N t'.ix≤C→Q (.exit 0) ⟨[V0,V1,V2,V3,.ptr 4 0,y5,V6,V7,V8,V9,V10,.int .i64 (n:Nat),y12,V13,V14],[],g,h'⟩):
  wpL L Mi ⟨[V0,V1,V2,V3,.ptr 4 0,V5,V6,V7,V8,V9,V10,.int .i64 (n:Nat),.int .i64 0,V13,V14],[],g,h⟩ Q:=by
 rw[Mi]
 refine yK n (λi st=>∃y5 h' stk' t' b',TSt h' n N t' stk'∧TI n N b' i t' []∧t'.ct+t'.pa+unv n N t'.ix≤C∧st=⟨[V0,V1,V2,V3,.ptr 4 0,y5,V6,V7,V8,V9,V10,.int .i64 (n:Nat),.int .i64 (i:Nat),V13,V14],[],g,h'⟩) ?_ ?_ ⟨_,h,stk,t,b,s,ti,mB,rfl⟩
 ·rintro i hi st ⟨y5,h',stk',t',b',s',ti',iD,rfl⟩ ih
  have hw:=yn i (by omega)
  obtain⟨l0',e0⟩:=ah.1 s'.ix
  obtain⟨l4',e4⟩:=ah.1 s'.obj
  unfold BV at e4
  have g0:=B2 n t'.ix
  have x0:=Ce hi t'.ix
  by_cases h0:t'.ix i=0
  ·obtain⟨h2,stk2,t2,b2,c1,s2,ti2,nD⟩:=c1e hL n hn N hN jT b' i C hC t' ti' hi h0 h' stk' s' iD
   simp[hi,hw,l0',e0,l4',e4,g0,x0,tf h0,c1]
   exact ih _ ⟨_,h2,stk2,t2,b2,s2,ti2,nD,rfl⟩
  ·simp[hi,hw,l0',e0,l4',e4,g0,x0,h0]
   exact ih _ ⟨_,h',stk',t',b',s',ti'.known h0,iD,rfl⟩
 ·rintro st ⟨y5,h',stk',t',b',s',ti',iD,rfl⟩
  simp
  exact hk _ _ _ _ _ _ s' ti' iD
end
def oC (l:List Nat):PV:=if l=[] then .nils else .list true (yc l)
theorem MU {l:List Nat} (h:l≠[]):oC l = .list true (yc l):=ae h
def OutR (h:List PObj) (kp:Nat) (v:PV) (out:List (List Nat)):Prop:=
 (v = .nils∧out=[])∨∃ko,v = .rowp ko 1 false out.length∧5≤ko∧ko≠kp∧h[ko]? = some (.cells (out.map oC))
theorem b8U (h:List PObj) (V l:List PV) (g:Nat):AD h 1 false 24 [.nils] .nils ⟨V,l,g,h⟩=some (.rowp h.length 1 false 1,⟨V,l,g,h++[.cells [.nils]]⟩):=by
 simp[AD,PV.cells,dem]
theorem b6Y {h:List PObj} {k n:Nat} {cs:List PV} (hk:h[k]? = some (.cells cs)) (hn:cs.length=n) (hl:n<2147483648) (V l:List PV) (g:Nat):
  AD h 1 false 24 [.nils] (.rowp k 1 false n) ⟨V,l,g,h⟩=some (.rowp h.length 1 false (n+1),⟨V,l,g,h.set k .gone++[.cells (cs++[.nils])]⟩):=by
 subst hn
 have e2:cs.length≤2147483647:=by omega
 simp[AD,hk,e2,PV.cells,dem]
theorem OutR.new {h:List PObj} {kp:Nat} {v:PV} {out:List (List Nat)} (o:OutR h kp v out) (dg:kp<h.length) (h5:5≤h.length) (hl:out.length<1000000):
  ∃h1,(∀V l g,AD h 1 false 24 [.nils] v ⟨V,l,g,h⟩=some (.rowp h.length 1 false (out.length+1),⟨V,l,g,h1⟩))∧h1[h.length]? = some (.cells ((out++[[]]).map oC))∧(∀a,a<5∨a=kp→h1[a]? = h[a]?)∧(v = .nils∨∃ko,v = .rowp ko 1 false out.length):=by
 rcases o with⟨rfl,rfl⟩|⟨ko,rfl,su,de,jU⟩
 ·exact⟨h++[.cells [.nils]],b8U h,by rw[aq (an _)]; simp[oC],λa ha=>al (by omega),.inl rfl⟩
 ·refine⟨_,b6Y jU (by simp) (by omega),by rw[aq (by simp)]; simp[oC],λa ha=>by rw[al (by simp; omega),af (by omega)],.inr ⟨ko,rfl⟩⟩
structure GH (h:List PObj) (n:Nat) (N:Nat→List Nat) (t:TS) (stk:PV) (kp P:Nat) (pl:Nat→Nat) (v:PV) (out:List (List Nat)):Prop where
 fnu:h[3]? = some (.cells (yT n t.nu))
 fobj:h[4]? = some (.cells (BV n N t stk))
 fpl:h[kp]? = some (.cells (yT P pl))
 k5:5≤kp
 fout:OutR h kp v out
 le:∀k,pl k≤out.length
section
variable {L:Nat→Option PFunc} (hL:∀k f,LS k=some f→L k=some f)
include hL
theorem c44 (n:Nat) (hn:n≤4096) (N:Nat→List Nat) (t:TS) (stk:PV) (kp P:Nat) (rn:∀v,v<n→t.nu v<P) (h:List PObj) (gh:GH h n N t stk kp P (λ_=>0) .nils []) (V0 V1 V2 V3 V5 V8 V9 V10 V11 V12:PV) (g:Nat) {Q:PExit→St→Prop}
  (hk:∀y7 y8 y9 y14 h' pl out,GH h' n N t stk kp P pl y7 out→(∀u,u<n→∃j,∃hj:j<out.length,pl (t.nu u)=j+1∧u∈out[j])→(∀l∈out,l≠[])→out.length≤n→Q (.exit 2) ⟨[V0,V1,V2,V3,.ptr 4 0,V5,.rowp kp 1 false P,y7,y8,y9,V10,V11,V12,.int .i64 (n:Nat),y14],[],g,h'⟩):
  wpL L Mj ⟨[V0,V1,V2,V3,.ptr 4 0,V5,.rowp kp 1 false P,.nils,V8,V9,V10,V11,V12,.int .i64 (n:Nat),.int .i64 0],[],g,h⟩ Q:=by
 rw[Mj]
 refine yK n (λi st=>∃y7 y8 y9 h' pl out,GH h' n N t stk kp P pl y7 out∧out.length≤i∧(∀l∈out,l≠[]∧l.length≤i)∧(∀u,u<i→∃j,∃hj:j<out.length,pl (t.nu u)=j+1∧u∈out[j])∧st=⟨[V0,V1,V2,V3,.ptr 4 0,V5,.rowp kp 1 false P,y7,y8,y9,V10,V11,V12,.int .i64 (n:Nat),.int .i64 (i:Nat)],[],g,h'⟩) ?_ ?_ ⟨_,_,_,h,_,[],gh,by simp,by simp,λu hu=>by omega,rfl⟩
 ·rintro i hi st ⟨y7,y8,y9,h',pl,out,gh,iW,iT,hm,rfl⟩ ih
  have hw:=yn i (by omega)
  obtain⟨m3,d3⟩:=ah.1 gh.fnu
  obtain⟨m4,d4⟩:=ah.1 gh.fobj
  obtain⟨mp,dp⟩:=ah.1 gh.fpl
  unfold BV at d4
  have g3:=B2 n t.nu
  have x3:=Ce hi t.nu
  have nE:=rn i hi
  obtain⟨k,hk⟩:∃k,k=t.nu i:=⟨_,rfl⟩
  rw[← hk] at x3 nE
  have gp:=B2 P pl
  have xp:=Ce nE pl
  have wc:=gh.le k
  by_cases h0:pl k=0
  ·obtain⟨h1,gk,ee,dz,wd⟩:=gh.fout.new mp (by omega) (by omega)
   have iE:h1[kp]? = some (.cells (yT P pl)):=(dz kp (.inr rfl)).trans gh.fpl
   obtain⟨mp1,dp1⟩:=ah.1 iE
   have z1:(yT P pl).set k (.int .i64 ((out.length:Int)+1))=yT P (fup pl k (out.length+1)):=ER nE pl (out.length+1)
   obtain⟨mo1,do1⟩:=ah.1 ee
   have gZ:IntKind.i64.wrap (out.length:Int)=(out.length:Int):=BA _ (by omega)
   have gp2:=B2 P (fup pl k (out.length+1))
   have xp2:=Ce nE (fup pl k (out.length+1))
   rw[zU] at xp2
   have ku:(out.length:Int)<(out.length:Int)+1:=by omega
   have da:¬kp=h'.length:=by omega
   have lV:¬h'.length=kp:=by omega
   have jH:((out++[[]]).map oC).length=out.length+1:=by simp
   have hg:∀p:out.length<((out++[[]]).map oC).length,((out++[[]]).map oC)[out.length]'p = .nils:=λp=>by simp[oC]
   have yw:((out++[[]]).map oC).set out.length (.list true [.int .i64 (i:Int)])=(out++[[i]]).map oC:=by
    have e:oC [i] = .list true [.int .i64 (i:Int)]:=rfl
    rw[← e,← List.map_set]; simp
   have fin:GH ((h1.set kp (.cells (yT P (fup pl k (out.length+1))))).set h'.length (.cells ((out++[[i]]).map oC))) n N t stk kp P (fup pl k (out.length+1)) (.rowp h'.length 1 false (out.length+1)) (out++[[i]]):=by
    have uI:=gh.k5
    refine⟨?_,?_,?_,uI,.inr ⟨h'.length,by simp,by omega,lV,ar (by simpa using mo1)⟩,λx =>?_⟩
    ·rw[af (by omega),af (by omega),dz 3 (.inl (by omega))]; exact gh.fnu
    ·rw[af (by omega),af (by omega),dz 4 (.inl (by omega))]; exact gh.fobj
    ·rw[af lV,ar mp1]
    ·have:=gh.le x
     simp only[ap,aB,bo]
     by_cases e:x=k
     ·subst e; rw[zU]; omega
     ·rw[Aw _ _ e]; omega
   have pQ:∀u,u<i+1→∃j,∃hj:j<(out++[[i]]).length,fup pl k (out.length+1) (t.nu u)=j+1∧u∈(out++[[i]])[j]:=by
    intro u hu
    by_cases e:u=i
    ·subst e
     rw[← hk,zU]
     exact⟨out.length,by simp,rfl,by simp⟩
    ·obtain⟨j,hj,hU,eu⟩:=hm u (by omega)
     have:t.nu u≠k:=λe=>by rw[e,h0] at hU; omega
     rw[Aw _ _ this]
     exact⟨j,by simp; omega,hU,by rw[List.getElem_append_left hj]; exact eu⟩
   have nF:∀l∈out++[[i]],l≠[]∧l.length≤i+1:=by
    intro l hl
    rcases ay.1 hl with hl|hl
    ·exact⟨(iT l hl).1,by have:=(iT l hl).2; omega⟩
    ·rw[aP] at hl; subst hl; simp
   have ih2:=ih _ ⟨_,.int .i64 (i:Nat),.int .i64 (k:Nat),_,_,_,fin,by simp; omega,nF,pQ,rfl⟩
   generalize (out++[[]]).map oC=C at *
   generalize (out++[[i]]).map oC=C2 at *
   rcases wd with rfl|⟨ko,rfl⟩
   ·simp[hi,hw,m3,d3,m4,d4,g3,x3,mp,dp,gp,xp,nE,h0,gk,mp1,dp1,z1,Ay,PV.cells,AK,gp2,xp2,gZ,ku,da,lV,mo1,do1,jH,hg,yw]
    exact ih2
   ·simp[hi,hw,m3,d3,m4,d4,g3,x3,mp,dp,gp,xp,nE,h0,gk,mp1,dp1,z1,Ay,PV.cells,AK,gp2,xp2,gZ,ku,da,lV,mo1,do1,jH,hg,yw]
    exact ih2
  ·obtain⟨j,uJ⟩:∃j,pl k=j+1:=⟨pl k - 1,by omega⟩
   have hj:j<out.length:=by omega
   rw[uJ] at xp
   rcases gh.fout with⟨_,he⟩|⟨ko,rfl,su,de,jU⟩
   ·rw[he] at hj; simp at hj
   obtain⟨mo,do1⟩:=ah.1 jU
   have gZ:IntKind.i64.wrap (j:Int)=(j:Int):=BA j (by omega)
   have jH:(out.map oC).length=out.length:=by simp
   obtain⟨sx,hlj⟩:=iT _ (ak hj)
   have dF:(yc out[j]).length≤2147483647:=by rw[A4]; omega
   have nG:yU 1 (yc out[j])=true:=by
    cases out[j] with
    | nil=>rfl
    | cons a l=>rfl
   have hg:∀p:j<(out.map oC).length,(out.map oC)[j]'p = .list true (yc out[j]):=λp=>by rw[List.getElem_map,MU sx]
   have yw:(out.map oC).set j (.list true (yc out[j]++[.int .i64 (i:Int)]))=(out.set j (out[j]++[i])).map oC:=by
    rw[List.map_set,MU (by simp)]
    congr 1
    simp[yc]
   have jI:(out.set j (out[j]++[i])).length=out.length:=ba
   have fin:GH (h'.set ko (.cells ((out.set j (out[j]++[i])).map oC))) n N t stk kp P pl (.rowp ko 1 false out.length) (out.set j (out[j]++[i])):=by
    refine⟨?_,?_,?_,gh.k5,.inr ⟨ko,by rw[jI],su,de,ar mo⟩,λx=>by rw[jI]; exact gh.le x⟩
    ·rw[af (by omega)]; exact gh.fnu
    ·rw[af (by omega)]; exact gh.fobj
    ·rw[af de]; exact gh.fpl
   have pQ:∀u,u<i+1→∃j',∃lK:j'<(out.set j (out[j]++[i])).length,pl (t.nu u)=j'+1∧u∈(out.set j (out[j]++[i]))[j']:=by
    intro u hu
    by_cases e:u=i
    ·subst e
     rw[← hk]
     exact⟨j,by rw[jI]; exact hj,uJ,by simp⟩
    ·obtain⟨j',lK,hU,eu⟩:=hm u (by omega)
     refine⟨j',by rw[jI]; exact lK,hU,?_⟩
     rw[List.getElem_set]
     split
     ·rename_i e; subst e; exact bU _ eu
     ·exact eu
   have nF:∀l∈out.set j (out[j]++[i]),l≠[]∧l.length≤i+1:=by
    intro l hl
    rcases List.mem_or_eq_of_mem_set hl with hl|rfl
    ·exact⟨(iT l hl).1,by have:=(iT l hl).2; omega⟩
    ·simp; omega
   have ih2:=ih _ ⟨_,.int .i64 (i:Nat),.int .i64 (k:Nat),_,_,_,fin,by rw[jI]; omega,nF,pQ,rfl⟩
   generalize (out.set j (out[j]++[i])).map oC=C2 at *
   generalize out.map oC=C at *
   have lL:¬(j:Int)+1=0:=by omega
   simp[hi,hw,m3,d3,m4,d4,g3,x3,mp,dp,gp,xp,nE,lL,gZ,hj,mo,do1,jH,hg,yw,nG,dF,Ay,PV.cells,AK]
   exact ih2
 ·rintro st ⟨y7,y8,y9,h',pl,out,gh,iW,iT,hm,rfl⟩
  simp
  exact hk _ _ _ _ _ _ _ gh hm (λl hl=>(iT l hl).1) iW
theorem c2y (n:Nat) (hn:n≤4096) (h0:0<n) (E:List (Nat×Nat)) (hE:∀e∈E,e.1<n∧e.2<n) (hl:E.length≤500000):
  ∃h',∃out:List (List Nat),∃(nu:Nat→Nat) (pa:Nat) (pl:Nat→Nat),x8 L 213 [.int .i64 (n:Int),.list false (E.map eE)] []=some (.tuple [.list false (out.map λl => .list false (yc l)),.int .i64 0],h')∧(∀v,v<n→nu v<pa∧∀w,(v,w)∈E→nu w≤nu v)∧(∀u,u<n→∃j,∃hj:j<out.length,pl (nu u)=j+1∧u∈out[j])∧out.length≤n:=by
 suffices H:∃r,x8 L 213 [.int .i64 (n:Int),.list false (E.map eE)] []=some r∧∃out:List (List Nat),r.1 = .tuple [.list false (out.map λl => .list false (yc l)),.int .i64 0]∧∃(nu:Nat→Nat) (pa:Nat) (pl:Nat→Nat),(∀v,v<n→nu v<pa∧∀w,(v,w)∈E→nu w≤nu v)∧(∀u,u<n→∃j,∃hj:j<out.length,pl (nu u)=j+1∧u∈out[j])∧out.length≤n by
  obtain⟨⟨r,h'⟩,h1,out,h2,nu,pa,pl,h3⟩:=H
  simp only at h2; subst h2
  exact⟨h',out,nu,pa,pl,h1,h3⟩
 have cv:=QI hL n hn E hE (by omega) .nils (.inr rfl)
 obtain⟨r,gI,N,cn,nH,hN,pR⟩:=QJ hL n hn E hE (by omega)
 have ro:∀v,v<n→∀w∈N v,w<n:=λv _ w hw=>(hE _ ((hN v w).1 hw)).2
 have we:(tot n λu=>(N u).length)≤500000:=aD (HC n λv _=>pR v) (aD (MV n E) hl)
 have jT:∀v,v<n→(N v).length≤1000000:=λv hv=>by
  have:=HD (f:=λ_=>0) (g:=λu=>(N u).length) (w:=v) (c:=(N v).length) n (λ_ _=>bG _) hv (by omega)
  omega
 have eP:8*(n:Int)≤281474976710656:=by omega
 have dE:(n:Int)≤9223372036854775807:=by omega
 have jJ:(n:Int)≤281474976710656:=by omega
 refine AW (hL 213 _ rfl) rfl ?_
 simp[Mk,cv,cn,nH,HE,QK,yt,eP,dE,jJ,HG,adoptAll,B7,PV.cells]
 have sy:List.replicate n (PV.int .i64 0)=yT n λ_=>0:=by unfold yT; apply b6<;>simp
 have pS:List.replicate n (PV.bool false)=Cf n λ_=>false:=by unfold Cf; apply b6<;>simp
 rw[sy,pS]
 let t0:TS:=⟨λ_=>0,λ_=>0,λ_=>false,[],0,λ_=>0,0⟩
 have ti:TI n N 1 0 t0 []:=⟨λv=>by simp[t0],List.Pairwise.nil,λv h=>by simp[t0] at h,λv h=>by simp[t0] at h,by omega,λv h=>by simp[t0] at h,rfl,λv h=>by omega⟩
 have hu:unv n N (λ_=>0)≤500000+2*n:=by
  have e:unv n N (λ_=>0)=(tot n λu=>(N u).length)+tot n λ_=>2:=by rw[← MW]; rfl
  have e2:∀n,(tot n λ_=>2)=2*n:=by
   intro n
   induction n with
   | zero=>rfl
   | succ n ih=>rw[tot,ih]; omega
  rw[e,e2]; omega
 refine c43 hL n hn N ro jT 1 600000 (by omega) t0 ti _ (.list true []) ⟨rfl,rfl,rfl,rfl,rfl,.inl ⟨rfl,rfl⟩⟩ (by show 0+0+unv n N (λ_=>0)≤_; omega) _ _ _ _ _ _ _ _ _ _ _ _ _ ?_
 intro y5 y12 h1 stk1 t1 b1 s1 ti1 dN
 have eM:=ti1.done (an n)
 obtain⟨m4,d4⟩:=ah.1 s1.obj
 unfold BV at d4
 have sA:8*(t1.pa:Int)≤281474976710656:=by omega
 have sB:(t1.pa:Int)≤9223372036854775807:=by omega
 simp[m4,d4,sA,sB]
 have pT:List.replicate t1.pa (PV.int .i64 0)=yT t1.pa λ_=>0:=by unfold yT; apply b6<;>simp
 rw[pT]
 refine c44 hL n hn N t1 stk1 h1.length t1.pa (λv hv=>(eM v hv).1) _ ⟨?_,?_,?_,by omega,.inl ⟨rfl,rfl⟩,λk=>bG _⟩ _ _ _ _ _ _ _ _ _ _ _ ?_
 ·rw[al (by omega)]; exact s1.nu
 ·rw[al (by omega)]; exact s1.obj
 ·rw[aq (an _)]; simp
 intro y7 y8 y9 y14 h2 pl out gh hm da iW
 rcases gh.fout with⟨_,he⟩|⟨ko,rfl,su,de,jU⟩
 ·obtain⟨j,hj,_⟩:=hm 0 h0
  rw[he] at hj; simp at hj
 have fI:=JC (out.map oC) (λi=>PV.list false (yc (out.getD i []))) out.length 0 (λi hi=>by
  have hi:i<out.length:=by omega
  have hn:=da _ (ak hi)
  simp only[yh,aF,am hi,aH,MU hn]
  simp[cp,hi])
 have nI:(List.range' 0 out.length).map (λi=>PV.list false (yc (out.getD i [])))=out.map λl => .list false (yc l):=by
  apply b6
  ·simp
  ·intro i h1 h2
   simp at h2
   simp[h2]
 rw[nI] at fI
 simp[yA,jU,fI]
 exact⟨out,rfl,t1.nu,⟨t1.pa,λv hv=>⟨(eM v hv).1,λw hw=>(eM v hv).2 w ((hN v w).2 hw)⟩⟩,⟨pl,λu hu=>by obtain⟨j,hj,h3,h4⟩:=hm u hu; exact⟨j,h3,hj,h4⟩⟩,iW⟩
end
def DL (m:List (Str×Int)):PObj := .map (Cd (λi=>PV.int .i64 i) m)
def Fp (m:List (Str×List On)):PObj := .map (Cd (λc=>PV.list false (c.map eOn)) m)
structure EH (h:List PObj) (b:List (Str×Int)) (c:List (Str×List On)) (l:List Pr):Prop where
 by':h[0]? = some (DL b)
 ck:h[1]? = some (Fp c)
 out:∃v,h[2]? = some (.cells [v])∧((v = .list true []∧l=[])∨∃k cs,3≤k∧v = .rowp k 2 true l.length∧h[k]? = some (.cells cs)∧Prs cs l)
section
variable {L:Nat→Option PFunc} (hL:∀k f,LS k=some f→L k=some f)
include hL
theorem Qu {h:List PObj} {b:List (Str×Int)} {c:List (Str×List On)} (h0:h[0]? = some (DL b)) (h1:h[1]? = some (Fp c)) (cS:2<h.length) (a:Nat) (ha:2≤a) (o:PObj) (l:List Pr) (hl:l≠[]) (cs:List PV) (hp:Prs cs l):EH ((h.set a o++[PObj.cells cs]).set 2 (PObj.cells [.rowp h.length 2 true l.length])) b c l:=by
 have _:=hL
 refine⟨?_,?_,_,?_,.inr ⟨h.length,cs,cS,rfl,?_,hp⟩⟩
 ·rw[af (by omega),al (by simp; omega),af (by omega)]; exact h0
 ·rw[af (by omega),al (by simp; omega),af (by omega)]; exact h1
 ·rw[ar (by simp; omega)]
 ·rw[af (by omega),aq (by simp)]; simp
theorem Qv (b:List (Str×Int)) (c:List (Str×List On)) (l:List Pr) (hl:l.length≤2000000000) (s:Str) (j:Nat) (h:List PObj) (eh:EH h b c l):
  ∃h',x8 L 216 [.str s,.cptr [.map (some 0)],.ptr 2 0,.cptr [.int .i64 j]] h=some (.tuple [],h')∧EH h' b c (l++AP b j s):=by
 suffices H:∃r,x8 L 216 [.str s,.cptr [.map (some 0)],.ptr 2 0,.cptr [.int .i64 j]] h=some r∧r.1 = .tuple []∧EH r.2 b c (l++AP b j s) by
  obtain⟨⟨v,h'⟩,h1,h2,h3⟩:=H
  simp only at h2 h3; subst h2
  exact⟨h',h1,h3⟩
 obtain⟨h0,h1,v,h2,hv⟩:=eh
 obtain⟨r,f1,f2,_⟩:=JA (λi=>PV.int .i64 i) s b
 have cS:2<h.length:=(ah.1 h2).1
 unfold DL at h0
 refine AW (hL 216 _ rfl) rfl ?_
 cases hk:yM b s with
 | none =>
   rw[hk] at f2
   have hr:r=none:=by cases r with | none=>rfl | some q=>simp at f2
   subst hr
   have e:AP b j s=[]:=by simp[AP,hk]
   simp[Hp,h0,f1,yA,e]
   exact⟨h0,h1,v,h2,hv⟩
 | some i =>
   rw[hk] at f2
   obtain⟨q,hr⟩:∃q,r=some (q,.int .i64 i):=by
    cases r with
    | none=>simp at f2
    | some q=>obtain⟨q1,q2⟩:=q; simp at f2; exact⟨q1,by rw[f2]⟩
   subst hr
   have e:AP b j s=[(i,(j:Int))]:=by simp[AP,hk]
   rcases hv with⟨rfl,rfl⟩|⟨k,cs,ib,rfl,ic,hp⟩
   ·have kl:∀x:PObj,(h.set 2 x)[2]? = some x:=λx=>by rw[ar cS]
    have sl:∀(x:PObj) (y:List PObj),(h.set 2 x++y)[2]? = some x:=λx y=>by rw[al (by simpa using cS),kl]
    simp[Hp,h0,f1,h2,kl,sl,yA,e,B8,B7,yU,PV.cells,AK,AD]
    exact Qu hL h0 h1 cS 2 (by omega) _ [(i,(j:Int))] (by simp) _ ⟨rfl⟩
   ·have kl:∀x:PObj,(h.set 2 x)[2]? = some x:=λx=>by rw[ar cS]
    have sl:∀(n:Nat) (x:PObj) (y:List PObj),3≤n→(h.set n x++y)[2]? = h[2]? := λn x y hn=>by rw[al (by simpa using cS),af (by omega)]
    have nz:l.length*2≤cs.length:=by rw[hp.len]; exact an _
    have d8:l.length+1≤2147483648:=by omega
    simp[Hp,h0,f1,h2,ic,sl k _ _ ib,nz,d8,yA,e,B8,B7,yU,PV.cells,AK,AD]
    have e2:l.length+1=(l++[(i,(j:Int))]).length:=by simp
    rw[e2]
    refine Qu hL h0 h1 cS k (by omega) _ _ (by simp) _ ⟨?_⟩
    rw[bN,← hp.eq]
    rw[bQ (by rw[hp.len]; exact an _)]
    rfl
end
theorem c1b (b:List (Str×Int)) (j:Nat) (s:Str):(AP b j s).length≤1:=by unfold AP; split<;>simp
theorem Fq (b:List (Str×Int)) (j:Nat):∀ns:List Str,(ns.flatMap (AP b j)).length≤ns.length
 | []=>by simp
 | s :: ns => by
   have:=Fq b j ns
   have:=c1b b j s
   simp only[aM,ap,aB]; omega
theorem Qw:∀(a:List (List Str)) (l:List Str) (k:Nat) (m:List (Str×Int)),byE (a++[l]) k m=byL (k+a.length) (byE a k m) l
 | [],l,k,m=>by simp[byE]
 | x :: a, l, k, m => by
   simp only[aK,byE,aB]
   rw[Qw a l (k+1)]
   congr 1; omega
theorem c4T (ls:List (List Str)) {i:Nat} (h:i<ls.length) (m:List (Str×Int)):byE (ls.take (i+1)) 0 m=byL i (byE (ls.take i) 0 m) ls[i]:=by
 rw[aX,am h]
 show byE (ls.take i++[ls[i]]) 0 m=_
 rw[Qw,aS,aY,Nat.min_eq_left (by omega)]
theorem Qx (b:List (Str×Int)) (c:List (Str×List On)):∀(a:List (List Str×List Str)) (q:List Str×List Str) (k:Nat),zK b c (a++[q]) k=zK b c a k++Dh b c (k+a.length) q.2 q.1
 | [],q,k=>by simp[zK]
 | x :: a, q, k => by
   simp only[aK,zK,aB]
   rw[Qx b c a q (k+1),aN]
   congr 3; omega
theorem c2v (b:List (Str×Int)) (c:List (Str×List On)) (qs:List (List Str×List Str)) {i:Nat} (h:i<qs.length):zK b c (qs.take (i+1)) 0=zK b c (qs.take i) 0++Dh b c i qs[i].2 qs[i].1:=by
 rw[aX,am h]
 show zK b c (qs.take i++[qs[i]]) 0=_
 rw[Qx,aS,aY,Nat.min_eq_left (by omega)]
section
variable {L:Nat→Option PFunc} (hL:∀k f,LS k=some f→L k=some f)
include hL
theorem c4U (b:List (Str×Int)) (c:List (Str×List On)) (j:Nat) (ns:List Str) (o:Bool) (l:List Pr) (hl:l.length+ns.length≤2000000000) (h:List PObj) (eh:EH h b c l) (V0 V1 V2 V3 V4 V5 V6 V7 V8 V9 V10 V11 V13 V14 V15 V16 V17 V18 V19 V20 V21 V22 V23 V24 V25 V26 V27 V31 V32 V33 V34 V35 V36:PV) (g:Nat) {Q:PExit→St→Prop}
  (hk:∀y13 y30 h',EH h' b c (l++ns.flatMap (AP b j))→Q (.exit 8) ⟨[V0,V1,V2,V3,V4,V5,V6,V7,V8,V9,V10,V11,.func 216 [] [.cptr [.map (some 0)],.ptr 2 0,.cptr [.int .i64 j]],y13,V14,V15,V16,V17,V18,V19,V20,V21,V22,V23,V24,V25,V26,V27,.list o (ns.map PV.str),.int .i64 ns.length,y30,V31,V32,V33,V34,V35,V36],[],g,h'⟩):
  wpL L L1 ⟨[V0,V1,V2,V3,V4,V5,V6,V7,V8,V9,V10,V11,.func 216 [] [.cptr [.map (some 0)],.ptr 2 0,.cptr [.int .i64 j]],V13,V14,V15,V16,V17,V18,V19,V20,V21,V22,V23,V24,V25,V26,V27,.list o (ns.map PV.str),.int .i64 ns.length,.int .i64 0,V31,V32,V33,V34,V35,V36],[],g,h⟩ Q:=by
 rw[L1]
 refine yK ns.length (λi st=>∃y13 h',st=⟨[V0,V1,V2,V3,V4,V5,V6,V7,V8,V9,V10,V11,.func 216 [] [.cptr [.map (some 0)],.ptr 2 0,.cptr [.int .i64 j]],y13,V14,V15,V16,V17,V18,V19,V20,V21,V22,V23,V24,V25,V26,V27,.list o (ns.map PV.str),.int .i64 ns.length,.int .i64 i,V31,V32,V33,V34,V35,V36],[],g,h'⟩∧EH h' b c (l++(ns.take i).flatMap (AP b j))) ?_ ?_ ⟨V13,h,rfl,by simpa using eh⟩
 ·rintro i hi st ⟨y13,h1,rfl,e1⟩ ih
  have hw:=yn i (by omega)
  have mC:=Fq b j (ns.take i)
  have cV:(ns.take i).length≤ns.length:=by rw[aY]; omega
  obtain⟨h2,hc,e2⟩:=Qv hL b c _ (by rw[ap]; omega) ns[i] j h1 e1
  simp[hi,hw,hc]
  refine ih _ ⟨_,h2,rfl,?_⟩
  rw[AB hi,bN,List.flatMap_singleton,← aN]
  exact e2
 ·rintro st ⟨y13,h1,rfl,e1⟩
  rw[aC] at e1
  simp
  exact hk _ _ h1 e1
theorem Qy (b:List (Str×Int)) (c:List (Str×List On)) (j:Nat) (cl:List On) (o:Bool) (l:List Pr) (hl:l.length+cl.length≤2000000000) (h:List PObj) (eh:EH h b c l) (V0 V1 V2 V3 V4 V5 V6 V7 V8 V9 V10 V11 V13 V14 V15 V16 V17 V18 V19 V20 V21 V22 V23 V24 V25 V26 V27 V28 V29 V30 V31 V32 V33:PV) (g:Nat) {Q:PExit→St→Prop}
  (hk:∀y15 y36 g' h',EH h' b c (l++(cl.map (·.name)).flatMap (AP b j))→Q (.exit 12) ⟨[V0,V1,V2,V3,V4,V5,V6,V7,V8,V9,V10,V11,.func 216 [] [.cptr [.map (some 0)],.ptr 2 0,.cptr [.int .i64 j]],V13,V14,y15,V16,V17,V18,V19,V20,V21,V22,V23,V24,V25,V26,V27,V28,V29,V30,V31,V32,V33,.list o (cl.map eOn),.int .i64 cl.length,y36],[],g',h'⟩):
  wpL L L3 ⟨[V0,V1,V2,V3,V4,V5,V6,V7,V8,V9,V10,V11,.func 216 [] [.cptr [.map (some 0)],.ptr 2 0,.cptr [.int .i64 j]],V13,V14,V15,V16,V17,V18,V19,V20,V21,V22,V23,V24,V25,V26,V27,V28,V29,V30,V31,V32,V33,.list o (cl.map eOn),.int .i64 cl.length,.int .i64 0],[],g,h⟩ Q:=by
 rw[L3]
 refine yK cl.length (λi st=>∃y15 g' h',st=⟨[V0,V1,V2,V3,V4,V5,V6,V7,V8,V9,V10,V11,.func 216 [] [.cptr [.map (some 0)],.ptr 2 0,.cptr [.int .i64 j]],V13,V14,y15,V16,V17,V18,V19,V20,V21,V22,V23,V24,V25,V26,V27,V28,V29,V30,V31,V32,V33,.list o (cl.map eOn),.int .i64 cl.length,.int .i64 i],[],g',h'⟩∧EH h' b c (l++((cl.take i).map (·.name)).flatMap (AP b j))) ?_ ?_ ⟨V15,g,h,rfl,by simpa using eh⟩
 ·rintro i hi st ⟨y15,g',h1,rfl,e1⟩ ih
  have hw:=yn i (by omega)
  have mC:=Fq b j ((cl.take i).map (·.name))
  have cV:((cl.take i).map (·.name)).length≤cl.length:=by rw[aG,aY]; omega
  obtain⟨h2,hc,e2⟩:=Qv hL b c _ (by rw[ap]; omega) cl[i].name j h1 e1
  simp[hi,hw,hc]
  refine ih _ ⟨_,_,h2,rfl,?_⟩
  rw[AB hi,bh,az,bB,bN,List.flatMap_singleton,← aN]
  exact e2
 ·rintro st ⟨y15,g',h1,rfl,e1⟩
  rw[aC] at e1
  simp
  exact hk _ _ _ h1 e1
theorem c4V (b:List (Str×Int)) (c:List (Str×List On)) (dA:∀s cl,yM c s=some cl→cl.length≤4) (j:Nat) (ls:List Str) (km:ls.length≤1000) (o:Bool) (l:List Pr) (hl:l.length+ls.length*4≤2000000000) (h:List PObj) (eh:EH h b c l) (V0 V1 V2 V3 V4 V5 V6 V8 V9 V10 V11 V13 V14 V15 V16 V17 V18 V19 V20 V21 V22 V23 V24 V25 V26 V27 V28 V29 V30 V34 V35 V36:PV) (g:Nat) {Q:PExit→St→Prop}
  (hk:∀y14 y15 y33 y34 y35 y36 g' h',EH h' b c (l++(ls.flatMap (Am c)).flatMap (AP b j))→Q (.exit 10) ⟨[V0,V1,V2,V3,V4,V5,V6,.map (some 1),V8,V9,V10,V11,.func 216 [] [.cptr [.map (some 0)],.ptr 2 0,.cptr [.int .i64 j]],V13,y14,y15,V16,V17,V18,V19,V20,V21,V22,V23,V24,V25,V26,V27,V28,V29,V30,.list o (ls.map PV.str),.int .i64 ls.length,y33,y34,y35,y36],[],g',h'⟩):
  wpL L L5 ⟨[V0,V1,V2,V3,V4,V5,V6,.map (some 1),V8,V9,V10,V11,.func 216 [] [.cptr [.map (some 0)],.ptr 2 0,.cptr [.int .i64 j]],V13,V14,V15,V16,V17,V18,V19,V20,V21,V22,V23,V24,V25,V26,V27,V28,V29,V30,.list o (ls.map PV.str),.int .i64 ls.length,.int .i64 0,V34,V35,V36],[],g,h⟩ Q:=by
 rw[L5]
 have lJ:∀s,(Am c s).length≤4:=by
  intro s
  unfold Am
  cases hs:yM c s with
  | none=>simp
  | some cl=>simpa using dA s cl hs
 have nB:∀k,((ls.take k).flatMap (Am c)).length≤(ls.take k).length*4:=by
  intro k
  generalize ls.take k=q
  induction q with
  | nil=>simp
  | cons x q ih=>have:=lJ x; simp only[aM,ap,aB]; omega
 refine yK ls.length (λi st=>∃y14 y15 y34 y35 y36 g' h',st=⟨[V0,V1,V2,V3,V4,V5,V6,.map (some 1),V8,V9,V10,V11,.func 216 [] [.cptr [.map (some 0)],.ptr 2 0,.cptr [.int .i64 j]],V13,y14,y15,V16,V17,V18,V19,V20,V21,V22,V23,V24,V25,V26,V27,V28,V29,V30,.list o (ls.map PV.str),.int .i64 ls.length,.int .i64 i,y34,y35,y36],[],g',h'⟩∧EH h' b c (l++((ls.take i).flatMap (Am c)).flatMap (AP b j))) ?_ ?_ ⟨V14,V15,V34,V35,V36,g,h,rfl,by simpa using eh⟩
 ·rintro i hi st ⟨y14,y15,y34,y35,y36,g',h1,rfl,e1⟩ ih
  have hw:=yn i (by omega)
  have mC:=Fq b j ((ls.take i).flatMap (Am c))
  have kl:=nB i
  have cV:(ls.take i).length=i:=by rw[aY]; omega
  obtain⟨r,f1,f2,_⟩:=JA (λc:List On=>PV.list false (c.map eOn)) ls[i] c
  have lE:=e1.ck
  unfold Fp at lE
  have fin:∀h2,EH h2 b c ((l++((ls.take i).flatMap (Am c)).flatMap (AP b j))++(Am c ls[i]).flatMap (AP b j))→EH h2 b c (l++((ls.take (i+1)).flatMap (Am c)).flatMap (AP b j)):=by
   intro h2 e2
   rw[AB hi,bN,List.flatMap_singleton,bN,← aN]
   exact e2
  cases pN:yM c ls[i] with
  | none =>
    rw[pN] at f2
    have hr:r=none:=by cases r with | none=>rfl | some q=>simp at f2
    subst hr
    have e0:Am c ls[i]=[]:=by simp[Am,pN]
    simp[hi,hw,lE,f1]
    refine Qy hL b c j [] true _ (by simp only[ap,bo]; omega) h1 e1 _ _ _ _ _ _ _ _ _ _ _ _ _ _ _ _ _ _ _ _ _ _ _ _ _ _ _ _ _ _ _ _ _ _ ?_
    intro y15 y36 g2 h2 e2
    simp[hw]
    refine ih _ ⟨_,_,_,_,_,_,h2,rfl,fin h2 ?_⟩
    rw[e0]; simpa using e2
  | some cl =>
    rw[pN] at f2
    obtain⟨q,hr⟩:∃q,r=some (q,.list false (cl.map eOn)):=by
     cases r with
     | none=>simp at f2
     | some q=>obtain⟨q1,q2⟩:=q; simp at f2; exact⟨q1,by rw[f2]⟩
    subst hr
    have vX:=dA _ _ pN
    have e0:Am c ls[i]=cl.map (·.name):=by simp[Am,pN]
    simp[hi,hw,lE,f1]
    refine Qy hL b c j cl false _ (by simp only[ap]; omega) h1 e1 _ _ _ _ _ _ _ _ _ _ _ _ _ _ _ _ _ _ _ _ _ _ _ _ _ _ _ _ _ _ _ _ _ _ ?_
    intro y15 y36 g2 h2 e2
    simp[hw]
    refine ih _ ⟨_,_,_,_,_,_,h2,rfl,fin h2 ?_⟩
    rw[e0]; exact e2
 ·rintro st ⟨y14,y15,y34,y35,y36,g',h1,rfl,e1⟩
  rw[aC] at e1
  simp
  exact hk _ _ _ _ _ _ _ h1 e1
theorem c4W (i0:Nat) (ls:List Str) (km:ls.length≤2000000000) (o:Bool) (m:List (Str×Int)) (h:List PObj) (hb:h[0]? = some (DL m)) (V0 V1 V2 V5 V6 V7 V8 V9 V10 V11 V12 V13 V14 V15 V16 V17 V18 V22 V23 V24 V25 V26 V27 V28 V29 V30 V31 V32 V33 V34 V35 V36:PV) (g:Nat) {Q:PExit→St→Prop}
  (hk:∀y6 y21,Q (.exit 2) ⟨[V0,V1,V2,.loc 1 [.map (some 0)],.int .i64 i0,V5,y6,V7,V8,V9,V10,V11,V12,V13,V14,V15,V16,V17,V18,.list o (ls.map PV.str),.int .i64 ls.length,y21,V22,V23,V24,V25,V26,V27,V28,V29,V30,V31,V32,V33,V34,V35,V36],[],g,h.set 0 (DL (byL i0 m ls))⟩):
  wpL L LX ⟨[V0,V1,V2,.loc 1 [.map (some 0)],.int .i64 i0,V5,V6,V7,V8,V9,V10,V11,V12,V13,V14,V15,V16,V17,V18,.list o (ls.map PV.str),.int .i64 ls.length,.int .i64 0,V22,V23,V24,V25,V26,V27,V28,V29,V30,V31,V32,V33,V34,V35,V36],[],g,h⟩ Q:=by
 rw[LX]
 have _:=hL
 have cS:0<h.length:=(ah.1 hb).1
 refine yK ls.length (λi st=>∃y6,st=⟨[V0,V1,V2,.loc 1 [.map (some 0)],.int .i64 i0,V5,y6,V7,V8,V9,V10,V11,V12,V13,V14,V15,V16,V17,V18,.list o (ls.map PV.str),.int .i64 ls.length,.int .i64 i,V22,V23,V24,V25,V26,V27,V28,V29,V30,V31,V32,V33,V34,V35,V36],[],g,h.set 0 (DL (byL i0 m (ls.take i)))⟩) ?_ ?_ ⟨V6,by rw[List.take_zero]; simp only[byL,List.foldl_nil]; rw[Cu hb]; rfl⟩
 ·rintro i hi st ⟨y6,rfl⟩ ih
  have hw:=yn i (by omega)
  obtain⟨r,f1,_,f3⟩:=JA (λi=>PV.int .i64 i) ls[i] (byL i0 m (ls.take i))
  have f3:=f3 (i0:Int)
  have e:byL i0 m (ls.take (i+1))=Bf (byL i0 m (ls.take i)) ls[i] i0:=by rw[AB hi]; unfold byL; rw[cJ]; rfl
  have ih2:=λy6=>ih _ ⟨y6,rfl⟩
  rw[e] at ih2
  unfold DL at ih2 ⊢
  rw[← f3] at ih2
  simp[hi,hw,cS,f1]
  exact ih2 _
 ·rintro st ⟨y6,rfl⟩
  rw[aC]
  simp
  exact hk _ _
theorem c4X (n:Node) (he:n.eqs.length≤1100000) (km:∀q∈n.eqs,q.left.length≤1100000) (h:List PObj) (hb:h[0]? = some (DL [])) (V0 V1 V2 V4 V5 V6 V7 V8 V9 V10 V11 V12 V13 V14 V15 V19 V20 V21 V22 V23 V24 V25 V26 V27 V28 V29 V30 V31 V32 V33 V34 V35 V36:PV) (g:Nat) {Q:PExit→St→Prop}
  (hk:∀y4 y5 y6 y18 y19 y20 y21 g',Q (.exit 0) ⟨[V0,V1,V2,.loc 1 [.map (some 0)],y4,y5,y6,V7,V8,V9,V10,V11,V12,V13,V14,V15,.list false (n.eqs.map yI),.int .i64 n.eqs.length,y18,y19,y20,y21,V22,V23,V24,V25,V26,V27,V28,V29,V30,V31,V32,V33,V34,V35,V36],[],g',h.set 0 (DL (byE (n.eqs.map (·.left)) 0 []))⟩):
  wpL L LY ⟨[V0,V1,V2,.loc 1 [.map (some 0)],V4,V5,V6,V7,V8,V9,V10,V11,V12,V13,V14,V15,.list false (n.eqs.map yI),.int .i64 n.eqs.length,.int .i64 0,V19,V20,V21,V22,V23,V24,V25,V26,V27,V28,V29,V30,V31,V32,V33,V34,V35,V36],[],g,h⟩ Q:=by
 rw[LY]
 have cS:0<h.length:=(ah.1 hb).1
 refine yK n.eqs.length (λi st=>∃y4 y5 y6 y19 y20 y21 g',st=⟨[V0,V1,V2,.loc 1 [.map (some 0)],y4,y5,y6,V7,V8,V9,V10,V11,V12,V13,V14,V15,.list false (n.eqs.map yI),.int .i64 n.eqs.length,.int .i64 i,y19,y20,y21,V22,V23,V24,V25,V26,V27,V28,V29,V30,V31,V32,V33,V34,V35,V36],[],g',h.set 0 (DL (byE ((n.eqs.map (·.left)).take i) 0 []))⟩) ?_ ?_ ⟨V4,V5,V6,V19,V20,V21,g,by rw[List.take_zero]; simp only[byE]; rw[Cu hb]; rfl⟩
 ·rintro i hi st ⟨y4,y5,y6,y19,y20,y21,g',rfl⟩ ih
  have hw:=yn i (by omega)
  have iT:=km n.eqs[i] (ak hi)
  have iU:i<(n.eqs.map (·.left)).length:=by simpa using hi
  have e:=c4T (n.eqs.map (·.left)) iU []
  rw[List.getElem_map] at e
  simp[hi,hw]
  refine c4W hL i n.eqs[i].left (by omega) false (byE ((n.eqs.map (·.left)).take i) 0 []) _ (by rw[ar cS]) _ _ _ _ _ _ _ _ _ _ _ _ _ _ _ _ _ _ _ _ _ _ _ _ _ _ _ _ _ _ _ _ _ ?_
  intro y6 y21
  simp[hw]
  rw[← e]
  exact ih _ ⟨_,_,_,_,_,_,_,rfl⟩
 ·rintro st ⟨y4,y5,y6,y19,y20,y21,g',rfl⟩
  rw[← aG (f:=(·.left)),aC]
  simp
  exact hk _ _ _ _ _ _ _ _
theorem c4Y (ds:List Decl) (hd:ds.length≤2000000000) (h:List PObj) (hb:h[1]? = some (Fp [])) (V0 V1 V2 V3 V4 V5 V6 V8 V9 V10 V11 V12 V13 V14 V15 V16 V17 V18 V19 V20 V21 V25 V26 V27 V28 V29 V30 V31 V32 V33 V34 V35 V36:PV) (g:Nat) {Q:PExit→St→Prop}
  (hk:∀y8 y24 g',Q (.exit 4) ⟨[V0,V1,V2,V3,V4,V5,V6,.map (some 1),y8,V9,V10,V11,V12,V13,V14,V15,V16,V17,V18,V19,V20,V21,.list false (ds.map yi),.int .i64 ds.length,y24,V25,V26,V27,V28,V29,V30,V31,V32,V33,V34,V35,V36],[],g',h.set 1 (Fp (clk [] ds))⟩):
  wpL L LZ ⟨[V0,V1,V2,V3,V4,V5,V6,.map (some 1),V8,V9,V10,V11,V12,V13,V14,V15,V16,V17,V18,V19,V20,V21,.list false (ds.map yi),.int .i64 ds.length,.int .i64 0,V25,V26,V27,V28,V29,V30,V31,V32,V33,V34,V35,V36],[],g,h⟩ Q:=by
 rw[LZ]
 have _:=hL
 have cS:1<h.length:=(ah.1 hb).1
 refine yK ds.length (λi st=>∃y8 g',st=⟨[V0,V1,V2,V3,V4,V5,V6,.map (some 1),y8,V9,V10,V11,V12,V13,V14,V15,V16,V17,V18,V19,V20,V21,.list false (ds.map yi),.int .i64 ds.length,.int .i64 i,V25,V26,V27,V28,V29,V30,V31,V32,V33,V34,V35,V36],[],g',h.set 1 (Fp (clk [] (ds.take i)))⟩) ?_ ?_ ⟨V8,g,by rw[List.take_zero]; simp only[clk,List.foldl_nil]; rw[Cu hb]; rfl⟩
 ·rintro i hi st ⟨y8,g',rfl⟩ ih
  have hw:=yn i (by omega)
  obtain⟨r,f1,_,f3⟩:=JA (λc:List On=>PV.list false (c.map eOn)) ds[i].name (clk [] (ds.take i))
  have f3:=f3 ds[i].clock
  have e:clk [] (ds.take (i+1))=Bf (clk [] (ds.take i)) ds[i].name ds[i].clock:=by rw[AB hi]; unfold clk; rw[cJ]; rfl
  have ih2:=λy8 g'=>ih _ ⟨y8,g',rfl⟩
  rw[e] at ih2
  unfold Fp at ih2 ⊢
  rw[← f3] at ih2
  simp[hi,hw,cS,f1]
  exact ih2 _ _
 ·rintro st ⟨y8,g',rfl⟩
  rw[aC]
  simp
  exact hk _ _ _
end
structure EdN (n:Node):Prop where
 eqs:n.eqs.length≤256
 left:∀q∈n.eqs,q.left.length≤64
 right:∀q∈n.eqs,q.right.parts≤400
 ins:n.ins.length≤64
 outs:n.outs.length≤64
 locals:n.locals.length≤256
 clock:∀d∈vars n,d.clock.length≤4
theorem MO {K:Nat}:∀(ds:List Decl) (m:List (Str×List On)),(∀d∈ds,d.clock.length≤K)→(∀s cl,yM m s=some cl→cl.length≤K)→∀s cl,yM (clk m ds) s=some cl→cl.length≤K
 | [],m,_,hm,s,cl,h=>hm s cl h
 | d :: ds, m, hd, hm, s, cl, h => by
   refine MO ds (Bf m d.name d.clock) (λx hx=>hd x (by simp[hx])) (λs' cl' h' =>?_) s cl h
   rw[MP] at h'
   split at h'
   ·simp at h'; subst h'; exact hd d (by simp)
   ·exact hm s' cl' h'
section
variable {L:Nat→Option PFunc} (hL:∀k f,LS k=some f→L k=some f)
include hL
theorem c4Z (n:Node) (hn:EdN n) (b:List (Str×Int)) (c:List (Str×List On)) (dA:∀s cl,yM c s=some cl→cl.length≤4) (h:List PObj) (eh:EH h b c []) (V0 V1 V2 V4 V5 V6 V8 V10 V11 V12 V13 V14 V15 V16 V17 V18 V19 V20 V21 V22 V23 V24 V28 V29 V30 V31 V32 V33 V34 V35 V36:PV) (y3:PV) (hy:y3 = .loc 1 [.map (some 0)]∨y3 = .cptr [.map (some 0)]) (g:Nat) {Q:PExit→St→Prop}
  (hk:∀y3 y10 y11 y12 y13 y14 y15 y28 y29 y30 y31 y32 y33 y34 y35 y36 y27 g' h',EH h' b c (zK b c (yX n) 0)→(zK b c (yX n) 0).length≤256000→Q (.exit 6) ⟨[V0,V1,V2,y3,V4,V5,V6,.map (some 1),V8,.ptr 2 0,y10,y11,y12,y13,y14,y15,V16,V17,V18,V19,V20,V21,V22,V23,V24,.list false (n.eqs.map yI),.int .i64 n.eqs.length,y27,y28,y29,y30,y31,y32,y33,y34,y35,y36],[],g',h'⟩):
  wpL L L7 ⟨[V0,V1,V2,y3,V4,V5,V6,.map (some 1),V8,.ptr 2 0,V10,V11,V12,V13,V14,V15,V16,V17,V18,V19,V20,V21,V22,V23,V24,.list false (n.eqs.map yI),.int .i64 n.eqs.length,.int .i64 0,V28,V29,V30,V31,V32,V33,V34,V35,V36],[],g,h⟩ Q:=by
 rw[L7]
 have jS:(yX n).length=n.eqs.length:=by simp[yX]
 refine yK n.eqs.length (λi st=>∃y3 y10 y11 y12 y13 y14 y15 y28 y29 y30 y31 y32 y33 y34 y35 y36 g' h',(y3 = .loc 1 [.map (some 0)]∨y3 = .cptr [.map (some 0)])∧st=⟨[V0,V1,V2,y3,V4,V5,V6,.map (some 1),V8,.ptr 2 0,y10,y11,y12,y13,y14,y15,V16,V17,V18,V19,V20,V21,V22,V23,V24,.list false (n.eqs.map yI),.int .i64 n.eqs.length,.int .i64 i,y28,y29,y30,y31,y32,y33,y34,y35,y36],[],g',h'⟩∧EH h' b c (zK b c ((yX n).take i) 0)∧(zK b c ((yX n).take i) 0).length≤i*1000) ?_ ?_ ⟨y3,V10,V11,V12,V13,V14,V15,V28,V29,V30,V31,V32,V33,V34,V35,V36,g,h,hy,rfl,by simpa[zK] using eh,by simp[zK]⟩
 ·rintro i hi st ⟨y3,y10,y11,y12,y13,y14,y15,y28,y29,y30,y31,y32,y33,y34,y35,y36,g',h1,hy,rfl,e1,eP⟩ ih
  have dF:=hn.eqs
  have hw:=yn i (by omega)
  have hm:=ak hi
  have iU:i<(yX n).length:=by omega
  have ert:zK b c ((yX n).take (i+1)) 0=zK b c ((yX n).take i) 0++Dh b c i (Bd [] n.eqs[i].right) n.eqs[i].left:=by
   have:=c2v b c (yX n) iU
   rw[show (yX n)[i]=(n.eqs[i].left,Bd [] n.eqs[i].right) by simp[yX]] at this
   exact this
  have rY:=hn.left _ hm
  have vY:=hn.right _ hm
  have dI:=Hv [] n.eqs[i].right
  unfold Expr.parts at vY
  have hc:=c08 hL n.eqs[i].right (by unfold Expr.parts; omega)
  have lJ:∀s,(Am c s).length≤4:=by
   intro s
   unfold Am
   cases hs:yM c s with
   | none=>simp
   | some cl=>simpa using dA s cl hs
  have nB:∀q:List Str,(q.flatMap (Am c)).length≤q.length*4:=by
   intro q
   induction q with
   | nil=>simp
   | cons x q ih=>have:=lJ x; simp only[aM,ap,aB]; omega
  have oO:(Dh b c i (Bd [] n.eqs[i].right) n.eqs[i].left).length≤1000:=by
   unfold Dh
   have h2:=Fq b i (Bd [] n.eqs[i].right++n.eqs[i].left.flatMap (Am c))
   have h3:=nB n.eqs[i].left
   simp only[ap,bo] at h2 dI
   omega
  have key:∀(y:PV),y = .cptr [.map (some 0)]→∀h2,EH h2 b c ((zK b c ((yX n).take i) 0++(Bd [] n.eqs[i].right).flatMap (AP b i))++(n.eqs[i].left.flatMap (Am c)).flatMap (AP b i))→EH h2 b c (zK b c ((yX n).take (i+1)) 0):=by
   intro y _ h2 e2
   rw[ert,Dh,bN,← aN]
   exact e2
  have dE:(zK b c ((yX n).take (i+1)) 0).length≤(i+1)*1000:=by rw[ert,ap]; omega
  have oP:=Fq b i (Bd [] n.eqs[i].right)
  have vZ:(Bd [] n.eqs[i].right).length≤400:=by simp only[bo] at dI; omega
  rcases hy with rfl|rfl
  all_goals
   simp[hi,hw,hc]
   refine c4U hL b c i (Bd [] n.eqs[i].right) false _ (by omega) h1 e1 _ _ _ _ _ _ _ _ _ _ _ _ _ _ _ _ _ _ _ _ _ _ _ _ _ _ _ _ _ _ _ _ _ _ ?_
   intro y13 y30 h2 e2
   simp
   refine c4V hL b c dA i n.eqs[i].left (by omega) false _ (by rw[ap]; omega) h2 e2 _ _ _ _ _ _ _ _ _ _ _ _ _ _ _ _ _ _ _ _ _ _ _ _ _ _ _ _ _ _ _ _ _ ?_
   intro y14 y15 y33 y34 y35 y36 g2 h3 e3
   simp[hw]
   exact ih _ ⟨_,_,_,_,_,_,_,_,_,_,_,_,_,_,_,_,_,h3,.inr rfl,rfl,key _ rfl h3 e3,dE⟩
 ·rintro st ⟨y3,y10,y11,y12,y13,y14,y15,y28,y29,y30,y31,y32,y33,y34,y35,y36,g',h1,hy,rfl,e1,eP⟩
  have dF:=hn.eqs
  rw[← jS,aC] at e1 eP
  simp
  exact hk _ _ _ _ _ _ _ _ _ _ _ _ _ _ _ _ _ _ h1 e1 (by omega)
end
theorem c1c:∀l:List Pr,yq (l.map λx=>PV.agg (yW x))=true
 | []=>rfl
 | x :: l => by
   simp only[az,yq,c1c l,bu]
   rfl
theorem Qz:∀l:List Pr,EM (l.flatMap yW)=some l
 | []=>rfl
 | x :: l => by
   have:=Qz l
   simp only[aM,yW,aK,bg,EM] at this ⊢
   rw[this]; rfl
section
variable {L:Nat→Option PFunc} (hL:∀k f,LS k=some f→L k=some f)
include hL
theorem c40 (l:List Pr) (hl:l.length≤2000000000) (n:Nat) (h:List PObj) (cs:List PV) (hn:h[n]? = some (.cells cs)) (hp:Prs cs l):x8 L 218 [.rowp n 2 true l.length,.func 219 [] []] h=some (.tuple [],h.set n (.cells ((Bg Av l).flatMap yW))):=by
 rw[Hz (hL 218 _ rfl) rfl rfl]
 have hx:EI 219 [.rowp n 2 true l.length,.func 219 [] []] h=some (.tuple [],h.set n (.cells ((Bg Av l).flatMap yW))):=by
  have cS:=hp.len
  simp only[EI,hn]
  rw[ai ⟨trivial,by omega,by omega⟩,bQ (by omega),bk (by omega),hp.eq,Qz]
  simp
 have fp:(PU.prim.getD λ_ _=>none) [.rowp n 2 true l.length,.func 219 [] []] h=some (.tuple [],h.set n (.cells ((Bg Av l).flatMap yW))):=hx
 simp[hx]
theorem c2w (h:List PObj):x8 L 218 [.list false [],.func 219 [] []] h=some (.tuple [],h):=by
 rw[Hz (hL 218 _ rfl) rfl rfl]
 have hx:EI 219 [.list false [],.func 219 [] []] h=some (.tuple [],h):=rfl
 simp[hx]
theorem b6V (h:List PObj):x8 L 220 [.list false []] h=some (.list false [],h):=by
 refine yp (hL 220 _ rfl) rfl ?_
 simp[Hq]
theorem c41 (n:Node) (hn:EdN n):∃h',x8 L 209 [yx n] []=some (.list false ((C0 n).map λx => .agg (yW x)),h'):=by
 suffices H:∃r,x8 L 209 [yx n] []=some r∧r.1 = .list false ((C0 n).map λx => .agg (yW x)) by
  obtain⟨⟨v,h'⟩,h1,h2⟩:=H
  simp only at h2; subst h2
  exact⟨h',h1⟩
 have h1:=hn.ins; have h2:=hn.outs; have h3:=hn.locals; have h4:=hn.eqs
 obtain⟨hv,iC⟩:=O8 hL n (by omega) (by omega) (by omega) (λd hd=>by have:=hn.clock d hd; omega)
 have nb:(vars n).length≤2000000000:=by simp[vars]; omega
 refine AW (hL 209 _ rfl) rfl ?_
 simp[L9]
 refine c4X hL n (by omega) (λq hq=>by have:=hn.left q hq; omega) _ (by rfl) _ _ _ _ _ _ _ _ _ _ _ _ _ _ _ _ _ _ _ _ _ _ _ _ _ _ _ _ _ _ _ _ _ _ ?_
 intro y4 y5 y6 y18 y19 y20 y21 g1
 simp[iC]
 refine c4Y hL (vars n) nb _ (by rfl) _ _ _ _ _ _ _ _ _ _ _ _ _ _ _ _ _ _ _ _ _ _ _ _ _ _ _ _ _ _ _ _ _ _ ?_
 intro y8 y24 g2
 simp
 obtain⟨b,hb⟩:∃b,b=byE (n.eqs.map (·.left)) 0 []:=⟨_,rfl⟩
 obtain⟨c,hc⟩:∃c,c=clk [] (vars n):=⟨_,rfl⟩
 rw[← hb,← hc]
 have dA:∀s cl,yM c s=some cl→cl.length≤4:=by
  rw[hc]
  exact MO (vars n) [] hn.clock (by intro s cl h; simp[yM] at h)
 have sn:C0 n=AO (Bg Av (zK b c (yX n) 0)):=by
  have:(yX n).map (·.1)=n.eqs.map (·.left):=by simp[yX]
  rw[hb,hc,← this]; rfl
 refine c4Z hL n hn b c dA _ ⟨rfl,rfl,_,rfl,.inl ⟨rfl,rfl⟩⟩ _ _ _ _ _ _ _ _ _ _ _ _ _ _ _ _ _ _ _ _ _ _ _ _ _ _ _ _ _ _ _ _ (.inl rfl) _ ?_
 intro y3 y10 y11 y12 y13 y14 y15 y28 y29 y30 y31 y32 y33 y34 y35 y36 y27 g3 h3 e3 mK
 obtain⟨_,_,v,iV,hv⟩:=e3
 obtain⟨l,hl⟩:∃l,l=zK b c (yX n) 0:=⟨_,rfl⟩
 rw[← hl] at hv sn
 rcases hv with⟨rfl,rfl⟩|⟨k,cs,ib,rfl,ic,hp⟩
 ·have e:C0 n=[]:=sn
  simp[iV,c2w hL,b6V hL,yA,e]
 ·have iT:l.length≤2000000000:=by rw[hl]; omega
  have em:(h3.set k (.cells ((Bg Av l).flatMap yW)))[2]? = some (.cells [.rowp k 2 true l.length]):=by rw[af (by omega)]; exact iV
  have hs:=c40 hL l iT k h3 cs ic hp
  have dF:(Bg Av l).length=l.length:=(EO Av l).length_eq
  have eO:k<h3.length:=(ah.1 ic).1
  obtain⟨h4,gH,so,rest,ft⟩:=c1a hL (Bg Av l) (by omega) k (h3.set k (.cells ((Bg Av l).flatMap yW))) _ (by rw[ar eO]) ⟨rfl⟩
  rw[dF] at gH
  have fI:=QA (AO (Bg Av l)) rest (AO (Bg Av l)).length 0 (by omega)
  rw[Nat.zero_mul,List.drop_zero] at fI
  simp[iV,hs,em,gH,yA,ft,sn]
  rw[fI]
  rfl
end
theorem b8T {c:List (Str×List On)} (dA:∀s cl,yM c s=some cl→cl.length≤4) (s:Str):(Am c s).length≤4:=by
 unfold Am
 cases hs:yM c s with
 | none=>simp
 | some cl=>simpa using dA s cl hs
theorem QB {c:List (Str×List On)} (dA:∀s cl,yM c s=some cl→cl.length≤4):∀q:List Str,(q.flatMap (Am c)).length≤q.length*4
 | []=>by simp
 | x :: q => by
   have:=b8T dA x
   have ih:=QB dA q
   simp only[aM,ap,aB]; omega
theorem QC {b:List (Str×Int)} {c:List (Str×List On)} (dA:∀s cl,yM c s=some cl→cl.length≤4):∀(qs:List (List Str×List Str)) (j:Nat),(∀q∈qs,q.1.length≤64∧q.2.length≤400)→(zK b c qs j).length≤qs.length*1000
 | [],_,_=>by simp[zK]
 | q :: qs, j, h => by
   have ih:=QC (b:=b) dA qs (j+1) (λx hx=>h x (by simp[hx]))
   have hq:=h q (by simp)
   have h2:=Fq b j (q.2++q.1.flatMap (Am c))
   have h3:=QB dA q.1
   simp only[zK,Dh,ap,aB] at h2 ⊢
   omega
theorem c1d (n:Node) (hn:EdN n):(C0 n).length≤256000:=by
 have dA:∀s cl,yM (clk [] (vars n)) s=some cl→cl.length≤4:=MO (vars n) [] hn.clock (by intro s cl h; simp[yM] at h)
 have h1:=QD (Bg Av (zK (byE ((yX n).map (·.1)) 0 []) (clk [] (vars n)) (yX n) 0)) []
 have h2:=(EO Av (zK (byE ((yX n).map (·.1)) 0 []) (clk [] (vars n)) (yX n) 0)).length_eq
 have h3:=QC (b:=byE ((yX n).map (·.1)) 0 []) dA (yX n) 0 (by
  intro q hq
  simp only[yX,bc] at hq
  obtain⟨e,he,rfl⟩:=hq
  have hl:=hn.left e he
  have hr:=hn.right e he
  have dI:=Hv [] e.right
  unfold Expr.parts at hr
  simp only[bo] at dI
  exact⟨hl,by simp only; omega⟩)
 have h4:(yX n).length=n.eqs.length:=by simp[yX]
 have h5:=hn.eqs
 unfold C0 JB
 unfold AO
 simp only[bo] at h1
 omega
theorem QE {p:Prog} (h:Bs p=none) (hp:plain p=true):Ei p=Eb:=by
 unfold Ei
 rw[h,hp]; rfl
def edN (n:Node):List (Nat×Nat):=(C0 n).map λx=>(x.1.toNat,x.2.toNat)
theorem QL (k:Nat):∀(l:List Str) (m:List (Str×Int)) (b:Nat),k<b→(∀s i,yM m s=some i→0≤i∧i<b)→∀s i,yM (byL k m l) s=some i→0≤i∧i<b
 | [],m,b,_,h,s,i,e=>h s i e
 | x :: l, m, b, hk, h, s, i, e => by
   refine QL k l (Bf m x k) b hk (λs' i' h' =>?_) s i e
   rw[MP] at h'
   split at h'
   ·simp at h'; omega
   ·exact h s' i' h'
theorem QM:∀(ls:List (List Str)) (k:Nat) (m:List (Str×Int)),(∀s i,yM m s=some i→0≤i∧i<k)→∀s i,yM (byE ls k m) s=some i→0≤i∧i<(k+ls.length:Nat)
 | [],k,m,h,s,i,e=>by have:=h s i e; simp only[bo]; omega
 | l :: ls, k, m, h, s, i, e => by
   simp only[byE] at e
   have:=QM ls (k+1) (byL k m l) (λs i e=>by
    have:=QL k l m (k+1) (by omega) (λs i e=>by have:=h s i e; omega) s i e
    omega) s i e
   simp only[aB] at this ⊢
   omega
theorem QN (b:List (Str×Int)) (c:List (Str×List On)) (n:Nat) (hb:∀s i,yM b s=some i→0≤i∧i<n):∀(qs:List (List Str×List Str)) (k:Nat),k+qs.length≤n→∀x∈zK b c qs k,(0≤x.1∧x.1<n)∧0≤x.2∧x.2<n
 | [],k,_,x,hx=>by simp[zK] at hx
 | q :: qs, k, h, x, hx => by
   simp only[aB] at h
   simp only[zK,ay] at hx
   rcases hx with hx|hx
   ·simp only[Dh,bV] at hx
    obtain⟨s,_,hx⟩:=hx
    unfold AP at hx
    split at hx
    ·rename_i i hi
     rw[aP] at hx; subst hx
     exact⟨hb _ _ hi,by simp only; omega,by simp only; omega⟩
    ·cases hx
   ·exact QN b c n hb qs (k+1) (by omega) x hx
theorem MX:∀(l z:List Pr) (x:Pr),x∈l.foldl Be z→x∈z∨x∈l
 | [],z,x,h => .inl h
 | y :: l, z, x, h => by
   rcases MX l (Be z y) x h with h|h
   ·unfold Be at h
    split at h
    ·exact .inl h
    ·rcases ay.1 h with h|h
     ·exact .inl h
     ·rw[aP] at h; subst h; exact .inr (by simp)
   ·exact .inr (by simp[h])
theorem QO (n:Node):∀x∈C0 n,(0≤x.1∧x.1<n.eqs.length)∧0≤x.2∧x.2<n.eqs.length:=by
 intro x hx
 have hh:(yX n).length=n.eqs.length:=by simp[yX]
 unfold C0 JB at hx
 rcases MX _ _ x hx with h|h
 ·cases h
 ·rw[(EO Av _).mem_iff] at h
  refine QN _ _ n.eqs.length (λs i e =>?_) (yX n) 0 (by omega) x h
  have:=QM _ 0 [] (λs i e=>by simp[yM] at e) s i e
  simp only[aG,hh,aS] at this
  exact this
theorem d1Q (n:Node):(C0 n).map (λx=>PV.agg (yW x))=(edN n).map eE:=by
 unfold edN
 rw[b7]
 refine List.map_congr_left λx hx =>?_
 obtain⟨⟨h1,_⟩,h2,_⟩:=QO n x hx
 simp only[Function.comp,eE,yW,Int.toNat_of_nonneg h1,Int.toNat_of_nonneg h2]
theorem c2z (n:Node):∀e∈edN n,e.1<n.eqs.length∧e.2<n.eqs.length:=by
 intro e he
 simp only[edN,bc] at he
 obtain⟨x,hx,rfl⟩:=he
 obtain⟨⟨h1,h2⟩,h3,h4⟩:=QO n x hx
 simp only; omega
theorem c7N (n:Node) (hn:EdN n):(edN n).length≤256000:=by
 unfold edN; rw[aG]; exact c1d n hn
section
variable {L:Nat→Option PFunc} (hL:∀k f,LS k=some f→L k=some f)
include hL
theorem QP (x:Nat) (m:Int):∃m':Int,0≤m'∧x8 L 214 [.int .i64 (x:Int),.ptr 0 0] [.cells [.int .i64 m]]=some (.tuple [],[.cells [.int .i64 m']]):=by
 by_cases h:m<0
 ·refine⟨x,by omega,yp (hL 214 _ rfl) rfl ?_⟩
  simp[Ho,h,Ay]
 ·by_cases h2:(x:Int)<m
  ·refine⟨x,by omega,yp (hL 214 _ rfl) rfl ?_⟩
   simp[Ho,h,h2,Ay]
  ·refine⟨m,by omega,yp (hL 214 _ rfl) rfl ?_⟩
   simp[Ho,h,h2,Ay]
theorem d5j (out:List (List Nat)) (iW:out.length≤1000000) (V0 V1 V2 V3 V4 V5 V6 V7 V9 V10 V14 V15 V16:PV) (g:Nat) {Q:PExit→St→Prop}
  (hk:∀y9 y13 (m:Int),(∀l∈out,1<l.length→0≤m)→Q (.exit 0) ⟨[V0,V1,V2,V3,V4,V5,V6,V7,.func 214 [] [.ptr 0 0],y9,V10,.list false (out.map λl => .list false (yc l)),.int .i64 (out.length:Nat),y13,V14,V15,V16],[],g,[.cells [.int .i64 m]]⟩):
  wpL L LV ⟨[V0,V1,V2,V3,V4,V5,V6,V7,.func 214 [] [.ptr 0 0],V9,V10,.list false (out.map λl => .list false (yc l)),.int .i64 (out.length:Nat),.int .i64 0,V14,V15,V16],[],g,[.cells [.int .i64 (-1)]]⟩ Q:=by
 rw[LV]
 refine yK out.length (λi st=>∃y9,∃m:Int,(∀l∈out.take i,1<l.length→0≤m)∧st=⟨[V0,V1,V2,V3,V4,V5,V6,V7,.func 214 [] [.ptr 0 0],y9,V10,.list false (out.map λl => .list false (yc l)),.int .i64 (out.length:Nat),.int .i64 (i:Nat),V14,V15,V16],[],g,[.cells [.int .i64 m]]⟩) ?_ ?_ ⟨_,-1,by simp,rfl⟩
 ·rintro i hi st ⟨y9,m,hm,rfl⟩ ih
  have hw:=yn i (by omega)
  have jH:i<(out.map λl=>PV.list false (yc l)).length:=by simpa using hi
  have oQ:∀p,(out.map λl=>PV.list false (yc l))[i]'p = .list false (yc out[i]):=λp=>by rw[List.getElem_map]
  by_cases h1:1<out[i].length
  ·obtain⟨m',h0,hc⟩:=QP hL (out[i][0]'(by omega)) m
   have mL:(yc out[i])[0]? = some (.int .i64 ((out[i][0]'(by omega):Nat):Int)):=by
    have:=Di (l:=out[i]) (i:=0) (by omega) []
    rwa [be] at this
   have kw:(1:Int)<(out[i].length:Int):=by omega
   simp[hi,hw,jH,oQ,A4,kw,mL,hc,PV.cells]
   exact ih _ ⟨_,m',λ_ _ _=>h0,rfl⟩
  ·have kw:¬(1:Int)<(out[i].length:Int):=by omega
   simp[hi,hw,jH,oQ,A4,kw]
   refine ih _ ⟨_,m,?_,rfl⟩
   intro l hl iT
   rw[AB hi] at hl
   rcases ay.1 hl with hl|hl
   ·exact hm l hl iT
   ·rw[aP] at hl; subst hl; omega
 ·rintro st ⟨y9,m,hm,rfl⟩
  rw[aC] at hm
  simp
  exact hk _ _ m hm
theorem d5k (E:List (Nat×Nat)) (iW:E.length≤1000000) (m0:Int) (V0 V1 V2 V3 V4 V5 V6 V7 V9 V10 V11 V12 V13:PV) (g:Nat) {Q:PExit→St→Prop}
  (hk:∀y10 y16 g' (m:Int),(0≤m0→0≤m)→(∀e∈E,e.1=e.2→0≤m)→Q (.exit 2) ⟨[V0,V1,V2,V3,V4,V5,V6,V7,.func 214 [] [.ptr 0 0],V9,y10,V11,V12,V13,.list false (E.map eE),.int .i64 (E.length:Nat),y16],[],g',[.cells [.int .i64 m]]⟩):
  wpL L LW ⟨[V0,V1,V2,V3,V4,V5,V6,V7,.func 214 [] [.ptr 0 0],V9,V10,V11,V12,V13,.list false (E.map eE),.int .i64 (E.length:Nat),.int .i64 0],[],g,[.cells [.int .i64 m0]]⟩ Q:=by
 rw[LW]
 refine yK E.length (λi st=>∃y10 g',∃m:Int,(0≤m0→0≤m)∧(∀e∈E.take i,e.1=e.2→0≤m)∧st=⟨[V0,V1,V2,V3,V4,V5,V6,V7,.func 214 [] [.ptr 0 0],V9,y10,V11,V12,V13,.list false (E.map eE),.int .i64 (E.length:Nat),.int .i64 (i:Nat)],[],g',[.cells [.int .i64 m]]⟩) ?_ ?_ ⟨_,_,m0,id,by simp,rfl⟩
 ·rintro i hi st ⟨y10,g',m,iX,hm,rfl⟩ ih
  have hw:=yn i (by omega)
  by_cases h1:E[i].1=E[i].2
  ·obtain⟨m',h0,hc⟩:=QP hL E[i].2 m
   simp[hi,hw,eE,h1,hc]
   exact ih _ ⟨_,_,m',λ_=>h0,λ_ _ _=>h0,rfl⟩
  ·have hU:¬(E[i].1:Int)=(E[i].2:Int):=by omega
   simp[hi,hw,eE,h1,hU]
   refine ih _ ⟨_,_,m,iX,?_,rfl⟩
   intro l hl iT
   rw[AB hi] at hl
   rcases ay.1 hl with hl|hl
   ·exact hm l hl iT
   ·rw[aP] at hl; subst hl; exact absurd iT h1
 ·rintro st ⟨y10,g',m,iX,hm,rfl⟩
  rw[aC] at hm
  simp
  exact hk _ _ _ m iX hm
theorem c46 (n:Node) (hn:EdN n):∃h' k bb,x8 L 205 [yx n] []=some (.tuple [.int .i64 k,.bool bb],h')∧(bb=true↔DM n.eqs.length (edN n)):=by
 suffices H:∃r,x8 L 205 [yx n] []=some r∧∃k bb,r.1 = .tuple [.int .i64 k,.bool bb]∧(bb=true↔DM n.eqs.length (edN n)) by
  obtain⟨⟨r,h'⟩,h1,k,bb,h2,h3⟩:=H
  simp only at h2; subst h2
  exact⟨h',k,bb,h1,h3⟩
 obtain⟨h1,c1⟩:=c41 hL n hn
 rw[d1Q] at c1
 have hE:=c2z n
 have wh:=c7N n hn
 have hnq:=hn.eqs
 obtain⟨E,wi⟩:∃E,E=edN n:=⟨_,rfl⟩
 rw[← wi] at c1 hE wh ⊢
 refine AW (hL 205 _ rfl) rfl ?_
 rcases c2I hL n.eqs.length (by omega) E hE (by omega) with⟨h2,O,c2,io⟩|⟨h2,c2,no⟩
 ·have hf:¬DM n.eqs.length E:=λh=>h (λv=>O.idxOf v) λe he=>by
   obtain⟨e1,e2⟩:=hE e he
   exact b5J (n:=n.eqs.length) (N:=λv=>AE E v) (λv _ w hw=>(hE _ (ES.1 hw)).2) io.nd io.mem (λi h a _ hm=>io.ord i h a (ES.1 hm)) e.1 e1 e.2 (ES.2 he)
  simp[Jr,c1,HE,c2,JD,yt,yq,yA,hf]
 ·have dr:0<n.eqs.length:=by
   by_cases h0:n.eqs.length=0
   ·refine absurd (λe he =>?_) (no λ_=>0)
    have:=(hE e he).1; omega
   ·omega
  obtain⟨h3,out,nu,pa,pl,c3,rn,lW,iW⟩:=c2y hL n.eqs.length (by omega) dr E hE (by omega)
  have oR:yq (out.map λl=>PV.list false (yc l))=true:=by
   have:∀o:List (List Nat),yq (o.map λl=>PV.list false (yc l))=true:=by
    intro o
    induction o with
    | nil=>rfl
    | cons l o ih=>simp only[az,yq,yt,JD,ih,bu]
   exact this out
  simp[Jr,c1,HE,c2,c3,oR,yt,yq,yA]
  refine d5j hL out (by omega) _ _ _ _ _ _ _ _ _ _ _ _ _ _ ?_
  intro y9 y13 m hm
  simp
  refine d5k hL E (by omega) m _ _ _ _ _ _ _ _ _ _ _ _ _ _ ?_
  intro y10 y16 g' m2 iX pQ
  have nx:0≤m2:=by
   apply co
   intro cV
   have eD:∀v,v<n.eqs.length→v∉AE E v:=λv _ hv=>cV (pQ _ (ES.1 hv) rfl)
   have sC:∀u v,u<n.eqs.length→v<n.eqs.length→nu u=nu v→u=v:=by
    intro u v hu hv he
    obtain⟨j,hj,p1,q1⟩:=lW u hu
    obtain⟨j',lK,p2,q2⟩:=lW v hv
    rw[he,p2] at p1
    have:j'=j:=by omega
    subst this
    have d8:¬1<out[j'].length:=λh=>cV (iX (hm _ (ak hj) h))
    match hx:out[j'],d8,q1,q2 with
    | [a],_,q1,q2=>rw[aP] at q1 q2; omega
    | [],_,q1,_=>cases q1
    | a::b::l,h,_,_=>simp at h
   have ht:=b5I (n:=n.eqs.length) (N:=λv=>AE E v) (nu:=nu) (pa:=pa) (λv _ w hw=>(hE _ (ES.1 hw)).2) (λv hv=>⟨(rn v hv).1,λw hw=>(rn v hv).2 w (ES.1 hw)⟩) eD sC
   exact no (λv=>pa - nu v) λe he=>ht e.1 (hE e he).1 e.2 (ES.2 he)
  simp[yA,nx,no]
def DN (p:Prog):Prop:=∀n∈p.nodes,¬DM n.eqs.length (edN n)
theorem QQ (p:Prog) (hp:PW p) (hs:parts p≤1100000) (hb:Ei p=Eb) (hN:∀n∈p.nodes,EdN n):∃h' w e,x8 L 197 [zh p] []=some (.tuple [w,.int .i64 e],h')∧(e=0∧DN p∨e=13∧¬DN p)∧∃a b,w = .agg [.int .i64 a,.int .i64 b]:=by
 suffices H:∃r,x8 L 197 [zh p] []=some r∧∃w e,r.1 = .tuple [w,.int .i64 e]∧(e=0∧DN p∨e=13∧¬DN p)∧∃a b,w = .agg [.int .i64 a,.int .i64 b] by
  obtain⟨⟨r,h'⟩,h1,w,e,h2,h3⟩:=H
  simp only at h2; subst h2
  exact⟨h',w,e,h1,h3⟩
 obtain⟨h1,hw⟩:=Qs hL p hp hs
 rw[hb] at hw
 unfold A7 Eb at hw
 have fx:=hp.nodes
 refine AW (hL 197 _ rfl) rfl ?_
 simp[Jq,hw]
 rw[PH]
 refine yK p.nodes.length (λi st=>∃y6 y7 y8 y9 g',st=⟨[zh p,.loc 0 [.list false (p.enums.map yu),.list false (p.nodes.map yx)],.loc 1 [.int .i64 0,.int .i64 0],.int .i64 0,.loc 2 [.int .i64 0,.int .i64 0],.int .i64 0,y6,y7,y8,y9,.list false (p.nodes.map yx),.int .i64 (p.nodes.length:Nat),.int .i64 (i:Nat)],[],g',[]⟩∧∀n∈p.nodes.take i,¬DM n.eqs.length (edN n)) ?_ ?_ ⟨_,_,_,_,_,rfl,by simp⟩
 ·rintro i hi st ⟨y6,y7,y8,y9,g',rfl,hm⟩ ih
  have hw:=yn i (by omega)
  obtain⟨h2,k,bb,c1,pP⟩:=c46 hL p.nodes[i] (hN _ (ak hi))
  cases bb with
  | true =>
    have fS:¬DN p:=λh=>h _ (ak hi) (pP.1 rfl)
    simp[hi,hw,c1,yA,fS]
    exact⟨_,_,⟨rfl,rfl⟩,rfl,_,_,rfl⟩
  | false =>
    simp[hi,hw,c1]
    refine ih _ ⟨_,_,_,_,_,rfl,λn hn =>?_⟩
    rw[AB hi] at hn
    rcases ay.1 hn with hn|hn
    ·exact hm n hn
    ·rw[aP] at hn; subst hn; exact λh=>by simpa using pP.2 h
 ·rintro st ⟨y6,y7,y8,y9,g',rfl,hm⟩
  rw[aC] at hm
  have hf:DN p:=hm
  simp[yA,hf]
  exact⟨_,_,⟨rfl,rfl⟩,rfl,_,_,rfl⟩
end
end PI.Sc
set_option linter.unusedSimpArgs false
set_option linter.unusedVariables false
namespace PI.Sc
theorem Nt (k:Nat) (s:Str):∀(l:List Str) (m:List (Str×Int)),yM (byL k m l) s=if s∈l then some (k:Int) else yM m s
 | [],m=>by simp[byL]
 | x :: l, m => by
   have ih:=Nt k s l (Bf m x (k:Int))
   have e:byL k m (x::l)=byL k (Bf m x (k:Int)) l:=rfl
   rw[e,ih,MP]
   by_cases h1:s∈l
   ·simp[h1]
   ·by_cases h2:s=x
    ·subst h2; simp[h1]
    ·simp[h1,h2]
theorem Nu (s:Str):∀(ls:List (List Str)) (k:Nat) (m:List (Str×Int)),s∉ls.flatten→yM (byE ls k m) s=yM m s
 | [],k,m,_=>rfl
 | l :: ls, k, m, h => by
   simp only[List.flatten_cons,ay,not_or] at h
   simp only[byE]
   rw[Nu s ls (k+1) _ h.2,Nt,ae h.1]
theorem Nv (s:Str):∀(ls:List (List Str)) (k:Nat) (m:List (Str×Int)),ls.flatten.Nodup→∀j (hj:j<ls.length),s∈ls[j]→yM (byE ls k m) s=some ((k+j:Nat):Int)
 | l :: ls, k, m, hn, j, hj, hs => by
   simp only[List.flatten_cons] at hn
   obtain⟨h1,h2,h3⟩:=bW.1 hn
   simp only[byE]
   cases j with
   | zero =>
     simp only[bL] at hs
     rw[Nu s ls (k+1) _ (λh=>h3 s hs s h rfl),Nt,ai hs]; rfl
   | succ j =>
     simp only[bX] at hs
     rw[Nv s ls (k+1) _ h2 j (by simpa using hj) hs]
     congr 2; omega
theorem Sq {s:Str} {ls:List (List Str)} {i:Int} (hn:ls.flatten.Nodup):yM (byE ls 0 []) s=some i↔∃j,∃hj:j<ls.length,s∈ls[j]∧i=(j:Int):=by
 constructor
 ·intro h
  by_cases hs:s∈ls.flatten
  ·obtain⟨l,hl,jI⟩:=List.mem_flatten.1 hs
   obtain⟨j,hj,rfl⟩:=List.getElem_of_mem hl
   have:=Nv s ls 0 [] hn j hj jI
   rw[this] at h
   simp only[aa,aS] at h
   exact⟨j,hj,jI,h.symm⟩
  ·rw[Nu s ls 0 [] hs] at h
   simp[yM] at h
 ·rintro⟨j,hj,hs,rfl⟩
  rw[Nv s ls 0 [] hn j hj hs,aS]
theorem Sr (b:List (Str×Int)) (c:List (Str×List On)) (x:Pr):∀(qs:List (List Str×List Str)) (k:Nat),x∈zK b c qs k↔∃j,∃hj:j<qs.length,x.2=((k+j:Nat):Int)∧∃s∈qs[j].2++qs[j].1.flatMap (Am c),yM b s=some x.1
 | [],k=>by simp[zK]
 | q :: qs, k => by
   have h1:x∈Dh b c k q.2 q.1↔x.2=(k:Int)∧∃s∈q.2++q.1.flatMap (Am c),yM b s=some x.1:=by
    simp only[Dh,bV (b:=x)]
    constructor
    ·rintro⟨s,hs,hx⟩
     unfold AP at hx
     split at hx
     ·rename_i i hi
      rw[aP] at hx; subst hx
      exact⟨rfl,s,hs,hi⟩
     ·cases hx
    ·rintro⟨h2,s,hs,hl⟩
     refine⟨s,hs,?_⟩
     unfold AP
     rw[hl]
     simp only[aP]
     exact Prod.ext rfl h2
   simp only[zK,ay (a:=x),h1,Sr b c x qs (k+1)]
   constructor
   ·rintro(⟨h2,h3⟩|⟨j,hj,h2,h3⟩)
    ·exact⟨0,by simp,by simpa using h2,by simpa using h3⟩
    ·exact⟨j+1,by simpa using hj,by rw[h2]; congr 1; omega,by simpa using h3⟩
   ·rintro⟨j,hj,h2,h3⟩
    cases j with
    | zero=>exact .inl ⟨by simpa using h2,by simpa using h3⟩
    | succ j=>exact .inr ⟨j,by simpa using hj,by rw[h2]; congr 1; omega,by simpa using h3⟩
theorem Ss:∀(l z:List Pr) (x:Pr),x∈z∨x∈l→x∈l.foldl Be z
 | [],z,x,h=>h.elim id (λh=>nomatch h)
 | y :: l, z, x, h => by
   refine Ss l (Be z y) x ?_
   have hy:y∈Be z y:=List.mem_of_getLast? (Sa z y)
   have hz:∀x∈z,x∈Be z y:=λx hx=>by
    unfold Be
    split
    ·exact hx
    ·exact bU _ hx
   rcases h with h|h
   ·exact .inl (hz x h)
   ·rcases aA.1 h with rfl|h
    ·exact .inl hy
    ·exact .inr h
theorem Su {n:Node} (hn:(n.eqs.flatMap (·.left)).Nodup) {a b:Nat}:(a,b)∈edN n↔∃(ha:a<n.eqs.length) (hb:b<n.eqs.length),∃s∈Bd [] n.eqs[b].right++n.eqs[b].left.flatMap (Am (clk [] (vars n))),s∈n.eqs[a].left:=by
 have hh:(yX n).length=n.eqs.length:=by simp[yX]
 have hf:((yX n).map (·.1)).flatten.Nodup:=by
  have:((yX n).map (·.1)).flatten=n.eqs.flatMap (·.left):=by simp[yX,List.flatMap,Function.comp_def]
  rw[this]; exact hn
 have key:∀x:Pr,x∈C0 n↔∃j,∃hj:j<(yX n).length,x.2=((0+j:Nat):Int)∧∃s∈(yX n)[j].2++(yX n)[j].1.flatMap (Am (clk [] (vars n))),yM (byE ((yX n).map (·.1)) 0 []) s=some x.1:=by
  intro x
  rw[← Sr]
  unfold C0 JB
  constructor
  ·intro h
   rcases MX _ _ x h with h|h
   ·cases h
   ·exact(EO Av _).mem_iff.1 h
  ·intro h
   exact Ss _ _ x (.inr ((EO Av _).mem_iff.2 h))
 simp only[edN,bc]
 constructor
 ·rintro⟨x,hx,he⟩
  obtain⟨j,hj,h2,s,hs,hl⟩:=(key x).1 hx
  obtain⟨i,hi,w5,h1⟩:=(Sq hf).1 hl
  simp only[ac] at he
  have ea:i=a:=by rw[← he.1,h1]; rfl
  have eb:j=b:=by rw[← he.2,h2]; simp
  subst ea eb
  simp only[aG] at hi
  exact⟨by omega,by omega,s,by simpa[yX] using hs,by simpa[yX] using w5⟩
 ·rintro⟨ha,hb,s,hs,td⟩
  refine⟨((a:Int),(b:Int)),(key _).2 ⟨b,by omega,by simp,s,by simpa[yX] using hs,(Sq hf).2 ⟨a,by simp[yX]; omega,by simpa[yX] using td,rfl⟩⟩,rfl⟩
theorem b9m {n:Node} (hn:(n.eqs.flatMap (·.left)).Nodup) (h:DM n.eqs.length (edN n)):DM (zl n).eqs.length (edN (zl n)):=by
 intro f hf
 refine h (λi=>f (n.eqs.length - 1 - i)) ?_
 rintro⟨a,b⟩ he
 obtain⟨ha,hb,s,hs,td⟩:=(Su hn).1 he
 have gI:((zl n).eqs.flatMap (·.left)).Nodup:=(((List.reverse_perm n.eqs).flatMap_right _).nodup_iff).2 hn
 have hr:∀i (hi:i<n.eqs.length),∃iU:n.eqs.length - 1 - i<(zl n).eqs.length,(zl n).eqs[n.eqs.length - 1 - i]=n.eqs[i]:=by
  intro i hi
  refine⟨by simp[zl]; omega,?_⟩
  simp only[zl,List.getElem_reverse]
  congr 1; omega
 obtain⟨w6,ea⟩:=hr a ha
 obtain⟨di,eb⟩:=hr b hb
 exact hf _ ((Su gI).2 ⟨w6,di,s,by rw[eb]; exact hs,by rw[ea]; exact td⟩)
theorem zz {a b k:Int} (ha:a≠k) (hb:b≠k):yk a b≠k:=by
 unfold yk; split<;>assumption
theorem d2a {b:Bool} {e k:Int} (h0:0≠k) (he:e≠k):need b e≠k:=by
 unfold need; split<;>assumption
theorem Ae (b:Bool) {e:Int} (he:e≠13):need b e≠13:=d2a (by decide) he
theorem Ao {α:Type} {f:α→Int}:∀(l:List α),(∀x,f x≠13)→yj f l≠13
 | [],_=>by simp[yj]
 | x :: l, h => by
   have:=Ao l h
   have:=h x
   simp only[yj]
   first
   | exact zz (h x) (Ao l h)
   | (split<;>first | exact Ao l h | exact h x)
theorem FD (s:Str):BF s≠13:=Ae _ (by decide)
theorem c5x (e:Expr):CA e≠13:=zz (Ae _ (by decide)) (zz (Ae _ (by decide)) (Ae _ (by decide)))
theorem c5y (e:Expr):Fv e≠13:=zz (Ae _ (by decide)) (Ao _ c5x)
theorem b9n (en:List Enum) (e:Expr):CB en e≠13:=by
 unfold CB
 split
 ·exact zz (Ae _ (by decide)) (Ae _ (by decide))
 ·split
  ·exact zz (Ae _ (by decide)) (Ae _ (by decide))
  ·decide
theorem JZ (en:List Enum) (e:Expr):Ch en e≠13:=zz (c5y e) (Ao _ (b9n en))
theorem c8n (en:List Enum) (o:On):CC en o≠13:=zz (FD _) (Ae _ (by decide))
theorem J0 (en:List Enum) (b:Bool) (d:Decl):A0 en b d≠13:=
 zz (FD _) (zz (Ae _ (by decide)) (zz (Ae _ (by decide)) (zz (Ae _ (by decide)) (Ao _ (c8n en)))))
theorem Sv (en:List Enum) (q:Eqn):BE en q≠13:=
 zz (Ae _ (by decide)) (zz (Ae _ (by decide)) (zz (Ao _ FD) (zz (JZ en _) (Ae _ (by decide)))))
theorem Sw (en:List Enum) (n:Nat) (b:Bool) (t:Trn):EY en n b t≠13:=
 zz (Ae _ (by decide)) (zz (JZ en _) (Ae _ (by decide)))
theorem Sx (en:List Enum):∀(d:Nat) (a:Bc),CT en d a≠13
 | 0,_=>by simp[CT]
 | d + 1, a => by
   unfold CT
   exact zz (Ae _ (by decide)) (zz (Ae _ (by decide)) (Ao _ λs=>
    zz (FD _) (zz (Ae _ (by decide)) (zz (Ao _ (J0 en false)) (zz (Ao _ (Sv en)) (zz (Ao _ (Sx en d)) (zz (Ao _ (Sw en _ true)) (Ao _ (Sw en _ false)))))))))
theorem c3f (u:Enum):EX u≠13:=zz (FD _) (zz (Ae _ (by decide)) (zz (Ae _ (by decide)) (Ao _ FD)))
theorem c3g (en:List Enum) (n:Node):AC en n≠13:=
 zz (FD _) (zz (Ae _ (by decide)) (zz (Ae _ (by decide)) (zz (Ao _ (J0 en true)) (zz (Ao _ (J0 en true)) (Ao _ (J0 en false))))))
theorem c3h (en:List Enum) (n:Node):BW en n≠13:=zz (Ao _ (Sx en 3)) (zz (Ao _ (JZ en)) (Ao _ (JZ en)))
theorem Sy {α:Type} {f:α→Int} (hf:∀x,f x≠13):∀(l:List α) (i:Nat) (k:Nat) (e:Int),AH f l i=some (k,e)→e≠13
 | [],_,_,_,h=>by simp[AH] at h
 | x :: l, i, k, e, h => by
   simp only[AH] at h
   split at h
   ·exact Sy hf l _ _ _ h
   ·simp only[aa,ac] at h
    rw[← h.2]; exact hf x
theorem Sz {en:List Enum}:∀(l:List Node) (i:Nat) (b:Bad),AG en l i=some b→b.err≠13
 | [],_,_,h=>by simp[AG] at h
 | n :: l, i, b, h => by
   simp only[AG] at h
   cases hn:zZ en n i with
   | none=>rw[hn] at h; exact Sz l _ _ h
   | some y =>
     rw[hn] at h
     simp only[aa] at h; subst h
     unfold zZ at hn
     split at hn
     ·simp only[aa] at hn; rw[← hn]; exact c3g en n
     ·split at hn
      ·rename_i k e hf
       simp only[aa] at hn; rw[← hn]; exact Sy (Sv en) _ _ _ _ hf
      ·split at hn
       ·simp only[aa] at hn; rw[← hn]; exact c3h en n
       ·cases hn
theorem c1z {p:Prog} {b:Bad} (h:Ba p=some b):b.err≠13:=by
 unfold Ba at h
 split at h
 ·simp only[aa] at h; rw[← h]; decide
 ·split at h
  ·simp only[aa] at h; rw[← h]; exact Ao _ c3f
  ·exact Sz _ _ _ h
theorem E1 {a:EN} {f:List Str→EN} (ha:a.1≠13) (hf:∀l,(f l).1≠13):(z8 a f).1≠13:=by
 unfold z8; split
 ·exact hf _
 ·exact ha
theorem SA (s:Place) (o:Nat) (e:Expr):oneN s o e≠13:=by
 unfold oneN
 split
 ·exact Ae _ (by decide)
 ·split
  ·unfold Eo
   split
   ·decide
   ·exact Ae _ (by decide)
  ·decide
theorem J1 (s:Place) (e:Expr) (o:Nat):yZ s e o≠13:=zz (SA s o e) (Ao _ (SA s 1))
theorem SB (s:Place):∀(l d:List Str),(BD s l d).1≠13
 | [],d=>by simp[BD]
 | x :: l, d => by
   unfold BD
   split
   ·decide
   ·split
    ·decide
    ·exact SB s l _
theorem SC (s:Place) (q:Eqn) (d:List Str):(Ak s q d).1≠13:=E1 (SB s _ _) λl=>J1 s _ _
theorem SD (s:Place):∀(l:List Eqn) (d:List Str),(AR s l d).1≠13
 | [],d=>by simp[AR]
 | q::l,d=>E1 (SC s q d) (SD s l)
theorem SE (s:Place):∀(l:List Eqn) (k:Nat) (d:List Str) (i:Nat) (e:Int),AM s l k d = .inl (i,e)→e≠13
 | [],k,d,i,e,h=>by simp[AM] at h
 | q :: l, k, d, i, e, h => by
   simp only[AM] at h
   split at h
   ·exact SE s l _ _ _ _ h
   ·simp only[Sum.inl.injEq,ac] at h
    rw[← h.2]; exact SC s q d
theorem SG (tags:List Str):∀(l:List Decl) (v:List Str),(zw tags l v).1≠13
 | [],v=>by simp[zw]
 | d :: l, v => by
   unfold zw
   split
   ·decide
   ·exact SG tags l _
theorem SH (vis tags:List Str) (l:List Decl):(Aa vis tags l).1≠13:=
 E1 (SG tags l vis) λv=>Ao _ λd=>Ao _ λo=>Ae _ (by decide)
theorem SI (s:Place) (l:List Trn):CD s l≠13:=Ao _ λt=>J1 s _ _
mutual
theorem c5z (s:Place) (d:List Str):∀x:State,(Bt s d x).1≠13
 | .mk n l e a u w => by
   unfold Bt
   refine E1 (SH _ _ _) λvis=>E1 (SD _ _ _) λd1=>E1 (Nw _ _ a) λd2=>E1 (SI _ _) λ_=>E1 (SI _ _) λ_ =>?_
   split<;>simp
theorem SJ (s:Place) (d:List Str):∀l:List State,(zQ s d l).1≠13
 | []=>by simp[zQ]
 | x :: xs => by
   have h1:=c5z s d x
   have h2:=SJ s d xs
   unfold zQ
   simp only
   split
   ·split
    ·exact(show (0:Int)≠13 by decide)
    ·exact h2
   ·exact h1
theorem Nw (s:Place) (d:List Str):∀l:List (List State),(zc s d l).1≠13
 | []=>by simp[zc]
 | x :: xs => by
   unfold zc
   split
   ·decide
   ·simp only
    split
    ·exact SJ s d x
    ·split
     ·exact Nw s _ xs
     ·decide
end
theorem c8o {before:List Node} {tags:List Str} {n:Node} {b:Bad} (h:AZ before tags n=some b):b.err≠13:=by
 simp only[AZ] at h
 split at h
 ·simp only[aa] at h; subst h; simp
 ·split at h
  ·simp only[aa] at h; subst h; exact SH _ _ _
  ·split at h
   ·rename_i k e hq
    simp only[aa] at h; subst h; exact SE _ _ _ _ _ _ hq
   ·split at h
    ·simp only[aa] at h; subst h; exact Nw _ _ _
    ·split at h
     ·simp only[aa] at h; subst h; exact Ao _ λe=>J1 _ _ _
     ·split at h
      ·simp only[aa] at h; subst h; exact Ao _ λe=>J1 _ _ _
      ·split at h
       ·simp at h
       ·simp only[aa] at h; subst h; simp
theorem SK {tags:List Str}:∀{l b:List Node} {x:Bad},Bb tags b l=some x→x.err≠13
 | [],b,x,h=>by simp[Bb] at h
 | n :: l, b, x, h => by
   simp only[Bb] at h
   split at h
   ·rename_i y hy
    simp only[aa] at h; subst h; exact c8o hy
   ·exact SK h
theorem c1A (p:Prog):(BN (Bs p)).err≠13:=by
 cases h:Bs p with
 | none=>decide
 | some b =>
   show b.err≠13
   unfold Bs at h
   split at h
   ·rename_i hs
    simp only[aa] at h; subst h; exact c1z hs
   ·split at h
    ·exact SK h
    ·simp only[aa] at h; subst h; simp
end PI.Sc
set_option linter.unusedSimpArgs false
set_option linter.unusedVariables false
namespace PI.Sc
open Go (IntKind BinOp UnOp)
open Short
def Eq (p:Prog):Prop:=Bs p=none∧plain p=true
theorem SL {p:Prog}:Eq (AJ p)↔Eq p:=by
 refine⟨λh =>?_,λh=>Sp h.1 h.2⟩
 have:=Sp h.1 h.2
 rwa [Sm] at this
theorem c3m {p:Prog} (h:¬Eq p):(Ei p).err≠0∧(Ei p).err≠13:=by
 unfold Ei
 split
 ·rename_i h1
  split
  ·rename_i h2
   refine absurd ⟨?_,h2⟩ h
   cases hb:Bs p with
   | none=>rfl
   | some b=>rw[hb] at h1; exact absurd h1 (b85 hb)
  ·simp
 ·rename_i h1; exact⟨h1,c1A p⟩
section
variable {L:Nat→Option PFunc} (hL:∀k f,LS k=some f→L k=some f)
include hL
theorem SM (p:Prog) (hp:PW p) (hs:parts p≤1100000) (hb:¬Eq p):∃h' w e,x8 L 197 [zh p] []=some (.tuple [w,.int .i64 e],h')∧e≠0∧e≠13∧∃a b,w = .agg [.int .i64 a,.int .i64 b]:=by
 suffices H:∃r,x8 L 197 [zh p] []=some r∧∃w e,r.1 = .tuple [w,.int .i64 e]∧e≠0∧e≠13∧∃a b,w = .agg [.int .i64 a,.int .i64 b] by
  obtain⟨⟨r,h'⟩,h1,w,e,h2,h3⟩:=H
  simp only at h2; subst h2
  exact⟨h',w,e,h1,h3⟩
 obtain⟨h1,hw⟩:=Qs hL p hp hs
 obtain⟨n0,n13⟩:=c3m hb
 unfold A7 at hw
 refine AW (hL 197 _ rfl) rfl ?_
 simp[Jq,hw,n0,yA]
 exact⟨_,_,⟨rfl,rfl⟩,n0,n13,_,_,rfl⟩
end
end PI.Sc
set_option maxRecDepth 100000
set_option linter.unusedSimpArgs false
namespace PI.Sc
open Go (IntKind BinOp UnOp)
open Short
def xE1:List PV:=[.list false [.str [97]],.int .i64 1,.int .i64 0,.int .i64 2,.int .i64 1,.str [],.list false []]
def xV (n:UInt8):PV := .agg [.int .i64 2,.int .i64 0,.int .i64 0,.int .i64 0,.str [n],.list false []]
def xE2:List PV:=[.list false [.str [120]],.int .i64 3,.int .i64 6,.int .i64 0,.int .i64 0,.str [],.list false [xV 121,.agg [.int .i64 1,.int .i64 0,.int .i64 2,.int .i64 1,.str [],.list false []]]]
def xP2:List PV:=[.list false [.str [120]],.int .i64 5,.int .i64 0,.int .i64 0,.int .i64 0,.str [],.list false [xV 121]]
def xE3:List PV:=[.list false [.str [121]],.int .i64 3,.int .i64 6,.int .i64 0,.int .i64 0,.str [],.list false [xV 120,xV 97]]
def xD (n:UInt8):PV := .agg [.str [n],.int .i64 2,.list false []]
def xN (e:PV):PV := .agg [.list false [],.list false [.agg [.str [102],.list false [],.list false [xD 97,xD 120,xD 121],.list false [],e,.list false [],.list false [],.list false []]]]
def xS:PV:=xN (.list false [.agg xE1,.agg xE2,.agg xE3])
def xQ:PV:=xN (.list false [.agg xE1,.agg xP2,.agg xE3])
def xL:PV := .list false [.agg [.int .i64 0,.int .i64 2],.agg [.int .i64 1,.int .i64 2],.agg [.int .i64 2,.int .i64 1]]
def isR (r:Option (PV×List PObj)) (v:PV) (h:List PObj):Bool:=match r with
 | some (v',h')=>v'.beq v&&decide (h'=h)
 | none=>false
theorem ED {k:Nat} {zs h h':List _} {v:PV} (e:isR (call LS 200 k zs h) v h'=true):x8 LS k zs h=some (v,h'):=by
 refine Cs.2 ⟨200,?_⟩
 unfold isR at e
 split at e
 ·rename_i v1 h1 e1
  simp only[ao,PV.beq_iff,av] at e
  rw[e1,e.1,e.2]
 ·cases e
theorem k1:isR (call LS 200 207 [] []) (xN (.rowp 0 7 true 3)) [.cells (xE1++xE2++xE3)]=true:=by decide +kernel
theorem k2:isR (call LS 200 197 [xS] []) (.tuple [.agg [.int .i64 0,.int .i64 1],.int .i64 13]) []=true:=by decide +kernel
theorem k3:isR (call LS 200 199 [xS,.int .i64 0] []) (.tuple [xL,.int .i64 0]) []=true:=by decide +kernel
theorem k4:isR (call LS 200 200 [xS,.int .i64 0] []) (.tuple [.list false [],.int .i64 13]) []=true:=by decide +kernel
theorem k6:isR (call LS 200 208 [.str [121]] []) (xV 121) []=true:=by decide +kernel
theorem k7:isR (call LS 200 200 [xQ,.int .i64 0] []) (.tuple [.list false [.int .i64 0,.int .i64 1,.int .i64 2],.int .i64 0]) []=true:=by decide +kernel
theorem k8:isR (call LS 200 202 [xL,xL] []) (.bool true) []=true:=by decide +kernel
theorem k9:isR (call LS 200 206 [.list false [.int .i64 0,.int .i64 1,.int .i64 2],.list false [.int .i64 0,.int .i64 1,.int .i64 2]] []) (.bool true) []=true:=by decide +kernel
theorem c2k:∃h',x8 LS 198 [] []=some (.bool true,h'):=by
 suffices H:∃r,x8 LS 198 [] []=some r∧r.1 = .bool true by
  obtain⟨⟨v,h'⟩,h1,h2⟩:=H
  simp only at h2; subst h2
  exact⟨h',h1⟩
 have c1:=ED k1
 have c2:=ED k2
 have c3:=ED k3
 have c4:=ED k4
 have c6:=ED k6
 have c7:=ED k7
 have c8:=ED k8
 have c9:=ED k9
 simp only[xS,xQ,xL,xN,xE1,xE2,xE3,xP2,xV,xD,aK,bg] at c1 c2 c3 c4 c6 c7 c8 c9
 refine AW rfl rfl ?_
 simp[KS,c1,c2,c3,c4,c6,c7,c8,c9,frz,BL,Cq,Dw,BT,Co,Aj,yh,PV.cells,yB,A5,Bm,B8,B7,yU,yA,xV,xD]
 done
end PI.Sc
set_option linter.unusedSimpArgs false
set_option linter.unusedVariables false
set_option maxRecDepth 100000
namespace PI.Sc
open Go (IntKind BinOp UnOp)
open Short
section
variable {L:Nat→Option PFunc} (hL:∀k f,LS k=some f→L k=some f)
include hL
theorem d5w (n:Node) (hn:n.eqs.length≤1100000) (V0 V1 V2 V3 V4 V8 V9 V10 V11:PV) (g b:Nat) {Q:PExit→St→Prop}
  (hk:∀y7,Q (.exit 2) ⟨[V0,V1,V2,V3,V4,.loc b (yx n).cells,.list true (n.eqs.reverse.map yI),y7,V8,V9,V10,V11],[],g,[]⟩):
  wpL L LR ⟨[V0,V1,V2,V3,V4,.loc b (yx n).cells,.list true [],.int .i64 ((n.eqs.length:Int) - 1),V8,V9,V10,V11],[],g,[]⟩ Q:=by
 rw[LR]
 obtain⟨R,hR⟩:∃R,n.eqs.reverse=R:=⟨_,rfl⟩
 have ru:R.length=n.eqs.length:=by rw[← hR,List.length_reverse]
 have gC:∀i (hi:i<R.length),R[i]=n.eqs[n.eqs.length - 1 - i]'(by omega):=by
  intro i hi; subst hR; rw[List.getElem_reverse]
 rw[hR] at hk
 refine yK R.length (λi st=>∃j:Int,j=(n.eqs.length:Int) - 1 - i∧st=⟨[V0,V1,V2,V3,V4,.loc b (yx n).cells,.list true ((R.take i).map yI),.int .i64 j,V8,V9,V10,V11],[],g,[]⟩) ?_ ?_ ⟨_,by simp; rfl,by simp⟩
 ·rintro i hi st ⟨j,hj,rfl⟩ ih
  obtain⟨m,hm⟩:∃m:Nat,m=n.eqs.length - 1 - i:=⟨_,rfl⟩
  have w7:j=(m:Int):=by omega
  have jH:m<n.eqs.length:=by omega
  have h1:¬(m:Int)<0:=by omega
  have hw:IntKind.i64.wrap ((m:Int) - 1)=(m:Int) - 1:=Eg _ (by omega) (by omega)
  have hg:n.eqs[m]=R[i]:=by rw[gC i hi]; simp only[hm]
  have jd:=AB hi
  subst w7
  obtain⟨A,hA⟩:∃A,R.take i=A:=⟨_,rfl⟩
  have rG:A.length=i:=by rw[← hA,aY]; omega
  rw[hA] at jd ⊢
  have hb:A.length≤2147483647:=by omega
  simp[h1,hw,jH,hg,hb]
  refine ih _ ⟨(m:Int) - 1,by omega,?_⟩
  rw[jd]; simp
 ·rintro st ⟨j,hj,rfl⟩
  have h1:j<0:=by omega
  have h2:¬0≤j:=by omega
  rw[aC]
  simp[h1,h2]
  exact hk _
theorem d5x (p:Prog) (hp:PW p) (V0:PV) {Q:PExit→St→Prop}
  (hk:∀y4 y5 y6 y7 y8 y9 y10 y11 g,Q (.exit 0) ⟨[V0,.loc 0 (zh p).cells,.bool false,.loc 1 [.list false (p.enums.map yu),.list true ((AJ p).nodes.map yx)],y4,y5,y6,y7,y8,y9,y10,y11],[],g,[]⟩) (V5 V6 V7 V8 V9 V10 V11:PV):
  wpL L Jp ⟨[V0,.loc 0 (zh p).cells,.bool false,.loc 1 [.list false (p.enums.map yu),.list true []],.int .i64 0,V5,V6,V7,V8,V9,V10,V11],[],2,[]⟩ Q:=by
 rw[Jp]
 have fx:=hp.nodes
 have cS:(AJ p).nodes.length=p.nodes.length:=by simp[AJ]
 have dA:(zh p).cells=[.list false (p.enums.map yu),.list false (p.nodes.map yx)]:=rfl
 refine yK p.nodes.length (λi st=>∃y5 y6 y7 y8 y9 y10 y11 g,2≤g∧st=⟨[V0,.loc 0 (zh p).cells,.bool false,.loc 1 [.list false (p.enums.map yu),.list true (((p.nodes.take i).map zl).map yx)],.int .i64 (i:Nat),y5,y6,y7,y8,y9,y10,y11],[],g,[]⟩) ?_ ?_ ⟨V5,V6,V7,V8,V9,V10,V11,2,an 2,by simp⟩
 ·rintro i hi st ⟨y5,y6,y7,y8,y9,y10,y11,g,nM,rfl⟩ ih
  have kq:=yn i (by omega)
  have jd:=AB hi
  have gK:=hp.ns _ (ak hi)
  have da:=gK.eqs
  obtain⟨A,hA⟩:∃A,(p.nodes.take i).map zl=A:=⟨_,rfl⟩
  have rG:A.length≤2147483647:=by rw[← hA,aG,aY]; omega
  rw[hA]
  obtain⟨nd,dl⟩:∃nd,p.nodes[i]=nd:=⟨_,rfl⟩
  rw[dl] at da jd
  have ry:¬g=0:=by omega
  have ve:¬g=1:=by omega
  have lH:IntKind.i64.wrap ((nd.eqs.length:Int) - 1)=(nd.eqs.length:Int) - 1:=Eg _ (by omega) (by omega)
  simp[hi,kq,dl,rG,lH]
  refine d5w hL nd (by omega) _ _ _ _ _ _ _ _ _ _ _ ?_
  intro z7
  simp[hi,kq,dl,rG]
  have hT:PV.agg [.str nd.name,.list false (nd.ins.map yi),.list false (nd.outs.map yi),.list false (nd.locals.map yi),.list false (nd.eqs.map yI).reverse,.list false (nd.autos.map yS),.list false (nd.assume.map ye),.list false (nd.ensure.map ye)]=yx (zl nd):=by
   rw[Jy,zl,← List.map_reverse]
  rw[hT]
  have hl:((p.nodes.take (i+1)).map zl).map yx=A.map yx++[yx (zl nd)]:=by rw[jd,bh,hA]; simp
  rw[← hl]
  exact ih _ ⟨_,_,_,_,_,_,_,g+1,by omega,rfl⟩
 ·rintro st ⟨y5,y6,y7,y8,y9,y10,y11,g,nM,rfl⟩
  rw[aC]
  have e:(AJ p).nodes=p.nodes.map zl:=rfl
  rw[e] at hk
  simp
  have:=hk (.int .i64 (p.nodes.length:Nat)) y5 y6 y7 y8 y9 y10 y11 g
  simpa using this
end
end PI.Sc
set_option linter.unusedSimpArgs false
set_option linter.unusedVariables false
namespace PI.Sc
theorem Rg {α β:Type} (f:α→Nat) (g:β→Nat) (m:β→α):∀(l:List β),(∀x∈l,f (m x)≤g x)→yr f (l.map m)≤yr g l
 | [],_=>an _
 | x :: l, h => by
   have h1:=h x (by simp)
   have h2:=Rg f g m l (λy hy=>h y (by simp[hy]))
   simp only[az,yr]; omega
theorem b86 {p:Prog} (h:Bs p=none):∀n∈p.nodes,EU p.enums n:=by
 unfold Bs at h
 cases hs:Ba p with
 | some b=>rw[hs] at h; cases h
 | none =>
   unfold Ba at hs
   split at hs
   ·cases hs
   ·split at hs
    ·cases hs
    ·exact HK.1 hs
theorem Nd {en:List Enum} {pt:Bool} {d:Decl} (h:A0 en pt d=0):d.clock.length≤4:=by
 unfold A0 at h
 simp only[Br] at h
 simpa using JK (by decide) h.2.2.2.1
theorem c7Q {en:List Enum} {n:Node} (hw:NW n) (h:EU en n):EdN n:=by
 obtain⟨h1,h2,h3⟩:=h
 unfold AC at h1
 simp only[Br] at h1
 obtain⟨_,a2,_,a4,a5,a6⟩:=h1
 have a2:=JK (by decide) a2
 simp only[av] at a2
 have hq:∀q∈n.eqs,q.left.length≤64∧q.right.parts≤400:=by
  intro q hq
  have hb:=Bz.1 h2 q hq
  unfold BE Ch Fv at hb
  simp only[Br] at hb
  obtain⟨_,b2,_,⟨⟨b4,_⟩,_⟩,_⟩:=hb
  have b2:=JK (by decide) b2
  have b4:=JK (by decide) b4
  simp only[av] at b2 b4
  have hp:=(hw.es q hq).right.1
  have hs:=Rh hp
  refine⟨b2,?_⟩
  have:=b4.1
  rw[hs] at this
  omega
 refine⟨a2.2.2.2.1,λq h=>(hq q h).1,λq h=>(hq q h).2,a2.1,a2.2.1,a2.2.2.1,?_⟩
 intro d hd
 simp only[vars,ay] at hd
 rcases hd with(hd|hd)|hd
 ·exact Nd (Bz.1 a4 d hd)
 ·exact Nd (Bz.1 a5 d hd)
 ·exact Nd (Bz.1 a6 d hd)
end PI.Sc
set_option linter.unusedSimpArgs false
set_option linter.unusedVariables false
set_option maxRecDepth 100000
namespace PI.Sc
open Go (IntKind BinOp UnOp)
open Short
theorem c8p {n:Node} (h:NW n):NW (zl n):=
 { h with
   eqs:=by show n.eqs.reverse.length≤_; rw[List.length_reverse]; exact h.eqs
   es:=λq hq=>h.es q (List.mem_reverse.1 hq) }
theorem c8q {p:Prog} (h:PW p):PW (AJ p):=
 { h with
   nodes:=by show (p.nodes.map _).length≤_; rw[aG]; exact h.nodes
   ns:=λn hn=>by
    obtain⟨m,hm,rfl⟩:=bc.1 hn
    exact c8p (h.ns m hm) }
theorem SN {α:Type} (f:α→Nat):∀l:List α,yr f l.reverse=yr f l
 | []=>rfl
 | x::l=>by rw[List.reverse_cons,JY,SN f l]; simp only[yr]; omega
theorem b9o (p:Prog):parts (AJ p)≤parts p:=by
 have:=Rg Node.parts Node.parts zl p.nodes (λn _=>by
  have:=SN Eqn.parts n.eqs
  unfold Node.parts zl
  simp only; omega)
 unfold parts AJ
 simp only; omega
theorem b9p {p:Prog} (h:Eq p):∀n∈p.nodes,(n.eqs.flatMap (·.left)).Nodup:=by
 have key:∀(tags:List Str) (l b:List Node),Bb tags b l=none→∀n∈l,(n.eqs.flatMap (·.left)).Nodup:=by
  intro tags l
  induction l with
  | nil=>intro b _ n hn; cases hn
  | cons m l ih =>
    intro b hb n hn
    simp only[Bb] at hb
    cases h1:AZ b tags m with
    | some x=>rw[h1] at hb; cases hb
    | none =>
      rw[h1] at hb
      rcases aA.1 hn with rfl|hn
      ·unfold AZ at h1
       simp only at h1
       split at h1
       ·cases h1
       ·split at h1
        ·cases h1
        ·split at h1
         ·cases h1
         ·rename_i d hq
          exact((DD _ n.eqs [] d).1 ((GU _ n.eqs 0 [] d).1 hq)).2.1.2
      ·exact ih _ hb n hn
 have h1:=h.1
 unfold Bs at h1
 split at h1
 ·cases h1
 ·split at h1
  ·exact key _ _ _ h1
  ·cases h1
theorem SO {p:Prog} (h:Eq p) (hf:DN p):DN (AJ p):=by
 intro n hn
 obtain⟨m,hm,rfl⟩:=bc.1 hn
 intro fS
 refine hf m hm ?_
 have hd:((zl m).eqs.flatMap (·.left)).Nodup:=(((List.reverse_perm m.eqs).flatMap_right _).nodup_iff).2 (b9p h m hm)
 have:=b9m hd fS
 rwa [Sl] at this
set_option maxHeartbeats 1000000 in
theorem b4J (p:Prog) (hw:PW p) (hs:parts p≤1100000):∃h',x8 LS 196 [zh p] []=some (.bool true,h'):=by
 have hL:∀k f,LS k=some f→LS k=some f:=λ_ _ h=>h
 suffices H:∃r,x8 LS 196 [zh p] []=some r∧r.1 = .bool true by
  obtain⟨⟨r,h⟩,h1,h2⟩:=H
  simp only at h2; subst h2
  exact⟨h,h1⟩
 obtain⟨ha,nY⟩:=c2k
 have gA:=c8q hw
 have jf:parts (AJ p)≤1100000:=aD (b9o p) hs
 have run:∃h1 w1 e1 h2 w2 e2,x8 LS 197 [zh p] []=some (.tuple [w1,.int .i64 e1],h1)∧x8 LS 197 [zh (AJ p)] []=some (.tuple [w2,.int .i64 e2],h2)∧(∃a b,w1 = .agg [.int .i64 a,.int .i64 b])∧(∃a b,w2 = .agg [.int .i64 a,.int .i64 b])∧(e1=0↔e2=0)∧(e1=13↔e2=13):=by
  by_cases hp:Eq p
  ·have hq:=SL.2 hp
   have ed:∀{p:Prog},PW p→Eq p→∀n∈p.nodes,EdN n:=λhw h n hn=>c7Q (hw.ns n hn) (b86 h.1 n hn)
   obtain⟨h1,w1,e1,c1,f1,s1⟩:=QQ hL p hw hs (QE hp.1 hp.2) (ed hw hp)
   obtain⟨h2,w2,e2,c2,f2,s2⟩:=QQ hL (AJ p) gA jf (QE hq.1 hq.2) (ed gA hq)
   have rL:DN p↔DN (AJ p):=⟨SO hp,λh=>by have:=SO hq h; rwa [Sm] at this⟩
   refine⟨h1,w1,e1,h2,w2,e2,c1,c2,s1,s2,?_⟩
   rcases f1 with⟨rfl,g1⟩|⟨rfl,g1⟩<;>rcases f2 with⟨rfl,g2⟩|⟨rfl,g2⟩
   ·simp
   ·exact absurd (rL.1 g1) g2
   ·exact absurd (rL.2 g2) g1
   ·simp
  ·have hq:¬Eq (AJ p):=λh=>hp (SL.1 h)
   obtain⟨h1,w1,e1,c1,n1,m1,s1⟩:=SM hL p hw hs hp
   obtain⟨h2,w2,e2,c2,n2,m2,s2⟩:=SM hL (AJ p) gA jf hq
   exact⟨h1,w1,e1,h2,w2,e2,c1,c2,s1,s2,by simp[n1,n2],by simp[m1,m2]⟩
 obtain⟨h1,w1,e1,h2,w2,e2,c1,c2,⟨a1,b1,rfl⟩,⟨a2,b2,rfl⟩,i0,i13⟩:=run
 have dY:PV.agg [.list false (p.enums.map yu),.list false ((AJ p).nodes.map yx)]=zh (AJ p):=rfl
 refine AW rfl rfl ?_
 obtain⟨f0,sI⟩:∃f0,Jp=f0:=⟨_,rfl⟩
 simp[LT,sI]
 subst sI
 refine d5x hL p hw _ ?_ _ _ _ _ _ _ _
 intro y4 y5 y6 y7 y8 y9 y10 y11 g
 obtain⟨q,hq⟩:∃q,AJ p=q:=⟨_,rfl⟩
 rw[hq] at dY c2 ⊢
 by_cases e0:e1=0
 ·have e0':=i0.1 e0
  subst e0 e0'
  simp[dY,c1,c2,nY,yA]
 ·have e0':¬e2=0:=λh=>e0 (i0.2 h)
  by_cases e13:e1=13
  ·have e13':=i13.1 e13
   subst e13 e13'
   simp[dY,c1,c2,nY,yA]
  ·have e13':¬e2=13:=λh=>e13 (i13.2 h)
   simp[dY,c1,c2,nY,yA,e0,e0',e13,e13']
end PI.Sc
set_option linter.unusedSimpArgs false
set_option linter.unusedVariables false
namespace PI
open Go Go.RowKit Go.WideShapes Go.ChangeShapes
section
variable {H:Type} {enc:TypeId×Value→H} {P:Program} {W:World} {base':Nat} {N:Nm} {D:Nat→TyD} {tm:Nat→TypeId}
def GY (D:Nat→TyD):List Nat→List PV→Prop
 | [],[]=>True
 | i::is,p::ps=>Sh D i p∧GY D is ps
 | _,_=>False
theorem SP {n:Nat} {r:Reach} {spare:Nat→Bool} {held:Bool} {base:Nat} (hM:∀i,i<n→EE P D tm n i=true):
  ∀{idxs:List Nat} {vs:List Value} {ds:List (DataW H)} {p:List MemPlace},(∀i∈idxs,i<n) →
  (∀(j:Nat) (t:TypeId) (v:Value),(idxs.map tm)[j]? = some t→vs[j]? = some v→Value.okWide P W r base' t v) →
  DataW.TrodAll enc P W base spare held (idxs.map tm) vs ds p→(DataW.weightsEach P (idxs.map tm) ds).all (·≤reachBytes)=true →
  ∃ pvs : List PV, vs.length = pvs.length ∧ ds.length = idxs.length ∧ wts pvs ≤ CY ds ∧ GY D idxs pvs ∧
    ∀(j:Nat) (v:Value) (p:PV),vs[j]? = some v→pvs[j]? = some p→VR N W (CG W) (λ_=>none) v p
 | [], vs, ds, p, _, _, h, _ => by
   obtain⟨rfl,rfl,rfl⟩:=trodAll_nil h
   exact⟨[],rfl,rfl,by simp[wts],trivial,by simp⟩
 | i :: is, vs, ds, p, hi, hv, h, jb => by
   obtain⟨v,vs',d,ds',p1,q1,rfl,rfl,rfl,h1,h2⟩:=trodAll_cons h
   simp only[az,DataW.weightsEach,cr,ao] at jb
   obtain⟨pvs,a1,a2,a3,a4,a5⟩:=SP hM (λj hj=>hi j (bl _ hj)) (λj t u ht hu=>hv (j+1) t u (by simpa using ht) (by simpa using hu)) h2 jb.2
   obtain⟨pv,b1,b2⟩:=d2d (N:=N) hM (hi i (bS ..)) (hv 0 (tm i) v rfl rfl) h1 jb.1
   refine⟨pv::pvs,by simp[a1],by simp[a2],by simp only[wts,CY]; omega,⟨b1.1,a4⟩,?_⟩
   intro j u q hu hq
   cases j with
   | zero=>simp at hu hq; subst hu hq; exact b2
   | succ j=>exact a5 j u q (by simpa using hu) (by simpa using hq)
theorem SQ {W':World} (hl:laidOutB P=true) (hb:Below W.heap.size W W') {sp:Nat→Bool}:
  ∀{ts:List TypeId} {vs:List Value} {ds:List (DataW H)} {p:List MemPlace},(∀t∈ts,P.readableRec t=true∧t<P.types.size) →
  (∀x∈p,x.block<W.heap.size)→(∀x∈p,sp x.block=true) →
  DataW.TrodAll enc P W 0 (λ_=>true) true ts vs ds p→DataW.TrodAll enc P W' 0 sp true ts vs ds p
 | [], vs, ds, p, _, _, _, h => by
   obtain⟨rfl,rfl,rfl⟩:=trodAll_nil h
   exact rfl
 | t :: ts, vs, ds, p, ht, cV, i9, h => by
   obtain⟨v,vs',d,ds',p1,q1,rfl,rfl,rfl,h1,h2⟩:=trodAll_cons h
   have:=ht t (bS ..)
   exact trodAll_cons_mk (WideElems.Trod_stays hl this.1 this.2 h1 (λx hx=>hb.same (cV x (bU _ hx))) (λx hx=>i9 x (bU _ hx)))
    (SQ hl hb (λt' h'=>ht t' (bl _ h')) (λx hx=>cV x (cw _ hx)) (λx hx=>i9 x (cw _ hx)) h2)
theorem b7E {ts us:List TypeId} {ds:List (DataW H)}:∀(_:ts.length=ds.length),(DataW.weightsEach P (ts++us) ds).all (·≤reachBytes)=true→(DataW.weightsEach P ts ds).all (·≤reachBytes)=true:=by
 induction ts generalizing ds with
 | nil=>intro _ _; simp[DataW.weightsEach]
 | cons t ts ih =>
   intro hl h
   cases ds with
   | nil=>simp[DataW.weightsEach]
   | cons d ds =>
     simp only[aK,DataW.weightsEach,cr,ao] at h ⊢
     exact⟨h.1,ih (by simpa using hl) h.2⟩
theorem SS {base:Nat} {spare:Nat→Bool} {held:Bool}:∀{ts:List TypeId} {vs:List Value} {ds:List (DataW H)} {p:List MemPlace},DataW.TrodAll enc P W base spare held ts vs ds p→ts.length=ds.length
 | [],vs,ds,p,h=>by obtain⟨rfl,rfl,rfl⟩:=trodAll_nil h; rfl
 | t :: ts, vs, ds, p, h => by
   obtain⟨v,vs',d,ds',p1,q1,rfl,rfl,rfl,h1,h2⟩:=trodAll_cons h
   simp[SS h2]
theorem b9q {E:Env} {L:Nat→Option PFunc} (hE:EnvOk E N) (hP:E.P=P) (dL:P.follows .mixedOrders=true) (hL:∀k pf,L k=some pf→FnS E N k pf) (hT:∀t∈N.tabs,W.cell? ⟨t.1,t.2.1,none⟩=some t.2.2) (o6:∀r∈N.rows,W.shape? r.1=some r.2)
  {n k:Nat} (hM:∀i,i<n→EE P D tm n i=true) (qt:laidOutB P=true) {f:Func} {s:ChangeSpec} {idxs:List Nat} {tb:TypeId}
  (mg:f.params.toList=idxs.map tm) (mh:∀i∈idxs,i<n∧P.readableRec (tm i)=true∧tm i<P.types.size) (mS:s.vars=[])
  (vf:P.underlying tb=some .bool) (dQ:f.resultTypes = #[tb]) (qu:∀ds:List (DataW H),ds.length=idxs.length→s.fn H ds={ results:=[.lit (.bool true)],args:=ds })
  {Ge fresh mi again:Bool} {args:Array Value} {ds gs:List (DataW H)} {before:List MemPlace}
  (ey:∀(j:Nat) (t:TypeId) (v:Value),f.params[j]? = some t→args[j]? = some v→Value.okWide P W .any base' t v)
  (hW:DataW.Whole enc P f.params.toList s.vars Ge W args.toList ds gs before)
  (jb:(DataW.weightsEach P (f.params.toList++s.plain.varTypes P) (ds++gs)).all (·≤reachBytes)=true)
  (te:∀pvs:List PV,GY D idxs pvs→wts pvs≤CY (ds++gs)→∃m h',call L m k pvs []=some (.bool true,h')):
  Calls P (N.fn k) args W λe W'=>∃v,e = .returned v∧s.post enc P f Ge fresh mi again W args v W':=by
 have vg:=hW
 rw[mS] at hW
 obtain⟨p,q,hA,hV,rfl,w8,dl⟩:=hW
 obtain⟨rfl,rfl⟩:=trodVars_none hV
 rw[mg] at hA
 obtain⟨pvs,a1,a2,a3,a4,a5⟩:=SP (N:=N) (n:=n) (base':=base') hM (λi hi=>(mh i hi).1) (λj t v ht hv=>ey j t v (by rw[← mg] at ht; simpa using ht) (by simpa using hv)) hA (by rw[be,mg] at jb; exact b7E (by simpa using SS hA) jb)
 obtain⟨m,h',cT⟩:=te pvs a4 (by simpa using a3)
 refine(c5C (W:=W) hE hP dL hL hT o6 cT (by simpa using a1) (λi v p hv hp=>a5 i v p (by simpa using hv) hp)).mono ?_
 rintro e W' ⟨rfl,hb⟩
 refine⟨_,rfl,?_⟩
 have nZ:∀x∈p,x.block<W.heap.size:=λx hx=>vg.lt x (by simpa using hx)
 have ff:∀t∈idxs.map tm,P.readableRec t=true∧t<P.types.size:=by
  intro t ht
  obtain⟨i,hi,rfl⟩:=bc.1 ht
  exact(mh i hi).2
 have dn:∀sp:Nat→Bool,(∀x∈p,sp x.block=true)→DataW.TrodAll enc P W' 0 sp true f.params.toList args.toList ds p:=λsp i9=>by
  rw[mg]; exact SQ qt hb ff nZ i9 hA
 have hr:s.fn H (ds++[])={ results:=[.lit (.bool true)],args:=ds }:=by rw[be]; exact qu ds a2
 have mT:∀(b:Nat) (sp:Nat→Bool) (hd:Bool),DataW.TrodAll enc P W' b sp hd f.resultTypes.toList ((Value.bool true).resultList f.resultTypes.size) (s.fn H (ds++[])).results []:=by
  intro b sp hd
  rw[dQ,hr]
  exact trodAll_cons_mk (shut_bool vf _) trodAll_mk0
 have jK:∀sp:Nat→Bool,DataW.TrodVars enc P W' sp s.vars (s.fn H (ds++[])).vars []:=by
  intro sp; rw[mS,hr]; rfl
 have vh:∀sp:Nat→Bool,(∀x∈p,sp x.block=true)→DataW.TrodAll enc P W' 0 sp true f.params.toList args.toList (s.fn H (ds++[])).args p:=by
  intro sp i9; rw[hr]; exact dn sp i9
 refine⟨ds,[],p++[],[],p,[],vg,mT _ _ _,vh _ (λx hx=>by simpa using nZ x hx),jK _,hb.frame _,λ_ =>?_⟩
 refine⟨ok_one dQ rfl (okWide_bool_mk vf _),_,_,([]++p)++[],⟨[]++p,[],trodAll_append (vh _ (λ_ _=>rfl)) (mT _ _ _),jK _,rfl,?_,?_⟩,?_⟩
 ·intro b off hp
  have cV:=nZ _ (by simpa using hp)
  rw[hb.frozen (p:=⟨b,off,none⟩) cV]
  exact w8 b off (by simpa using hp)
 ·intro ha
  simpa using dl ha
 ·intro x hx _
  simpa using hx
end
section
variable {D:Nat→TyD} {i:Nat} {p:PV}
theorem Sh.inv_int {k:IntKind} (hd:D i = .int k) (h:Sh D i p):∃n,p = .int k n∧k.min≤n∧n≤k.max:=by
 cases h with
 | bool _ b h=>rw[hd] at h; cases h
 | int _ k n h h1 h2=>rw[hd] at h; cases h; exact⟨n,rfl,h1,h2⟩
 | str _ s h=>rw[hd] at h; cases h
 | slice _ e b es h=>rw[hd] at h; cases h
 | struct _ fs ps h=>rw[hd] at h; cases h
theorem Sh.inv_str (hd:D i = .str) (h:Sh D i p):∃s,p = .str s∧s.length≤9223372036854775807:=by
 cases h with
 | bool _ b h=>rw[hd] at h; cases h
 | int _ k n h=>rw[hd] at h; cases h
 | str _ s _ hl=>exact⟨s,rfl,hl⟩
 | slice _ e b es h=>rw[hd] at h; cases h
 | struct _ fs ps h=>rw[hd] at h; cases h
theorem Sh.inv_slice {e b:Nat} (hd:D i = .slice e b) (h:Sh D i p):∃es,p = .list false es∧es.length≤9223372036854775807∧es.length*b≤140737488351232∧∀x∈es,Sh D e x:=by
 cases h with
 | bool _ b h=>rw[hd] at h; cases h
 | int _ k n h=>rw[hd] at h; cases h
 | str _ s h=>rw[hd] at h; cases h
 | slice _ e b es h hl hb hs=>rw[hd] at h; cases h; exact⟨es,rfl,hl,hb,hs⟩
 | struct _ fs ps h=>rw[hd] at h; cases h
theorem Sh.inv_struct {fs:List Nat} (hd:D i = .struct fs) (h:Sh D i p):∃ps:List PV,p = .agg (ps.flatMap PV.cells)∧GY D fs ps:=by
 cases h with
 | bool _ b h=>rw[hd] at h; cases h
 | int _ k n h=>rw[hd] at h; cases h
 | str _ s h=>rw[hd] at h; cases h
 | slice _ e b es h=>rw[hd] at h; cases h
 | struct _ fs' ps h hl hs =>
   rw[hd] at h; cases h
   refine⟨ps,rfl,?_⟩
   clear hd
   induction fs generalizing ps with
   | nil =>
     cases ps with
     | nil=>trivial
     | cons p ps=>simp at hl
   | cons f fs ih =>
     cases ps with
     | nil=>simp at hl
     | cons p ps=>exact⟨hs 0 f p rfl rfl,ih ps (by simpa using hl) (λj f' p' hf hp=>hs (j+1) f' p' (by simpa using hf) (by simpa using hp))⟩
end
end PI
set_option maxRecDepth 100000
set_option linter.unusedVariables false
namespace PI.Sc
open Go (IntKind BinOp UnOp)
def D:Nat→TyD
 | 0 => .str
 | 1 => .int .i64
 | 2 => .slice 0 16
 | 3 => .struct [0,2]
 | 4 => .slice 3 40
 | 5 => .struct [0,1,1]
 | 6 => .slice 5 32
 | 7 => .struct [0,1,6]
 | 8 => .slice 7 48
 | 9 => .struct [1,1,1,1,0,10]
 | 10 => .slice 9 72
 | 11 => .struct [2,9]
 | 12 => .slice 11 96
 | 13 => .bool
 | 14 => .struct [9,1,13]
 | 15 => .slice 14 88
 | 16 => .struct [0,8,12,18,15,15]
 | 17 => .struct [19]
 | 18 => .slice 17 24
 | 19 => .slice 16 136
 | 20 => .struct [0,8,8,8,12,18,10,10]
 | 21 => .slice 20 184
 | 22 => .struct [4,21]
 | _ => .int .u8
theorem all_map {α:Type} {f:α→PV} {G:α→Prop}:∀es:List PV,(∀x∈es,∃y,x=f y∧G y)→∃l:List α,es=l.map f∧∀x∈l,G x
 | [],_=>⟨[],rfl,by simp⟩
 | x :: xs, h => by
   obtain⟨y,rfl,hy⟩:=h x (bS ..)
   obtain⟨l,rfl,hl⟩:=all_map xs (λy hy=>h y (bl _ hy))
   refine⟨y::l,rfl,?_⟩
   intro z hz
   rcases aA.1 hz with rfl|hz
   ·exact hy
   ·exact hl z hz
theorem CE {α:Type} {f:α→PV} {G:α→Prop} {i e b:Nat} (he:∀p,Sh D e p→∃x,p=f x∧G x) (hD:D i = .slice e b) (hb:0<b) (p:PV) (h:Sh D i p):∃l:List α,p = .list false (l.map f)∧l.length≤140737488351232∧∀x∈l,G x:=by
 obtain⟨es,rfl,_,hl,hs⟩:=Sh.inv_slice hD h
 obtain⟨l,rfl,h1⟩:=all_map es λx hx=>he x (hs x hx)
 rw[aG] at hl
 exact⟨l,rfl,aD (Nat.le_mul_of_pos_right _ hb) hl,h1⟩
theorem FB (p:PV) (h:Sh D 0 p):∃s,p = .str s∧s.length≤9223372036854775807:=by
 obtain⟨s,rfl,hl⟩:=Sh.inv_str (D:=D) rfl h
 exact⟨s,rfl,hl⟩
theorem E0 (p:PV) (h:Sh D 1 p):∃n,p = .int .i64 n∧CP n:=by
 obtain⟨n,rfl,h1,h2⟩:=Sh.inv_int (D:=D) (k := .i64) rfl h
 exact⟨n,rfl,h1,h2⟩
theorem c8e (p:PV) (h:Sh D 13 p):∃b,p = .bool b:=by
 cases h with
 | bool _ b _=>exact⟨b,rfl⟩
 | int _ _ _ h=>cases h
 | str _ _ h=>cases h
 | slice _ _ _ _ h=>cases h
 | struct _ _ _ h=>cases h
theorem RT (p:PV) (h:Sh D 2 p):∃l:List Str,p = .list false (l.map .str)∧l.length≤140737488351232:=by
 obtain⟨l,e,hl,_⟩:=CE FB rfl (by decide) p h
 exact⟨l,e,hl⟩
theorem c8f (p:PV) (h:Sh D 3 p):∃x:Enum,p=yu x∧x.tags.length≤140737488351232:=by
 obtain⟨ps,rfl,hq⟩:=Sh.inv_struct (D:=D) (fs:=[0,2]) rfl h
 match ps,hq with
 | [a, b], ⟨ha, hb, _⟩ =>
   obtain⟨s,rfl,_⟩:=FB a ha
   obtain⟨l,rfl,hl⟩:=RT b hb
   exact⟨⟨s,l⟩,rfl,hl⟩
theorem d5v (p:PV) (h:Sh D 5 p):∃x:On,p=eOn x∧CP x.t:=by
 obtain⟨ps,rfl,hq⟩:=Sh.inv_struct (D:=D) (fs:=[0,1,1]) rfl h
 match ps,hq with
 | [a, b, c], ⟨ha, hb, hc, _⟩ =>
   obtain⟨s,rfl,_⟩:=FB a ha
   obtain⟨n,rfl,hn⟩:=E0 b hb
   obtain⟨m,rfl,_⟩:=E0 c hc
   exact⟨⟨s,n,m⟩,rfl,hn⟩
theorem JS (p:PV) (h:Sh D 7 p):∃x:Decl,p=yi x∧DF x:=by
 obtain⟨ps,rfl,hq⟩:=Sh.inv_struct (D:=D) (fs:=[0,1,6]) rfl h
 match ps,hq with
 | [a, b, c], ⟨ha, hb, hc, _⟩ =>
   obtain⟨s,rfl,hs⟩:=FB a ha
   obtain⟨n,rfl,hn⟩:=E0 b hb
   obtain⟨l,rfl,hl,ho⟩:=CE d5v rfl (by decide) c hc
   exact⟨⟨s,n,l⟩,rfl,⟨hn,by show l.length≤_; omega,hs,ho⟩⟩
theorem c5r:∀(i:Nat) (p:PV),Sh D i p→(i=9→∃x:Expr,p=ye x∧EW x)∧(i=10→∃l:List Expr,p = .list false (l.map ye)∧l.length≤140737488351232∧∀x∈l,EW x):=by
 intro i p h
 induction h with
 | bool i b h=>exact⟨λe=>(by subst e; cases h),λe=>(by subst e; cases h)⟩
 | int i k n h=>exact⟨λe=>(by subst e; cases h),λe=>(by subst e; cases h)⟩
 | str i s h=>exact⟨λe=>(by subst e; cases h),λe=>(by subst e; cases h)⟩
 | slice i e b es h hl hb hs ih =>
   refine⟨λe=>(by subst e; cases h),λhi =>?_⟩
   subst hi
   obtain⟨rfl,rfl⟩:e=9∧b=72:=by cases h; exact⟨rfl,rfl⟩
   obtain⟨l,rfl,h1⟩:=all_map (f:=ye) (G:=EW) es λx hx=>(ih x hx).1 rfl
   rw[aG] at hb
   exact⟨l,rfl,by omega,h1⟩
 | struct i fs ps h hl hs ih =>
   refine⟨λhi =>?_,λe=>(by subst e; cases h)⟩
   subst hi
   obtain rfl:fs=[1,1,1,1,0,10]:=by cases h; rfl
   match ps,hl with
   | [a, b, c, d, e, f], _ =>
     obtain⟨k,rfl,_⟩:=E0 a (hs 0 1 a rfl rfl)
     obtain⟨o,rfl,_⟩:=E0 b (hs 1 1 b rfl rfl)
     obtain⟨t,rfl,ht⟩:=E0 c (hs 2 1 c rfl rfl)
     obtain⟨v,rfl,hv⟩:=E0 d (hs 3 1 d rfl rfl)
     obtain⟨s,rfl,_⟩:=FB e (hs 4 0 e rfl rfl)
     obtain⟨l,rfl,hl,hE⟩:=(ih 5 10 f rfl rfl).2 rfl
     refine⟨.mk k o t v s l,by rw[Dd]; rfl,?_⟩
     intro x hx
     rw[Expr.list_eq] at hx
     rcases aA.1 hx with rfl|hx
     ·exact⟨ht,hv,by show l.length≤_; omega⟩
     ·obtain⟨y,hy,kB⟩:=bV.1 hx
      exact hE y hy x kB
theorem JT (p:PV) (h:Sh D 9 p):∃x:Expr,p=ye x∧EW x:=(c5r 9 p h).1 rfl
theorem RU (p:PV) (h:Sh D 11 p):∃x:Eqn,p=yI x∧QF x:=by
 obtain⟨ps,rfl,hq⟩:=Sh.inv_struct (D:=D) (fs:=[2,9]) rfl h
 match ps,hq with
 | [a, b], ⟨ha, hb, _⟩ =>
   obtain⟨l,rfl,hl⟩:=RT a ha
   obtain⟨x,rfl,hx⟩:=JT b hb
   exact⟨⟨l,x⟩,by rw[Ht]; simp[-MI],⟨by show l.length≤_; omega,hx⟩⟩
theorem RV (p:PV) (h:Sh D 14 p):∃x:Trn,p=zt x∧EW x.cond:=by
 obtain⟨ps,rfl,hq⟩:=Sh.inv_struct (D:=D) (fs:=[9,1,13]) rfl h
 match ps,hq with
 | [a, b, c], ⟨ha, hb, hc, _⟩ =>
   obtain⟨x,rfl,hx⟩:=JT a ha
   obtain⟨n,rfl,_⟩:=E0 b hb
   obtain⟨r,rfl⟩:=c8e c hc
   exact⟨⟨x,n,r⟩,by rw[Hu]; simp[-MJ],hx⟩
theorem c26:∀(i:Nat) (p:PV),Sh D i p→(i=16→∃x:State,p=yD x∧SF x)∧(i=19→∃l:List State,p = .list false (l.map yD)∧l.length≤140737488351232∧∀x∈l,SF x) ∧
  (i=17→∃a:Bc,p=yS a∧(a.length≤140737488351232∧∀x∈a,SF x))∧(i=18→∃l:List Bc,p = .list false (l.map yS)∧AsF l):=by
 intro i p h
 induction h with
 | bool i b h=>exact⟨λe=>(by subst e; cases h),λe=>(by subst e; cases h),λe=>(by subst e; cases h),λe=>(by subst e; cases h)⟩
 | int i k n h=>exact⟨λe=>(by subst e; cases h),λe=>(by subst e; cases h),λe=>(by subst e; cases h),λe=>(by subst e; cases h)⟩
 | str i s h=>exact⟨λe=>(by subst e; cases h),λe=>(by subst e; cases h),λe=>(by subst e; cases h),λe=>(by subst e; cases h)⟩
 | slice i e b es h hl hb hs ih =>
   refine⟨λe=>(by subst e; cases h),λhi =>?_,λe=>(by subst e; cases h),λhi =>?_⟩
   ·subst hi
    obtain⟨rfl,rfl⟩:e=16∧b=136:=by cases h; exact⟨rfl,rfl⟩
    obtain⟨l,rfl,h1⟩:=all_map (f:=yD) (G:=SF) es λx hx=>(ih x hx).1 rfl
    rw[aG] at hb
    exact⟨l,rfl,by omega,h1⟩
   ·subst hi
    obtain⟨rfl,rfl⟩:e=17∧b=24:=by cases h; exact⟨rfl,rfl⟩
    obtain⟨l,rfl,h1⟩:=all_map (f:=yS) (G:=λa=>a.length≤140737488351232∧∀x∈a,SF x) es λx hx=>(ih x hx).2.2.1 rfl
    rw[aG] at hb
    exact⟨l,rfl,⟨by omega,λa ha=>by have:=(h1 a ha).1; omega,λa ha=>(h1 a ha).2⟩⟩
 | struct i fs ps h hl hs ih =>
   refine⟨λhi =>?_,λe=>(by subst e; cases h),λhi =>?_,λe=>(by subst e; cases h)⟩
   ·subst hi
    obtain rfl:fs=[0,8,12,18,15,15]:=by cases h; rfl
    match ps,hl with
    | [a, b, c, d, e, f], _ =>
      obtain⟨n,rfl,_⟩:=FB a (hs 0 0 a rfl rfl)
      obtain⟨l,rfl,h1,h2⟩:=CE JS rfl (by decide) b (hs 1 8 b rfl rfl)
      obtain⟨q,rfl,h3,h4⟩:=CE RU rfl (by decide) c (hs 2 12 c rfl rfl)
      obtain⟨au,rfl,h5⟩:=(ih 3 18 d rfl rfl).2.2.2 rfl
      obtain⟨u,rfl,h6,h7⟩:=CE RV rfl (by decide) e (hs 4 15 e rfl rfl)
      obtain⟨w,rfl,h8,h9⟩:=CE RV rfl (by decide) f (hs 5 15 f rfl rfl)
      exact⟨.mk n l q au u w,by rw[De]; rfl,.mk _ (by show l.length≤_; omega) h2 (by show q.length≤_; omega) h4 (by show u.length≤_; omega) h7 (by show w.length≤_; omega) h9 h5.len h5.as h5.ss⟩
   ·subst hi
    obtain rfl:fs=[19]:=by cases h; rfl
    match ps,hl with
    | [a], _ =>
      obtain⟨l,rfl,h1,h2⟩:=(ih 0 19 a rfl rfl).2.1 rfl
      exact⟨l,rfl,h1,h2⟩
theorem c8g (p:PV) (h:Sh D 20 p):∃x:Node,p=yx x∧NF x:=by
 obtain⟨ps,rfl,hq⟩:=Sh.inv_struct (D:=D) (fs:=[0,8,8,8,12,18,10,10]) rfl h
 match ps,hq with
 | [a, b, c, d, e, f, g, k], ⟨ha, hb, hc, hd, he, hf, hg, hk, _⟩ =>
   obtain⟨n,rfl,_⟩:=FB a ha
   obtain⟨i,rfl,i1,i2⟩:=CE JS rfl (by decide) b hb
   obtain⟨o,rfl,o1,o2⟩:=CE JS rfl (by decide) c hc
   obtain⟨l,rfl,l1,l2⟩:=CE JS rfl (by decide) d hd
   obtain⟨q,rfl,q1,q2⟩:=CE RU rfl (by decide) e he
   obtain⟨au,rfl,a1⟩:=(c26 18 f hf).2.2.2 rfl
   obtain⟨s,rfl,s1,s2⟩:=CE JT rfl (by decide) g hg
   obtain⟨r,rfl,r1,r2⟩:=CE JT rfl (by decide) k hk
   exact⟨⟨n,i,o,l,q,au,s,r⟩,rfl,⟨by show i.length≤_; omega,i2,by show o.length≤_; omega,o2,by show l.length≤_; omega,l2,by show q.length≤_; omega,q2,a1,by show s.length≤_; omega,s2,by show r.length≤_; omega,r2⟩⟩
theorem c8h (p:PV) (h:Sh D 22 p):∃x:Prog,p=zh x∧PF x:=by
 obtain⟨ps,rfl,hq⟩:=Sh.inv_struct (D:=D) (fs:=[4,21]) rfl h
 match ps,hq with
 | [a, b], ⟨ha, hb, _⟩ =>
   obtain⟨e,rfl,e1,e2⟩:=CE c8f rfl (by decide) a ha
   obtain⟨n,rfl,n1,n2⟩:=CE c8g rfl (by decide) b hb
   exact⟨⟨e,n⟩,rfl,⟨by show e.length≤_; omega,λu hu=>by have:=e2 u hu; omega,by show n.length≤_; omega,n2⟩⟩
theorem DF.dw {d:Decl} (h:DF d) (hp:d.parts≤1100000):DW d:=⟨h.type,by unfold Decl.parts at hp; omega,h.on⟩
theorem QF.qw {q:Eqn} (h:QF q) (hp:q.parts≤1100000):QW q:=⟨by unfold Eqn.parts at hp; omega,⟨by unfold Eqn.parts at hp; omega,h.right⟩⟩
theorem CU {α:Type} (f:α→Nat) (h1:∀x,1≤f x) {l:List α} (h:yr f l≤1100000):l.length≤1100000∧∀x∈l,f x≤1100000:=
 ⟨aD (JI f h1 l) h,λx hx=>aD (D9 f hx) h⟩
theorem JU (d:Decl):1≤d.parts:=by unfold Decl.parts; omega
theorem RW (q:Eqn):1≤q.parts:=by unfold Eqn.parts; omega
theorem RX (t:Trn):1≤t.parts:=by unfold Trn.parts; omega
theorem d18 (s:State):1≤s.parts:=by cases s; simp only[State.parts]; omega
theorem RY {l:List (List State)} (h:B0 l≤1100000):l.length≤1100000∧(∀a∈l,a.length≤1100000)∧∀a∈l,∀x∈a,x.parts≤1100000:=by
 rw[GV] at h
 obtain⟨h1,h2⟩:=CU (λa:List State=>1+yr State.parts a) (λa=>by omega) h
 refine⟨h1,λa ha =>?_,λa ha x hx =>?_⟩
 ·have:1+yr State.parts a≤1100000:=h2 a ha
  have h3:=JI State.parts d18 a
  omega
 ·have:1+yr State.parts a≤1100000:=h2 a ha
  have h3:=D9 State.parts hx
  omega
theorem SF.sw {s:State} (h:SF s) (hp:s.parts≤1100000):SW s:=by
 induction s using State.ind with
 | h s ih =>
   have e:=State.parts_eq s
   obtain⟨a1,a2⟩:=CU Decl.parts JU (l:=s.locals) (by omega)
   obtain⟨b1,b2⟩:=CU Eqn.parts RW (l:=s.eqs) (by omega)
   obtain⟨c1,c2⟩:=CU Trn.parts RX (l:=s.unl) (by omega)
   obtain⟨d1,d2⟩:=CU Trn.parts RX (l:=s.til) (by omega)
   obtain⟨e1,e2,e3⟩:=RY (l:=s.autos) (by omega)
   exact .mk s a1 (λd hd=>(h.ls d hd).dw (a2 d hd)) b1 (λq hq=>(h.es q hq).qw (b2 q hq)) c1 (λt ht=>⟨by have:=c2 t ht; unfold Trn.parts at this; omega,h.us t ht⟩) d1 (λt ht=>⟨by have:=d2 t ht; unfold Trn.parts at this; omega,h.ts t ht⟩) e1 e2 (λa ha x hx=>ih a ha x hx (h.ss a ha x hx) (e3 a ha x hx))
theorem NF.nw {n:Node} (h:NF n) (hp:n.parts≤1100000):NW n:=by
 have e:n.parts=1+yr Decl.parts n.ins+yr Decl.parts n.outs+yr Decl.parts n.locals+yr Eqn.parts n.eqs+yr (λe=>1+Expr.parts e) n.assume+yr (λe=>1+Expr.parts e) n.ensure+B0 n.autos:=rfl
 obtain⟨a1,a2⟩:=CU Decl.parts JU (l:=n.ins) (by omega)
 obtain⟨b1,b2⟩:=CU Decl.parts JU (l:=n.outs) (by omega)
 obtain⟨c1,c2⟩:=CU Decl.parts JU (l:=n.locals) (by omega)
 obtain⟨d1,d2⟩:=CU Eqn.parts RW (l:=n.eqs) (by omega)
 obtain⟨f1,f2⟩:=CU (λe=>1+Expr.parts e) (λx=>by omega) (l:=n.assume) (by omega)
 obtain⟨g1,g2⟩:=CU (λe=>1+Expr.parts e) (λx=>by omega) (l:=n.ensure) (by omega)
 obtain⟨e1,e2,e3⟩:=RY (l:=n.autos) (by omega)
 exact⟨a1,λd hd=>(h.is d hd).dw (a2 d hd),b1,λd hd=>(h.os d hd).dw (b2 d hd),c1,λd hd=>(h.ls d hd).dw (c2 d hd),d1,λq hq=>(h.es q hq).qw (d2 q hq),⟨e1,e2,λa ha x hx=>(h.autos.ss a ha x hx).sw (e3 a ha x hx)⟩,
  f1,λx hx=>⟨by have:1+x.parts≤1100000:=f2 x hx; omega,h.as x hx⟩,g1,λx hx=>⟨by have:1+x.parts≤1100000:=g2 x hx; omega,h.gs x hx⟩⟩
theorem PF.pw {p:Prog} (h:PF p) (hs:parts p≤1100000):PW p:=by
 have jf:=hs
 unfold parts at hs
 obtain⟨a1,a2⟩:=CU Enum.parts (λu=>by unfold Enum.parts; omega) (l:=p.enums) (by omega)
 obtain⟨b1,b2⟩:=CU Node.parts (λu=>by unfold Node.parts; omega) (l:=p.nodes) (by omega)
 exact⟨a1,λu hu=>by have:=a2 u hu; unfold Enum.parts at this; omega,b1,λn hn=>(h.ns n hn).nw (b2 n hn)⟩
theorem CF {α:Type} (g:α→PV) (f:α→Nat) (h:∀x,f x≤wt (g x)):∀l:List α,yr f l≤wts (l.map g)
 | []=>an _
 | x :: l => by
   have:=h x
   have:=CF g f h l
   simp only[yr,az,wts]; omega
theorem JV {α:Type} (g:α→PV) (f:α→Nat):∀l:List α,(∀x∈l,f x≤wt (g x))→yr f l≤wts (l.map g)
 | [],_=>an _
 | x :: l, h => by
   have:=h x (by simp)
   have:=JV g f l (λy hy=>h y (by simp[hy]))
   simp only[yr,az,wts]; omega
theorem JW {α:Type} (g:α→PV) (h:∀x,1≤wt (g x)):∀l:List α,l.length≤wts (l.map g)
 | []=>an _
 | x :: l => by
   have:=h x
   have:=JW g h l
   simp only[aB,az,wts]; omega
theorem Nr (p:PV):1≤wt p:=by cases p<;>simp[wt]
theorem Ns (e:Expr):e.parts+1≤wt (ye e):=by
 induction e using Expr.ind with
 | h e ih =>
   have h1:=JV ye Expr.parts e.args (λx hx=>by have:=ih x hx; omega)
   rw[parts_eq,Dd]
   simp only[wt,wts]
   omega
theorem JX (d:Decl):d.parts≤wt (yi d):=by
 have h1:=JW eOn (λx=>Nr _) d.clock
 unfold Decl.parts yi
 simp only[wt,wts]
 omega
theorem c8i (u:Enum):u.parts≤wt (yu u):=by
 have h1:=JW PV.str (λx=>Nr _) u.tags
 unfold Enum.parts yu
 simp only[wt,wts]
 omega
theorem RZ (e:Expr):e.parts≤1+wts (e.args.map ye):=by
 have h1:=CF ye Expr.parts (λx=>by have:=Ns x; omega) e.args
 rw[parts_eq]; omega
theorem R0 (q:Eqn):q.parts≤wt (yI q):=by
 have h1:=JW PV.str (λx=>Nr _) q.left
 have h2:=RZ q.right
 unfold Eqn.parts
 rw[Ht]
 simp only[wt,wts]
 omega
theorem R4 (t:Trn):t.parts≤wt (zt t):=by
 have h2:=RZ t.cond
 unfold Trn.parts
 rw[Hu]
 simp only[wt,wts]
 omega
theorem R6 (l:List (List State)) (h:∀a∈l,∀x∈a,x.parts≤wt (yD x)):B0 l≤wts (l.map yS):=by
 rw[GV]
 refine JV yS _ l λa ha =>?_
 have h1:=JV yD State.parts a (h a ha)
 unfold yS
 simp only[wt,wts]
 omega
theorem c5s (s:State):s.parts≤wt (yD s):=by
 induction s using State.ind with
 | h s ih =>
   have h1:=CF yi Decl.parts JX s.locals
   have h2:=CF yI Eqn.parts R0 s.eqs
   have h3:=CF zt Trn.parts R4 s.unl
   have h4:=CF zt Trn.parts R4 s.til
   have h5:=R6 s.autos ih
   rw[State.parts_eq,De]
   simp only[wt,wts]
   omega
theorem c8j (n:Node):n.parts≤wt (yx n):=by
 have h1:=CF yi Decl.parts JX n.ins
 have h2:=CF yi Decl.parts JX n.outs
 have h3:=CF yi Decl.parts JX n.locals
 have h4:=CF yI Eqn.parts R0 n.eqs
 have h5:=R6 n.autos (λ_ _ x _=>c5s x)
 have h6:=CF ye (λe=>1+Expr.parts e) (λx=>by have:=Ns x; omega) n.assume
 have h7:=CF ye (λe=>1+Expr.parts e) (λx=>by have:=Ns x; omega) n.ensure
 unfold Node.parts
 rw[Jy]
 simp only[wt,wts]
 omega
theorem c8k (p:Prog):parts p≤wt (zh p):=by
 have h1:=CF yu Enum.parts c8i p.enums
 have h2:=CF yx Node.parts c8j p.nodes
 unfold parts
 rw[ML]
 simp only[wt,wts]
 omega
end PI.Sc
set_option linter.unusedSimpArgs false
set_option linter.unusedVariables false
namespace PI
open Go Go.RowKit Go.Shelf Go.Proofs
section
variable {N:Nm} {P:Program} {ρ:Ren}
theorem TU {w w':World} {G:GS} (h:Below w.heap.size w w') (fG:∀b o,G.fix b o→b<w.heap.size):Ext w G w' G:=
 ⟨h.os,h.tape,h.output,h.size,λb hb _=>h.block b hb,λb o hf=>⟨hf,by simp only[World.cell?,h.block b (fG b o hf)]⟩,λ_ _ h => .inl h,λ_ h => .inr h,λ_ _ h=>h,.same λk hk=>h.block k hk,rfl⟩
theorem b6k {w w':World} {G:GS} {hp:List PObj} (h:Below w.heap.size w w') (hb:Between N w G hp):Between N w' G hp:=by
 refine⟨hb.only,λb o hf=>aT (hb.fixlt b o hf) h.size,λb k ho=>aT (hb.owlt b k ho) h.size,?_,hb.hdom⟩
 exact hb.heap.keep (K:=λ_=>False) (TU h hb.fixlt) ⟨λb k ho _=>⟨ho,h.block b (hb.owlt b k ho),λ_ h=>h⟩,λ_ _ h=>h⟩ (λ_ _ h=>h)
theorem c3N {k:Nat} {vals:Array Value} {w:World} {G:GS} {hp:List PObj} {r:PV} (hb:Between N w G hp) {R:Ending→World→Prop} (hc:Calls P (N.fn k) vals w R)
  (hR:∀e w',R e w'→∃v,e = .returned v∧VR N w' G.fix G.heap v r∧Below w.heap.size w w'):
  Calls P (N.fn k) vals w λe w'=>∃v G',e = .returned v∧VR N w' G'.fix G'.heap v r∧Ext w G w' G'∧Between N w' G' hp:=by
 refine hc.mono ?_
 intro e w' h
 obtain⟨v,rfl,h1,h2⟩:=hR e w' h
 exact⟨v,G,rfl,h1,TU h2 hb.fixlt,b6k h2 hb⟩
theorem two {vals:Array Value} {p q:PV} {w:World} {G:GS} (dc:vals.size=[p,q].length) (cZ:∀(i:Nat) (v:Value) (x:PV),vals[i]? = some v→[p,q][i]? = some x→VR N w G.fix G.heap v x):
  ∃v u,vals = #[v,u]∧VR N w G.fix G.heap v p∧VR N w G.fix G.heap u q:=by
 obtain⟨l⟩:=vals
 match l,dc with
 | [v,u],_=>exact⟨v,u,rfl,cZ 0 v p rfl rfl,cZ 1 u q rfl rfl⟩
theorem c1P {w:World} {fix:Nat→Nat→Prop} {hp:Nat→Option Nat} {v:Value} {s:List UInt8} (h:VR N w fix hp v (.str s)):v = .string ⟨s.toArray⟩:=by
 cases h with
 | str s=>cases s; simp
theorem b7U {k:Nat} (hk:N.fn k=ρ.f 217) (L:Lays.n217 P ρ):EG N P k Jm:=by
 intro args r h h' hg w G vals dW dc cZ
 unfold Jm at hg
 split at hg
 ·simp only[aa,ac] at hg
  obtain⟨rfl,rfl⟩:=hg
  obtain⟨v,u,rfl,hv,hu⟩:=two dc cZ
  have:=c1P hv; subst this
  cases hu
  refine c3N dW (hk▸Any.stringslite_IndexByte L _ _ w) ?_
  rintro e w' ⟨rfl,rfl⟩
  exact⟨_,rfl,by simpa using VR.int (N:=N) (w:=w') (fix:=G.fix) (hp:=G.heap) _ _,Below.refl _ _⟩
 ·simp at hg
end
end PI
set_option linter.unusedSimpArgs false
set_option linter.unusedVariables false
namespace PI
open Go Go.RowKit Go.Shelf Go.Proofs Go.Sort
section
variable {N:Nm} {P:Program} {ρ:Ren}
theorem TV:∀{cs:List PV} {zs:List Int},Fs cs=some zs→cs=zs.map (PV.int .i64)
 | [],zs,h=>by simp[Fs] at h; subst h; rfl
 | e :: es, zs, h => by
   unfold Fs at h
   split at h
   ·rename_i h0; simp at h0
   ·rename_i n r h0
    simp only[bJ] at h0
    obtain⟨rfl,rfl⟩:=h0
    simp only[ab] at h
    obtain⟨ys,h1,rfl⟩:=h
    rw[TV h1]; rfl
   ·simp at h
theorem TW {w:World} {fix:Nat→Nat→Prop} {hp:Nat→Option Nat}:VR N w fix hp (.tuple #[]) (.tuple []) := .tuple _ _ rfl (by intro i c p hc hp; simp at hc)
theorem c8J {k:Nat} (hk:N.fn k=ρ.f 189) (L:Lays.n189 P ρ):EG N P k Fj:=by
 intro args r h h' hg w G vals dW dc cZ
 unfold Fj at hg
 split at hg
 ·rename_i n len
  split at hg
  ·rename_i cs dS
   split at hg
   ·rename_i cS
    simp only[ab,ac] at hg
    obtain⟨zs,ia,rfl,rfl⟩:=hg
    rw[c3M]
    have hz:=TV ia
    have ka:zs.length=len:=by
     have:=aI List.length hz
     simp at this; omega
    obtain⟨l⟩:=vals
    match l,dc with
    | [v],_=>
    have hv:=cZ 0 v _ rfl rfl
    cases hv with
    | rowp _ _ _ _ b cap hb db ec=>
    rcases dW.heap.1 n _ dS with hx|⟨b',k1,k2,f,cv,T,a1,a2,a3⟩
    ·simp at hx
    have:b'=b:=by rw[hb] at k1; simpa using k1.symm
    subst this
    have gf:b'<w.heap.size:=(aZ.1 a1).1
    have lv:cv.toList.take zs.length=zs.map (Value.int .i64):=by
     apply bK
     intro j
     by_cases hj:j<zs.length
     ·rw[cy hj,ci]
      have h1:cs[j]? = some (.int .i64 zs[j]):=by
       have:=aI (λl=>l[j]?) hz
       simp only[aF,am hj,aH] at this
       rw[cy (by omega)] at this
       exact this
      have ov:j<cv.size:=by omega
      have h2:=(a3 j cv[j] _ (by simp[ov]) h1).1
      generalize cv[j]'ov=c at h2
      have h3:cv[j]? = some cv[j]:=by simp[ov]
      have h4:=(a3 j cv[j] _ (by simp[ov]) h1).1
      generalize hc:cv[j]=c4 at h4 h3
      cases h4
      rw[h3]
      simp[hj]
     ·rw[List.getElem?_take_eq_none (by omega),cG (by simp; omega)]
    have hH:=holds_of_blockI a1 lv
    have hc:=Any.slices_Sort_int L b' 0 cap zs w hH gf (by rw[ka]; exact cS.2)
    rw[ka] at hc
    refine(hk▸hc).mono ?_
    rintro e w' ⟨rfl,m,os,rfl⟩
    let ts:=zs.mergeSort λx y=>decide (x≤y)
    have pH:ts.length=len:=by rw[← ka]; exact List.length_mergeSort _
    have qL:=grownBy_sortedI (w:=w) (g:=b') (n:=m) (os:=os) ts.toArray
    have mt:=heap_sortedI (n:=m) (os:=os) ts.toArray a1
    generalize gA:grow (putRow (Value.int .i64) (Sort.ahead w m) b' 0 ts.toArray) os=w' at qL mt
    obtain⟨g1,g2,g3,g4,g5⟩:=qL
    have gV:∀x,x<w.heap.size→x≠b'→w'.heap[x]? = w.heap[x]? := λx hx da=>g5 x hx (by simpa using da)
    have eG:(putCells (Value.int .i64) 0 ts.toArray cv).size=cv.size:=by simp[putCells]
    have jA:ShapeLe w w' := .one b' (λx hx da=>gV x hx da) (λs hs=>by
     simp only[World.shape?,a1] at hs
     simp only[World.shape?,mt,eG]
     exact hs) (λs hs=>by rw[Oo a1] at hs; simp at hs)
    have cR:Ext w G w' G:=by
     refine⟨g1,g2,g3,g4,?_,?_,λ_ _ h => .inl h,λ_ h => .inr h,λ_ _ h=>h,jA,rfl⟩
     ·intro x hx ho
      exact gV x hx (by rintro rfl; rw[k2] at ho; simp at ho)
     ·intro x o hf
      refine⟨hf,?_⟩
      have da:x≠b':=by rintro rfl; exact f o hf
      simp only[World.cell?,gV x (dW.fixlt x o hf) da]
    have cU:zo (λk=>k = .hobj n) w G w' G:=by
     refine⟨?_,λ_ _ h=>h⟩
     intro x kx hx da
     refine⟨hx,gV x (dW.owlt x kx hx) ?_,λ_ h=>h⟩
     rintro rfl
     rw[k2] at hx
     simp only[aa] at hx
     exact da hx.symm
    refine⟨_,G,rfl,TW,cR,?_⟩
    refine⟨dW.only,λx o hf=>aT (dW.fixlt x o hf) g4,λx kx hx=>aT (dW.owlt x kx hx) g4,?_,λm x hx=>by simpa using dW.hdom m x hx⟩
    refine dW.heap.keepBut cR cU (by intro n' k' da; simp[da]) ?_
    intro je
    refine .inr ⟨b',hb,k2,f,_,T,mt,?_,?_⟩
    ·rw[eG]
     have h0:=cS.1
     simp only[ap,aG,cg]
     show ts.length+_≤_
     omega
    ·intro j c x hc hx
     have lP:j<cv.size:=by rw[← eG]; exact(aZ.1 hc).1
     by_cases hj:j<len
     ·have lQ:j<ts.length:=by omega
      rw[al (by rw[aG]; exact lQ)] at hx
      simp only[aF,ab] at hx
      obtain⟨z,fA,rfl⟩:=hx
      have fA:ts[j]? = some z:=fA
      have:c = .int .i64 z:=by
       simp[putCells,lP,lQ] at hc
       rw[am lQ] at fA
       simp only[aa] at fA
       rw[← hc,fA]
      subst this
      exact⟨.int _ _,rfl,True.intro⟩
     ·have lQ:ts.length≤j:=by omega
      rw[aq (by rw[aG]; exact lQ)] at hx
      simp only[aG,bi] at hx
      have hx:cs[len+(j - ts.length)]? = some x:=hx
      rw[show len+(j - ts.length)=j by omega] at hx
      have gO:cv[j]? = some c:=by
       simp[putCells,lP,show ¬j<ts.length by omega] at hc
       simp[lP,hc]
      exact(a3 j c x gO hx).keep cR cU (by simp)
   ·simp at hg
  ·simp at hg
 ·rename_i o
  simp only[aa,ac] at hg
  obtain⟨rfl,rfl⟩:=hg
  obtain⟨l⟩:=vals
  match l,dc with
  | [v],_=>
  have hv:=cZ 0 v _ rfl rfl
  obtain⟨p,cap,rfl⟩:∃p cap,v = .slice p 0 cap:=by
   cases hv with
   | nils=>exact⟨none,0,rfl⟩
   | void _ a cap=>exact⟨some a,cap,rfl⟩
   | list _ b off len cap sz _ cv cS db _ _ _ _=>simp at cS; subst cS; exact⟨_,cap,rfl⟩
  refine(hk▸Any.slices_Sort_int_none L p cap w).mono ?_
  rintro e w' ⟨rfl,rfl⟩
  exact⟨_,G,rfl,TW,Ext.refl _ _,dW⟩
 ·simp at hg
end
end PI
