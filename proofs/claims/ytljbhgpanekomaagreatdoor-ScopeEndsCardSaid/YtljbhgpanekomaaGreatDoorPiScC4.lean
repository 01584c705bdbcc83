import Derived.Test.YtljbhgpanekomaaGreatDoorPiScRun28
import Derived.Test.YtljbhgpanekomaaGreatDoorPiScLaw1
set_option maxRecDepth 100000
set_option linter.unusedSimpArgs false
set_option linter.unusedVariables false
set_option linter.unusedSectionVars false
namespace PI.Sc
open Go (IntKind BinOp UnOp)
open Short
theorem TopAt.low {h:List PObj} {b b' n o d:Nat} {i dv up:PV} {f:Fr} (t:TopAt h b b' n o d i dv up f []) (k:Nat) (hk:k<4) (ob:PObj):TopAt (h.set k ob) b b' n o d i dv up f []:=by
 have key:∀j,4≤j→(h.set k ob)[j]? = h[j]? := λj hj=>List.getElem?_set_ne (by omega)
 have h4:=t.four
 exact⟨t.ln,t.lo,t.ld,t.un,t.uo,t.ud,t.no,t.nd,t.od,t.four,(key _ (by have:=t.ln; omega)).trans t.hn,(key _ (by have:=t.lo; omega)).trans t.ho,(key _ (by have:=t.ld; omega)).trans t.hd,t.hi.imp id (fun⟨m,e1,e2,e3,e4,e5,e6,e7⟩=>⟨m,e1,e2,e3,e4,e5,e6,(key _ (by omega)).trans e7⟩),t.row.imp id (fun⟨k,e1,e2,e3,e4⟩=>⟨k,e1,e2,e3,(key _ (by omega)).trans e4⟩),t.rne,t.hup⟩
def b61 (ents:a78) (ns:List Node) (i:Nat):Prop:=∀x,((1:Int),x)∈b1T ents↔x∈(ns.take i).map (·.name)
section
variable {L:Nat→Option PFunc} (hL:∀k f,LS k=some f→L k=some f) (en:List Enum) (ns:List Node) (a b:Int) (ents:a78)
include hL
theorem c29 (i:Nat) (hi:i<ns.length) (hns:ns.length≤1500) (hn:NW ns[i]) (hnp:ns[i].parts≤1500) (hport:∀d∈ns[i].ins++ns[i].outs,d.clock=[]) (tags:List Str) (htg:a7E ents tags) (hnd:NodesIn ents ns i) (hky:b61 ents ns i) (h:List PObj) (h4:4≤h.length) (h2:h[2]? = some (a0s ents)) (h3:h[3]? = some (a0f en ns a b)):
  ∃h',a3b L 29 [.ptr 3 0,.int .i64 i] h=some (a8h 1 (a79 (ns.take i) tags ns[i]),h')∧h'[0]? = h[0]?∧h'[1]? = h[1]?∧4≤h'.length∧(a79 (ns.take i) tags ns[i]=none→h'[2]? = some (a0s (ents++[((1,ns[i].name),(i:Int))]))∧h'[3]? = some (a0f en ns i (-1))):=by
 obtain⟨N,hN⟩:∃N,N=ns[i]:=⟨_,rfl⟩
 rw[← hN] at hn hnp hport ⊢
 have hlen:(ns.take i).length=i:=by simp; omega
 obtain⟨R,hR⟩:∃R,R=a79 (ns.take i) tags N:=⟨_,rfl⟩
 rw[← hR]
 suffices H:∃res,a3b L 29 [.ptr 3 0,.int .i64 i] h=some res∧∃h',res=(a8h 1 R,h')∧h'[0]? = h[0]?∧h'[1]? = h[1]?∧4≤h'.length∧(R=none→h'[2]? = some (a0s (ents++[((1,N.name),(i:Int))]))∧h'[3]? = some (a0f en ns i (-1))) by
  obtain⟨res,e1,h',e2,e3⟩:=H
  exact⟨h',by rw[e1,e2],e3⟩
 have h3e:h[3]? = some (.cells [.list false (en.map a0U),.list false (ns.map a1B),.int .i64 a,.int .i64 b,.map (some 2)]):=h3
 have hA:∀X:PObj,(h++[X])[3]? = some (.cells [.list false (en.map a0U),.list false (ns.map a1B),.int .i64 a,.int .i64 b,.map (some 2)]):=λX=>by rw[List.getElem?_append_left (by omega)]; exact h3e
 obtain⟨H1,hH1⟩:∃H1,(h++[PObj.cells [.str N.name,.list false (N.ins.map a0B),.list false (N.outs.map a0B),.list false (N.locals.map a0B),.list false (N.eqs.map a5E),.list false (N.autos.map a1H),.list false (N.assume.map a0u),.list false (N.ensure.map a0u)]]).set 3 (PObj.cells [.list false (en.map a0U),.list false (ns.map a1B),.int .i64 i,.int .i64 (-1),.map (some 2)])=H1:=⟨_,rfl⟩
 have H1l:H1.length=h.length+1:=by rw[← hH1]; simp
 have H1k:∀k,k<h.length→k≠3→H1[k]? = h[k]? := λk h1 h2=>by rw[← hH1,List.getElem?_set_ne (Ne.symm h2),List.getElem?_append_left h1]
 have H13:H1[3]? = some (a0f en ns i (-1)):=by rw[← hH1,List.getElem?_set_self (by simp; omega)]; rfl
 have H12:H1[2]? = some (a0s ents):=(H1k 2 (by omega) (by decide)).trans h2
 have H1n:H1[h.length]? = some (.cells [.str N.name,.list false (N.ins.map a0B),.list false (N.outs.map a0B),.list false (N.locals.map a0B),.list false (N.eqs.map a5E),.list false (N.autos.map a1H),.list false (N.assume.map a0u),.list false (N.ensure.map a0u)]):=by rw[← hH1,List.getElem?_set_ne (by omega)]; simp
 have hdecl:∀d∈vars N,DW d:=by
  intro d hd
  unfold vars at hd
  rcases List.mem_append.1 hd with hd|hd
  ·rcases List.mem_append.1 hd with hd|hd
   ·exact hn.is d hd
   ·exact hn.os d hd
  ·exact hn.ls d hd
 have hvl:(vars N).length≤4500:=by have:=hn.ins; have:=hn.outs; have:=hn.locals; simp[vars]; omega
 by_cases hdup:N.name∈(ns.take i).map (·.name)
 ·have hRv:R=some ⟨i,-1,7⟩:=by rw[hR]; unfold a79; rw[if_pos hdup,hlen]
  have hadd:=a9U hL en ns i (-1) H1 H13 ents H12 (1,N.name) i ((hky _).2 hdup)
  have hkk:b2Y (1,N.name) = .agg [.int .i64 1,.str N.name]:=rfl
  rw[hkk] at hadd
  refine a4w (hL 29 _ rfl) rfl ?_
  simp[a1L,h3e,hi,← hN,hA,hH1,H1n,hadd,hRv,a8h]
  exact⟨H1k 0 (by omega) (by decide),H1k 1 (by omega) (by decide),by omega⟩
 have hadd:=a9V hL en ns i (-1) H1 H13 ents H12 (1,N.name) i (λhh=>hdup ((hky _).1 hh))
 have hkk:b2Y (1,N.name) = .agg [.int .i64 1,.str N.name]:=rfl
 rw[hkk] at hadd
 obtain⟨ents',hents⟩:∃e,e=ents++[((1,N.name),(i:Int))]:=⟨_,rfl⟩
 rw[← hents] at hadd ⊢
 obtain⟨H3,hH3⟩:∃H3,H3=H1.set 2 (a0s ents'):=⟨_,rfl⟩
 rw[← hH3] at hadd
 have H3l:H3.length=h.length+1:=by rw[hH3]; simpa using H1l
 have H3k:∀k,k<H1.length→k≠2→H3[k]? = H1[k]? := λk h1 h2=>by rw[hH3,List.getElem?_set_ne (Ne.symm h2)]
 have H32:H3[2]? = some (a0s ents'):=by rw[hH3,List.getElem?_set_self (by omega)]
 have H33:H3[3]? = some (a0f en ns i (-1)):=(H3k 3 (by omega) (by decide)).trans H13
 have H3n:=(H3k h.length (by omega) (by omega)).trans H1n
 have H30:H3[0]? = h[0]? := (H3k 0 (by omega) (by decide)).trans (H1k 0 (by omega) (by decide))
 have H31:H3[1]? = h[1]? := (H3k 1 (by omega) (by decide)).trans (H1k 1 (by omega) (by decide))
 have htg':a7E ents' tags:=by
  intro x
  rw[hents,← htg x]
  simp[b1T]
 have hnd':NodesIn ents' ns i:=by
  have hent:∀x:Str,a4K (1,x) ents'=(a4K (1,x) ents).or (if x=N.name then some (i:Int) else none):=by
   intro x
   rw[hents]
   generalize ents=l
   induction l with
   | nil=>by_cases hx:x=N.name<;>simp[a4K,hx]
   | cons y l ih =>
     simp only[List.cons_append,a4K]
     by_cases hy:((1:Int),x)=y.1
     ·rw[if_pos hy,if_pos hy]; rfl
     ·rw[if_neg hy,if_neg hy]; exact ih
  intro x
  have hx:=hnd x
  cases hc:callee (ns.take i) x with
  | none =>
    rw[hc] at hx
    simp only at hx ⊢
    intro c hcc
    rw[hent] at hcc
    cases he:a4K (1,x) ents with
    | some z =>
      rw[he] at hcc
      have hcc:z=c:=by simpa using hcc
      subst hcc
      exact hx z he
    | none =>
      rw[he] at hcc
      rw[Option.none_or] at hcc
      split at hcc
      ·have:(i:Int)=c:=by simpa using hcc
       omega
      ·simp at hcc
  | some m =>
    rw[hc] at hx
    obtain⟨j,e1,e2,e3⟩:=hx
    exact⟨j,by rw[hent,e1]; rfl,e2,e3⟩
 obtain⟨H4,hin,H4l,K4,t4⟩:=b4G hL H3 (by omega)
 obtain⟨H5,hH5⟩:∃H5,(H4++[PObj.map []]).set (H3.length+2) (PObj.cells [.nilptr,.map (some H3.length),.map (some (H3.length+1)),.map (some H4.length),.list true []])=H5:=⟨_,rfl⟩
 have e5:(H4++[PObj.map []])[H3.length+2]? = some (.cells [.nilptr,.map (some H3.length),.map (some (H3.length+1)),.map none,.list true []]):=by rw[List.getElem?_append_left (by omega)]; exact t4.hn
 have t5:=t4.newI rfl rfl
 rw[hH5] at t5
 have H5l:H5.length=H4.length+1:=by rw[← hH5]; simp
 rw[← H5l] at t5
 have K5:Kp H3.length H3 H5:=by
  refine⟨by omega,λk hk =>?_⟩
  rw[← hH5,List.getElem?_set_ne (by omega),List.getElem?_append_left (by omega)]
  exact K4.2 k hk
 have at5:∀{H:List PObj},Kp H3.length H3 H→H[2]? = some (a0s ents')∧H[3]? = some (a0f en ns i (-1))∧H[0]? = h[0]?∧H[1]? = h[1]?∧4≤H.length∧H[h.length]? = some (.cells [.str N.name,.list false (N.ins.map a0B),.list false (N.outs.map a0B),.list false (N.locals.map a0B),.list false (N.eqs.map a5E),.list false (N.autos.map a1H),.list false (N.assume.map a0u),.list false (N.ensure.map a0u)]):=λ{H} hk=>
  ⟨(hk.2 2 (by omega)).trans H32,(hk.2 3 (by omega)).trans H33,(hk.2 0 (by omega)).trans H30,(hk.2 1 (by omega)).trans H31,by have:=hk.1; omega,(hk.2 _ (by omega)).trans H3n⟩
 obtain⟨a52,a53,a50,a51,a54,a5n⟩:=at5 K5
 obtain⟨hv,v1⟩:=c3u hL N hn.ins hn.outs hn.locals (λd hd=>(hdecl d hd).clock)
 obtain⟨H6,O,hdc,K6,H6l,t6,hok6⟩:=b2Z hL en ns i (-1) ents' tags htg' (vars N) hvl false H5 a52 a53 _ _ _ _ _ _ _ _ _ _ t5 [] (λx=>by simp[a6u])
 have K6':=K5.trans K6
 obtain⟨a62,a63,a60,a61,a64,a6n⟩:=at5 K6'
 have hE:a79 (ns.take i) tags N=if (a1n [] tags (vars N)).1≠0 then some ⟨i,-1,(a1n [] tags (vars N)).1⟩ else match a5C ⟨ns.take i,(a1n [] tags (vars N)).2,a0b N.ins,tags⟩ N.eqs 0 [] with
   | .inl (k,e)=>some ⟨i,k,e⟩
   | .inr d =>
     if (a1c ⟨ns.take i,(a1n [] tags (vars N)).2,a0b N.ins,tags⟩ d N.autos).1≠0 then some ⟨i,-1,(a1c ⟨ns.take i,(a1n [] tags (vars N)).2,a0b N.ins,tags⟩ d N.autos).1⟩
     else if a0d (λe=>a2r ⟨ns.take i,a0b N.ins,a0b N.ins,tags⟩ e 1) N.assume≠0 then some ⟨i,-1,a0d (λe=>a2r ⟨ns.take i,a0b N.ins,a0b N.ins,tags⟩ e 1) N.assume⟩
     else if a0d (λe=>a2r ⟨ns.take i,a0b N.ins++a0b N.outs,a0b N.ins,tags⟩ e 1) N.ensure≠0 then some ⟨i,-1,a0d (λe=>a2r ⟨ns.take i,a0b N.ins++a0b N.outs,a0b N.ins,tags⟩ e 1) N.ensure⟩
     else if a0M (a0b N.outs++a0b N.locals) (a1c ⟨ns.take i,(a1n [] tags (vars N)).2,a0b N.ins,tags⟩ d N.autos).2=[] then none else some ⟨i,-1,8⟩:=by
  unfold a79
  rw[if_neg hdup,hlen]
  rfl
 rw[hE] at hR
 refine a4w (hL 29 _ rfl) rfl ?_
 by_cases hz6:(a27 tags (vars N) []).1=0
 ·obtain⟨hv6,hO6⟩:=hok6 hz6
  obtain⟨vis,hvis⟩:∃vis,vis=(a27 tags (vars N) []).2:=⟨_,rfl⟩
  rw[← hvis] at hv6
  have hsm:=b0s hL en ns i (-1) N.locals (by have:=hn.locals; omega) hn.ls false H6 a63 _ _ _ t6.holds vis hv6
  have hck:a4W vis (vars N)=a4W vis N.locals:=by
   unfold a4W vars
   rw[a8i]
   have:a0d (λd:Decl=>a0d (λo:On=>need (decide (o.name∈vis)) 6) d.clock) (N.ins++N.outs)=0:=a0J.2 λd hd=>by rw[hport d hd]; rfl
   rw[this]; rfl
  have hdz:a1n [] tags (vars N)=(a4W vis N.locals,vis):=by
   unfold a1n a4L
   rw[if_pos hz6,← hvis]
   exact congrArg (λz=>(z,vis)) hck
  rw[hdz] at hR
  rw[hz6] at hdc
  simp[a0z] at hdc
  by_cases hz7:a4W vis N.locals=0
  ·rw[hz7] at hR hsm
   simp only[ne_eq,not_true_eq_false,if_false] at hR
   simp[a0z] at hsm
   obtain⟨S,hS⟩:∃S:Place,S=⟨ns.take i,vis,a0b N.ins,tags⟩:=⟨_,rfl⟩
   rw[← hS] at hR
   simp[a1L,h3e,hi,← hN,hA,hH1,H1n,hadd,hin,e5,hH5,a5n,v1,hdc,a6n,hsm]
   have t6':TopAt H6 H5.length H3.length (H3.length+2) H3.length (H3.length+1) (.map (some H4.length)) (.list true []) .nilptr ⟨O,[],[],[]⟩ []:=t6
   have hparts:N.parts=1+a0h Decl.parts N.ins+a0h Decl.parts N.outs+a0h Decl.parts N.locals+a0h Eqn.parts N.eqs+a0h (λe=>1+Expr.parts e) N.assume+a0h (λe=>1+Expr.parts e) N.ensure+a2E N.autos:=rfl
   have hlp:=a6N N.eqs
   have hdp:=a9W N.autos (λa ha x hx=>a7P x)
   refine b7I hL N.ins hn.ins H6 H5.length H3.length _ _ _ H4.length _ _ _ [] t6' rfl _ _ _ _ _ _ _ _ _ _ _ _ _ _ _ _ _ _ ?_
   intro y4 g7 H7 I H7l K7 t7 hI
   obtain⟨a72,a73,a70,a71,a74,a7n⟩:=at5 (K6'.trans K7)
   have H7l':H5.length=H7.length:=by omega
   rw[H7l'] at t7
   have t7':TopAt H7 H7.length H3.length (H3.length+2) H3.length (H3.length+1) (.map (some H4.length)) (.list true []) .nilptr ⟨O,[],I,[]⟩ []:=t7
   have hsv:∀D df x,a6u [(⟨O,D,I,df⟩:Fr)] x=true↔x∈S.vis:=λD df x=>by have:=hv6 x; rw[hS]; simpa[a6u] using this
   simp[a7n]
   refine b7J hL en ns ents' i hnd' S (by rw[hS]) N.eqs hn.eqs hn.es H7 a72 (-1) a73 H3.length _ _ _ _ _ _ _ t7' (hsv _ _) rfl (λx=>by rw[hS]; exact hI x) (by simp only[List.length_nil]; omega) rfl _ _ _ _ _ _ _ _ _ _ _ _ _ _ _ _ ?_ ?_
   ·intro df hdf y5 y6 g8 H8 c8 dv8 K8 h83 t8
    rw[hdf] at hR
    simp only at hR
    have hdfl:df.length≤1500:=by
     have h1:=((a5M S N.eqs [] df).1 ((a83 S N.eqs 0 [] df).1 hdf)).1
     rw[h1,List.nil_append]; omega
    have h83e:H8[3]? = some (.cells [.list false (en.map a0U),.list false (ns.map a1B),.int .i64 i,.int .i64 c8,.map (some 2)]):=h83
    obtain⟨H9,hH9⟩:∃H9,H8.set 3 (PObj.cells [.list false (en.map a0U),.list false (ns.map a1B),.int .i64 i,.int .i64 (-1),.map (some 2)])=H9:=⟨_,rfl⟩
    have K9:Kp H3.length H7 H9:=by rw[← hH9]; exact K8
    have t9:TopAt H9 H9.length H3.length (H3.length+2) H3.length (H3.length+1) (.map (some H4.length)) dv8 .nilptr ⟨O,df,I,df⟩ []:=by
     have:=t8.low 3 (by decide) (PObj.cells [.list false (en.map a0U),.list false (ns.map a1B),.int .i64 i,.int .i64 (-1),.map (some 2)])
     rw[hH9] at this
     have hl:H8.length=H9.length:=by rw[← hH9]; simp
     rw[hl] at this
     exact this
    obtain⟨a92,a93,a90,a91,a94,a9n⟩:=at5 ((K6'.trans K7).trans K9)
    simp[h83e,hH9,a9n]
    refine b7K hL en ns i (-1) ents' i hnd' S (by rw[hS]) (by rw[hS]; exact htg') N.autos hn.autos.len (λx hx=>c04 hL en ns i (-1) ents' x (hn.autos.as x hx) (hn.autos.ss x hx) (λy hy=>by
     have h1:a8f x≤a2E N.autos:=by
      rw[a7A,a6p]
      have:=a31 (λa=>1+a0h State.parts a) hx
      omega
     have h2:y.parts≤a8f x:=by rw[a6p]; exact a31 _ hy
     omega)) H9 a92 a93 H3.length _ _ _ _ _ _ _ [] t9 (hsv _ _) [] rfl (λx=>by rw[hS]; simp[b2l,hI]) (by simp only; omega) _ _ _ _ _ _ _ _ _ _ _ _ _ _ _ _ ?_ ?_
    ·intro hz h10 dv10 df10 y7 g10 K10 hdf10 t10
     simp only[List.nil_append] at hz hdf10
     have t10':TopAt h10 h10.length H3.length (H3.length+2) H3.length (H3.length+1) (.map (some H4.length)) dv10 .nilptr ⟨O,df10,I,df10⟩ []:=t10
     rw[hz,hdf10] at hR
     simp only[ne_eq,not_true_eq_false,if_false] at hR
     have K10':=((K6'.trans K7).trans K9).trans K10
     obtain⟨a102,a103,a100,a101,a104,a10n⟩:=at5 K10'
     obtain⟨H11,c11,K11⟩:=b4I hL en ns i (-1) ents' i hnd' ⟨ns.take i,a0b N.ins,a0b N.ins,tags⟩ rfl N.assume hn.assume hn.as [N.ins] (by simp) (by simp[a10,a0h]; have:=hn.ins; omega) (λx=>by simp) false false h10 a104 a102 a103
     have hx1:a2t a0B [N.ins]=[.list false (N.ins.map a0B)]:=rfl
     rw[hx1] at c11
     have K11':=K10'.trans (K11.le K10'.1)
     by_cases hz11:a0d (λe=>a2r ⟨ns.take i,a0b N.ins,a0b N.ins,tags⟩ e 1) N.assume=0
     ·rw[hz11] at hR c11
      simp only[not_true_eq_false,if_false] at hR
      simp[a0z] at c11
      obtain⟨a112,a113,a110,a111,a114,a11n⟩:=at5 K11'
      obtain⟨H12,c12,K12⟩:=b4I hL en ns i (-1) ents' i hnd' ⟨ns.take i,a0b N.ins++a0b N.outs,a0b N.ins,tags⟩ rfl N.ensure hn.ensure hn.gs [N.ins,N.outs] (by simp) (by simp[a10,a0h]; have:=hn.ins; have:=hn.outs; omega) (λx=>by simp[a0b]) false false H11 a114 a112 a113
      have hx2:a2t a0B [N.ins,N.outs]=[.list false (N.ins.map a0B),.list false (N.outs.map a0B)]:=rfl
      rw[hx2] at c12
      have K12':=K11'.trans (K12.le K11'.1)
      by_cases hz12:a0d (λe=>a2r ⟨ns.take i,a0b N.ins++a0b N.outs,a0b N.ins,tags⟩ e 1) N.ensure=0
      ·rw[hz12] at hR c12
       simp only[not_true_eq_false,if_false] at hR
       simp[a0z] at c12
       obtain⟨a122,a123,a120,a121,a124,a12n⟩:=at5 K12'
       have t12:=t10'.keep (K11.trans (K12.le K11.1)).2
       have hdr1:N.ins.length≤(vars N).length:=by simp[vars]
       have hdr2:List.drop N.ins.length (List.take (vars N).length (List.map a0B (vars N)))=(N.outs++N.locals).map a0B:=by
        rw[List.take_of_length_le (by simp),← List.map_drop]
        congr 1
        simp[vars]
       obtain⟨G,hG⟩:∃G,G=N.outs++N.locals:=⟨_,rfl⟩
       have hGd:a0b G=a0b N.outs++a0b N.locals:=by rw[hG,a7L hL]
       have hGl:G.length≤4500:=by rw[hG]; have:=hn.outs; have:=hn.locals; simp; omega
       rw[← hG] at hdr2
       rw[← hGd] at hR
       simp[a10n,c11,a11n,c12,a12n,v1,hdr1,hdr2]
       refine b7L hL en ns i (-1) G hGl H12 a123 _ _ _ _ _ _ _ _ _ _ t12 _ _ _ _ _ _ _ _ _ _ _ _ _ _ _ _ _ ?_ ?_
       ·intro hall y8 g'
        rw[if_pos (a2v.2 hall)] at hR
        simp[hR,a8h]
        exact⟨a120,a121,a124,a122,a123⟩
       ·intro hall W g'
        rw[if_neg (λhh=>hall (a2v.1 hh))] at hR
        simp[hR,a8h]
        exact⟨a120,a121,a124⟩
      ·rw[if_pos hz12] at hR
       simp[a0z,hz12] at c12
       simp[a10n,c11,a11n,c12,hR,a8h]
       obtain⟨_,_,b0,b1,b4,_⟩:=at5 K12'
       exact⟨b0,b1,b4⟩
     ·rw[if_pos hz11] at hR
      simp[a0z,hz11] at c11
      simp[a10n,c11,hR,a8h]
      obtain⟨_,_,b0,b1,b4,_⟩:=at5 K11'
      exact⟨b0,b1,b4⟩
    ·intro hz h' W g' K'
     simp only[List.nil_append] at hz
     rw[if_pos hz] at hR
     obtain⟨b2,b3,b0,b1,b4,bn⟩:=at5 (((K6'.trans K7).trans K9).trans K')
     simp[hR,a8h]
     exact⟨b0,b1,b4⟩
   ·intro k e hke W g' H' K'
    rw[hke] at hR
    simp only at hR
    obtain⟨b2,b3,b0,b1,b4,bn⟩:=at5 ((K6'.trans K7).trans K')
    rw[List.getElem?_set_ne (by decide)] at b0 b1
    simp[hR,a8h]
    exact⟨b0,b1,by simpa using b4⟩
  ·simp only[ne_eq,hz7,not_false_eq_true,if_true] at hR
   simp[a0z,hz7] at hsm
   simp[a1L,h3e,hi,← hN,hA,hH1,H1n,hadd,hin,e5,hH5,a5n,v1,hdc,a6n,hsm,hR,a8h]
   exact⟨a60,a61,a64⟩
 ·have hdz:(a1n [] tags (vars N)).1=(a27 tags (vars N) []).1:=by unfold a1n a4L; rw[if_neg hz6]
  rw[hdz,if_pos hz6] at hR
  simp[a0z,hz6] at hdc
  simp[a1L,h3e,hi,← hN,hA,hH1,H1n,hadd,hin,e5,hH5,a5n,v1,hdc,hR,a8h]
  exact⟨a60,a61,a64⟩
end
structure EnumKeys (ents:a78) (T Nm:List Str):Prop where
 tags:∀x,((0:Int),x)∈b1T ents↔x∈T
 nodes:∀x,((1:Int),x)∉b1T ents
 types:∀x,((2:Int),x)∈b1T ents↔x∈Nm
theorem EnumKeys.tag {ents:a78} {T Nm:List Str} (h:EnumKeys ents T Nm) (s:Str) (i:Int):EnumKeys (ents++[((0,s),i)]) (T++[s]) Nm:=by
 have hk:∀k,k∈b1T (ents++[(((0:Int),s),i)])↔k∈b1T ents∨k=(0,s):=by simp[b1T]
 refine⟨λx =>?_,λx =>?_,λx =>?_⟩
 ·rw[hk,h.tags]; simp
 ·rw[hk]; simp[h.nodes x]
 ·rw[hk,h.types]; simp
theorem EnumKeys.type {ents:a78} {T Nm:List Str} (h:EnumKeys ents T Nm) (s:Str) (i:Int):EnumKeys (ents++[((2,s),i)]) T (Nm++[s]):=by
 have hk:∀k,k∈b1T (ents++[(((2:Int),s),i)])↔k∈b1T ents∨k=(2,s):=by simp[b1T]
 refine⟨λx =>?_,λx =>?_,λx =>?_⟩
 ·rw[hk,h.tags]; simp
 ·rw[hk]; simp[h.nodes x]
 ·rw[hk,h.types]; simp
section
variable {L:Nat→Option PFunc} (hL:∀k f,LS k=some f→L k=some f) (en:List Enum) (ns:List Node)
include hL
theorem b55 (i:Nat) (l:List Str) (hl:l.length≤1500) (T Nm:List Str) (hT:T.Nodup) (ents:a78) (hk:EnumKeys ents T Nm) (c0 c1:PObj) (V0 V1 V2 V3 V4 V5 V8 V9 V10 V11 V12 V13 V14 V18 V19:PV) (g:Nat) {Q:PExit→St→Prop}
  (ok:(T++l).Nodup→∀y9 ents',EnumKeys ents' (T++l) Nm→Q (.exit 2) ⟨[V0,V1,V2,V3,V4,V5,.ptr 3 0,.int .i64 i,V8,y9,V10,V11,V12,V13,V14,.list false (l.map .str),.int .i64 l.length,.int .i64 l.length,V18,V19],[],g,[c0,c1,a0s ents',a0f en ns (-1) (-1)]⟩)
  (no:¬(T++l).Nodup→∀W o2 o3,W[2]? = some V2→W[3]? = some V3→Q (.boom (a7C 1 (-1) (-1) 7)) ⟨W,[],g,[c0,c1,o2,o3]⟩):
  wpL L a4R ⟨[V0,V1,V2,V3,V4,V5,.ptr 3 0,.int .i64 i,V8,V9,V10,V11,V12,V13,V14,.list false (l.map .str),.int .i64 l.length,.int .i64 0,V18,V19],[],g,[c0,c1,a0s ents,a0f en ns (-1) (-1)]⟩ Q:=by
 rw[a4R]
 refine a0V l.length (λj st=>∃y9 ents',st=⟨[V0,V1,V2,V3,V4,V5,.ptr 3 0,.int .i64 i,V8,y9,V10,V11,V12,V13,V14,.list false (l.map .str),.int .i64 l.length,.int .i64 j,V18,V19],[],g,[c0,c1,a0s ents',a0f en ns (-1) (-1)]⟩∧EnumKeys ents' (T++l.take j) Nm∧∀k (hk:k<l.length),k<j→l[k]∉T++l.take k) ?_ ?_ ⟨_,ents,rfl,by simpa using hk,λk _ h=>by omega⟩
 ·rintro j hj st ⟨y9,ents',rfl,hk,hal⟩ ih
  have hw:=a0c j (by omega)
  by_cases hd:l[j]∈T++l.take j
  ·have hadd:=a9U hL en ns (-1) (-1) [c0,c1,a0s ents',a0f en ns (-1) (-1)] rfl ents' rfl (0,l[j]) i ((hk.tags _).2 hd)
   have hkk:b2Y (0,l[j]) = .agg [.int .i64 0,.str l[j]]:=rfl
   rw[hkk] at hadd
   simp[hj,hadd]
   exact no (λhn=>(a8g.1 hn).2 j hj hd) _ _ _ rfl rfl
  ·have hadd:=a9V hL en ns (-1) (-1) [c0,c1,a0s ents',a0f en ns (-1) (-1)] rfl ents' rfl (0,l[j]) i (λhh=>hd ((hk.tags _).1 hh))
   have hkk:b2Y (0,l[j]) = .agg [.int .i64 0,.str l[j]]:=rfl
   have hst:[c0,c1,a0s ents',a0f en ns (-1) (-1)].set 2 (a0s (ents'++[((0,l[j]),(i:Int))]))=[c0,c1,a0s (ents'++[((0,l[j]),(i:Int))]),a0f en ns (-1) (-1)]:=rfl
   rw[hkk,hst] at hadd
   simp[hj,hadd,hw]
   refine ih _ ⟨_,_,rfl,?_,λk hkl hkj =>?_⟩
   ·rw[a14 hj,← List.append_assoc]; exact hk.tag _ _
   ·by_cases he:k=j
    ·subst he; exact hd
    ·exact hal k hkl (by omega)
 ·rintro st ⟨y9,ents',rfl,hk,hal⟩
  rw[List.take_length] at hk
  simp
  exact ok (a8g.2 ⟨hT,λk hk=>hal k hk hk⟩) _ _ hk
theorem b56 (he:en.length≤1500) (htl:∀u∈en,u.tags.length≤1500) (c0 c1:PObj) (V0 V1 V2 V3 V4 V5 V7 V8 V9 V10 V11 V15 V16 V17 V18 V19:PV) (g:Nat) {Q:PExit→St→Prop}
  (ok:a5Z en=true→∀y7 y8 y9 y15 y16 y17 g' ents',EnumKeys ents' (a3p en) (en.map (·.name))→Q (.exit 0) ⟨[V0,V1,V2,V3,V4,V5,.ptr 3 0,y7,y8,y9,V10,V11,.list false (en.map a0U),.int .i64 en.length,.int .i64 en.length,y15,y16,y17,V18,V19],[],g',[c0,c1,a0s ents',a0f en ns (-1) (-1)]⟩)
  (no:a5Z en=false→∀W g' o2 o3,W[2]? = some V2→W[3]? = some V3→Q (.boom (a7C 1 (-1) (-1) 7)) ⟨W,[],g',[c0,c1,o2,o3]⟩):
  wpL L a4S ⟨[V0,V1,V2,V3,V4,V5,.ptr 3 0,V7,V8,V9,V10,V11,.list false (en.map a0U),.int .i64 en.length,.int .i64 0,V15,V16,V17,V18,V19],[],g,[c0,c1,a0s [],a0f en ns (-1) (-1)]⟩ Q:=by
 have hbad:∀j (hj:j<en.length),a85 en j en[j]=false→a5Z en=false:=by
  intro j hj h1
  cases h:a5Z en with
  | false=>rfl
  | true=>rw[b1N.1 h j hj] at h1; simp at h1
 rw[a4S]
 refine a0V en.length (λj st=>∃y7 y8 y9 y15 y16 y17 g' ents',st=⟨[V0,V1,V2,V3,V4,V5,.ptr 3 0,y7,y8,y9,V10,V11,.list false (en.map a0U),.int .i64 en.length,.int .i64 j,y15,y16,y17,V18,V19],[],g',[c0,c1,a0s ents',a0f en ns (-1) (-1)]⟩∧EnumKeys ents' (a3p (en.take j)) ((en.take j).map (·.name))∧∀k (hk:k<en.length),k<j→a85 en k en[k]=true) ?_ ?_ ⟨_,_,_,_,_,_,_,[],rfl,⟨by simp[b1T,a3p],by simp[b1T],by simp[b1T]⟩,λk _ h=>by omega⟩
 ·rintro j hj st ⟨y7,y8,y9,y15,y16,y17,g',ents',rfl,hk,hal⟩ ih
  have hw:=a0c j (by omega)
  have htj:=htl _ (List.getElem_mem hj)
  by_cases hd:en[j].name∈(en.take j).map (·.name)
  ·have hadd:=a9U hL en ns (-1) (-1) [c0,c1,a0s ents',a0f en ns (-1) (-1)] rfl ents' rfl (2,en[j].name) j ((hk.types _).2 hd)
   have hkk:b2Y (2,en[j].name) = .agg [.int .i64 2,.str en[j].name]:=rfl
   rw[hkk] at hadd
   simp[hj,hadd]
   exact no (hbad j hj (by unfold a85; simp only[decide_eq_false_iff_not]; exact λh=>h.1 hd)) _ _ _ _ rfl rfl
  ·have hadd:=a9V hL en ns (-1) (-1) [c0,c1,a0s ents',a0f en ns (-1) (-1)] rfl ents' rfl (2,en[j].name) j (λhh=>hd ((hk.types _).1 hh))
   have hkk:b2Y (2,en[j].name) = .agg [.int .i64 2,.str en[j].name]:=rfl
   have hst:[c0,c1,a0s ents',a0f en ns (-1) (-1)].set 2 (a0s (ents'++[((2,en[j].name),(j:Int))]))=[c0,c1,a0s (ents'++[((2,en[j].name),(j:Int))]),a0f en ns (-1) (-1)]:=rfl
   rw[hkk,hst] at hadd
   simp[hj,hadd]
   refine b55 hL en ns j en[j].tags htj (a3p (en.take j)) ((en.take j).map (·.name)++[en[j].name]) (b7V (by omega) hal) _ (hk.type _ _) c0 c1 _ _ _ _ _ _ _ _ _ _ _ _ _ _ _ _ ?_ ?_
   ·intro hnd y9' ents'' hk'
    simp[hw]
    refine ih _ ⟨_,_,_,_,_,_,_,_,rfl,?_,λk hkl hkj =>?_⟩
    ·rw[a6M hj,a14 hj,List.map_append]; exact hk'
    ·by_cases hke:k=j
     ·subst hke
      unfold a85
      simp only[decide_eq_true_eq]
      exact⟨hd,hnd⟩
     ·exact hal k hkl (by omega)
   ·intro hnd W o2 o3 hW2 hW3
    simp
    exact no (hbad j hj (by unfold a85; simp only[decide_eq_false_iff_not]; exact λh=>hnd h.2)) _ _ _ _ hW2 hW3
 ·rintro st ⟨y7,y8,y9,y15,y16,y17,g',ents',rfl,hk,hal⟩
  rw[List.take_length] at hk
  simp
  exact ok (b1N.2 λk hk=>hal k hk hk) _ _ _ _ _ _ _ _ hk
end
theorem b3q {en:List Enum} {n:Node} (h:a2I en n=0):∀d∈n.ins++n.outs,d.clock=[]:=by
 unfold a2I at h
 simp only[a0C] at h
 obtain⟨_,_,_,h1,h2,_⟩:=h
 have key:∀d,a2q en true d=0→d.clock=[]:=by
  intro d hd
  unfold a2q at hd
  simp only[a0C] at hd
  obtain⟨_,_,h3,_⟩:=hd
  refine Classical.byContradiction λhn =>?_
  simp[need,hn] at h3
 intro d hd
 rcases List.mem_append.1 hd with hd|hd
 ·exact key d (a0J.1 h1 d hd)
 ·exact key d (a0J.1 h2 d hd)
theorem b57 {p:Prog} (h:a26 p=none):∀n∈p.nodes,∀d∈n.ins++n.outs,d.clock=[]:=by
 unfold a26 at h
 split at h
 ·simp at h
 ·split at h
  ·simp at h
  ·intro n hn
   exact b3q (b4T.1 ((a6L p.enums p.nodes 0).1 h n hn 0)).1
theorem NodesIn.step {ents:a78} {ns:List Node} {i:Nat} (hi:i<ns.length) (h:NodesIn ents ns i) (hk:b61 ents ns i) (hd:ns[i].name∉(ns.take i).map (·.name)):
  NodesIn (ents++[((1,ns[i].name),(i:Int))]) ns (i+1)∧b61 (ents++[((1,ns[i].name),(i:Int))]) ns (i+1):=by
 have hent:∀x:Str,a4K (1,x) (ents++[((1,ns[i].name),(i:Int))])=(a4K (1,x) ents).or (if x=ns[i].name then some (i:Int) else none):=by
  intro x
  generalize ents=l
  induction l with
  | nil=>by_cases hx:x=ns[i].name<;>simp[a4K,hx]
  | cons y l ih =>
    simp only[List.cons_append,a4K]
    by_cases hy:((1:Int),x)=y.1
    ·rw[if_pos hy,if_pos hy]; rfl
    ·rw[if_neg hy,if_neg hy]; exact ih
 have hcal:∀x,callee (ns.take (i+1)) x=(callee (ns.take i) x).or (if ns[i].name=x then some ns[i] else none):=by
  intro x
  unfold callee
  rw[a14 hi,List.find?_append]
  congr 1
  by_cases hx:ns[i].name=x<;>simp[hx]
 constructor
 ·intro x
  have hx:=h x
  rw[hcal]
  cases hc:callee (ns.take i) x with
  | some m =>
    rw[hc] at hx
    obtain⟨j,e1,e2,e3⟩:=hx
    exact⟨j,by rw[hent,e1]; rfl,by omega,e3⟩
  | none =>
    have hnk:((1:Int),x)∉b1T ents:=by
     rw[hk]
     unfold callee at hc
     rw[List.find?_eq_none] at hc
     intro hm
     obtain⟨n,h1,h2⟩:=List.mem_map.1 hm
     exact hc n h1 (by simpa using h2)
    have hen:=a4l.2 hnk
    by_cases hnx:ns[i].name=x
    ·rw[if_pos hnx]
     exact⟨i,by rw[hent,hen,if_pos hnx.symm]; rfl,by omega,List.getElem?_eq_getElem hi⟩
    ·rw[if_neg hnx]
     intro c hcc
     rw[hent,hen,if_neg (λe=>hnx e.symm)] at hcc
     simp at hcc
 ·intro x
  rw[a14 hi,List.map_append,List.mem_append,← hk x]
  simp[b1T]
section
variable {L:Nat→Option PFunc} (hL:∀k f,LS k=some f→L k=some f)
include hL
theorem rec27 (a b e:Int) (h:List PObj) (w1 w2 c:Int) (h0:h[0]? = some (.cells [.int .i64 w1,.int .i64 w2])) (h1:h[1]? = some (.cells [.int .i64 c])):a4A L 27 [a7C 1 a b e,.ptr 0 0,.ptr 1 0] h=some ((h.set 0 (.cells [.int .i64 a,.int .i64 b])).set 1 (.cells [.int .i64 e])):=by
 unfold a4A
 rw[hL 27 _ rfl]
 simp[a5l,b7E,a7C,h0,h1]
theorem c6A (h:List PObj):a4A L 27 [.nilIface,.ptr 0 0,.ptr 1 0] h=some h:=by
 unfold a4A
 rw[hL 27 _ rfl]
 simp[a5l,b7E]
theorem b62 (p:Prog) (hp:PW p) (hs:parts p≤1500):∃h',a0o L 8 [a3y p] []=some (b5N (b5O (a36 p)),h'):=by
 suffices H:∃r,a0o L 8 [a3y p] []=some r∧r.1=b5N (b5O (a36 p)) by
  obtain⟨⟨v,h'⟩,h1,h2⟩:=H
  exact⟨h',by rw[h1]; simp only at h2; rw[h2]⟩
 refine b2X (hL 8 _ rfl) rfl ?_
 obtain⟨hsh',hsh⟩:=c01 hL p hp
 unfold a36
 cases hS:a26 p with
 | some b =>
   have hbe:=b1O hS
   rw[hS] at hsh
   simp only[b5O,Option.getD_some,b5N] at hsh ⊢
   simp[a44,hsh,hbe,a0g,a0a]
 | none =>
   have hport:=b57 hS
   rw[hS] at hsh
   simp only[b5O,Option.getD_none,c7w,b5N] at hsh
   simp only
   obtain⟨RES,hRES⟩:∃RES,RES=(if a5Z p.enums then a4M (a3p p.enums) [] p.nodes else some (⟨-1,-1,7⟩:Bad)):=⟨_,rfl⟩
   rw[← hRES]
   simp[a44,hsh]
   rw[b2h (cs:=[.ptr 0 0,.ptr 1 0]) _ _ _ rfl (by simp)]
   have hfold:PObj.cells [PV.list false (p.enums.map a0U),PV.list false (p.nodes.map a1B),.int .i64 (-1),.int .i64 (-1),.map (some 2)]=a0f p.enums p.nodes (-1) (-1):=rfl
   have hfold2:PObj.map []=a0s []:=rfl
   have hcm:(PV.map (some 2)).cells=[.map (some 2)]:=rfl
   have hnl:=hp.nodes
   simp[hcm,hfold,hfold2]
   refine b56 hL p.enums p.nodes hp.enums hp.tags _ _ _ _ _ _ _ _ _ _ _ _ _ _ _ _ _ _ _ ?_ ?_
   ·intro hok y7 y8 y9 y15 y16 y17 g' ents' hk
    rw[if_pos hok] at hRES
    simp
    rw[a6T]
    refine a0V p.nodes.length (λj st=>∃y10 h' ents a b,st=⟨[a3y p,.loc 0 [.list false (p.enums.map a0U),.list false (p.nodes.map a1B)],.ptr 0 0,.ptr 1 0,.loc 1 [.int .i64 0,.int .i64 0],.int .i64 0,.ptr 3 0,y7,y8,y9,y10,.ptr 3 0,.list false (p.enums.map a0U),.int .i64 p.enums.length,.int .i64 p.enums.length,y15,y16,y17,.int .i64 p.nodes.length,.int .i64 j],[],g',h'⟩ ∧
     h'[0]? = some (.cells [.int .i64 0,.int .i64 0])∧h'[1]? = some (.cells [.int .i64 0])∧4≤h'.length∧h'[2]? = some (a0s ents)∧h'[3]? = some (a0f p.enums p.nodes a b)∧a7E ents (a3p p.enums)∧NodesIn ents p.nodes j∧b61 ents p.nodes j∧RES=a4M (a3p p.enums) (p.nodes.take j) (p.nodes.drop j)) ?_ ?_
     ⟨_,_,ents',-1,-1,rfl,rfl,rfl,by simp,rfl,rfl,hk.tags,λx=>by
      have:a4K (1,x) ents'=none:=a4l.2 (hk.nodes x)
      simp[callee,this],λx=>by simp[hk.nodes x],by simpa using hRES⟩
    ·rintro j hj st ⟨y10,h',ents,a,b,rfl,e0,e1,e4,e2,e3,htg,hnd,hky,hR⟩ ih
     have hw:=a0c j (by omega)
     rw[List.drop_eq_getElem_cons hj] at hR
     have hnp:p.nodes[j].parts≤1500:=by
      have:=a31 Node.parts (List.getElem_mem hj)
      unfold parts at hs; omega
     obtain⟨h2,hx,k0,k1,k4,kn⟩:=c29 hL p.enums p.nodes a b ents j hj hp.nodes (hp.ns _ (List.getElem_mem hj)) hnp (hport _ (List.getElem_mem hj)) (a3p p.enums) htg hnd hky h' e4 e2 e3
     cases hN:a79 (p.nodes.take j) (a3p p.enums) p.nodes[j] with
     | none =>
       have hd:p.nodes[j].name∉(p.nodes.take j).map (·.name):=by
        intro hm
        unfold a79 at hN
        rw[if_pos hm] at hN
        simp at hN
       obtain⟨n2,n3⟩:=NodesIn.step hj hnd hky hd
       obtain⟨q2,q3⟩:=kn hN
       rw[hN] at hx
       simp only[a4M,hN] at hR
       rw[← a14 hj] at hR
       simp[a8h] at hx
       simp[hj,hx,hw]
       refine ih _ ⟨_,h2,_,_,_,rfl,k0.trans e0,k1.trans e1,k4,q2,q3,λx =>?_,n2,n3,hR⟩
       rw[← htg x]
       simp[b1T]
     | some bd =>
       rw[hN] at hx
       simp only[a4M,hN] at hR
       have hrec:=rec27 hL bd.node bd.eq bd.err h2 0 0 0 (k0.trans e0) (k1.trans e1)
       have hl0:0<h2.length:=by omega
       have hl1:1<h2.length:=by omega
       simp[a8h] at hx
       simp[hj,hx,hrec,hR,b5O,b5N,a0a,hl0,hl1]
       rfl
    ·rintro st ⟨y10,h',ents,a,b,rfl,e0,e1,e4,e2,e3,htg,hnd,hky,hR⟩
     rw[List.drop_eq_nil_of_le (Nat.le_refl _)] at hR
     simp only[a4M] at hR
     have hrec:=c6A hL h'
     have hl0:0<h'.length:=by omega
     have hl1:1<h'.length:=by omega
     have hst0:h'.set 0 (.cells [.int .i64 0,.int .i64 0])=h':=a87 e0
     have hst1:h'.set 1 (.cells [.int .i64 0])=h':=a87 e1
     simp[e0,e1,hst0,hst1,hrec,hR,b5O,c7w,b5N,a0a]
     rfl
   ·intro hok W g' o2 o3 hW2 hW3
    rw[hok] at hRES
    simp only[Bool.false_eq_true,if_false] at hRES
    have hrec:=rec27 hL (-1) (-1) 7 [.cells [.int .i64 0,.int .i64 0],.cells [.int .i64 0],o2,o3] 0 0 0 rfl rfl
    simp[hrec,hRES,b5O,b5N,a0a,hW2,hW3]
    rfl
end
theorem b4U {tags:List Str}:∀{l b:List Node} {x:Bad},a4M tags b l=some x→x.err≠0
 | [],b,x,h=>by simp[a4M] at h
 | n :: l, b, x, h => by
   simp only[a4M] at h
   cases hn:a79 b tags n with
   | some y=>rw[hn] at h; simp only[Option.some.injEq] at h; subst h; exact(b7U hn).2
   | none=>rw[hn] at h; exact b4U h
theorem b6e {p:Prog} {x:Bad} (h:a36 p=some x):x.err≠0:=by
 unfold a36 at h
 cases hs:a26 p with
 | some b=>rw[hs] at h; simp only[Option.some.injEq] at h; subst h; exact b1O hs
 | none =>
   rw[hs] at h
   simp only at h
   split at h
   ·exact b4U h
   ·simp only[Option.some.injEq] at h; subst h; simp
theorem b4V (p:Prog) (hp:PF p):∃h',a0o LS 4 [a3y p] []=some (.bool true,h'):=by
 have hL:∀k f,LS k=some f→LS k=some f:=λ_ _ h=>h
 refine⟨[],?_⟩
 have hh:=b9e hL p hp []
 have hlv:=b9d
 refine a0i rfl rfl ?_
 cases hv:b9f p with
 | true =>
   rw[hv] at hh
   simp[a1K,hh,hlv]
 | false =>
   rw[hv] at hh
   by_cases h0:p.nodes=[]
   ·have h0l:p.nodes.length=0:=by rw[h0]; rfl
    have h0i:(p.nodes.length:Int)=0:=by omega
    simp[a1K,hh,hlv,h0l,h0i]
   ·have hs:parts p≤1500:=by unfold b9f at hv; simp at hv; omega
    have hw:=hp.pw hs
    obtain⟨h1,c1⟩:=b62 hL p hw hs
    unfold b5N at c1
    cases hb:a36 p with
    | some b =>
      rw[hb] at c1
      have hbe:=b6e hb
      simp only[b5O,Option.getD_some] at c1
      have hli:¬(p.nodes.length:Int)=0:=by
       have:p.nodes.length≠0:=λe=>h0 (List.length_eq_zero_iff.1 e)
       omega
      simp[a1K,hh,hlv,h0,hli,c1,hbe]
    | none =>
      obtain⟨ns,n,hn⟩:∃ns n,p.nodes=ns++[n]:=⟨p.nodes.dropLast,p.nodes.getLast h0,(List.dropLast_concat_getLast h0).symm⟩
      have he:a36 ⟨p.enums,ns⟩=none:=c0T (n:=n) (by rw[← hn]; exact hb)
      have hnl:p.nodes.length=ns.length+1:=by rw[hn]; simp
      have hw2:PW ⟨p.enums,ns⟩:=⟨hw.enums,hw.tags,by have:=hw.nodes; simp only; omega,λm hm=>hw.ns m (by rw[hn]; exact List.mem_append_left _ hm)⟩
      have hs2:parts ⟨p.enums,ns⟩≤1500:=by unfold parts at hs ⊢; rw[hn] at hs; simp only[b1J] at hs ⊢; omega
      obtain⟨h2,c2⟩:=b62 hL ⟨p.enums,ns⟩ hw2 hs2
      unfold b5N at c2
      rw[hb] at c1
      rw[he] at c2
      simp only[b5O,Option.getD_none,c7w] at c1 c2
      have hle:=hw.nodes
      have hwr:IntKind.i64.wrap ((p.nodes.length:Int) - 1)=ns.length:=by
       rw[show (p.nodes.length:Int) - 1=ns.length by omega]
       exact a0E _ (by omega) (by omega)
      have hli:¬(p.nodes.length:Int)=0:=by omega
      have hlt:ns.length≤p.nodes.length:=by omega
      have htk:List.take ns.length (List.map a1B p.nodes)=List.map a1B ns:=by rw[hn]; simp
      have hfo:PV.agg [PV.list false (List.map a0U p.enums),PV.list false (List.map a1B ns)]=a3y ⟨p.enums,ns⟩:=rfl
      simp[a1K,hh,hlv,h0,hli,c1,hwr,hlt,htk,hfo,c2]
end PI.Sc
