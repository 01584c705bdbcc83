import Derived.Test.YtljbhgpanekomaaGreatDoorPiScRun18
set_option maxRecDepth 100000
set_option linter.unusedSimpArgs false
set_option linter.unusedVariables false
set_option linter.unusedSectionVars false
namespace PI.Sc
open Go (IntKind BinOp UnOp)
open Short
section
variable {L:Nat→Option PFunc} (hL:∀k f,LS k=some f→L k=some f)
include hL
theorem b9q (l:List State) (hl:l.length≤2000000000) (o:Bool) (h:List PObj) (x:State):a0o L 100 [.list o (l.map a0G),.func 101 [] [.cptr (a0G x).cells]] h=some (.bool (l.any λs=>decide (s.name=x.name)),h):=by
 obtain⟨P,hP⟩:∃P:State→Bool,∀s,P s=decide (s.name=x.name):=⟨_,λ_=>rfl⟩
 have hcall:∀s:State,a0o L 101 [a0G s,.cptr (a0G x).cells] h=some (.bool (P s),h):=by
  intro s
  rw[hP]
  refine a0i (hL 101 _ rfl) rfl ?_
  simp[a3v]
 simp only[a7z] at hcall
 have hi:a0o L 125 [.list false (l.map a0G),.func 101 [] [.cptr (a0G x).cells]] h=some (.int .i64 (b8t P l),h):=by
  refine a0i (hL 125 _ rfl) rfl ?_
  simp[a1a]
  rw[a2o]
  refine a0V l.length (λj st=>∃y3,st=⟨[.list false (l.map a0G),.func 101 [] [.cptr [.str x.name,.list false (x.locals.map a0B),.list false (x.eqs.map a5E),.list false (x.autos.map a1H),.list false (x.unl.map a6W),.list false (x.til.map a6W)]],.int .i64 0,y3,.int .i64 l.length,.int .i64 j],[],0,h⟩∧∀i (hi:i<l.length),i<j→P l[i]=false) ?_ ?_ ⟨_,rfl,λi _ hi=>by omega⟩
  ·rintro j hj st ⟨y3,rfl,hn⟩ ih
   have hw:=a0c j (by omega)
   have hc:=hcall l[j]
   cases hp:P l[j] with
   | true =>
     rw[hp] at hc
     simp[hj,hc,hw,b3x hj hp hn]
   | false =>
     rw[hp] at hc
     simp[hj,hc,hw]
     refine ih _ ⟨_,rfl,λi hi hij =>?_⟩
     by_cases he:i=j
     ·subst he; exact hp
     ·exact hn i hi (by omega)
  ·rintro st ⟨y3,rfl,hn⟩
   simp[a1a,a9c (λi hi=>hn i hi hi)]
 have ha:(l.any λs=>decide (s.name=x.name))=l.any P:=by
  congr 1; funext s; exact(hP s).symm
 rw[ha]
 simp only[a7z] at hi
 refine a0i (hL 100 _ rfl) rfl ?_
 simp[a1r,hi,← b3y]
theorem b3z (o:Bool) (k:Nat) (cs:List PV) (h:List PObj):a0o L 127 [.list o [],.func k [] [.cptr cs]] h=some (.list false [],h):=by
 have hi:=b9p hL [] (by simp) (.list false []) h (.inl ⟨false,rfl⟩) k cs (λ_=>false) (by simp)
 refine a0i (hL 127 _ rfl) rfl ?_
 simp[b8t] at hi
 simp[a0X,hi]
theorem b9r (l:List Str) (hl:l.length≤2000000000) (h:List PObj) (kr:Nat) (hk:h[kr]? = some (.cells (l.map PV.str))) (k:Nat) (cs:List PV) (P:Str→Bool) (hcall:∀o,∀x∈l,a0o L k [.str x,.cptr cs] (h.set kr o)=some (.bool (P x),h.set kr o)):a0o L 127 [.rowp kr 1 false l.length,.func k [] [.cptr cs]] h=some (.rowp kr 1 false (l.filter λx => !P x).length,h.set kr (.cells ((l.filter λx => !P x).map PV.str))):=by
 have hself:h.set kr (.cells (l.map PV.str))=h:=a87 hk
 have hklt:kr<h.length:=(List.getElem?_eq_some_iff.1 hk).1
 have hi:=b9p hL l hl (.rowp kr 1 false l.length) h (.inr ⟨kr,rfl,hk⟩) k cs P (λx hx=>by have:=hcall (.cells (l.map PV.str)) x hx; rwa [hself] at this)
 refine a0i (hL 127 _ rfl) rfl ?_
 cases hf:l.findIdx? P with
 | none =>
   have hno:l.filter (λx => !P x)=l:=by
    rw[List.findIdx?_eq_none_iff] at hf
    rw[List.filter_eq_self]
    intro x hx; simp[hf x hx]
   simp[b8t,hf] at hi
   simp[a0X,hi,hno,hself]
 | some i0 =>
   obtain⟨hil,hip,hin⟩:=List.findIdx?_eq_some_iff_getElem.1 hf
   simp[b8t,hf] at hi
   have hw0:=a0c i0 (by omega)
   have hfil:(l.take (i0+1)).filter (λx => !P x)=l.take i0:=by
    rw[List.take_add_one,List.getElem?_eq_getElem hil]
    simp only[Option.toList,List.filter_append,List.filter_cons,hip,Bool.not_true,Bool.false_eq_true,if_false,List.filter_nil,List.append_nil]
    rw[List.filter_eq_self]
    intro x hx
    obtain⟨j,hj,rfl⟩:=List.mem_iff_getElem.1 hx
    simp only[List.length_take] at hj
    rw[List.getElem_take]
    have:=hin j (by omega)
    simpa using this
   have hne:¬(i0:Int) = -1:=by omega
   simp[a0X,hi,hw0,hne]
   rw[a2C]
   refine a0V (l.length - (i0+1)) (λj st=>∃y5 mid,st=⟨[.rowp kr 1 false l.length,.func k [] [.cptr cs],.list true [],.int .i64 ((l.take (i0+1+j)).filter λx => !P x).length,.int .i64 (i0+1+j:Nat),y5],[],0,h.set kr (.cells (((l.take (i0+1+j)).filter (λx => !P x)++mid++l.drop (i0+1+j)).map PV.str))⟩∧((l.take (i0+1+j)).filter λx => !P x).length+mid.length=i0+1+j) ?_ ?_ ⟨.dead,[l[i0]],?_,?_⟩
   ·rintro j hj st ⟨y5,mid,rfl,hm⟩ ih
    obtain⟨J,hJ⟩:∃J,J=i0+1+j:=⟨_,rfl⟩
    have hJl:J<l.length:=by omega
    rw[← hJ] at hm ⊢
    have hJ1:i0+1+(j+1)=J+1:=by omega
    rw[hJ1] at ih
    have hw:=a0c J (by omega)
    obtain⟨F,hF⟩:∃F,F=(l.take J).filter λx => !P x:=⟨_,rfl⟩
    rw[← hF] at hm ⊢
    have hwF:=a0c F.length (by omega)
    have hfs:(l.take (J+1)).filter (λx => !P x)=F++if P l[J] then[] else[l[J]]:=by
     rw[List.take_add_one,List.getElem?_eq_getElem hJl,List.filter_append,← hF]
     simp only[Option.toList,List.filter_cons,List.filter_nil]
     cases P l[J]<;>simp
    rw[hfs] at ih
    have a57:(F++mid++l.drop J)[J]? = some l[J]:=by
     rw[List.getElem?_append_right (by simp; omega)]
     simp[hm,List.getElem?_drop,List.getElem?_eq_getElem hJl]
    have hc:=hcall (.cells ((F++mid++l.drop J).map PV.str)) l[J] (List.getElem_mem hJl)
    have hcell:(h.set kr (.cells ((F++mid++l.drop J).map PV.str)))[kr]? = some (.cells ((F++mid++l.drop J).map PV.str)):=by rw[List.getElem?_set_self hklt]
    obtain⟨C,hC⟩:∃C,C=F++mid++l.drop J:=⟨_,rfl⟩
    rw[← hC] at a57 hc hcell ⊢
    obtain⟨h1,e1⟩:∃h1,h.set kr (.cells (C.map PV.str))=h1:=⟨_,rfl⟩
    rw[e1] at hc hcell ⊢
    have hJC:J<C.length:=(List.getElem?_eq_some_iff.1 a57).1
    have hJv:C[J]=l[J]:=(List.getElem?_eq_some_iff.1 a57).2
    have hFJ:F.length≤J:=by omega
    cases hp:P l[J] with
    | true =>
      rw[hp] at hc ih
      simp only[if_true,List.append_nil] at ih
      simp[hJl,hcell,a57,hc,hw,hJC,hJv]
      have hnx:C=F++(mid++[l[J]])++l.drop (J+1):=by rw[hC,List.drop_eq_getElem_cons hJl]; simp
      have:=ih ⟨[.rowp kr 1 false l.length,.func k [] [.cptr cs],.list true [],.int .i64 F.length,.int .i64 (J+1:Nat),.str l[J]],[],0,h1⟩ ⟨_,mid++[l[J]],by rw[← e1,hnx],by simp; omega⟩
      simpa using this
    | false =>
      rw[hp] at hc ih
      simp only[Bool.false_eq_true,if_false] at ih
      have hFl:F.length<l.length:=by omega
      have hFC:F.length<C.length:=by omega
      have a3L:∃mid',C.set F.length l[J]=F++[l[J]]++mid'++l.drop (J+1)∧(F++[l[J]]).length+mid'.length=J+1:=by
       rw[hC,List.drop_eq_getElem_cons hJl]
       generalize l.drop (J+1)=R
       generalize l[J]=x
       cases mid with
       | nil=>exact⟨[],by simp,by simp at hm ⊢; omega⟩
       | cons m0 ms=>exact⟨ms++[x],by simp,by simp at hm ⊢; omega⟩
      obtain⟨mid',hs1,hs2⟩:=a3L
      have hfin:h1.set kr (.cells ((C.map PV.str).set F.length (.str l[J])))=h.set kr (.cells ((F++[l[J]]++mid'++l.drop (J+1)).map PV.str)):=by rw[← e1,List.set_set,← hs1,List.map_set]
      simp[hJl,hcell,a57,hc,hw,hJC,hJv,hwF,hFl,hFC,a0y,hfin]
      have:=ih ⟨[.rowp kr 1 false l.length,.func k [] [.cptr cs],.list true [],.int .i64 (F++[l[J]]).length,.int .i64 (J+1:Nat),.str l[J]],[],0,h.set kr (.cells ((F++[l[J]]++mid'++l.drop (J+1)).map PV.str))⟩ ⟨_,mid',rfl,hs2⟩
      simpa using this
   ·rintro st ⟨y5,mid,rfl,hm⟩
    have hJ:i0+1+(l.length - (i0+1))=l.length:=by omega
    rw[hJ] at hm ⊢
    rw[List.take_length] at hm ⊢
    rw[List.drop_length]
    obtain⟨F,hF⟩:∃F,F=l.filter λx => !P x:=⟨_,rfl⟩
    rw[← hF] at hm ⊢
    have hFl:F.length≤l.length:=by omega
    have hcut:((F++mid).map PV.str).take F.length=F.map PV.str:=by rw[List.map_append,List.take_append_of_le_length (by simp),List.take_of_length_le (by simp)]
    rw[List.map_append] at hcut
    by_cases hF0:F=[]
    ·subst hF0
     simp[hklt]
    ·have hF1:¬F.length=0:=λe=>hF0 (List.length_eq_zero_iff.1 e)
     have hcr:cp (.rows kr 1 false F.length (l.length - F.length))=some (.rows kr 1 false F.length (l.length - F.length)):=rfl
     simp[hklt,hFl,hF0,hcut,hcr]
   ·rw[Nat.add_zero,hfil]
    have:(l.take i0).length=i0:=by simp; omega
    have hl2:l.take i0++[l[i0]]++l.drop (i0+1)=l:=by
     rw[List.append_assoc,List.singleton_append,List.getElem_cons_drop,List.take_append_drop]
    rw[this,hl2,hself]
    simp
   ·rw[Nat.add_zero,hfil]
    simp; omega
end
theorem b9s (tags:List Str) (d:Decl) (l:List Decl) (v:List Str):a27 tags (d::l) v=a4L (a27 tags [d] v) (a27 tags l):=by
 simp only[a27]
 split
 ·rw[a2i (by decide)]
 ·rfl
theorem b9t (s:Place) {l:List Eqn} {d r:List Str} (h:a5F s l d=(0,r)):r.length=d.length+(a0K l).length:=by
 rw[((a5M s l d r).1 h).1,List.length_append]
section
variable {L:Nat→Option PFunc} (hL:∀k f,LS k=some f→L k=some f) (en:List Enum) (ns:List Node) (a b:Int) (ents:a78)
include hL
theorem b6h (tags:List Str) (htg:a7E ents tags) (l:List Decl) (hl:l.length≤1500) (h:List PObj) (h2:h[2]? = some (a0s ents)) (h3:h[3]? = some (a0f en ns a b)) (q' n o d:Nat) (i dv up:PV) (f:Fr) (fs:List Fr) (t:TopAt h h.length q' n o d i dv up f fs) (vis:List Str) (hvis:∀x,a6u (f::fs) x=true↔x∈vis)
  (V0 V1 V2 V3 V4 V5 V7 V8 V9 V10 V14 V15 V16 V17 V18 V19 V20 V21 V22:PV) (gi g:Nat) {Q:PExit→St→Prop} (hV0:V0 = .ptr 3 0)
  (ok:(a27 tags l vis).1=0→∀h' O y7 g',Kp q' h h'→h'.length=h.length→TopAt h' h'.length q' n o d i dv up { f with O:=O } fs→(∀x,a6u ({ f with O:=O }::fs) x=true↔x∈(a27 tags l vis).2)→(∀x,x∈O↔x∈f.O∨x∈a0b l)→Q (.exit 0) ⟨[V0,V1,V2,V3,V4,V5,.loc gi [.ptr n 0],y7,V8,V9,V10,.list false (l.map a0B),.int .i64 l.length,.int .i64 l.length,V14,V15,V16,V17,V18,V19,V20,V21,V22],[],g',h'⟩)
  (no:(a27 tags l vis).1≠0→∀h' y7 y13 g',Kp q' h h'→Q (.boom (a7C 1 a b (a27 tags l vis).1)) ⟨[V0,V1,V2,V3,V4,V5,.loc gi [.ptr n 0],y7,V8,V9,V10,.list false (l.map a0B),.int .i64 l.length,y13,V14,V15,V16,V17,V18,V19,V20,V21,V22],[],g',h'⟩):
  wpL L a2P ⟨[V0,V1,V2,V3,V4,V5,.loc gi [.ptr n 0],V7,V8,V9,V10,.list false (l.map a0B),.int .i64 l.length,.int .i64 0,V14,V15,V16,V17,V18,V19,V20,V21,V22],[],g,h⟩ Q:=by
 subst hV0
 rw[a2P]
 refine a0V l.length (λj st=>∃y7 g' h' O vis',st=⟨[.ptr 3 0,V1,V2,V3,V4,V5,.loc gi [.ptr n 0],y7,V8,V9,V10,.list false (l.map a0B),.int .i64 l.length,.int .i64 j,V14,V15,V16,V17,V18,V19,V20,V21,V22],[],g',h'⟩∧Kp q' h h'∧h'.length=h.length∧TopAt h' h'.length q' n o d i dv up { f with O:=O } fs∧a27 tags l vis=a27 tags (l.drop j) vis'∧(∀x,a6u ({ f with O:=O }::fs) x=true↔x∈vis')∧∀x,x∈O↔x∈f.O∨x∈a0b (l.take j)) ?_ ?_ ⟨_,_,h,f.O,vis,rfl,Kp.refl _ _,rfl,t,rfl,hvis,λx=>by simp[a0b]⟩
 ·rintro j hj st ⟨y7,g',h',O,vis',rfl,hkp,hlen,ht,hdn,hv,hO⟩ ih
  have hw:=a0c j (by omega)
  have h2':h'[2]? = some (a0s ents):=(hkp.2 2 (by have:=ht.four; omega)).trans h2
  have h3':h'[3]? = some (a0f en ns a b):=(hkp.2 3 (by have:=ht.four; omega)).trans h3
  obtain⟨h'',O'',hx,hkx,hlx,htx,hox⟩:=b2Z hL en ns a b ents tags htg [l[j]] (by simp) false h' h2' h3' _ q' n o d i dv up _ fs ht vis' hv
  simp only[List.map_cons,List.map_nil] at hx
  have htx':TopAt h'' h''.length q' n o d i dv up { f with O:=O'' } fs:=by rw[hlx]; exact htx
  rw[List.drop_eq_getElem_cons hj,b9s] at hdn
  have hdn1:a0b (l.take (j+1))=a0b (l.take j)++[l[j].name]:=by simp only[a0b,List.take_add_one,List.getElem?_eq_getElem hj,Option.toList,List.map_append,List.map_cons,List.map_nil]
  by_cases hz:(a27 tags [l[j]] vis').1=0
  ·obtain⟨ho1,ho2⟩:=hox hz
   have hd2:a27 tags l vis=a27 tags (l.drop (j+1)) (a27 tags [l[j]] vis').2:=by rw[hdn]; exact if_pos hz
   rw[hz] at hx
   simp[a0z] at hx
   simp[hj,hx,hw]
   refine ih _ ⟨_,_,h'',O'',_,rfl,hkp.trans hkx,by rw[hlx,hlen],htx',hd2,ho1,λx =>?_⟩
   rw[ho2,hO,hdn1]
   simp[a0b,or_assoc]
  ·rw[a2i hz] at hdn
   simp[a0z,hz] at hx
   simp[hj,hx]
   have:=no (by rw[hdn]; exact hz) h'' (.loc g' (a0B l[j]).cells) (.int .i64 j) (g'+1) (hkp.trans hkx)
   rw[hdn] at this
   simpa using this
 ·rintro st ⟨y7,g',h',O,vis',rfl,hkp,hlen,ht,hdn,hv,hO⟩
  rw[List.drop_eq_nil_of_le (Nat.le_refl _)] at hdn
  rw[List.take_length] at hO
  simp
  exact ok (by rw[hdn]; rfl) h' O y7 g' hkp hlen ht (by rw[hdn]; exact hv) hO
theorem b6i (k:Nat) (hnd:NodesIn ents ns k) (s:Place) (hsb:s.before=ns.take k) (l:List Eqn) (hl:l.length≤1500) (hq:∀x∈l,QW x) (h:List PObj) (h2:h[2]? = some (a0s ents)) (h3:h[3]? = some (a0f en ns a b)) (q' n o d:Nat) (i dv up:PV) (f:Fr) (fs:List Fr) (t:TopAt h h.length q' n o d i dv up f fs) (hvis:∀x,a6u (f::fs) x=true↔x∈s.vis)
  (d0:List Str) (hD:f.D=f.df) (hin:∀x,(x∈f.I∨b2l fs x=true)↔(x∈s.inputs∨x∈d0)) (hdl:f.df.length+(a0K l).length≤1000000)
  (V0 V1 V2 V3 V4 V5 V7 V8 V9 V10 V11 V12 V13 V17 V18 V19 V20 V21 V22:PV) (gi g:Nat) {Q:PExit→St→Prop} (hV0:V0 = .ptr 3 0) (hV1:V1 = .int .i64 k)
  (ok:(a5F s l (d0++f.df)).1=0→∀h' dv' df' y8 g',Kp q' h h'→(a5F s l (d0++f.df)).2=d0++df'→TopAt h' h'.length q' n o d i dv' up { f with D:=df',df:=df' } fs→Q (.exit 2) ⟨[V0,V1,V2,V3,V4,V5,.loc gi [.ptr n 0],V7,y8,V9,V10,V11,V12,V13,.list false (l.map a5E),.int .i64 l.length,.int .i64 l.length,V17,V18,V19,V20,V21,V22],[],g',h'⟩)
  (no:(a5F s l (d0++f.df)).1≠0→∀h' y8 y16 g',Kp q' h h'→Q (.boom (a7C 1 a b (a5F s l (d0++f.df)).1)) ⟨[V0,V1,V2,V3,V4,V5,.loc gi [.ptr n 0],V7,y8,V9,V10,V11,V12,V13,.list false (l.map a5E),.int .i64 l.length,y16,V17,V18,V19,V20,V21,V22],[],g',h'⟩):
  wpL L a2Q ⟨[V0,V1,V2,V3,V4,V5,.loc gi [.ptr n 0],V7,V8,V9,V10,V11,V12,V13,.list false (l.map a5E),.int .i64 l.length,.int .i64 0,V17,V18,V19,V20,V21,V22],[],g,h⟩ Q:=by
 subst hV0
 subst hV1
 rw[a2Q]
 refine a0V l.length (λj st=>∃y8 g' h' dv' df',st=⟨[.ptr 3 0,.int .i64 k,V2,V3,V4,V5,.loc gi [.ptr n 0],V7,y8,V9,V10,V11,V12,V13,.list false (l.map a5E),.int .i64 l.length,.int .i64 j,V17,V18,V19,V20,V21,V22],[],g',h'⟩∧Kp q' h h'∧TopAt h' h'.length q' n o d i dv' up { f with D:=df',df:=df' } fs∧a5F s l (d0++f.df)=a5F s (l.drop j) (d0++df')∧df'.length+(a0K (l.drop j)).length=f.df.length+(a0K l).length) ?_ ?_ ⟨_,_,h,dv,f.df,rfl,Kp.refl _ _,by rw[Fr.same hD]; exact t,rfl,rfl⟩
 ·rintro j hj st ⟨y8,g',h',dv',df',rfl,hkp,ht,hdn,hlen⟩ ih
  have hw:=a0c j (by omega)
  have h2':h'[2]? = some (a0s ents):=(hkp.2 2 (by have:=ht.four; omega)).trans h2
  have h3':h'[3]? = some (a0f en ns a b):=(hkp.2 3 (by have:=ht.four; omega)).trans h3
  have hlf:(a0K (l.drop j)).length=l[j].left.length+(a0K (l.drop (j+1))).length:=by
   rw[List.drop_eq_getElem_cons hj]; simp only[a0K,List.flatMap_cons,List.length_append]
  obtain⟨h'',hx,hkx,hox⟩:=c19 hL en ns a b ents k hnd s hsb l[j] (hq _ (List.getElem_mem hj)) h' h2' h3' q' n o d i dv' up _ fs ht (by intro x; exact hvis x) d0 rfl hin (by simp only; omega)
  simp only at hx hox
  rw[List.drop_eq_getElem_cons hj] at hdn
  simp only[a5F] at hdn
  by_cases hz:(b11 s l[j] (d0++df')).1=0
  ·obtain⟨dv'',df'',ho1,ho2⟩:=hox hz
   have hd2:a5F s l (d0++f.df)=a5F s (l.drop (j+1)) (d0++df''):=by
    rw[hdn]
    unfold a4L
    rw[if_pos hz,ho1]
   have hlen2:df''.length=df'.length+l[j].left.length:=by
    have h5:=(b3t.1 (a6X hz)).1
    rw[ho1] at h5
    have:=congrArg List.length h5
    simp at this
    omega
   rw[hz] at hx
   simp[a0z] at hx
   simp[hj,hx,hw]
   exact ih _ ⟨_,_,h'',dv'',df'',rfl,hkp.trans hkx,ho2,hd2,by omega⟩
  ·rw[a2i hz] at hdn
   simp[a0z,hz] at hx
   simp[hj,hx]
   have:=no (by rw[hdn]; exact hz) h'' (.loc g' (a5E l[j]).cells) (.int .i64 j) (g'+1) (hkp.trans hkx)
   rw[hdn] at this
   simpa using this
 ·rintro st ⟨y8,g',h',dv',df',rfl,hkp,ht,hdn,hlen⟩
  rw[List.drop_eq_nil_of_le (Nat.le_refl _)] at hdn
  simp
  exact ok (by rw[hdn]; rfl) h' dv' df' y8 g' hkp (by rw[hdn]; rfl) ht
end
def b1V (L:Nat→Option PFunc) (en:List Enum) (ns:List Node) (a b:Int) (ents:a78) (x:List State):Prop:=
 ∀ (k : Nat), NodesIn ents ns k → ∀ (s : Place), s.before = ns.take k → a7E ents s.tags → ∀ (h : List PObj), h[2]? = some (a0s ents) → h[3]? = some (a0f en ns a b) → ∀ (q' n o d : Nat) (i dv up : PV) (f : Fr) (fs : List Fr), TopAt h h.length q' n o d i dv up f fs → (∀ x, a6u (f :: fs) x = true ↔ x ∈ s.vis) →
   ∀(d0:List Str),f.D=f.df→(∀x,(x∈f.I∨b2l fs x=true)↔(x∈s.inputs∨x∈d0))→f.df.length+(a6m [x]).length≤1000000 →
   ∃h',a3b L 62 [.ptr 3 0,.int .i64 k,.ptr n 0,a1H x] h=some (a0z 1 a b (a5y s (d0++f.df) x).1,h')∧Kp q' h h'∧((a5y s (d0++f.df) x).1=0→∃dv' df',(d0++f.df)++(a5y s (d0++f.df) x).2=d0++df'∧TopAt h' h'.length q' n o d i dv' up { f with D:=df',df:=df' } fs)
theorem b44 {s:Place} {d:List Str} {x:List State} (h:(a5y s d x).1=0):(a5y s d x).2=a6m [x]:=by
 have h1:a1c s d [x]=(0,d++(a5y s d x).2):=by
  rw[a8y,a4u]
  exact⟨h,by simp[a1c]⟩
 have h2:=(a6o [x] s d _ h1).1
 exact List.append_cancel_left h2
section
variable {L:Nat→Option PFunc} (hL:∀k f,LS k=some f→L k=some f) (en:List Enum) (ns:List Node) (a b:Int) (ents:a78)
include hL
theorem b6j (k:Nat) (hnd:NodesIn ents ns k) (s:Place) (hsb:s.before=ns.take k) (htg:a7E ents s.tags) (l:List (List State)) (hl:l.length≤1500) (hq:∀x∈l,b1V L en ns a b ents x) (h:List PObj) (h2:h[2]? = some (a0s ents)) (h3:h[3]? = some (a0f en ns a b)) (q' n o d:Nat) (i dv up:PV) (f:Fr) (fs:List Fr) (t:TopAt h h.length q' n o d i dv up f fs) (hvis:∀x,a6u (f::fs) x=true↔x∈s.vis)
  (d0:List Str) (hD:f.D=f.df) (hin:∀x,(x∈f.I∨b2l fs x=true)↔(x∈s.inputs∨x∈d0)) (hdl:f.df.length+(a6m l).length≤1000000)
  (V0 V1 V2 V3 V4 V5 V7 V8 V9 V10 V11 V12 V13 V14 V15 V16 V20 V21 V22:PV) (gi g:Nat) {Q:PExit→St→Prop} (hV0:V0 = .ptr 3 0) (hV1:V1 = .int .i64 k)
  (ok:(a1c s (d0++f.df) l).1=0→∀h' dv' df' y9 g',Kp q' h h'→(a1c s (d0++f.df) l).2=d0++df'→TopAt h' h'.length q' n o d i dv' up { f with D:=df',df:=df' } fs→Q (.exit 4) ⟨[V0,V1,V2,V3,V4,V5,.loc gi [.ptr n 0],V7,V8,y9,V10,V11,V12,V13,V14,V15,V16,.list false (l.map a1H),.int .i64 l.length,.int .i64 l.length,V20,V21,V22],[],g',h'⟩)
  (no:(a1c s (d0++f.df) l).1≠0→∀h' y9 y19 g',Kp q' h h'→Q (.boom (a7C 1 a b (a1c s (d0++f.df) l).1)) ⟨[V0,V1,V2,V3,V4,V5,.loc gi [.ptr n 0],V7,V8,y9,V10,V11,V12,V13,V14,V15,V16,.list false (l.map a1H),.int .i64 l.length,y19,V20,V21,V22],[],g',h'⟩):
  wpL L a2R ⟨[V0,V1,V2,V3,V4,V5,.loc gi [.ptr n 0],V7,V8,V9,V10,V11,V12,V13,V14,V15,V16,.list false (l.map a1H),.int .i64 l.length,.int .i64 0,V20,V21,V22],[],g,h⟩ Q:=by
 subst hV0
 subst hV1
 rw[a2R]
 refine a0V l.length (λj st=>∃y9 g' h' dv' df',st=⟨[.ptr 3 0,.int .i64 k,V2,V3,V4,V5,.loc gi [.ptr n 0],V7,V8,y9,V10,V11,V12,V13,V14,V15,V16,.list false (l.map a1H),.int .i64 l.length,.int .i64 j,V20,V21,V22],[],g',h'⟩∧Kp q' h h'∧TopAt h' h'.length q' n o d i dv' up { f with D:=df',df:=df' } fs∧a1c s (d0++f.df) l=a1c s (d0++df') (l.drop j)∧df'.length+(a6m (l.drop j)).length=f.df.length+(a6m l).length) ?_ ?_ ⟨_,_,h,dv,f.df,rfl,Kp.refl _ _,by rw[Fr.same hD]; exact t,rfl,rfl⟩
 ·rintro j hj st ⟨y9,g',h',dv',df',rfl,hkp,ht,hdn,hlen⟩ ih
  have hw:=a0c j (by omega)
  have h2':h'[2]? = some (a0s ents):=(hkp.2 2 (by have:=ht.four; omega)).trans h2
  have h3':h'[3]? = some (a0f en ns a b):=(hkp.2 3 (by have:=ht.four; omega)).trans h3
  have hlf:(a6m (l.drop j)).length=(a6m [l[j]]).length+(a6m (l.drop (j+1))).length:=by
   rw[List.drop_eq_getElem_cons hj,a5x,a5x]; simp[a6m]
  obtain⟨h'',hx,hkx,hox⟩:=hq _ (List.getElem_mem hj) k hnd s hsb htg h' h2' h3' q' n o d i dv' up _ fs ht (by intro x; exact hvis x) d0 rfl hin (by simp only; omega)
  simp only at hx hox
  rw[List.drop_eq_getElem_cons hj,a8y] at hdn
  by_cases hz:(a5y s (d0++df') l[j]).1=0
  ·obtain⟨dv'',df'',ho1,ho2⟩:=hox hz
   have hd2:a1c s (d0++f.df) l=a1c s (d0++df'') (l.drop (j+1)):=by
    rw[hdn]
    unfold a4L
    rw[if_pos hz]
    exact congrArg (λz=>a1c s z (l.drop (j+1))) ho1
   have hlen2:df''.length=df'.length+(a6m [l[j]]).length:=by
    rw[b44 hz] at ho1
    have:=congrArg List.length ho1
    simp at this
    omega
   rw[hz] at hx
   simp[a0z] at hx
   simp[hj,hx,hw]
   exact ih _ ⟨_,_,h'',dv'',df'',rfl,hkp.trans hkx,ho2,hd2,by omega⟩
  ·rw[a2i hz] at hdn
   simp[a0z,hz] at hx
   simp[hj,hx]
   have:=no (by rw[hdn]; exact hz) h'' (.loc g' (a1H l[j]).cells) (.int .i64 j) (g'+1) (hkp.trans hkx)
   rw[hdn] at this
   simpa using this
 ·rintro st ⟨y9,g',h',dv',df',rfl,hkp,ht,hdn,hlen⟩
  rw[List.drop_eq_nil_of_le (Nat.le_refl _)] at hdn
  simp
  exact ok (by rw[hdn]; simp[a1c]) h' dv' df' y9 g' hkp (by rw[hdn]; simp[a1c]) ht
theorem b6k (l:List Decl) (hl:l.length≤1500) (h:List PObj) (h3:h[3]? = some (a0f en ns a b)) (q' n o d:Nat) (i dv up:PV) (f:Fr) (fs:List Fr) (t:TopAt h h.length q' n o d i dv up f fs)
  (V0 V1 V2 V3 V4 V5 V7 V8 V9 V10 V11 V12 V13 V14 V15 V16 V17 V18 V19:PV) (gi g:Nat) {Q:PExit→St→Prop} (hV0:V0 = .ptr 3 0)
  (ok:(∀x∈a0b l,x∈f.D)→∀y10 g',Q (.exit 6) ⟨[V0,V1,V2,V3,V4,V5,.loc gi [.ptr n 0],V7,V8,V9,y10,V11,V12,V13,V14,V15,V16,V17,V18,V19,.list false (l.map a0B),.int .i64 l.length,.int .i64 l.length],[],g',h⟩)
  (no:¬(∀x∈a0b l,x∈f.D)→∀y10 y22 g',Q (.boom (a7C 1 a b 8)) ⟨[V0,V1,V2,V3,V4,V5,.loc gi [.ptr n 0],V7,V8,V9,y10,V11,V12,V13,V14,V15,V16,V17,V18,V19,.list false (l.map a0B),.int .i64 l.length,y22],[],g',h⟩):
  wpL L a2S ⟨[V0,V1,V2,V3,V4,V5,.loc gi [.ptr n 0],V7,V8,V9,V10,V11,V12,V13,V14,V15,V16,V17,V18,V19,.list false (l.map a0B),.int .i64 l.length,.int .i64 0],[],g,h⟩ Q:=by
 subst hV0
 have hT:=a4x hL en ns a b h h3 8
 have hF:=a4y hL en ns a b h h3 8
 have hn:=t.hn
 have hd:=t.hd
 rw[a2S]
 refine a0V l.length (λj st=>∃y10 g',st=⟨[.ptr 3 0,V1,V2,V3,V4,V5,.loc gi [.ptr n 0],V7,V8,V9,y10,V11,V12,V13,V14,V15,V16,V17,V18,V19,.list false (l.map a0B),.int .i64 l.length,.int .i64 j],[],g',h⟩∧∀x∈a0b (l.take j),x∈f.D) ?_ ?_ ⟨_,_,rfl,by simp[a0b]⟩
 ·rintro j hj st ⟨y10,g',rfl,hal⟩ ih
  have hw:=a0c j (by omega)
  obtain⟨r,hr,hr2,_⟩:=a5A l[j].name f.D
  have hdn1:a0b (l.take (j+1))=a0b (l.take j)++[l[j].name]:=by simp only[a0b,List.take_add_one,List.getElem?_eq_getElem hj,Option.toList,List.map_append,List.map_cons,List.map_nil]
  by_cases hx:l[j].name∈f.D
  ·simp[hx] at hr2
   obtain⟨c,rfl⟩:=hr2
   simp[hj,hn,hd,hr,a5D,hT,hw]
   refine ih _ ⟨_,_,rfl,?_⟩
   rw[hdn1]
   intro x hm
   rcases List.mem_append.1 hm with h1|h1
   ·exact hal x h1
   ·rw[List.mem_singleton.1 h1]; exact hx
  ·simp[hx] at hr2
   subst hr2
   simp[hj,hn,hd,hr,a5D,hF]
   have:=no (λhall=>hx (hall _ (List.mem_map.2 ⟨_,List.getElem_mem hj,rfl⟩))) (.loc g' (a0B l[j]).cells) (.int .i64 j) (g'+1)
   simpa using this
 ·rintro st ⟨y10,g',rfl,hal⟩
  rw[List.take_length] at hal
  simp
  exact ok hal _ _
end
theorem b75 (l:List Str):a3A 1 false (l.map PV.str) l.length 0=some (l.map PV.str):=by
 suffices H:∀(n off:Nat),off+n=l.length→a3A 1 false (l.map PV.str) n off=some ((l.drop off).map PV.str) by simpa using H l.length 0 (by omega)
 intro n
 induction n with
 | zero=>intro off h; rw[List.drop_eq_nil_of_le (by omega)]; rfl
 | succ n ih =>
   intro off h
   have ho:off<l.length:=by omega
   simp only[a3A,ih (off+1) (by omega)]
   simp[a0a,ho]
   rw[List.drop_eq_getElem_cons (i:=off) (l:=l.map PV.str) (by simpa using ho)]
   simp
theorem b9w (s:Place) (d:List Str) (x:State):a4f s d x =
  a4L (a1n s.vis s.tags x.locals) λvis=>a4L (a5F (s.at vis) x.eqs d) λd1=>a4L (a1c (s.at vis) d1 x.autos) λd2=>
  a4L (a6s s x.unl,[]) λ_=>a4L (a6s (s.at vis) x.til,[]) λ_=>if a0M (a0b x.locals) (a0M d2 d)=[] then(0,a0M (a0M d2 d) (a0b x.locals)) else(8,[]):=by
 cases x; simp only[a4f]; rfl
theorem c3P (x:State):b64 x=a0K x.eqs++a6m x.autos:=by cases x; rfl
section
variable {L:Nat→Option PFunc} (hL:∀k f,LS k=some f→L k=some f) (en:List Enum) (ns:List Node) (a b:Int) (ents:a78)
include hL
theorem b9x (h:List PObj) (hb:4≤h.length) (n:Nat) (fs:List Fr) (hv:Holds h h.length (.ptr n 0) fs):∃h',a3b L 58 [.ptr n 0] h=some (.val (.ptr (h.length+2) 0),h')∧a0o L 58 [.ptr n 0] h=some (.ptr (h.length+2) 0,h')∧Kp h.length h h'∧TopAt h' h'.length h.length (h.length+2) h.length (h.length+1) (.map none) (.list true []) (.ptr n 0) ⟨[],[],[],[]⟩ fs:=by
 have hK:∀n',n'<h.length→(h++[PObj.map [],.map [],.cells [.ptr n 0,.map (some h.length),.map (some (h.length+1)),.map none,.list true []]])[n']? = h[n']? := λn hn=>by rw[List.getElem?_append_left (by omega)]
 refine⟨h++[.map [],.map [],.cells [.ptr n 0,.map (some h.length),.map (some (h.length+1)),.map none,.list true []]],?_,?_,Kp.app (Nat.le_refl _),?_⟩
 ·refine a2b (hL 58 _ rfl) rfl ?_
  simp[a1P,PV.cells]
 ·refine a0i (hL 58 _ rfl) rfl ?_
  simp[a1P,PV.cells]
 ·exact⟨by omega,by omega,by omega,by simp,by simp,by simp,by omega,by omega,by omega,hb,by simp,by simp[bmE],by simp[bmE],.inl ⟨rfl,rfl⟩,.inl ⟨rfl,rfl⟩,λ_ _ _ _ e=>by simp at e,hv.keep hK⟩
def StOut (a b:Int) (e:EN) (r:Out):Prop:=if e.1=0 then ∃o,r = .val (.list o (e.2.map PV.str)) else r = .boom (a7C 1 a b e.1)
omit hL in
theorem StOut.no {e:EN} {z:Int} (hz:z≠0) (he:e=(z,[])):StOut a b e (.boom (a7C 1 a b z)):=by
 unfold StOut; rw[he,if_neg hz]
theorem c03 (x:State) (hx:SW x) (hA:∀y∈x.autos,b1V L en ns a b ents y) (hp:(b64 x).length≤1000000) (k:Nat) (hnd:NodesIn ents ns k) (s:Place) (hsb:s.before=ns.take k) (htg:a7E ents s.tags) (h:List PObj) (h2:h[2]? = some (a0s ents)) (h3:h[3]? = some (a0f en ns a b)) (q' n o d:Nat) (i dv up:PV) (f:Fr) (fs:List Fr) (t:TopAt h h.length q' n o d i dv up f fs) (hvis:∀x,a6u (f::fs) x=true↔x∈s.vis)
  (d0:List Str) (hD:f.D=f.df) (hin:∀x,(x∈f.I∨b2l fs x=true)↔(x∈s.inputs∨x∈d0)):
  ∃h' r,a3b L 102 [.ptr 3 0,.int .i64 k,.ptr n 0,a0G x] h=some (r,h')∧Kp h.length h h'∧StOut a b (a4f s (d0++f.df) x) r:=by
 suffices H:∃res,a3b L 102 [.ptr 3 0,.int .i64 k,.ptr n 0,a0G x] h=some res∧∃h' r,res=(r,h')∧Kp h.length h h'∧StOut a b (a4f s (d0++f.df) x) r by
  obtain⟨res,e1,h',r,e2,e3⟩:=H
  exact⟨h',r,by rw[e1,e2],e3⟩
 have h4:4≤h.length:=by have:=t.four; have:=t.ln; have:=t.un; omega
 obtain⟨h1,e1,e1',k1,t1⟩:=b9x hL h h4 n (f::fs) t.holds
 have h21:h1[2]? = some (a0s ents):=(k1.2 2 (by omega)).trans h2
 have h31:h1[3]? = some (a0f en ns a b):=(k1.2 3 (by omega)).trans h3
 have hv1:∀x,a6u (⟨[],[],[],[]⟩::f::fs) x=true↔x∈s.vis:=λx=>by rw[← hvis]; simp[a6u]
 have hN:=b9w s (d0++f.df) x
 refine a4w (hL 102 _ rfl) rfl ?_
 simp[a3X,e1',e1]
 refine b6h hL en ns a b ents s.tags htg x.locals hx.locals h1 h21 h31 h.length _ _ _ _ _ _ _ _ t1 s.vis hv1 _ _ _ _ _ _ _ _ _ _ _ _ _ _ _ _ _ _ _ _ _ rfl ?_ ?_
 ·intro hz0 h5 O y7 g5 k5 hl5 t5 hv5 hO5
  have h25:h5[2]? = some (a0s ents):=(k5.2 2 (by omega)).trans h21
  have h35:h5[3]? = some (a0f en ns a b):=(k5.2 3 (by omega)).trans h31
  obtain⟨vis,hvd⟩:∃vis,vis=(a27 s.tags x.locals s.vis).2:=⟨_,rfl⟩
  rw[← hvd] at hv5
  have hs:=b0s hL en ns a b x.locals (by have:=hx.locals; omega) hx.ls false h5 h35 _ _ _ t5.holds vis hv5
  have hde:a1n s.vis s.tags x.locals=(a4W vis x.locals,vis):=by
   unfold a1n a4L
   rw[if_pos hz0,hvd]
  by_cases hz1:a4W vis x.locals=0
  ·rw[hz1] at hs
   simp[a0z] at hs
   simp[hs]
   obtain⟨D,hDD⟩:∃D,D=d0++f.df:=⟨_,rfl⟩
   rw[← hDD] at hN ⊢
   have hin5:∀y,(y∈([]:List Str)∨b2l (f::fs) y=true)↔(y∈(s.at vis).inputs∨y∈D):=by
    intro y
    have:=hin y
    rw[hDD]
    simp only[b2l,List.any_cons,Bool.or_eq_true,decide_eq_true_eq,List.mem_append,List.not_mem_nil,false_or,Place.at,hD] at this ⊢
    constructor
    ·rintro((h1|h1)|h1)
     ·exact .inr (.inr h1)
     ·rcases this.1 (.inl h1) with h|h
      ·exact .inl h
      ·exact .inr (.inl h)
     ·rcases this.1 (.inr h1) with h|h
      ·exact .inl h
      ·exact .inr (.inl h)
    ·rintro(h1|h1|h1)
     ·rcases this.2 (.inl h1) with h|h
      ·exact .inl (.inr h)
      ·exact .inr h
     ·rcases this.2 (.inr h1) with h|h
      ·exact .inl (.inr h)
      ·exact .inr h
     ·exact .inl (.inl h1)
   rw[c3P,List.length_append] at hp
   have hde0:a1n s.vis s.tags x.locals=(0,vis):=by rw[hde,hz1]
   rw[hde0,a9f] at hN
   refine b6i hL en ns a b ents k hnd (s.at vis) hsb x.eqs hx.eqs hx.es h5 h25 h35 h.length _ _ _ _ _ _ _ _ t5 hv5 D rfl hin5 (by simp only[List.length_nil]; omega) _ _ _ _ _ _ _ _ _ _ _ _ _ _ _ _ _ _ _ _ _ rfl rfl ?_ ?_
   ·intro hz2 h6 dv6 df6 y8 g6 k6 hr6 t6
    simp only[List.append_nil] at hz2 hr6
    have h26:h6[2]? = some (a0s ents):=(k6.2 2 (by omega)).trans h25
    have h36:h6[3]? = some (a0f en ns a b):=(k6.2 3 (by omega)).trans h35
    have hq6:a5F (s.at vis) x.eqs D=(0,D++df6):=by rw[← hr6,← hz2]
    have hl6:=b9t _ hq6
    simp only[List.length_append] at hl6
    rw[hq6,a9f] at hN
    simp
    refine b6j hL en ns a b ents k hnd (s.at vis) hsb htg x.autos hx.autos hA h6 h26 h36 h.length _ _ _ _ _ _ _ _ t6 hv5 D rfl hin5 (by simp only; omega) _ _ _ _ _ _ _ _ _ _ _ _ _ _ _ _ _ _ _ _ _ rfl rfl ?_ ?_
    ·intro hz3 h7 dv7 df7 y9 g7 k7 hr7 t7
     simp only at hz3 hr7
     have h27:h7[2]? = some (a0s ents):=(k7.2 2 (by omega)).trans h26
     have h37:h7[3]? = some (a0f en ns a b):=(k7.2 3 (by omega)).trans h36
     have hq7:a1c (s.at vis) (D++df6) x.autos=(0,D++df7):=by rw[← hr7,← hz3]
     rw[hq7,a9f] at hN
     have k07:Kp h.length h h7:=((k1.trans k5).trans k6).trans k7
     obtain⟨h8,e8,k8⟩:=b67 hL en ns a b ents k hnd s hsb x.unl hx.unl hx.us false h7 h27 h37 h.length k07.1 _ _ (t.holds.keep k07.2) hvis
     by_cases hz4:a6s s x.unl=0
     ·rw[hz4] at e8
      simp[a0z] at e8
      have h28:h8[2]? = some (a0s ents):=(k8.2 2 (by have:=k07.1; omega)).trans h27
      have h38:h8[3]? = some (a0f en ns a b):=(k8.2 3 (by have:=k07.1; omega)).trans h37
      have t8:=(t7.keep k8.2).upTo k8.1
      obtain⟨h9,e9,k9⟩:=b67 hL en ns a b ents k hnd (s.at vis) hsb x.til hx.til hx.ts false h8 h28 h38 h8.length (Nat.le_refl _) _ _ t8.holds hv5
      rw[hz4,a9f] at hN
      by_cases hz5:a6s (s.at vis) x.til=0
      ·rw[hz5] at e9
       simp[a0z] at e9
       rw[hz5,a9f] at hN
       have h39:h9[3]? = some (a0f en ns a b):=(k9.2 3 (by have:=k07.1; have:=k8.1; omega)).trans h38
       have t9:=(t8.keep k9.2).upTo k9.1
       have k09:Kp h.length h h9:=(k07.trans (k8.le k07.1)).trans (k9.le (Nat.le_trans k07.1 k8.1))
       have hfe:=(a5M (s.at vis) x.eqs D _).1 hq6
       have hfa:=a6o x.autos (s.at vis) (D++df6) _ hq7
       have hdf:df7=a0K x.eqs++a6m x.autos:=by
        have e1:=hfa.1
        rw[hfe.1,List.append_assoc] at e1
        exact List.append_cancel_left e1
       have hdis:∀y∈df7,y∉D:=by
        intro y hy
        rw[hdf] at hy
        rcases List.mem_append.1 hy with h|h
        ·exact(hfe.2.1.1 y h).2.2
        ·exact λhm=>(hfa.2.1.1 y h).2.2 (List.mem_append_left _ hm)
       rw[b0n hdis] at hN
       simp[e8,e9]
       refine b6k hL en ns a b x.locals hx.locals h9 h39 h.length _ _ _ _ _ _ _ _ t9 _ _ _ _ _ _ _ _ _ _ _ _ _ _ _ _ _ _ _ _ _ rfl ?_ ?_
       ·intro hall y10 g9
        simp only at hall
        have hwn:a0M (a0b x.locals) df7=[]:=a2v.2 hall
        rw[if_pos hwn] at hN
        have n9:=t9.hn
        have o9:=t9.ho
        rcases t9.row with⟨rfl,hdf0⟩|⟨kr,hk1,hk2,rfl,hk3⟩
        ·simp only at hdf0
         have hd:=b3z hL false 128 [.ptr (h.length+2) 0] h9
         simp[n9,hd]
         refine⟨h9,_,⟨rfl,rfl⟩,k09,?_⟩
         unfold StOut
         rw[hN,if_pos rfl]
         exact⟨false,by simp[hdf0,a0M]⟩
        ·have hrn:=t9.rne _ _ _ _ rfl
         have hd:=b9r hL df7 (by rw[hdf,List.length_append]; omega) h9 kr hk3 128 [.ptr (h.length+2) 0] (λy=>decide (y∈a0b x.locals)) (by
          intro w y _
          have n9':=(List.getElem?_set_ne (l:=h9) (a:=w) hrn.1).trans n9
          have o9':=(List.getElem?_set_ne (l:=h9) (a:=w) hrn.2.1).trans o9
          obtain⟨r,hr,hr2,_⟩:=a5A y O
          have hOy:y∈O↔y∈a0b x.locals:=by rw[hO5]; simp
          refine a0i (hL 128 _ rfl) rfl ?_
          by_cases hy:y∈O
          ·simp[hy] at hr2
           obtain⟨c,rfl⟩:=hr2
           simp[a2g,n9',o9',hr,a5D,hOy.1 hy]
          ·simp[hy] at hr2
           subst hr2
           have hy':¬y∈a0b x.locals:=λh=>hy (hOy.2 h)
           simp[a2g,n9',o9',hr,a5D,hy'])
         have hwd:df7.filter (λy => !decide (y∈a0b x.locals))=a0M df7 (a0b x.locals):=rfl
         rw[hwd] at hd
         obtain⟨R,hR⟩:∃R,R=a0M df7 (a0b x.locals):=⟨_,rfl⟩
         rw[← hR] at hd hN
         have hklt:kr<h9.length:=(List.getElem?_eq_some_iff.1 hk3).1
         have hks:(h9.set kr (.cells (R.map PV.str)))[kr]? = some (.cells (R.map PV.str)):=by rw[List.getElem?_set_self hklt]
         have hre:=b75 R
         simp[n9,hd,hks,hre,c8q]
         refine⟨_,_,⟨rfl,rfl⟩,k09.trans (Kp.set hk1),?_⟩
         unfold StOut
         rw[hN,if_pos rfl]
         exact⟨false,rfl⟩
       ·intro hno y10 y22 g9
        have hwn:¬a0M (a0b x.locals) df7=[]:=λe=>hno (a2v.1 e)
        rw[if_neg hwn] at hN
        simp
        exact⟨h9,_,⟨rfl,rfl⟩,k09,StOut.no a b (by decide) hN⟩
      ·simp[a0z,hz5] at e9
       simp[e8,e9]
       exact⟨h9,_,⟨rfl,rfl⟩,(k07.trans (k8.le k07.1)).trans (k9.le (Nat.le_trans k07.1 k8.1)),StOut.no a b hz5 (by rw[hN]; exact a2i (a:=(_,[])) hz5 _)⟩
     ·simp[a0z,hz4] at e8
      simp[e8]
      exact⟨h8,_,⟨rfl,rfl⟩,k07.trans (k8.le k07.1),StOut.no a b hz4 (by rw[hN]; exact a2i (a:=(_,[])) hz4 _)⟩
    ·intro hz3 h7 y9 y19 g7 k7
     simp only at hz3
     simp
     exact⟨h7,_,⟨rfl,rfl⟩,((k1.trans k5).trans k6).trans k7,StOut.no a b hz3 (by rw[hN]; exact a2i hz3 _)⟩
   ·intro hz2 h6 y8 y16 g6 k6
    simp only[List.append_nil] at hz2 ⊢
    simp
    exact⟨h6,_,⟨rfl,rfl⟩,(k1.trans k5).trans k6,StOut.no a b hz2 (by rw[hN]; exact a2i hz2 _)⟩
  ·simp[a0z,hz1] at hs
   simp[hs]
   exact⟨h5,_,⟨rfl,rfl⟩,k1.trans k5,StOut.no a b hz1 (by rw[hN,hde,a2i hz1])⟩
 ·intro hz h5 y7 y13 g5 k5
  simp
  refine⟨h5,_,⟨rfl,rfl⟩,k1.trans k5,StOut.no a b hz ?_⟩
  have:a1n s.vis s.tags x.locals=((a27 s.tags x.locals s.vis).1,[]):=by
   unfold a1n; exact a2i hz _
  rw[hN,this]
  exact a2i (a:=(_,[])) hz _
end
section
variable {L:Nat→Option PFunc} (hL:∀k f,LS k=some f→L k=some f) (en:List Enum) (ns:List Node) (a b:Int) (ents:a78)
include hL
theorem b76 (l:List State) (hl:l.length≤1500) (h:List PObj) (h3:h[3]? = some (a0f en ns a b)) (V0 V1 V2 V3 V5 V6 V7 V8 V9 V10 V11 V12 V16 V17 V18 V19 V20 V21:PV) (gi g:Nat) {Q:PExit→St→Prop} (hV0:V0 = .ptr 3 0)
  (ok:(l.map (·.name)).Nodup→∀y5 y6 g',Q (.exit 0) ⟨[V0,V1,V2,V3,.loc gi [.list false (l.map a0G)],y5,y6,V7,V8,V9,V10,V11,V12,.list false (l.map a0G),.int .i64 l.length,.int .i64 l.length,V16,V17,V18,V19,V20,V21],[],g',h⟩)
  (no:¬(l.map (·.name)).Nodup→∀y5 y6 y15 g',Q (.boom (a7C 1 a b 7)) ⟨[V0,V1,V2,V3,.loc gi [.list false (l.map a0G)],y5,y6,V7,V8,V9,V10,V11,V12,.list false (l.map a0G),.int .i64 l.length,y15,V16,V17,V18,V19,V20,V21],[],g',h⟩):
  wpL L a3g ⟨[V0,V1,V2,V3,.loc gi [.list false (l.map a0G)],V5,V6,V7,V8,V9,V10,V11,V12,.list false (l.map a0G),.int .i64 l.length,.int .i64 0,V16,V17,V18,V19,V20,V21],[],g,h⟩ Q:=by
 subst hV0
 have hT:=a4x hL en ns a b h h3 7
 have hF:=a4y hL en ns a b h h3 7
 rw[a3g]
 refine a0V l.length (λj st=>∃y5 y6 g',st=⟨[.ptr 3 0,V1,V2,V3,.loc gi [.list false (l.map a0G)],y5,y6,V7,V8,V9,V10,V11,V12,.list false (l.map a0G),.int .i64 l.length,.int .i64 j,V16,V17,V18,V19,V20,V21],[],g',h⟩∧((l.take j).map (·.name)).Nodup) ?_ ?_ ⟨_,_,_,rfl,by simp⟩
 ·rintro j hj st ⟨y5,y6,g',rfl,hnd⟩ ih
  have hw:=a0c j (by omega)
  have hjl:j≤l.length:=by omega
  have hc:=b9q hL (l.take j) (by simp; omega) false [] l[j]
  simp only[a7z] at hc
  have htk:(l.map a0G).take j=(l.take j).map a0G:=by rw[List.map_take]
  have hdn1:(l.take (j+1)).map (·.name)=(l.take j).map (·.name)++[l[j].name]:=by simp only[List.take_add_one,List.getElem?_eq_getElem hj,Option.toList,List.map_append,List.map_cons,List.map_nil]
  obtain⟨T,hT2⟩:∃T,T=(l.take j).map a0G:=⟨_,rfl⟩
  have hrf:a0j T=true:=by rw[hT2]; exact b7Q _
  rw[← hT2] at hc htk
  have hho:a0W 6 (l.map a0G)=true:=by
   cases l with
   | nil=>rfl
   | cons z l=>simp[a0W]
  cases hany:(l.take j).any λs=>decide (s.name=l[j].name) with
  | false =>
    rw[hany] at hc
    simp[hj,hw,hc,hT,htk,hho,hjl,bound,hrf]
    refine ih _ ⟨_,_,_,rfl,?_⟩
    rw[hdn1,List.nodup_append]
    refine⟨hnd,by simp,?_⟩
    intro x hx y hy e
    rw[List.mem_singleton.1 hy] at e
    subst e
    obtain⟨z,hz,hze⟩:=List.mem_map.1 hx
    have:=List.any_eq_false.1 hany z hz
    simp[hze] at this
  | true =>
    rw[hany] at hc
    simp[hj,hw,hc,hF,htk,hho,hjl,bound,hrf]
    refine no ?_ _ _ _ _
    intro hn
    obtain⟨z,hz,hze⟩:=List.any_eq_true.1 hany
    have hs:l.map (·.name)=((l.take j).map (·.name)++[l[j].name])++(l.drop (j+1)).map (·.name):=by rw[← hdn1,← List.map_append,List.take_append_drop]
    rw[hs,List.nodup_append,List.nodup_append] at hn
    exact hn.1.2.2 l[j].name (List.mem_map.2 ⟨z,hz,by simpa using hze⟩) _ (List.mem_singleton.2 rfl) rfl
 ·rintro st ⟨y5,y6,g',rfl,hnd⟩
  rw[List.take_length] at hnd
  simp
  exact ok hnd _ _ _
theorem b77 (l:List Str) (hl:l.length≤1000000) (h:List PObj) (q' n o d:Nat) (i dv up:PV) (f:Fr) (fs:List Fr) (t:TopAt h h.length q' n o d i dv up f fs) (hnew:∀x∈l,x∉f.D) (hnd:l.Nodup)
  (V0 V1 V3 V4 V5 V6 V7 V8 V9 V10 V11 V12 V13 V14 V15 V16 V17 V18:PV) (g:Nat) {Q:PExit→St→Prop}
  (ok:∀h' y12,Kp q' h h'→h'.length=h.length→TopAt h' h'.length q' n o d i dv up { f with D:=f.D++l } fs→Q (.exit 4) ⟨[V0,V1,.ptr n 0,V3,V4,V5,V6,V7,V8,V9,V10,V11,y12,V13,V14,V15,V16,V17,V18,.list false (l.map PV.str),.int .i64 l.length,.int .i64 l.length],[],g,h'⟩):
  wpL L a3i ⟨[V0,V1,.ptr n 0,V3,V4,V5,V6,V7,V8,V9,V10,V11,V12,V13,V14,V15,V16,V17,V18,.list false (l.map PV.str),.int .i64 l.length,.int .i64 0],[],g,h⟩ Q:=by
 rw[a3i]
 refine a0V l.length (λj st=>∃y12 h',st=⟨[V0,V1,.ptr n 0,V3,V4,V5,V6,V7,V8,V9,V10,V11,y12,V13,V14,V15,V16,V17,V18,.list false (l.map PV.str),.int .i64 l.length,.int .i64 j],[],g,h'⟩∧Kp q' h h'∧h'.length=h.length∧TopAt h' h'.length q' n o d i dv up { f with D:=f.D++l.take j } fs) ?_ ?_ ⟨_,h,rfl,Kp.refl _ _,rfl,by simpa using t⟩
 ·rintro j hj st ⟨y12,h',rfl,hkp,hlen,ht⟩ ih
  have hw:=a0c j (by omega)
  have hn:=ht.hn
  have hd:=ht.hd
  obtain⟨r',hr,_,hr3⟩:=a5A l[j] (f.D++l.take j)
  have hput:b72 (f.D++l.take j) l[j]=f.D++l.take (j+1):=by
   unfold b72
   rw[if_neg]
   ·rw[List.take_add_one,List.getElem?_eq_getElem hj]; simp
   ·intro hm
    rcases List.mem_append.1 hm with h1|h1
    ·exact hnew _ (List.getElem_mem hj) h1
    ·obtain⟨c,hc,hce⟩:=List.mem_iff_getElem.1 h1
     simp only[List.length_take] at hc
     rw[List.getElem_take] at hce
     have:=(List.getElem_inj (h₀:=by omega) (h₁:=hj) hnd).1 hce
     omega
  rw[hput] at hr3
  simp[hj,hn,hd,hr,hr3,hw]
  have ht':=ht.setD (f.D++l.take (j+1))
  refine ih _ ⟨_,_,rfl,hkp.trans (Kp.set ht.ld),by simp[hlen],by simpa using ht'⟩
 ·rintro st ⟨y12,h',rfl,hkp,hlen,ht⟩
  rw[List.take_length] at ht
  simp
  exact ok h' _ hkp hlen ht
end
def c3Q (L:Nat→Option PFunc) (en:List Enum) (ns:List Node) (a b:Int) (ents:a78) (x:State):Prop:=
 ∀ (k : Nat), NodesIn ents ns k → ∀ (s : Place), s.before = ns.take k → a7E ents s.tags → ∀ (h : List PObj), h[2]? = some (a0s ents) → h[3]? = some (a0f en ns a b) → ∀ (q' n o d : Nat) (i dv up : PV) (f : Fr) (fs : List Fr), TopAt h h.length q' n o d i dv up f fs → (∀ x, a6u (f :: fs) x = true ↔ x ∈ s.vis) →
   ∀(d0:List Str),f.D=f.df→(∀x,(x∈f.I∨b2l fs x=true)↔(x∈s.inputs∨x∈d0)) →
   ∃h' r,a3b L 102 [.ptr 3 0,.int .i64 k,.ptr n 0,a0G x] h=some (r,h')∧Kp h.length h h'∧StOut a b (a4f s (d0++f.df) x) r
theorem b45 {l m:List Str} (hl:l.Nodup) (hm:m.Nodup):b2q l m=(decide (l.length=m.length)&&l.all λx=>decide (x∈m)):=by
 rw[Bool.eq_iff_iff]
 simp only[b2q,Bool.and_eq_true,decide_eq_true_eq,List.all_eq_true,a2v]
 constructor
 ·rintro⟨h1,h2⟩
  have p1:=List.Nodup.length_le_of_subset hl h1
  have p2:=List.Nodup.length_le_of_subset hm h2
  exact⟨by omega,h1⟩
 ·rintro⟨h1,h2⟩
  refine⟨h2,λx hx=>Classical.byContradiction λhn =>?_⟩
  have hc:(x::l).Nodup:=List.nodup_cons.2 ⟨hn,hl⟩
  have:=List.Nodup.length_le_of_subset hc (by
   intro y hy
   rcases List.mem_cons.1 hy with rfl|hy
   ·exact hx
   ·exact h2 y hy)
  simp at this
  omega
section
variable {L:Nat→Option PFunc} (hL:∀k f,LS k=some f→L k=some f) (en:List Enum) (ns:List Node) (a b:Int) (ents:a78)
include hL
theorem b78 (l:List State) (hl:l.length≤1500) (hS:∀y∈l,c3Q L en ns a b ents y) (k:Nat) (hnd:NodesIn ents ns k) (s:Place) (hsb:s.before=ns.take k) (htg:a7E ents s.tags) (h:List PObj) (h2:h[2]? = some (a0s ents)) (h3:h[3]? = some (a0f en ns a b)) (q' n o d:Nat) (i dv up:PV) (f:Fr) (fs:List Fr) (t:TopAt h h.length q' n o d i dv up f fs) (hvis:∀x,a6u (f::fs) x=true↔x∈s.vis)
  (d0:List Str) (hD:f.D=f.df) (hin:∀x,(x∈f.I∨b2l fs x=true)↔(x∈s.inputs∨x∈d0)) (hrl:∀y∈l,(a9r y).length≤1000000)
  (V0 V1 V2 V3 V4 V5 V6 V9 V10 V11 V12 V13 V14 V15 V19 V20 V21:PV) (g:Nat) {Q:PExit→St→Prop} (hV0:V0 = .ptr 3 0) (hV1:V1 = .int .i64 k) (hV2:V2 = .ptr n 0)
  (ok:(a1l s (d0++f.df) l).1=0→∀h' y9 y10 y11 g' F,Kp h.length h h'→((l=[]∧F = .list true [])∨F = .list false (((l.map a9r).headD []).map PV.str))→Q (.exit 2) ⟨[V0,V1,V2,V3,V4,V5,V6,F,.bool (l.all λy=>b2q (a9r y) ((l.map a9r).headD [])),y9,y10,y11,V12,V13,V14,V15,.list false (l.map a0G),.int .i64 l.length,.int .i64 l.length,V19,V20,V21],[],g',h'⟩)
  (no:(a1l s (d0++f.df) l).1≠0→∀h' W g',Kp h.length h h'→Q (.boom (a7C 1 a b (a1l s (d0++f.df) l).1)) ⟨W,[],g',h'⟩):
  wpL L a3h ⟨[V0,V1,V2,V3,V4,V5,V6,.list true [],.bool true,V9,V10,V11,V12,V13,V14,V15,.list false (l.map a0G),.int .i64 l.length,.int .i64 0,V19,V20,V21],[],g,h⟩ Q:=by
 subst hV0
 subst hV1
 subst hV2
 have h4:4≤h.length:=by have:=t.four; have:=t.ln; have:=t.un; omega
 obtain⟨D,hDD⟩:∃D,D=d0++f.df:=⟨_,rfl⟩
 obtain⟨T,hT⟩:∃T,T=(l.map a9r).headD []:=⟨_,rfl⟩
 rw[← hDD] at ok no
 rw[← hT] at ok
 obtain⟨sm,hsm⟩:∃sm:Nat→Bool,∀j,sm j=(l.take j).all (λx=>b2q (a9r x) T):=⟨_,λ_=>rfl⟩
 rw[a3h]
 refine a0V l.length (λj st=>∃F y9 y10 y11 g' h',st=⟨[.ptr 3 0,.int .i64 k,.ptr n 0,V3,V4,V5,V6,F,.bool (sm j),y9,y10,y11,V12,V13,V14,V15,.list false (l.map a0G),.int .i64 l.length,.int .i64 j,V19,V20,V21],[],g',h'⟩∧Kp h.length h h'∧(∀c (hc:c<l.length),c<j→(a4f s D l[c]).1=0)∧((j=0∧F = .list true [])∨F = .list false (T.map PV.str))) ?_ ?_ ⟨_,_,_,_,_,h,by rw[hsm]; rfl,Kp.refl _ _,λc _ hc=>by omega,.inl ⟨rfl,rfl⟩⟩
 ·rintro j hj st ⟨F,y9,y10,y11,g',h',rfl,hkp,hz,hF⟩ ih
  have hw:=a0c j (by omega)
  have h2':h'[2]? = some (a0s ents):=(hkp.2 2 (by omega)).trans h2
  have h3':h'[3]? = some (a0f en ns a b):=(hkp.2 3 (by omega)).trans h3
  obtain⟨h'',r,hx,hkx,hr⟩:=hS _ (List.getElem_mem hj) k hnd s hsb htg h' h2' h3' q' n o d i dv up f fs ((t.keep hkp.2).upTo hkp.1) hvis d0 hD hin
  rw[← hDD] at hr
  have hkx':Kp h.length h h'':=hkp.trans (hkx.le hkp.1)
  unfold StOut at hr
  by_cases hz1:(a4f s D l[j]).1=0
  ·rw[if_pos hz1] at hr
   obtain⟨ow,rfl⟩:=hr
   have hso:=b1H l[j] s D _ (a6X hz1)
   rw[hso.1] at hx
   obtain⟨R,hR⟩:∃R,R=a9r l[j]:=⟨_,rfl⟩
   have hRd:R.Nodup:=by rw[hR]; exact hso.2.1.2
   have hRl:R.length≤1000000:=by rw[hR]; exact hrl _ (List.getElem_mem hj)
   have hsm1:sm (j+1)=(sm j&&b2q R T):=by
    have e:l.take (j+1)=l.take j++[l[j]]:=by rw[List.take_add_one,List.getElem?_eq_getElem hj]; rfl
    rw[hsm,hsm,e,List.all_append,hR]
    simp only[List.all_cons,List.all_nil,Bool.and_true]
   rw[← hR] at hx
   have hz':∀c (hc:c<l.length),c<j+1→(a4f s D l[c]).1=0:=by
    intro c hc hcj
    by_cases e:c=j
    ·subst e; exact hz1
    ·exact hz c hc (by omega)
   by_cases hj0:j=0
   ·subst hj0
    have hRT:R=T:=by
     rw[hR,hT]
     cases l with
     | nil=>simp at hj
     | cons y l=>rfl
    rw[← hRT] at hsm1 ih hF
    have hal:=b68 hL R R (by omega) (by omega) false false []
    rw[← b45 hRd hRd] at hal
    have hs0:sm 0=true:=by rw[hsm]; rfl
    rw[hs0,Bool.true_and] at hsm1
    simp[hj,hx,hw,hs0,hal]
    exact ih _ ⟨_,_,_,_,_,h'',by rw[hsm1]; rfl,hkx',hz',.inr rfl⟩
   ·have hF':F = .list false (T.map PV.str):=by
     rcases hF with⟨e,_⟩|e
     ·exact absurd e hj0
     ·exact e
    subst hF'
    have hTr:T=a9r (l[0]'(by omega)):=by
     rw[hT]
     cases l with
     | nil=>simp at hj
     | cons y l=>rfl
    have hTd:T.Nodup:=by
     rw[hTr]
     exact(b1H _ s D _ (a6X (hz 0 (by omega) (by omega)))).2.1.2
    have hTl:T.length≤1000000:=by rw[hTr]; exact hrl _ (List.getElem_mem _)
    have hal:=b68 hL R T (by omega) (by omega) false false []
    rw[← b45 hRd hTd] at hal
    have hji:¬(j:Int)=0:=by omega
    cases hsj:sm j with
    | true =>
      rw[hsj,Bool.true_and] at hsm1
      simp[hj,hx,hw,hj0,hji,hal]
      exact ih _ ⟨_,_,_,_,_,h'',by rw[hsm1]; rfl,hkx',hz',.inr rfl⟩
    | false =>
      rw[hsj,Bool.false_and] at hsm1
      simp[hj,hx,hw,hj0,hji,hal]
      exact ih _ ⟨_,_,_,_,_,h'',by rw[hsm1]; rfl,hkx',hz',.inr rfl⟩
  ·rw[if_neg hz1] at hr
   subst hr
   have hb:=b0p hj hz1 (λc hc hcj=>hz c hc hcj)
   simp[hj,hx]
   have hbe:(a1l s D l).1=(a4f s D l[j]).1:=by rw[hb]
   rw[← hbe]
   exact no (by rw[hbe]; exact hz1) h'' _ _ hkx'
 ·rintro st ⟨F,y9,y10,y11,g',h',rfl,hkp,hz,hF⟩
  have hall:=b1M (s:=s) (d:=D) (l:=l) (λy hy=>by
   obtain⟨c,hc,rfl⟩:=List.mem_iff_getElem.1 hy
   exact hz c hc hc)
  have hsl:sm l.length=l.all (λx=>b2q (a9r x) T):=by rw[hsm,List.take_length]
  rw[hsl]
  simp
  refine ok (by rw[hall]) h' _ _ _ _ F hkp ?_
  rcases hF with⟨e,e2⟩|e
  ·exact .inl ⟨List.length_eq_zero_iff.1 e,e2⟩
  ·exact .inr e
end
theorem cells_str:∀l:List Str,(l.map PV.str).flatMap PV.cells=l.map PV.str
 | []=>rfl
 | x::l=>by rw[List.map_cons,List.flatMap_cons,cells_str l]; rfl
section
variable {L:Nat→Option PFunc} (hL:∀k f,LS k=some f→L k=some f) (en:List Enum) (ns:List Node) (a b:Int) (ents:a78)
include hL
theorem b9y (l:List State) (hl:l.length≤1500) (hS:∀y∈l,c3Q L en ns a b ents y) (hrl:∀y∈l,(a9r y).length≤1000000):b1V L en ns a b ents l:=by
 intro k hnd s hsb htg h h2 h3 q' n o d i dv up f fs t hvis d0 hD hin hdl
 suffices H:∃res,a3b L 62 [.ptr 3 0,.int .i64 k,.ptr n 0,a1H l] h=some res∧∃h',res=(a0z 1 a b (a5y s (d0++f.df) l).1,h')∧Kp q' h h'∧((a5y s (d0++f.df) l).1=0→∃dv' df',(d0++f.df)++(a5y s (d0++f.df) l).2=d0++df'∧TopAt h' h'.length q' n o d i dv' up { f with D:=df',df:=df' } fs) by
  obtain⟨res,e1,h',e2,e3⟩:=H
  exact⟨h',by rw[e1,e2],e3⟩
 have hqn:q'≤h.length:=Nat.le_trans t.ln (Nat.le_of_lt t.un)
 have h4:4≤h.length:=by have:=t.four; omega
 refine a4w (hL 62 _ rfl) rfl ?_
 simp[a4j]
 refine b76 hL en ns a b l hl h h3 _ _ _ _ _ _ _ _ _ _ _ _ _ _ _ _ _ _ _ _ rfl ?_ ?_
 ·intro hn y5 y6 g1
  simp
  refine b78 hL en ns a b ents l hl hS k hnd s hsb htg h h2 h3 q' n o d i dv up f fs t hvis d0 hD hin hrl _ _ _ _ _ _ _ _ _ _ _ _ _ _ _ _ _ _ rfl rfl rfl ?_ ?_
  ·intro hz h' y9 y10 y11 g2 F hkp hF
   obtain⟨T,hT⟩:∃T,T=(l.map a9r).headD []:=⟨_,rfl⟩
   rw[← hT] at hF ⊢
   obtain⟨b1,b2⟩:=a9Q l s (d0++f.df) (a1l s (d0++f.df) l).2 (by rw[← hz])
   have hst:a1l s (d0++f.df) l=(0,l.map a9r):=by rw[← b1,← hz]
   have hau:a5y s (d0++f.df) l=if l.all (λy=>b2q (a9r y) T) then(0,T) else(8,[]):=by
    unfold a5y
    rw[if_neg (by simpa using hn),hst,if_neg (by simp),List.all_map,← hT]
    rfl
   have h3':h'[3]? = some (a0f en ns a b):=(hkp.2 3 (by omega)).trans h3
   have hTt:=a4x hL en ns a b h' h3' 8
   have hFf:=a4y hL en ns a b h' h3' 8
   have t1:=(t.keep hkp.2).upTo hkp.1
   cases hal:l.all (λy=>b2q (a9r y) T) with
   | false =>
     rw[hal] at hau
     simp[hFf]
     exact⟨h',by rw[hau]; exact⟨rfl,rfl⟩,hkp.le hqn,by rw[hau]; simp⟩
   | true =>
     rw[hal] at hau
     simp only[if_true] at hau
     have hTD:Defs s (d0++f.df) T:=by
      rw[hT]
      cases l with
      | nil=>exact Defs.nil _ _
      | cons y l=>exact(b2 y (by simp)).1
     have hTl:T.length≤1000000:=by
      rw[hT]
      cases l with
      | nil=>simp
      | cons y l=>exact hrl y (by simp)
     have hTs:T.length+f.df.length≤1000000:=by
      have:a6m [l]=T:=by rw[a5x,← hT]; simp[a6m]
      rw[this] at hdl; omega
     have hnew:∀x∈T,x∉f.D:=λx hx hm=>(hTD.1 x hx).2.2 (List.mem_append_right _ (hD▸hm))
     have hFl:∃ow,F = .list ow (T.map PV.str):=by
      rcases hF with⟨hl0,e⟩|e
      ·subst hl0; exact⟨true,by rw[e,hT]; rfl⟩
      ·exact⟨false,e⟩
     obtain⟨ow,rfl⟩:=hFl
     simp[hTt]
     refine b77 hL T (by omega) h' q' n o d i dv up f fs t1 hnew hTD.2 _ _ _ _ _ _ _ _ _ _ _ _ _ _ _ _ _ _ _ ?_
     intro h4' y12 hkp4 hlen4 t4
     have n4:=t4.hn
     have hun:=t4.un
     have hln:=t4.ln
     have hk4:Kp q' h h4':=(hkp.le hqn).trans hkp4
     have hfd:f.D++T=f.df++T:=by rw[hD]
     have fin:∀(hh:List PObj) (dv':PV),Kp q' h hh→TopAt hh hh.length q' n o d i dv' up { f with D:=f.D++T,df:=f.df++T } fs→∃h'',((Out.val (PV.tuple [])=a0z 1 a b (a5y s (d0++f.df) l).1∧hh=h''))∧Kp q' h h''∧((a5y s (d0++f.df) l).1=0→∃dv',TopAt h'' h''.length q' n o d i dv' up { O:=f.O,D:=f.df++(a5y s (d0++f.df) l).2,I:=f.I,df:=f.df++(a5y s (d0++f.df) l).2 } fs):=by
      intro hh dv' hk ht
      refine⟨hh,by rw[hau]; exact⟨rfl,rfl⟩,hk,λ_=>⟨dv',?_⟩⟩
      rw[hfd] at ht
      rw[hau]
      exact ht
     have hcs:(T.map PV.str).flatMap PV.cells=T.map PV.str:=cells_str T
     have hb3:(dem∘PV.str)=PV.str:=rfl
     have hho:a0W 1 (T.map PV.str)=true:=by cases T<;>rfl
     rcases t4.row with⟨rfl,hdf0⟩|⟨kr,hk1,hk2,rfl,hk3⟩
     ·simp only at hdf0
      by_cases hT0:T=[]
      ·subst hT0
       have hself:h4'.set n (.cells [up,.map (some o),.map (some d),i,.list true []])=h4':=a87 n4
       obtain⟨h5,e5⟩:∃h5,h4'.set n (.cells [up,.map (some o),.map (some d),i,.list false []])=h5:=⟨_,rfl⟩
       have n5:h5[n]? = some (.cells [up,.map (some o),.map (some d),i,.list false []]):=by rw[← e5,List.getElem?_set_self hun]
       have hb5:h5.set n (.cells [up,.map (some o),.map (some d),i,.list true []])=h4':=by rw[← e5,List.set_set]; exact hself
       simp[n4,b2u,a0y,e5,n5,hb5]
       exact fin h4' _ hk4 (by simpa using t4)
      ·obtain⟨h5,e5⟩:∃h5,h4'.set n (.cells [up,.map (some o),.map (some d),i,.list false []])=h5:=⟨_,rfl⟩
       have hl5:h5.length=h4'.length:=by rw[← e5]; simp
       have n5:(h5++[PObj.cells (T.map PV.str)])[n]? = some (.cells [up,.map (some o),.map (some d),i,.list false []]):=by
        rw[List.getElem?_append_left (by omega),← e5,List.getElem?_set_self hun]
       have htp:=t4.push T h5 hl5 (λc hc=>by rw[← e5,List.getElem?_set_ne (by omega)]) (λc _ _ hcn=>by rw[← e5,List.getElem?_set_ne (Ne.symm hcn)])
       have hb1:T.length≤2147483648:=by omega
       simp[n4,e5,n5,b2u,hcs,hho,hT0,hb1,hb3,a0y]
       rw[hl5]
       refine fin _ (.rowp h4'.length 1 false T.length) ?_ ?_
       ·refine Kp.trans hk4 ⟨by simp[hl5],λc hc =>?_⟩
        rw[List.getElem?_set_ne (by omega),List.getElem?_append_left (by omega),← e5,List.getElem?_set_ne (by omega)]
       ·have:((h5++[PObj.cells (T.map PV.str)]).set n (.cells [up,.map (some o),.map (some d),i,.rowp h4'.length 1 false T.length])).length=h4'.length+1:=by simp[hl5]
        rw[this,hdf0,List.nil_append]
        exact htp
     ·obtain⟨h5,e5⟩:∃h5,h4'.set kr .gone=h5:=⟨_,rfl⟩
      have hl5:h5.length=h4'.length:=by rw[← e5]; simp
      have hrn:=(t4.rne _ _ _ _ rfl).1
      simp only at hk3
      have n5:(h5++[PObj.cells (f.df.map PV.str++T.map PV.str)])[n]? = some (.cells [up,.map (some o),.map (some d),i,.rowp kr 1 false f.df.length]):=by
       rw[List.getElem?_append_left (by omega),← e5,List.getElem?_set_ne hrn]; exact n4
      have htp:=t4.push (f.df++T) h5 hl5 (λc hc=>by rw[← e5,List.getElem?_set_ne (by omega)]) (λc hc hno hcn=>by
       have:kr≠c:=by
        intro hkc
        exact absurd rfl (hno 1 false f.df.length |> λh=>by subst hkc; exact h)
       rw[← e5,List.getElem?_set_ne this])
      simp only[List.map_append,List.length_append] at htp
      have hb1:f.df.length+T.length≤2147483648:=by omega
      have hb2:(f.df.map PV.str).take f.df.length=f.df.map PV.str:=List.take_of_length_le (by simp)
      have hb4:List.map PV.str (f.df.take f.df.length)=List.map PV.str f.df:=by rw[List.take_length]
      simp[n4,b2u,hk3,hcs,hho,hb1,hb2,hb3,hb4,e5,n5,a0y]
      refine fin _ (.rowp h4'.length 1 false (f.df.length+T.length)) ?_ ?_
      ·refine Kp.trans hk4 ⟨by simp[hl5],λc hc =>?_⟩
       rw[List.getElem?_set_ne (by omega),List.getElem?_append_left (by omega),← e5,List.getElem?_set_ne (by omega)]
      ·have:((h5++[PObj.cells (f.df.map PV.str++T.map PV.str)]).set n (.cells [up,.map (some o),.map (some d),i,.rowp h4'.length 1 false (f.df.length+T.length)])).length=h4'.length+1:=by simp[hl5]
       rw[this]
       exact htp
  ·intro hz h' W g2 hkp
   simp
   have hau:a5y s (d0++f.df) l=((a1l s (d0++f.df) l).1,[]):=by
    unfold a5y
    rw[if_neg (by simpa using hn),if_pos hz]
   exact⟨h',by rw[hau]; simp[a0z,hz],hkp.le hqn,λh0=>absurd (by rw[hau] at h0; exact h0) hz⟩
 ·intro hn y5 y6 y15 g1
  simp
  have hau:a5y s (d0++f.df) l=(7,[]):=by unfold a5y; rw[if_pos hn]
  exact⟨h,by rw[hau]; exact⟨rfl,rfl⟩,Kp.refl _ _,by rw[hau]; simp⟩
end
theorem a6N:∀l:List Eqn,(a0K l).length≤a0h Eqn.parts l
 | []=>by simp[a0K,a0h]
 | q :: l => by
   have:=a6N l
   have e:a0K (q::l)=q.left++a0K l:=by simp[a0K]
   rw[e]
   simp only[List.length_append,a0h,Eqn.parts]
   omega
theorem b6l (x:State):(a9r x).length≤(b64 x).length:=by unfold a9r a0M; exact List.length_filter_le _ _
theorem a9W:∀l:List (List State),(∀a∈l,∀x∈a,(b64 x).length≤x.parts)→(a6m l).length≤a2E l
 | [],_=>by simp[a6m,a2E]
 | a :: l, h => by
   have:=a9W l (λb hb=>h b (by simp[hb]))
   rw[a5x]
   cases a with
   | nil=>simp[a2E,a8f]; omega
   | cons y a =>
     have h1:=h (y::a) (by simp) y (by simp)
     have h2:=b6l y
     simp only[List.map_cons,List.headD_cons,List.length_append,a2E,a8f]
     omega
theorem a7P (x:State):(b64 x).length≤x.parts:=by
 induction x using State.ind with
 | h s ih =>
   cases s with
   | mk n l e a u w =>
     have h1:=a6N e
     have h2:=a9W a ih
     simp only[b64,List.length_append,State.parts]
     omega
section
variable {L:Nat→Option PFunc} (hL:∀k f,LS k=some f→L k=some f) (en:List Enum) (ns:List Node) (a b:Int) (ents:a78)
include hL
theorem b9z (x:State):SW x→x.parts≤1000000→c3Q L en ns a b ents x:=by
 induction x using State.ind with
 | h x ih =>
   intro hx hp
   have hlt:∀y∈x.autos,∀z∈y,z.parts≤x.parts:=by
    intro y hy z hz
    cases x with
    | mk n l e au u w =>
      have hy:y∈au:=hy
      have h1:a8f y≤a2E au:=by
       rw[a7A,a6p]
       have:=a31 (λa=>1+a0h State.parts a) hy
       omega
      have h2:z.parts≤a8f y:=by rw[a6p]; exact a31 _ hz
      simp only[State.parts]
      omega
   intro k hnd s hsb htg h h2 h3 q' n o d i dv up f fs t hvis d0 hD hin
   refine c03 hL en ns a b ents x hx ?_ (Nat.le_trans (a7P x) hp) k hnd s hsb htg h h2 h3 q' n o d i dv up f fs t hvis d0 hD hin
   intro y hy
   refine b9y hL en ns a b ents y (hx.as y hy) (λz hz=>ih y hy z hz (hx.ss y hy z hz) (Nat.le_trans (hlt y hy z hz) hp)) (λz hz =>?_)
   exact Nat.le_trans (b6l z) (Nat.le_trans (a7P z) (Nat.le_trans (hlt y hy z hz) hp))
theorem c04 (x:List State) (hl:x.length≤1500) (hx:∀y∈x,SW y) (hp:∀y∈x,y.parts≤1000000):b1V L en ns a b ents x:=
 b9y hL en ns a b ents x hl (λz hz=>b9z hL en ns a b ents z (hx z hz) (hp z hz)) (λz hz=>Nat.le_trans (b6l z) (Nat.le_trans (a7P z) (hp z hz)))
end
section
variable {L:Nat→Option PFunc} (hL:∀k f,LS k=some f→L k=some f) (en:List Enum) (ns:List Node) (a b:Int) (ents:a78)
include hL
theorem b46 (k:Nat) (hn:NodesIn ents ns k) (s:Place) (hsb:s.before=ns.take k) (l:List Expr) (hl:l.length≤1500) (hw:∀x∈l,XW x) (h:List PObj) (h2:h[2]? = some (a0s ents)) (h3:h[3]? = some (a0f en ns a b)) (v:PV) (fs:List Fr) (hv:Holds h h.length v fs) (hvis:∀x,a6u fs x=true↔x∈s.vis)
  (V0 V1 V2 V3 V4 V5 V6 V7 V8 V9:PV) (g:Nat) {Q:PExit→St→Prop} (hV0:V0 = .ptr 3 0) (hV1:V1 = .int .i64 k) (hV4:V4=v)
  (ok:a0d (λe=>a2r s e 1) l=0→∀h' y6 g',Kp h.length h h'→Q (.exit 2) ⟨[V0,V1,V2,V3,V4,V5,y6,V7,V8,V9,.list false (l.map a0u),.int .i64 l.length,.int .i64 l.length],[],g',h'⟩)
  (no:a0d (λe=>a2r s e 1) l≠0→∀h' W g',Kp h.length h h'→Q (.boom (a7C 1 a b (a0d (λe=>a2r s e 1) l))) ⟨W,[],g',h'⟩):
  wpL L a1W ⟨[V0,V1,V2,V3,V4,V5,V6,V7,V8,V9,.list false (l.map a0u),.int .i64 l.length,.int .i64 0],[],g,h⟩ Q:=by
 subst hV0
 subst hV1
 subst hV4
 have hvc:=hv.cp
 have hvt:=hv.tkv
 have hvd:=hv.dem
 rw[a1W]
 refine a0V l.length (λj st=>∃y6 g' h',st=⟨[.ptr 3 0,.int .i64 k,V2,V3,V4,V5,y6,V7,V8,V9,.list false (l.map a0u),.int .i64 l.length,.int .i64 j],[],g',h'⟩∧Kp h.length h h'∧a0d (λe=>a2r s e 1) l=a0d (λe=>a2r s e 1) (l.drop j)) ?_ ?_ ⟨_,_,h,rfl,Kp.refl _ _,rfl⟩
 ·rintro j hj st ⟨y6,g',h',rfl,hkp,hdn⟩ ih
  have hwr:=a0c j (by omega)
  have hl3:3<h.length:=(List.getElem?_eq_some_iff.1 h3).1
  have h2':h'[2]? = some (a0s ents):=(hkp.2 2 (by omega)).trans h2
  have h3':h'[3]? = some (a0f en ns a b):=(hkp.2 3 hl3).trans h3
  obtain⟨h'',hx,hkx⟩:=b6g hL en ns a b ents k hn s hsb l[j] (hw _ (List.getElem_mem hj)).ew 1 h' h2' h3' h.length hkp.1 V4 fs (hv.keep hkp.2) hvis
  have hkx':Kp h.length h h'':=hkp.trans (hkx.le hkp.1)
  rw[List.drop_eq_getElem_cons hj] at hdn
  have hd2:a0d (λe=>a2r s e 1) (l[j]::l.drop (j+1))=if a2r s l[j] 1=0 then a0d (λe=>a2r s e 1) (l.drop (j+1)) else a2r s l[j] 1:=rfl
  rw[hd2] at hdn
  by_cases hz:a2r s l[j] 1=0
  ·rw[if_pos hz] at hdn
   rw[hz] at hx
   simp[a0z] at hx
   simp[hj,hvc,hvt,hx,hwr]
   exact ih _ ⟨_,_,_,rfl,hkx',hdn⟩
  ·rw[if_neg hz] at hdn
   simp[a0z,hz] at hx
   simp[hj,hvc,hvt,hx]
   rw[← hdn]
   exact no (by rw[hdn]; exact hz) h'' _ _ hkx'
 ·rintro st ⟨y6,g',h',rfl,hkp,hdn⟩
  rw[List.drop_eq_nil_of_le (Nat.le_refl _)] at hdn
  simp
  exact ok hdn h' _ _ hkp
end
def b85 (sz by':Nat) (z:List PV):PFunc:=⟨2,3,(S (R [t 2 (.c (.list true []))]) (S (B [m v1,b .lss l0 (k 0)] l1 (R [m (.c .dead),r (.mov (.c .dead))]) Z) (S (S (R [m v1,m v0,p (.cap l1),m v0,n l3,b .sub l2 l4,b .sub l0 l5,t 1 l6]) (B [m v1,b .gtr l0 (k 0)] l1 (R [m v0,m v0,p (.cap l1),p (.slice false sz l0 none (some l2)),m v1,p (.h (.happz sz true by' z l3 l4)),m v0,n l6,p (.slice false sz l5 none (some l7)),t 0 l8]) Z)) (S (R [m v0,t 2 l0]) Y)))),[.keep 2],false,none,none⟩
def c3a:PC:=(.loop (S (B [b .lss v8 v7] l0 Z (X 0)) (S (K 1 (S (R [i 1 v6 v8,c l0,t 3 l1]) (S (R [m v2,m v3,n l1,b .add l0 l2,t 2 l3]) (B [m v2,b .lss l0 (k 0)] l1 (R [m (.c .dead),r (.mov (.c .dead))]) Z)))) (R [b .add v8 (k 1),q 8 (.mov l0)]))))
def c3b (sz by':Nat):PC:=(.loop (S (B [b .lss v11 v10] l0 Z (X 2)) (S (K 3 (S (R [i 1 v9 v11,c l0,t 5 l1]) (R [p (.take v4),m v5,p (.h (.happ sz true by' l0 l1)),t 4 l2]))) (R [b .add v11 (k 1),q 11 (.mov l0)]))))
def d1q (sz by' gr:Nat) (res:PRes):PFunc:=⟨1,12,(S (R [t 1 (.c .nils)]) (S (R [t 2 (k 0)]) (S (S (R [q 6 (.mov v0),q 7 (.len false v6),q 8 (.mov (k 0))]) (K 0 c3a)) (S (R [m v2,fh gr [(.c .nils),l0],t 4 l1]) (S (S (R [q 9 (.mov v0),q 10 (.len false v9),q 11 (.mov (k 0))]) (K 2 (c3b sz by'))) (S (R [m v4,t 1 l0]) Y)))))),[res],false,none,none⟩
structure Enc {α:Type} (e:α→PV) (sz:Nat):Prop where
 agg:∀x,e x = .agg (e x).cells
 len:∀x,(e x).cells.length=sz
 dem:∀x,(e x).cells.map dem=(e x).cells
 pos:0<sz
section
variable {α:Type} {e:α→PV} {sz:Nat} (he:Enc e sz)
def RowOf (e:α→PV) (sz:Nat) (h:List PObj) (b:Nat) (v:PV) (l:List α):Prop:=(v = .nils∧l=[])∨∃k cs,b≤k∧v = .rowp k sz true l.length∧h[k]? = some (.cells cs)∧l.length*sz≤cs.length∧cs.take (l.length*sz)=(l.map e).flatMap PV.cells
def a2t (e:α→PV) (gs:List (List α)):List PV:=gs.map λg => .list false (g.map e)
def a10 (gs:List (List α)):Nat:=a0h List.length gs
theorem a9G:∀(a b:List (List α)),a10 (a++b)=a10 a+a10 b
 | [],b=>by simp[a10,a0h]
 | x :: a, b => by
   have:=a9G a b
   simp only[a10] at this
   simp only[a10,List.cons_append,a0h,this]; omega
theorem b1t (gs:List (List α)) (j:Nat) (hj:j<gs.length):a10 (gs.take (j+1))=a10 (gs.take j)+gs[j].length:=by
 rw[a14 hj,a9G]
 simp[a10,a0h]
theorem b4J (gs:List (List α)) (j:Nat):a10 (gs.take j)≤a10 gs:=by
 have:=a9G (gs.take j) (gs.drop j)
 rw[List.take_append_drop] at this; omega
theorem b1u (gs:List (List α)):gs.flatten.length=a10 gs:=by
 induction gs with
 | nil=>rfl
 | cons x gs ih=>rw[List.flatten_cons,List.length_append,ih]; simp[a10,a0h]
include he
theorem Enc.cellsDem:∀l:List α,((l.map e).flatMap PV.cells).map PI.dem=(l.map e).flatMap PV.cells
 | []=>rfl
 | x :: l => by
   rw[List.map_cons,List.flatMap_cons,List.map_append,Enc.cellsDem l,he.dem]
theorem Enc.cellsLen:∀l:List α,((l.map e).flatMap PV.cells).length=l.length*sz
 | []=>by simp
 | x :: l => by
   rw[List.map_cons,List.flatMap_cons,List.length_append,Enc.cellsLen l,he.len,List.length_cons,Nat.succ_mul]; omega
theorem Enc.head (l:List α):a0W sz (l.map e)=true:=by
 cases l with
 | nil=>rfl
 | cons x l=>simp[a0W,he.len]
theorem Enc.els (l:List α) (cs:List PV) (hc:cs.take (l.length*sz)=(l.map e).flatMap PV.cells):a3A sz true cs l.length 0=some (l.map e):=by
 have key:∀(l:List α) (pre post:List PV),a3A sz true (pre++((l.map e).flatMap PV.cells++post)) l.length pre.length=some (l.map e):=by
  intro l
  induction l with
  | nil=>intro pre post; rfl
  | cons x l ih =>
    intro pre post
    have h1:=ih (pre++(e x).cells) post
    rw[List.length_append,he.len] at h1
    have h2:pre++(e x).cells++((l.map e).flatMap PV.cells++post)=pre++(((x::l).map e).flatMap PV.cells++post):=by simp
    rw[h2] at h1
    have h3:a0a sz true (pre++(((x::l).map e).flatMap PV.cells++post)) pre.length=some (e x):=by
     have hl:=he.len x
     have h4:pre.length+sz≤(pre++(((x::l).map e).flatMap PV.cells++post)).length:=by
      rw[List.length_append,List.length_append,List.map_cons,List.flatMap_cons,List.length_append]; omega
     simp only[a0a,if_true,h4,List.drop_left']
     rw[List.map_cons,List.flatMap_cons,List.append_assoc,List.take_left' hl,he.dem,← he.agg]
    rw[List.length_cons,a3A,h3,Option.bind_some,h1]
    rfl
 have:=key l [] (cs.drop (l.length*sz))
 rw[← hc,List.take_append_drop] at this
 exact this
theorem Enc.happ {by':Nat} (hby:by'≤16384) (h:List PObj) (b:Nat) (hb:b≤h.length) (v:PV) (l m:List α) (hv:RowOf e sz h b v l) (hl:l.length+m.length≤4500):∃v' h',(∀st:St,st.heap=h→b2u h sz true by' (m.map e) v st=some (v',{ st with heap:=h' }))∧Kp b h h'∧RowOf e sz h' b v' (l++m):=by
 have hh3:=he.head m
 rcases hv with⟨rfl,rfl⟩|⟨k,cs,hk,rfl,hc,hcl,hct⟩
 ·by_cases hm:m=[]
  ·subst hm
   refine⟨.nils,h,?_,Kp.refl _ _,.inl ⟨rfl,rfl⟩⟩
   intro st hst
   simp[b2u,← hst]
  ·refine⟨.rowp h.length sz true m.length,h++[.cells ((m.map e).flatMap PV.cells)],?_,Kp.app hb,.inr ⟨h.length,(m.map e).flatMap PV.cells,hb,by simp,by simp,?_,?_⟩⟩
   ·intro st hst
    have h1:m.length≤2147483648:=by simp at hl; omega
    have hmm:¬m.map e=[]:=by simpa using hm
    simp only[b2u,hmm,if_false,hh3,List.length_map,h1,he.cellsDem,hby]
    simp[hst]
   ·rw[he.cellsLen]; simp
   ·rw[List.nil_append,List.take_of_length_le (by rw[he.cellsLen]; omega)]
 ·have hkl:k<h.length:=(List.getElem?_eq_some_iff.1 hc).1
  refine⟨.rowp h.length sz true (l.length+m.length),h.set k .gone++[.cells ((l.map e).flatMap PV.cells++(m.map e).flatMap PV.cells)],?_,⟨by simp,λn hn =>?_⟩,.inr ⟨h.length,(l.map e).flatMap PV.cells++(m.map e).flatMap PV.cells,hb,by simp,?_,?_,?_⟩⟩
  ·intro st hst
   have h1:l.length+m.length≤2147483648:=by omega
   simp only[b2u,hc,hh3,List.length_map,h1,hcl,hct,he.cellsDem,hby]
   simp
  ·rw[List.getElem?_append_left (by simp; omega),List.getElem?_set_ne (by omega)]
  ·have:(h.set k .gone).length=h.length:=by simp
   rw[← this,List.getElem?_append_right (Nat.le_refl _)]
   simp
  ·rw[List.length_append,List.length_append,he.cellsLen,he.cellsLen,Nat.add_mul]; omega
  ·rw[List.map_append,List.flatMap_append,List.take_of_length_le (by rw[List.length_append,List.length_append,he.cellsLen,he.cellsLen,Nat.add_mul]; omega)]
end
theorem RowOf.cp {α:Type} {e:α→PV} {sz:Nat} {h:List PObj} {b:Nat} {v:PV} {l:List α} (hv:RowOf e sz h b v l):cp v=some v∧tkv v=some (v,false)∧dem v=v:=by
 rcases hv with⟨rfl,_⟩|⟨k,cs,_,rfl,_⟩<;>exact⟨rfl,rfl,rfl⟩
section
variable {L:Nat→Option PFunc} {α:Type} {e:α→PV} {sz by' gr:Nat} {z:List PV} (he:Enc e sz) (hby:by'≤16384)
theorem d0r {sz by':Nat} {z:List PV} (hf:L gr=some (b85 sz by' z)) (h:List PObj):a0o L gr [.nils,.int .i64 0] h=some (.nils,h):=by
 refine a0i hf rfl ?_
 have hw0:IntKind.i64.wrap (-IntKind.i64.wrap 0)=0:=by decide
 simp[b85,hw0]
theorem d0s {sz by':Nat} {z:List PV} (hby:by'≤16384) (hf:L gr=some (b85 sz by' z)) (n:Nat) (h0:0<n) (hn:n≤4500) (h:List PObj):∃cs,a0o L gr [.nils,.int .i64 n] h=some (.rowp h.length sz true 0,h++[.cells cs]):=by
 have h0i:(0:Int)<n:=by omega
 have hni:(n:Int)≤2147483648:=by omega
 have hneg:¬(n:Int)<0:=by omega
 have hw00:IntKind.i64.wrap 0=0:=by decide
 have hw:IntKind.i64.wrap (n:Int)=n:=by
  have:=a0c (n - 1) (by omega)
  have e:((n - 1:Nat):Int)+1=n:=by omega
  rw[e] at this
  rw[this]
  omega
 refine⟨(List.replicate n (z.map dem)).flatten,?_⟩
 refine a0i hf rfl ?_
 simp[b85,h0i,hni,hneg,h0,hw,hw00,hby]
theorem c6B (gs:List (List α)) (hg:gs.length≤1500) (hn:a10 gs≤4500) (h:List PObj) (V0 V1 V3 V4 V5 V9 V10 V11:PV) (g:Nat) {Q:PExit→St→Prop}
  (ok:∀y3,Q (.exit 0) ⟨[V0,V1,.int .i64 (a10 gs),y3,V4,V5,.list false (a2t e gs),.int .i64 gs.length,.int .i64 gs.length,V9,V10,V11],[],g,h⟩):
  wpL L c3a ⟨[V0,V1,.int .i64 0,V3,V4,V5,.list false (a2t e gs),.int .i64 gs.length,.int .i64 0,V9,V10,V11],[],g,h⟩ Q:=by
 rw[c3a]
 refine a0V gs.length (λj st=>∃y3,st=⟨[V0,V1,.int .i64 (a10 (gs.take j)),y3,V4,V5,.list false (a2t e gs),.int .i64 gs.length,.int .i64 j,V9,V10,V11],[],g,h⟩) ?_ ?_ ⟨_,by simp[a10,a0h]; rfl⟩
 ·rintro j hj st ⟨y3,rfl⟩ ih
  have hw:=a0c j (by omega)
  have ht:=b1t gs j hj
  have hle:=b4J gs (j+1)
  obtain⟨A,hA⟩:∃A,A=a10 (gs.take j):=⟨_,rfl⟩
  obtain⟨B,hB⟩:∃B,B=a10 (gs.take (j+1)):=⟨_,rfl⟩
  rw[← hA,← hB] at ht
  rw[← hB] at hle
  have hws:IntKind.i64.wrap ((A:Int)+gs[j].length)=B:=by
   have:=b69 (A+gs[j].length) (by omega)
   rw[show (A:Int)+gs[j].length=((A+gs[j].length:Nat):Int) by omega,this,ht]
  have hjg:j<(a2t e gs).length:=by simpa[a2t] using hj
  have hgj:(a2t e gs)[j]? = some (.list false (gs[j].map e)):=by simp[a2t,hj]
  rw[← hA]
  rw[← hB] at ih
  obtain⟨GS,hGS⟩:∃GS,GS=a2t e gs:=⟨_,rfl⟩
  rw[← hGS] at ih hjg hgj ⊢
  have hge:GS[j] = .list false (gs[j].map e):=(List.getElem?_eq_some_iff.1 hgj).2
  have hcl:∀es,(PV.list false es).cells=[.list false es]:=λ_=>rfl
  have hBn:¬(B:Int)<0:=by omega
  simp[hj,hjg,hgj,hw,hws,hge,hcl,hBn]
  exact ih _ ⟨_,rfl⟩
 ·rintro st ⟨y3,rfl⟩
  rw[List.take_length]
  simp
  exact ok _
include he hby
theorem c1Z (gs:List (List α)) (hg:gs.length≤1500) (hn:a10 gs≤4500) (h:List PObj) (b:Nat) (hb:b≤h.length) (V4:PV) (hV4:RowOf e sz h b V4 []) (V0 V1 V2 V3 V5 V6 V7 V8:PV) (g:Nat) {Q:PExit→St→Prop}
  (ok:∀h' v y5,Kp b h h'→RowOf e sz h' b v gs.flatten→Q (.exit 2) ⟨[V0,V1,V2,V3,v,y5,V6,V7,V8,.list false (a2t e gs),.int .i64 gs.length,.int .i64 gs.length],[],g,h'⟩):
  wpL L (c3b sz by') ⟨[V0,V1,V2,V3,V4,V5,V6,V7,V8,.list false (a2t e gs),.int .i64 gs.length,.int .i64 0],[],g,h⟩ Q:=by
 rw[c3b]
 refine a0V gs.length (λj st=>∃v y5 h',st=⟨[V0,V1,V2,V3,v,y5,V6,V7,V8,.list false (a2t e gs),.int .i64 gs.length,.int .i64 j],[],g,h'⟩∧Kp b h h'∧RowOf e sz h' b v (gs.take j).flatten) ?_ ?_ ⟨_,_,h,rfl,Kp.refl _ _,hV4⟩
 ·rintro j hj st ⟨v,y5,h',rfl,hkp,hv⟩ ih
  have hw:=a0c j (by omega)
  have ht:=b1t gs j hj
  have hle:=b4J gs (j+1)
  have hfl:(gs.take (j+1)).flatten=(gs.take j).flatten++gs[j]:=by
   rw[a14 hj,List.flatten_append]; simp
  obtain⟨v',h'',hap,hkx,hv'⟩:=he.happ hby h' b (Nat.le_trans hb hkp.1) v _ gs[j] hv (by rw[b1u]; omega)
  have hgj:(a2t e gs)[j]? = some (.list false (gs[j].map e)):=by simp[a2t,hj]
  have hjg:j<(a2t e gs).length:=by simpa[a2t] using hj
  obtain⟨GS,hGS⟩:∃GS,GS=a2t e gs:=⟨_,rfl⟩
  rw[← hGS] at ih hjg hgj ⊢
  have hge:GS[j] = .list false (gs[j].map e):=(List.getElem?_eq_some_iff.1 hgj).2
  have hcl:∀es,(PV.list false es).cells=[.list false es]:=λ_=>rfl
  have hc:=hv.cp
  have hc':=hv'.cp
  rw[← hfl] at hv'
  simp[hj,hjg,hgj,hw,hge,hcl,hc.1,hc.2.1,hc.2.2,hap,hc'.1,hc'.2.1,hc'.2.2]
  exact ih _ ⟨v',_,h'',rfl,hkp.trans hkx,hv'⟩
 ·rintro st ⟨v,y5,h',rfl,hkp,hv⟩
  rw[List.take_length] at hv
  simp
  exact ok h' v y5 hkp hv
theorem c0G {k:Nat} (hf:L k=some (d1q sz by' gr (.keep 1))) (hgr:L gr=some (b85 sz by' z)) (gs:List (List α)) (hg:gs.length≤1500) (hn:a10 gs≤4500) (o:Bool) (h:List PObj):∃v h',a0o L k [.list o (a2t e gs)] h=some (v,h')∧Kp h.length h h'∧RowOf e sz h' h.length v gs.flatten:=by
 suffices H:∃r,a0o L k [.list o (a2t e gs)] h=some r∧Kp h.length h r.2∧RowOf e sz r.2 h.length r.1 gs.flatten from by
  obtain⟨⟨v,h'⟩,h1,h2,h3⟩:=H
  exact⟨v,h',h1,h2,h3⟩
 refine a2Y hf rfl ?_
 have hgl:(a2t e gs).length=gs.length:=by simp[a2t]
 simp[d1q,hgl]
 refine c6B gs hg hn h _ _ _ _ _ _ _ _ _ ?_
 intro y3
 by_cases h0:a10 gs=0
 ·have hgr:=d0r hgr h
  have h0i:(a10 gs:Int)=0:=by omega
  simp[h0i,hgr,hgl]
  refine c1Z he hby gs hg hn h h.length (Nat.le_refl _) .nils (.inl ⟨rfl,rfl⟩) _ _ _ _ _ _ _ _ _ ?_
  intro h' v y5 hk hv
  have hc:=hv.cp
  simp[hc.1,hc.2.1,hc.2.2,b3e]
  exact⟨hk,hv⟩
 ·obtain⟨cs,hgr⟩:=d0s hby hgr (a10 gs) (by omega) hn h
  simp[hgr,hgl]
  refine c1Z he hby gs hg hn _ h.length (by simp) (.rowp h.length sz true 0) (.inr ⟨h.length,cs,Nat.le_refl _,rfl,by simp,by simp,by simp⟩) _ _ _ _ _ _ _ _ _ ?_
  intro h' v y5 hk hv
  have hc:=hv.cp
  simp[hc.1,hc.2.1,hc.2.2,b3e]
  exact⟨(Kp.app (Nat.le_refl _)).trans hk,hv⟩
end
theorem b58:Enc a0B 3:=⟨λ_=>rfl,λ_=>rfl,λ_=>rfl,by decide⟩
section
variable {L:Nat→Option PFunc} (hL:∀k f,LS k=some f→L k=some f)
include hL
theorem c05 (l:List On) (hl:l.length≤1500) (o:Bool) (h:List PObj):∃r,a0o L 34 [.list o (l.map eOn)] h=some (.list r (l.map eOn),h):=by
 refine⟨true,?_⟩
 refine b6r (hL 34 _ rfl) rfl rfl ?_ ?_
 ·intro hv
  cases l with
  | nil=>simp at hv
  | cons x l =>
    rw[List.length_cons] at hl
    have h1:l.length+1≤9223372036854775807:=by omega
    have h2:(l.length+1)*32≤140737488355328:=by omega
    have h3:l.length+1≤2147483648:=by omega
    simp[a11,h1,h2,h3]
 ·intro hv
  cases l with
  | nil=>simp[a11]
  | cons x l=>simp at hv
end
section
variable {L:Nat→Option PFunc} (hL:∀k f,LS k=some f→L k=some f)
include hL
theorem b4X (gs:List (List Decl)) (hg:gs.length≤1500) (hn:a10 gs≤4500) (o:Bool) (h:List PObj):∃v h',a0o L 33 [.list o (a2t a0B gs)] h=some (v,h')∧Kp h.length h h'∧RowOf a0B 3 h' h.length v gs.flatten:=
 c0G b58 (by decide) (k:=33) (by':=48) (gr:=74) (hL 33 _ rfl) (hL 74 _ rfl) gs hg hn o h
theorem c16 (l:List Decl) (cs:List PV) (hc:cs.take (l.length*3)=(l.map a0B).flatMap PV.cells) (hl:l.length*3≤cs.length) (j:Nat) (hj:j<l.length):
  j*3+3≤cs.length∧List.map dem (List.take 3 (List.drop (j*3) cs))=[.str l[j].name,.int .i64 l[j].type,.list false (l[j].clock.map eOn)]∧cs.set (j*3+2) (.list false (l[j].clock.map eOn))=cs:=by
 have _:=hL
 have he:=b58.els l cs hc
 obtain⟨_,hg⟩:=a7S he
 have h1:=hg j (a0B l[j]) (by simp[hj])
 simp only[Nat.zero_add,a0a,if_true] at h1
 have hb:j*3+3≤cs.length:=by omega
 rw[if_pos hb,a81] at h1
 simp only[Option.some.injEq,PV.agg.injEq] at h1
 refine⟨hb,h1,?_⟩
 have hlt:j*3+2<cs.length:=by omega
 have hx:cs[j*3+2]? = some (.list false (l[j].clock.map eOn)):=by
  have hflat:∀(l:List Decl) (j:Nat) (hj:j<l.length),((l.map a0B).flatMap PV.cells)[j*3+2]? = some (.list false (l[j].clock.map eOn)):=by
   intro l
   induction l with
   | nil=>intro j hj; simp at hj
   | cons x l ih =>
     intro j hj
     rw[List.map_cons,List.flatMap_cons]
     cases j with
     | zero=>rfl
     | succ j =>
       have:=ih j (by simpa using hj)
       have e:(j+1)*3+2=(a0B x).cells.length+(j*3+2):=by show _=3+_; omega
       rw[e,List.getElem?_append_right (by omega),Nat.add_sub_cancel_left]
       simpa using this
  have:=hflat l j hj
  rw[← hc,List.getElem?_take_of_lt (by omega)] at this
  exact this
 obtain⟨h2,h3⟩:=List.getElem?_eq_some_iff.1 hx
 rw[← h3]; exact List.set_getElem_self h2
theorem c3u (n:Node) (h1:n.ins.length≤1500) (h2:n.outs.length≤1500) (h3:n.locals.length≤1500) (hd:∀d∈vars n,d.clock.length≤1500):∃h',a0o L 11 [a1B n] []=some (.list false ((vars n).map a0B),h'):=by
 suffices H:∃r,a0o L 11 [a1B n] []=some r∧r.1 = .list false ((vars n).map a0B) by
  obtain⟨⟨v,h'⟩,h1,h2⟩:=H
  simp only at h2; subst h2
  exact⟨h',h1⟩
 obtain⟨v,h',hc,_,hr⟩:=b4X hL [n.ins,n.outs,n.locals] (by simp) (by simp[a10,a0h]; omega) false []
 have hf:[n.ins,n.outs,n.locals].flatten=vars n:=by simp[vars]
 rw[hf] at hr
 have hx:a2t a0B [n.ins,n.outs,n.locals]=[.list false (n.ins.map a0B),.list false (n.outs.map a0B),.list false (n.locals.map a0B)]:=rfl
 rw[hx] at hc
 have hvl:(vars n).length≤4500:=by simp[vars]; omega
 obtain⟨D,hD⟩:∃D,D=vars n:=⟨_,rfl⟩
 rw[← hD] at hr hd hvl ⊢
 refine a2Y (hL 11 _ rfl) rfl ?_
 rcases hr with⟨rfl,rfl⟩|⟨k,cs,_,rfl,hk,hl,ht⟩
 ·simp[a5J,hc]
  rw[a5k,a2M]
  simp[b3e]
 ·simp[a5J,hc]
  rw[a5k]
  refine a0V D.length (λj st=>∃y4 y5 g,st=⟨[a1B n,.loc 0 (a1B n).cells,.list true [],.rowp k 3 true D.length,y4,y5,.rowp k 3 true D.length,.int .i64 D.length,.int .i64 j],[],g,h'⟩) ?_ ?_ ⟨_,_,_,rfl⟩
  ·rintro j hj st ⟨y4,y5,g,rfl⟩ ih
   have hw:=a0c j (by omega)
   obtain⟨r1,r2,r3⟩:=c16 hL D cs ht hl j hj
   obtain⟨o,hcl⟩:=c05 hL D[j].clock (hd _ (List.getElem_mem hj)) false []
   have a3L:h'.set k (.cells cs)=h':=a87 hk
   have r4:j*3+2<cs.length:=by omega
   simp[hj,hw,hk,r1,r2,r3,r4,hcl,a3L]
   exact ih _ ⟨_,_,_,rfl⟩
  ·rintro st ⟨y4,y5,g,rfl⟩
   simp[b3e,hk,b58.els _ _ ht]
end
section
variable {L:Nat→Option PFunc} (hL:∀k f,LS k=some f→L k=some f) (en:List Enum) (ns:List Node) (a b:Int) (ents:a78)
include hL
theorem b4G (h:List PObj) (hb:4≤h.length):∃h',a0o L 58 [.nilptr] h=some (.ptr (h.length+2) 0,h')∧h'.length=h.length+3∧Kp h.length h h'∧TopAt h' h'.length h.length (h.length+2) h.length (h.length+1) (.map none) (.list true []) .nilptr ⟨[],[],[],[]⟩ []:=by
 refine⟨h++[.map [],.map [],.cells [.nilptr,.map (some h.length),.map (some (h.length+1)),.map none,.list true []]],?_,by simp,Kp.app (Nat.le_refl _),?_⟩
 ·refine a0i (hL 58 _ rfl) rfl ?_
  simp[a1P,PV.cells]
 ·exact⟨by omega,by omega,by omega,by simp,by simp,by simp,by omega,by omega,by omega,hb,by simp,by simp[bmE],by simp[bmE],.inl ⟨rfl,rfl⟩,.inl ⟨rfl,rfl⟩,λ_ _ _ _ e=>by simp at e,rfl⟩
theorem a7L (l m:List Decl):a0b (l++m)=a0b l++a0b m:=by have _:=hL; simp[a0b]
theorem b4H (F:List Decl) (hF:F.length≤4500) (h:List PObj) (q q' n o d:Nat) (i dv up:PV) (fs:List Fr) (t:TopAt h q q' n o d i dv up ⟨[],[],[],[]⟩ fs) (kr:Nat) (hkr:q≤kr) (cs:List PV) (hk:h[kr]? = some (.cells cs)) (hl:F.length*3≤cs.length) (ht:cs.take (F.length*3)=(F.map a0B).flatMap PV.cells)
  (V0 V1 V2 V3 V5 V6 V10 V11 V12:PV) (g:Nat) {Q:PExit→St→Prop}
  (ok:∀y5 g' h' O,h'.length=h.length→Kp q' h h'→TopAt h' q q' n o d i dv up ⟨O,[],[],[]⟩ fs→(∀x,x∈O↔x∈a0b F)→Q (.exit 0) ⟨[V0,V1,V2,V3,.ptr n 0,y5,V6,.rowp kr 3 true F.length,.int .i64 F.length,.int .i64 F.length,V10,V11,V12],[],g',h'⟩):
  wpL L a1V ⟨[V0,V1,V2,V3,.ptr n 0,V5,V6,.rowp kr 3 true F.length,.int .i64 F.length,.int .i64 0,V10,V11,V12],[],g,h⟩ Q:=by
 rw[a1V]
 refine a0V F.length (λj st=>∃y5 g' h' O,st=⟨[V0,V1,V2,V3,.ptr n 0,y5,V6,.rowp kr 3 true F.length,.int .i64 F.length,.int .i64 j,V10,V11,V12],[],g',h'⟩∧h'.length=h.length∧Kp q' h h'∧h'[kr]? = some (.cells cs)∧TopAt h' q q' n o d i dv up ⟨O,[],[],[]⟩ fs∧∀x,x∈O↔x∈a0b (F.take j)) ?_ ?_ ⟨_,_,h,[],rfl,rfl,Kp.refl _ _,hk,t,by simp[a0b]⟩
 ·rintro j hj st ⟨y5,g',h',O,rfl,hlen,hkp,hk,t,hO⟩ ih
  have hw:=a0c j (by omega)
  obtain⟨r1,r2,r3⟩:=c16 hL F cs ht hl j hj
  obtain⟨r,hr,_,hr3⟩:=a5A F[j].name O
  have e1:=t.hn
  have e2:=t.ho
  have hne:t.uo=t.uo:=rfl
  have huo:=t.uo
  simp only[] at e1 e2
  simp[hj,hw,hk,r1,r2,e1,e2,hr,a5D]
  refine ih _ ⟨_,_,_,b72 O F[j].name,rfl,by simpa using hlen,hkp.trans (Kp.set t.lo),by rw[List.getElem?_set_ne (by omega)]; exact hk,?_,λx =>?_⟩
  ·rw[hr3]
   exact t.setO _
  ·rw[b0X,hO,a14 hj,a7L hL,List.mem_append]
   simp[a0b]
 ·rintro st ⟨y5,g',h',O,rfl,hlen,hkp,hk,t,hO⟩
  rw[List.take_length] at hO
  simp
  exact ok _ _ _ _ hlen hkp t hO
theorem b4I (k:Nat) (hnd:NodesIn ents ns k) (s:Place) (hsb:s.before=ns.take k) (l:List Expr) (hl:l.length≤1500) (hw:∀x∈l,XW x) (gs:List (List Decl)) (hg:gs.length≤1500) (hn:a10 gs≤4500) (hvis:∀x,x∈a0b gs.flatten↔x∈s.vis) (o1 o2:Bool)
  (h:List PObj) (h4:4≤h.length) (h2:h[2]? = some (a0s ents)) (h3:h[3]? = some (a0f en ns a b)):
  ∃h',a3b L 63 [.ptr 3 0,.int .i64 k,.list o1 (l.map a0u),.list o2 (a2t a0B gs)] h=some (a0z 1 a b (a0d (λe=>a2r s e 1) l),h')∧Kp h.length h h':=by
 suffices H:∃res,a3b L 63 [.ptr 3 0,.int .i64 k,.list o1 (l.map a0u),.list o2 (a2t a0B gs)] h=some res∧∃h',res=(a0z 1 a b (a0d (λe=>a2r s e 1) l),h')∧Kp h.length h h' by
  obtain⟨res,e1,h',e2,e3⟩:=H
  exact⟨h',by rw[e1,e2],e3⟩
 obtain⟨h1,c1,hl1,k1,t1⟩:=b4G hL h h4
 obtain⟨v,hx,c2,k2,hr⟩:=b4X hL gs hg hn false h1
 have hkx:Kp h.length h hx:=k1.trans (k2.le k1.1)
 have tx:TopAt hx h1.length h.length (h.length+2) h.length (h.length+1) (.map none) (.list true []) .nilptr ⟨[],[],[],[]⟩ []:=t1.keep k2.2
 obtain⟨F,hF⟩:∃F,F=gs.flatten:=⟨_,rfl⟩
 have hFl:F.length≤4500:=by rw[hF,b1u]; exact hn
 rw[← hF] at hr hvis
 have hfin:∀(V3 V5 V6 V7 V8 V9:PV) (g:Nat) (h':List PObj) (O:List Str),h1.length≤h'.length→Kp h.length hx h'→TopAt h' h1.length h.length (h.length+2) h.length (h.length+1) (.map none) (.list true []) .nilptr ⟨O,[],[],[]⟩ []→(∀x,x∈O↔x∈a0b F) →
   wpL L a1W ⟨[.ptr 3 0,.int .i64 k,.list false (l.map a0u),V3,.ptr (h.length+2) 0,V5,V6,V7,V8,V9,.list false (l.map a0u),.int .i64 l.length,.int .i64 0],[],g,h'⟩ (a7J 2 (c3K L a1q λres=>∃h',res=(a0z 1 a b (a0d (λe=>a2r s e 1) l),h')∧Kp h.length h h')):=by
  intro V3 V5 V6 V7 V8 V9 g h' O hle hkp t hO
  have hk':=hkx.trans hkp
  refine b46 hL en ns a b ents k hnd s hsb l hl hw h' ((hk'.2 2 (by omega)).trans h2) ((hk'.2 3 (by omega)).trans h3) (.ptr (h.length+2) 0) [⟨O,[],[],[]⟩] (t.holds.up hle) (λx=>by simp[a6u,hO,hvis]) _ _ _ _ _ _ _ _ _ _ _ rfl rfl rfl ?_ ?_
  ·intro hz h'' y6 g' hk''
   rw[hz]
   simp[a0z,a1q]
   exact hk'.trans (hk''.le hk'.1)
  ·intro hz h'' W g' hk''
   simp[a0z,hz]
   exact hk'.trans (hk''.le hk'.1)
 refine a4w (hL 63 _ rfl) rfl ?_
 rcases hr with⟨rfl,rfl⟩|⟨kr,cs,hkr,rfl,hk,hcl,hct⟩
 ·simp[a1q,c1,c2]
  rw[a1V,a2M]
  simp
  exact hfin _ _ _ _ _ _ _ hx [] (by have:=k2.1; omega) (Kp.refl _ _) tx (by simp[a0b])
 ·simp[a1q,c1,c2]
  refine b4H hL F hFl hx h1.length h.length _ _ _ _ _ _ [] tx kr hkr cs hk hcl hct _ _ _ _ _ _ _ _ _ _ ?_
  intro y5 g' h' O hlen hkp t hO
  simp
  exact hfin _ _ _ _ _ _ _ h' O (by have:=k2.1; omega) hkp t hO
end
section
variable {h:List PObj} {b b' n o d:Nat} {dv up:PV} {f:Fr} {fs:List Fr}
theorem TopAt.newI (t:TopAt h h.length b' n o d (.map none) dv up f fs) (hd:dv = .list true []) (hI:f.I=[]):
  TopAt ((h++[PObj.map []]).set n (PObj.cells [up,.map (some o),.map (some d),.map (some h.length),dv])) (h.length+1) b' n o d (.map (some h.length)) dv up f fs:=by
 have hun:=t.un
 have huo:=t.uo
 have hud:=t.ud
 have hln:=t.ln
 have key:∀k,k<h.length→k≠n→((h++[PObj.map []]).set n (PObj.cells [up,.map (some o),.map (some d),.map (some h.length),dv]))[k]? = h[k]? := λk h1 h2=>by
  rw[List.getElem?_set_ne (Ne.symm h2),List.getElem?_append_left h1]
 refine⟨t.ln,t.lo,t.ld,by omega,by omega,by omega,t.no,t.nd,t.od,t.four,?_,?_,?_,.inr ⟨h.length,rfl,by omega,by omega,by omega,by omega,by omega,?_⟩,?_,?_,?_⟩
 ·rw[List.getElem?_set_self (by simp; omega)]
 ·rw[key o huo (Ne.symm t.no)]; exact t.ho
 ·rw[key d hud (Ne.symm t.nd)]; exact t.hd
 ·rw[hI,List.getElem?_set_ne (by omega)]; simp[bmE]
 ·rcases t.row with h1|⟨k,e1,e2,e3,e4⟩
  ·exact .inl h1
  ·rw[hd] at e3; simp at e3
 ·intro k s a len e; rw[hd] at e; simp at e
 ·exact t.hup.keep λk hk=>key k (by omega) (by omega)
theorem TopAt.setI {m:Nat} (t:TopAt h b b' n o d (.map (some m)) dv up f fs) (I:List Str):h[m]? = some (.map (bmE f.I))∧b'≤m∧TopAt (h.set m (.map (bmE I))) b b' n o d (.map (some m)) dv up { f with I:=I } fs:=by
 have hi:=t.hi
 rcases hi with⟨h1,_⟩|⟨m',e1,e2,e3,e4,e5,e6,e7⟩
 ·simp at h1
 ·simp only[PV.map.injEq,Option.some.injEq] at e1
  subst e1
  have hl:=(List.getElem?_eq_some_iff.1 e7).1
  refine⟨e7,e2,t.ln,t.lo,t.ld,t.un,t.uo,t.ud,t.no,t.nd,t.od,t.four,?_,?_,?_,.inr ⟨m,rfl,e2,e3,e4,e5,e6,by rw[List.getElem?_set_self hl]⟩,?_,t.rne,t.hup.keep λk hk'=>List.getElem?_set_ne (by omega)⟩
  ·rw[List.getElem?_set_ne e4]; exact t.hn
  ·rw[List.getElem?_set_ne e5]; exact t.ho
  ·rw[List.getElem?_set_ne e6]; exact t.hd
  ·rcases t.row with h1|⟨k,e1,e2,e3,e4⟩
   ·exact .inl h1
   ·exact .inr ⟨k,e1,e2,e3,by rw[List.getElem?_set_ne (λe=>(t.rne _ _ _ _ e3).2.2.2 (by rw[e]))]; exact e4⟩
end
section
variable {L:Nat→Option PFunc} (hL:∀k f,LS k=some f→L k=some f)
include hL
theorem b7I (l:List Decl) (hl:l.length≤1500) (h:List PObj) (q q' n o d m:Nat) (dv up:PV) (f:Fr) (fs:List Fr) (t:TopAt h q q' n o d (.map (some m)) dv up f fs) (hI:f.I=[])
  (V0 V1 V2 V4 V5 V6 V7 V8 V12 V13 V14 V15 V16 V17 V18 V19 V20:PV) (g:Nat) {Q:PExit→St→Prop}
  (ok:∀y4 g' h' I,h'.length=h.length→Kp q' h h'→TopAt h' q q' n o d (.map (some m)) dv up { f with I:=I } fs→(∀x,x∈I↔x∈a0b l)→Q (.exit 0) ⟨[V0,V1,V2,.ptr n 0,y4,V5,V6,V7,V8,.list false (l.map a0B),.int .i64 l.length,.int .i64 l.length,V12,V13,V14,V15,V16,V17,V18,V19,V20],[],g',h'⟩):
  wpL L a3c ⟨[V0,V1,V2,.ptr n 0,V4,V5,V6,V7,V8,.list false (l.map a0B),.int .i64 l.length,.int .i64 0,V12,V13,V14,V15,V16,V17,V18,V19,V20],[],g,h⟩ Q:=by
 rw[a3c]
 refine a0V l.length (λj st=>∃y4 g' h' I,st=⟨[V0,V1,V2,.ptr n 0,y4,V5,V6,V7,V8,.list false (l.map a0B),.int .i64 l.length,.int .i64 j,V12,V13,V14,V15,V16,V17,V18,V19,V20],[],g',h'⟩∧h'.length=h.length∧Kp q' h h'∧TopAt h' q q' n o d (.map (some m)) dv up { f with I:=I } fs∧∀x,x∈I↔x∈a0b (l.take j)) ?_ ?_ ⟨_,_,h,[],rfl,rfl,Kp.refl _ _,by rw[← hI]; exact t,by simp[a0b]⟩
 ·rintro j hj st ⟨y4,g',h',I,rfl,hlen,hkp,t,hI⟩ ih
  have hw:=a0c j (by omega)
  obtain⟨r,hr,_,hr3⟩:=a5A l[j].name I
  have e1:=t.hn
  obtain⟨e2,e3,t2⟩:=t.setI (b72 I l[j].name)
  simp only[] at e1 e2
  simp[hj,hw,e1,e2,hr,a5D]
  refine ih _ ⟨_,_,_,b72 I l[j].name,rfl,by simpa using hlen,hkp.trans (Kp.set e3),by rw[hr3]; exact t2,λx =>?_⟩
  rw[b0X,hI,a14 hj,a7L hL,List.mem_append]
  simp[a0b]
 ·rintro st ⟨y4,g',h',I,rfl,hlen,hkp,t,hI⟩
  rw[List.take_length] at hI
  simp
  exact ok _ _ _ _ hlen hkp t hI
theorem b54 (s:Place) (q:Eqn) (qs:List Eqn) (k:Nat) (d:List Str):a5C s (q::qs) k d=if (b11 s q d).1=0 then a5C s qs (k+1) (b11 s q d).2 else .inl (k,(b11 s q d).1):=by have _:=hL; rfl
variable (en:List Enum) (ns:List Node) (ents:a78)
theorem b7J (i:Nat) (hnd:NodesIn ents ns i) (s:Place) (hsb:s.before=ns.take i) (l:List Eqn) (hl:l.length≤1500) (hq:∀q∈l,QW q) (h:List PObj) (h2:h[2]? = some (a0s ents)) (c:Int) (h3:h[3]? = some (a0f en ns i c)) (q' n o d:Nat) (iv dv up:PV) (f:Fr) (t:TopAt h h.length q' n o d iv dv up f []) (hvis:∀x,a6u [f] x=true↔x∈s.vis)
  (hD:f.D=f.df) (hin:∀x,x∈f.I↔x∈s.inputs) (hdl:f.df.length+(a0K l).length≤1000000) (h0:f.df=[])
  (V2 V4 V5 V6 V7 V8 V9 V10 V11 V15 V16 V17 V18 V19 V20:PV) (g:Nat) {Q:PExit→St→Prop}
  (ok:∀df,a5C s l 0 [] = .inr df→∀y5 y6 g' h' c' dv',Kp q' h (h'.set 3 (a0f en ns i c))→h'[3]? = some (a0f en ns i c')→TopAt h' h'.length q' n o d iv dv' up { f with D:=df,df:=df } []→Q (.exit 2) ⟨[.ptr 3 0,.int .i64 i,V2,.ptr n 0,V4,y5,y6,V7,V8,V9,V10,V11,.list false (l.map a5E),.int .i64 l.length,.int .i64 l.length,V15,V16,V17,V18,V19,V20],[],g',h'⟩)
  (no:∀k e,a5C s l 0 [] = .inl (k,e)→∀W g' h',Kp q' h (h'.set 3 (a0f en ns i c))→Q (.boom (a7C 1 i k e)) ⟨W,[],g',h'⟩):
  wpL L a3d ⟨[.ptr 3 0,.int .i64 i,V2,.ptr n 0,V4,V5,V6,V7,V8,V9,V10,V11,.list false (l.map a5E),.int .i64 l.length,.int .i64 0,V15,V16,V17,V18,V19,V20],[],g,h⟩ Q:=by
 rw[a3d]
 have h34:∀{h':List PObj},Kp q' h (h'.set 3 (a0f en ns i c))→h'[2]? = some (a0s ents):=λ{h'} hk=>by
  have:=hk.2 2 (by have:=t.four; omega)
  rw[List.getElem?_set_ne (by decide)] at this
  exact this.trans h2
 have h4q:=t.four
 refine a0V l.length (λj st=>∃y5 y6 g' h' c' dv' df,st=⟨[.ptr 3 0,.int .i64 i,V2,.ptr n 0,V4,y5,y6,V7,V8,V9,V10,V11,.list false (l.map a5E),.int .i64 l.length,.int .i64 j,V15,V16,V17,V18,V19,V20],[],g',h'⟩∧Kp q' h (h'.set 3 (a0f en ns i c))∧h'[3]? = some (a0f en ns i c')∧TopAt h' h'.length q' n o d iv dv' up { f with D:=df,df:=df } []∧a5C s l 0 []=a5C s (l.drop j) j df∧df.length+(a0K (l.drop j)).length≤1000000) ?_ ?_ ⟨_,_,_,h,c,dv,[],rfl,⟨by simp,λk hk=>by
   by_cases hk3:k=3
   ·subst hk3; rw[List.getElem?_set_self (List.getElem?_eq_some_iff.1 h3).1]; exact h3.symm
   ·rw[List.getElem?_set_ne (Ne.symm hk3)]⟩,h3,by
   have:({ f with D:=[],df:=[] }:Fr)=f:=by cases f; simp only at hD h0; subst h0; subst hD; rfl
   rw[this]; exact t,rfl,by rw[h0] at hdl; simpa using hdl⟩
 ·rintro j hj st ⟨y5,y6,g',h',c',dv',df,rfl,hkp,h3',t,hd,hle⟩ ih
  have hw:=a0c j (by omega)
  have hlt3:=(List.getElem?_eq_some_iff.1 h3').1
  rw[List.drop_eq_getElem_cons hj] at hd hle
  rw[b54 hL] at hd
  have hlo:a0K (l[j]::l.drop (j+1))=l[j].left++a0K (l.drop (j+1)):=by unfold a0K; rw[List.flatMap_cons]
  rw[hlo,List.length_append] at hle
  have hH3:(h'.set 3 (a0f en ns i j))[3]? = some (a0f en ns i j):=by rw[List.getElem?_set_self hlt3]
  have hH2:(h'.set 3 (a0f en ns i j))[2]? = some (a0s ents):=by rw[List.getElem?_set_ne (by decide)]; exact h34 hkp
  have tH:TopAt (h'.set 3 (a0f en ns i j)) (h'.set 3 (a0f en ns i j)).length q' n o d iv dv' up { f with D:=df,df:=df } []:=by
   rw[List.length_set]
   have key:∀k,4≤k→(h'.set 3 (a0f en ns i j))[k]? = h'[k]? := λk hk=>List.getElem?_set_ne (by omega)
   exact⟨t.ln,t.lo,t.ld,t.un,t.uo,t.ud,t.no,t.nd,t.od,t.four,(key _ (by have:=t.ln; omega)).trans t.hn,(key _ (by have:=t.lo; omega)).trans t.ho,(key _ (by have:=t.ld; omega)).trans t.hd,t.hi.imp id (fun⟨m,e1,e2,e3,e4,e5,e6,e7⟩=>⟨m,e1,e2,e3,e4,e5,e6,(key _ (by omega)).trans e7⟩),t.row.imp id (fun⟨k,e1,e2,e3,e4⟩=>⟨k,e1,e2,e3,(key _ (by omega)).trans e4⟩),t.rne,t.hup⟩
  obtain⟨h'',hx,hkx,hres⟩:=c19 hL en ns i j ents i hnd s hsb l[j] (hq _ (List.getElem_mem hj)) _ hH2 hH3 q' n o d iv dv' up { f with D:=df,df:=df } [] tH (λx=>by have:=hvis x; simpa[a6u] using this) [] rfl (λx=>by simp[b2l,hin]) (by simp only; omega)
  simp only[List.nil_append] at hx hres
  have hkx':Kp q' h (h''.set 3 (a0f en ns i c)):=by
   refine⟨by have:=hkp.1; have:=hkx.1; simp at *; omega,λk hk =>?_⟩
   by_cases hk3:k=3
   ·subst hk3
    have:=hkx.1
    rw[List.getElem?_set_self (by simp at this; omega)]; exact h3.symm
   ·rw[List.getElem?_set_ne (Ne.symm hk3),hkx.2 k hk,List.getElem?_set_ne (Ne.symm hk3)]
    have:=hkp.2 k hk
    rwa [List.getElem?_set_ne (Ne.symm hk3)] at this
  have h3'':h''[3]? = some (a0f en ns i j):=(hkx.2 3 (by omega)).trans hH3
  have hst:h'.set 3 (.cells [.list false (en.map a0U),.list false (ns.map a1B),.int .i64 i,.int .i64 j,.map (some 2)])=h'.set 3 (a0f en ns i j):=rfl
  have h3e:h'[3]? = some (.cells [.list false (en.map a0U),.list false (ns.map a1B),.int .i64 i,.int .i64 c',.map (some 2)]):=h3'
  by_cases hz:(b11 s l[j] df).1=0
  ·rw[if_pos hz] at hd
   obtain⟨dv2,df2,e1,t2⟩:=hres hz
   rw[hz] at hx
   simp[a0z] at hx
   simp[hj,h3e,hst,hx,hw]
   have hdf2:df2.length=df.length+l[j].left.length:=by
    have h1:=(b3t.1 (Prod.ext hz e1:b11 s l[j] df=(0,df2))).1
    rw[h1,List.length_append]
   exact ih _ ⟨_,_,_,h'',j,dv2,df2,rfl,hkx',h3'',t2,by rw[hd,e1],by omega⟩
  ·rw[if_neg hz] at hd
   simp[a0z,hz] at hx
   simp[hj,h3e,hst,hx]
   exact no _ _ hd _ _ _ hkx'
 ·rintro st ⟨y5,y6,g',h',c',dv',df,rfl,hkp,h3',t,hd,hle⟩
  rw[List.drop_eq_nil_of_le (Nat.le_refl _)] at hd
  simp
  exact ok df hd _ _ _ _ _ _ hkp h3' t
end
section
variable {L:Nat→Option PFunc} (hL:∀k f,LS k=some f→L k=some f) (en:List Enum) (ns:List Node) (a b:Int) (ents:a78)
include hL
theorem b7K (k:Nat) (hnd:NodesIn ents ns k) (s:Place) (hsb:s.before=ns.take k) (htg:a7E ents s.tags) (l:List (List State)) (hl:l.length≤1500) (hq:∀x∈l,b1V L en ns a b ents x) (h:List PObj) (h2:h[2]? = some (a0s ents)) (h3:h[3]? = some (a0f en ns a b)) (q' n o d:Nat) (i dv up:PV) (f:Fr) (fs:List Fr) (t:TopAt h h.length q' n o d i dv up f fs) (hvis:∀x,a6u (f::fs) x=true↔x∈s.vis)
  (d0:List Str) (hD:f.D=f.df) (hin:∀x,(x∈f.I∨b2l fs x=true)↔(x∈s.inputs∨x∈d0)) (hdl:f.df.length+(a6m l).length≤1000000)
  (V2 V4 V5 V6 V7 V8 V9 V10 V11 V12 V13 V14 V18 V19 V20:PV) (g:Nat) {Q:PExit→St→Prop}
  (ok:(a1c s (d0++f.df) l).1=0→∀h' dv' df' y7 g',Kp q' h h'→(a1c s (d0++f.df) l).2=d0++df'→TopAt h' h'.length q' n o d i dv' up { f with D:=df',df:=df' } fs→Q (.exit 4) ⟨[.ptr 3 0,.int .i64 k,V2,.ptr n 0,V4,V5,V6,y7,V8,V9,V10,V11,V12,V13,V14,.list false (l.map a1H),.int .i64 l.length,.int .i64 l.length,V18,V19,V20],[],g',h'⟩)
  (no:(a1c s (d0++f.df) l).1≠0→∀h' W g',Kp q' h h'→Q (.boom (a7C 1 a b (a1c s (d0++f.df) l).1)) ⟨W,[],g',h'⟩):
  wpL L a3e ⟨[.ptr 3 0,.int .i64 k,V2,.ptr n 0,V4,V5,V6,V7,V8,V9,V10,V11,V12,V13,V14,.list false (l.map a1H),.int .i64 l.length,.int .i64 0,V18,V19,V20],[],g,h⟩ Q:=by
 rw[a3e]
 refine a0V l.length (λj st=>∃y7 g' h' dv' df',st=⟨[.ptr 3 0,.int .i64 k,V2,.ptr n 0,V4,V5,V6,y7,V8,V9,V10,V11,V12,V13,V14,.list false (l.map a1H),.int .i64 l.length,.int .i64 j,V18,V19,V20],[],g',h'⟩∧Kp q' h h'∧TopAt h' h'.length q' n o d i dv' up { f with D:=df',df:=df' } fs∧a1c s (d0++f.df) l=a1c s (d0++df') (l.drop j)∧df'.length+(a6m (l.drop j)).length=f.df.length+(a6m l).length) ?_ ?_ ⟨_,_,h,dv,f.df,rfl,Kp.refl _ _,by rw[Fr.same hD]; exact t,rfl,rfl⟩
 ·rintro j hj st ⟨y7,g',h',dv',df',rfl,hkp,ht,hdn,hlen⟩ ih
  have hw:=a0c j (by omega)
  have h2':h'[2]? = some (a0s ents):=(hkp.2 2 (by have:=ht.four; omega)).trans h2
  have h3':h'[3]? = some (a0f en ns a b):=(hkp.2 3 (by have:=ht.four; omega)).trans h3
  have hlf:(a6m (l.drop j)).length=(a6m [l[j]]).length+(a6m (l.drop (j+1))).length:=by
   rw[List.drop_eq_getElem_cons hj,a5x,a5x]; simp[a6m]
  obtain⟨h'',hx,hkx,hox⟩:=hq _ (List.getElem_mem hj) k hnd s hsb htg h' h2' h3' q' n o d i dv' up _ fs ht (by intro x; exact hvis x) d0 rfl hin (by simp only; omega)
  simp only at hx hox
  rw[List.drop_eq_getElem_cons hj,a8y] at hdn
  by_cases hz:(a5y s (d0++df') l[j]).1=0
  ·obtain⟨dv'',df'',ho1,ho2⟩:=hox hz
   have hd2:a1c s (d0++f.df) l=a1c s (d0++df'') (l.drop (j+1)):=by
    rw[hdn]
    unfold a4L
    rw[if_pos hz]
    exact congrArg (λz=>a1c s z (l.drop (j+1))) ho1
   have hlen2:df''.length=df'.length+(a6m [l[j]]).length:=by
    rw[b44 hz] at ho1
    have:=congrArg List.length ho1
    simp at this
    omega
   rw[hz] at hx
   simp[a0z] at hx
   simp[hj,hx,hw]
   exact ih _ ⟨_,_,h'',dv'',df'',rfl,hkp.trans hkx,ho2,hd2,by omega⟩
  ·rw[a2i hz] at hdn
   simp[a0z,hz] at hx
   simp[hj,hx]
   have:=no (by rw[hdn]; exact hz) h''
   rw[hdn] at this
   exact this _ _ (hkp.trans hkx)
 ·rintro st ⟨y7,g',h',dv',df',rfl,hkp,ht,hdn,hlen⟩
  rw[List.drop_eq_nil_of_le (Nat.le_refl _)] at hdn
  simp
  exact ok (by rw[hdn]; simp[a1c]) h' dv' df' y7 g' hkp (by rw[hdn]; simp[a1c]) ht
theorem b7L (l:List Decl) (hl:l.length≤4500) (h:List PObj) (h3:h[3]? = some (a0f en ns a b)) (q q' n o d:Nat) (i dv up:PV) (f:Fr) (fs:List Fr) (t:TopAt h q q' n o d i dv up f fs)
  (V1 V2 V4 V5 V6 V7 V8 V9 V10 V11 V12 V13 V14 V15 V16 V17:PV) (g:Nat) {Q:PExit→St→Prop}
  (ok:(∀x∈a0b l,x∈f.D)→∀y8 g',Q (.exit 6) ⟨[.ptr 3 0,V1,V2,.ptr n 0,V4,V5,V6,V7,y8,V9,V10,V11,V12,V13,V14,V15,V16,V17,.list false (l.map a0B),.int .i64 l.length,.int .i64 l.length],[],g',h⟩)
  (no:¬(∀x∈a0b l,x∈f.D)→∀W g',Q (.boom (a7C 1 a b 8)) ⟨W,[],g',h⟩):
  wpL L a3f ⟨[.ptr 3 0,V1,V2,.ptr n 0,V4,V5,V6,V7,V8,V9,V10,V11,V12,V13,V14,V15,V16,V17,.list false (l.map a0B),.int .i64 l.length,.int .i64 0],[],g,h⟩ Q:=by
 have hT:=a4x hL en ns a b h h3 8
 have hF:=a4y hL en ns a b h h3 8
 have hn:=t.hn
 have hd:=t.hd
 rw[a3f]
 refine a0V l.length (λj st=>∃y8 g',st=⟨[.ptr 3 0,V1,V2,.ptr n 0,V4,V5,V6,V7,y8,V9,V10,V11,V12,V13,V14,V15,V16,V17,.list false (l.map a0B),.int .i64 l.length,.int .i64 j],[],g',h⟩∧∀x∈a0b (l.take j),x∈f.D) ?_ ?_ ⟨_,_,rfl,by simp[a0b]⟩
 ·rintro j hj st ⟨y8,g',rfl,hal⟩ ih
  have hw:=a0c j (by omega)
  obtain⟨r,hr,hr2,_⟩:=a5A l[j].name f.D
  have hdn1:a0b (l.take (j+1))=a0b (l.take j)++[l[j].name]:=by rw[a14 hj,a7L hL]; rfl
  by_cases hx:l[j].name∈f.D
  ·simp[hx] at hr2
   obtain⟨c,rfl⟩:=hr2
   simp[hj,hn,hd,hr,a5D,hT,hw]
   refine ih _ ⟨_,_,rfl,?_⟩
   rw[hdn1]
   intro x hm
   rcases List.mem_append.1 hm with h1|h1
   ·exact hal x h1
   ·rw[List.mem_singleton.1 h1]; exact hx
  ·simp[hx] at hr2
   subst hr2
   simp[hj,hn,hd,hr,a5D,hF]
   exact no (λhall=>hx (hall _ (by unfold a0b; exact List.mem_map.2 ⟨_,List.getElem_mem hj,rfl⟩))) _ _
 ·rintro st ⟨y8,g',rfl,hal⟩
  rw[List.take_length] at hal
  simp
  exact ok hal _ _
end
end PI.Sc
