import Derived.Test.YtljbhgpanekomaaGreatDoorPiScLaw1
import Derived.Test.YtljbhgpanekomaaGreatDoorPiScRun29
import Derived.Test.YtljbhgpanekomaaGreatDoorPiScRun18
set_option maxRecDepth 100000
set_option linter.unusedSimpArgs false
set_option linter.unusedVariables false
set_option linter.unusedSectionVars false
namespace PI.Sc
open Go (IntKind BinOp UnOp)
open Short
theorem Nv {tags:List Str}:∀{l b:List Node} {x:Bad},Ad tags b l=some x→x.err≠0
 | [],b,x,h=>by simp[Ad] at h
 | n :: l, b, x, h => by
   simp only[Ad] at h
   cases hn:zG b tags n with
   | some y=>rw[hn] at h; simp only[aa] at h; subst h; exact(b8T hn).2
   | none=>rw[hn] at h; exact Nv h
theorem b6T {p:Prog} {x:Bad} (h:BS p=some x):x.err≠0:=by
 unfold BS at h
 cases hs:AJ p with
 | some b=>rw[hs] at h; simp only[aa] at h; subst h; exact L8 hs
 | none =>
   rw[hs] at h
   simp only at h
   split at h
   ·exact Nv h
   ·simp only[aa] at h; subst h; simp
def wO (l:List Nat):List PV:=l.map λn:Nat => .int .i64 n
def Bx (p:Prog) (i:Int):List Nat:=if 0≤i∧i<p.nodes.length then zw p.nodes (p.nodes.getD i.toNat default) else[]
def Ba (h:List PObj) (n:Nat) (l:List Str):Prop:=∃rv,h[n]? = some (.cells [rv])∧((rv = .nils∧l=[])∨∃k,k≠n∧rv = .rowp k 1 false l.length∧h[k]? = some (.cells (l.map PV.str)))
section
variable {L:Nat→Option PFunc} (hL:∀k f,LS k=some f→L k=some f)
include hL
theorem c1R (s:Str) (h:List PObj):vU L 110 [.nils,.str s] h=some (.bool false,h):=by
 have hi:vU L 139 [.nils,.str s] h=some (.int .i64 (-1),h):=by
  refine wj (hL 139 _ rfl) rfl ?_
  simp[Ck]
  rw[Gt,zE]
  simp[Ck]
 refine wj (hL 110 _ rfl) rfl ?_
 simp[EJ,hi]
theorem c1S (l:List Str) (hl:l.length≤2000000000) (n:Nat) (s:Str) (h:List PObj) (hn:h[n]? = some (.cells (l.map PV.str))):vU L 110 [.rowp n 1 false l.length,.str s] h=some (.bool (decide (s∈l)),h):=by
 obtain⟨P,hP⟩:∃P:Str→Bool,∀x,P x=decide (x=s):=⟨_,λ_=>rfl⟩
 have hi:vU L 139 [.rowp n 1 false l.length,.str s] h=some (.int .i64 (yW P l),h):=by
  refine wj (hL 139 _ rfl) rfl ?_
  simp[Ck]
  rw[Gt]
  refine wS l.length (λj st=>∃y3,st=⟨[.rowp n 1 false l.length,.str s,.int .i64 0,y3,.int .i64 l.length,.int .i64 j],[],0,h⟩∧∀i (hi:i<l.length),i<j→P l[i]=false) ?_ ?_ ⟨_,rfl,λi _ hi=>by omega⟩
  ·rintro j hj st ⟨y3,rfl,iY⟩ ih
   have hw:=wk j (by omega)
   by_cases hp:l[j]=s
   ·have ek:s=l[j]:=hp.symm
    have iZ:P l[j]=true:=by rw[hP]; simpa using hp
    simp[hj,hw,hn,tf hp,tf ek,Cn hj iZ iY]
   ·have ek:¬s=l[j]:=λe=>hp e.symm
    have iZ:P l[j]=false:=by rw[hP]; simpa using hp
    simp[hj,hw,hn,tf hp,tf ek]
    refine ih _ ⟨_,rfl,λi hi kD =>?_⟩
    by_cases he:i=j
    ·subst he; exact iZ
    ·exact iY i hi (by omega)
  ·rintro st ⟨y3,rfl,iY⟩
   simp[Ck,Co (λi hi=>iY i hi hi)]
 have ha:decide (s∈l)=l.any P:=by
  rw[aC,an,cC]
  constructor
  ·intro hm; exact⟨s,hm,by rw[hP]; simp⟩
  ·rintro⟨x,hm,hx⟩; rw[hP] at hx; simp at hx; subst hx; exact hm
 rw[ha]
 refine wj (hL 110 _ rfl) rfl ?_
 simp[EJ,hi,← DN]
theorem NA (h:List PObj) (n:Nat) (l:List Str) (hb:Ba h n l) (hl:l.length≤2000000) (s:Str):∃h',vU L 75 [.str s,.ptr n 0] h=some (.tuple [],h')∧Ba h' n (zn l s):=by
 suffices H:∃r,vU L 75 [.str s,.ptr n 0] h=some r∧r.1 = .tuple []∧Ba r.2 n (zn l s) by
  obtain⟨⟨v,h'⟩,h1,h2,h3⟩:=H
  simp only at h2; subst h2
  exact⟨h',h1,h3⟩
 refine zq (hL 75 _ rfl) rfl ?_
 obtain⟨rv,hn,hr⟩:=hb
 have cO:n<h.length:=(aj.1 hn).1
 rcases hr with⟨rfl,rfl⟩|⟨k,oq,rfl,hk⟩
 ·have hc:=c1R hL s h
  have e4:(h++[PObj.cells [PV.str s]])[n]? = some (.cells [.nils]):=by rw[al cO]; exact hn
  simp[EE,hn,hc,Ae,e4,wL,wz,xi,wY,yq,wI]
  refine⟨.rowp h.length 1 false 1,by simp[List.getElem?_append,cO],.inr ⟨h.length,by omega,rfl,?_⟩⟩
  rw[ak (by omega)]
  simp[zn]
 ·have hc:=c1S hL l (by omega) k s h hk
  by_cases hs:s∈l
  ·simp[hs] at hc
   simp[EE,hn,hc,xi,wY,yq,wI,zn,hs]
   exact⟨_,hn,.inr ⟨k,oq,rfl,hk⟩⟩
  ·simp[hs] at hc
   have eH:l.length+1≤2147483648:=by omega
   have e4:∀X,(h.set k .gone++[X])[n]? = some (.cells [.rowp k 1 false l.length]):=λX=>by
    rw[al (by simpa using cO),ak oq]; exact hn
   have ec:List.take l.length (l.map PV.str)=l.map PV.str:=bP (by simp)
   have uM:List.map (dem∘PV.str) l=l.map PV.str:=List.map_congr_left λ_ _=>rfl
   simp[EE,hn,hc,Ae,hk,e4,eH,uM,wL,wz,xi,wY,yq,wI,zn,hs]
   refine⟨.rowp h.length 1 false (l.length+1),by simp[List.getElem?_append,cO],.inr ⟨h.length,by omega,by simp,?_⟩⟩
   rw[ak (by omega),ap (by simp)]
   simp[ec]
theorem c1T (l:List Decl) (hl:l.length≤2000000000) (o:Bool) (s:Str) (h:List PObj):vU L 76 [.list o (l.map wc),.func 77 [] [.cptr [.str s]]] h=some (.bool (decide (s∈vV l)),h):=by
 obtain⟨P,hP⟩:∃P:Decl→Bool,∀x,P x=decide (x.name=s):=⟨_,λ_=>rfl⟩
 have cW:∀x:Decl,vU L 77 [wc x,.cptr [.str s]] h=some (.bool (P x),h):=by
  intro x
  refine wj (hL 77 _ rfl) rfl ?_
  rw[hP]
  simp[I3]
 have hi:vU L 111 [.list false (l.map wc),.func 77 [] [.cptr [.str s]]] h=some (.int .i64 (yW P l),h):=by
  refine wj (hL 111 _ rfl) rfl ?_
  simp[Gm]
  rw[MM]
  refine wS l.length (λj st=>∃y3,st=⟨[.list false (l.map wc),.func 77 [] [.cptr [.str s]],.int .i64 0,y3,.int .i64 l.length,.int .i64 j],[],0,h⟩∧∀i (hi:i<l.length),i<j→P l[i]=false) ?_ ?_ ⟨_,rfl,λi _ hi=>by omega⟩
  ·rintro j hj st ⟨y3,rfl,hn⟩ ih
   have hw:=wk j (by omega)
   have hc:=cW l[j]
   cases hp:P l[j] with
   | true =>
     rw[hp] at hc
     simp[hj,hc,hw,Cn hj hp hn]
   | false =>
     rw[hp] at hc
     simp[hj,hc,hw]
     refine ih _ ⟨_,rfl,λi hi kD =>?_⟩
     by_cases he:i=j
     ·subst he; exact hp
     ·exact hn i hi (by omega)
  ·rintro st ⟨y3,rfl,hn⟩
   simp[Gm,Co (λi hi=>hn i hi hi)]
 have ha:decide (s∈vV l)=l.any P:=by
  rw[aC,an,cC]
  unfold vV
  rw[aM]
  constructor
  ·rintro⟨x,hm,rfl⟩; exact⟨x,hm,by rw[hP]; simp⟩
  ·rintro⟨x,hm,hx⟩; rw[hP] at hx; simp at hx; exact⟨x,hm,hx⟩
 rw[ha]
 refine wj (hL 76 _ rfl) rfl ?_
 simp[I2,hi,← DN]
end
section
variable {L:Nat→Option PFunc} (hL:∀k f,LS k=some f→L k=some f)
include hL
theorem b8P (l:List Str) (hl:l.length≤1500) (z:List Str) (hz:z.length+l.length≤1000000) (V0 V1 V2 V4 V6 V7 V8 V9 V10 V11 V12 V13 V17 V18 V19 V20 V21 V22:PV) (g:Nat) (h:List PObj) (hb:Ba h 0 z) {Q:PExit→St→Prop}
  (ok:∀y7 h',Ba h' 0 (yx z l)→Q (.exit 2) ⟨[V0,V1,V2,.ptr 0 0,V4,.func 75 [] [.ptr 0 0],V6,y7,V8,V9,V10,V11,V12,V13,.list false (l.map .str),.int .i64 l.length,.int .i64 l.length,V17,V18,V19,V20,V21,V22],[],g,h'⟩):
  wpL L IM ⟨[V0,V1,V2,.ptr 0 0,V4,.func 75 [] [.ptr 0 0],V6,V7,V8,V9,V10,V11,V12,V13,.list false (l.map .str),.int .i64 l.length,.int .i64 0,V17,V18,V19,V20,V21,V22],[],g,h⟩ Q:=by
 rw[IM]
 refine wS l.length (λi st=>∃y7 h',st=⟨[V0,V1,V2,.ptr 0 0,V4,.func 75 [] [.ptr 0 0],V6,y7,V8,V9,V10,V11,V12,V13,.list false (l.map .str),.int .i64 l.length,.int .i64 i,V17,V18,V19,V20,V21,V22],[],g,h'⟩∧Ba h' 0 (yx z (l.take i))) ?_ ?_ ⟨_,h,rfl,by simpa[yx] using hb⟩
 ·rintro i hi st ⟨y7,h',rfl,hb⟩ ih
  have hw:=wk i (by omega)
  have cK:=E0 z (l.take i)
  simp only[bB] at cK
  obtain⟨h2,hc,dB⟩:=NA hL h' 0 _ hb (by omega) l[i]
  simp[hi,hw,hc]
  refine ih _ ⟨_,h2,rfl,?_⟩
  rw[yO hi,JM]
  exact dB
 ·rintro st ⟨y7,h',rfl,hb⟩
  rw[aB] at hb
  simp
  exact ok _ _ hb
theorem b8Q (l:List Str) (hl:l.length≤1500) (x:State) (hx:x.locals.length≤1500) (z:List Str) (hz:z.length+l.length≤1000000) (V0 V1 V2 V4 V6 V7 V8 V10 V11 V12 V13 V14 V15 V16 V17 V18 V19:PV) (g gs:Nat) (h:List PObj) (hb:Ba h 0 z) {Q:PExit→St→Prop}
  (ok:∀y10 g h',Ba h' 0 (yx z (wM l (vV x.locals)))→Q (.exit 6) ⟨[V0,V1,V2,.ptr 0 0,V4,.func 75 [] [.ptr 0 0],V6,V7,V8,.loc gs [.str x.name,.list false (x.locals.map wc),.list false (x.eqs.map ww),.list false (x.autos.map wq),.list false (x.unl.map wJ),.list false (x.til.map wJ)],y10,V11,V12,V13,V14,V15,V16,V17,V18,V19,.list false (l.map .str),.int .i64 l.length,.int .i64 l.length],[],g,h'⟩):
  wpL L IN ⟨[V0,V1,V2,.ptr 0 0,V4,.func 75 [] [.ptr 0 0],V6,V7,V8,.loc gs [.str x.name,.list false (x.locals.map wc),.list false (x.eqs.map ww),.list false (x.autos.map wq),.list false (x.unl.map wJ),.list false (x.til.map wJ)],V10,V11,V12,V13,V14,V15,V16,V17,V18,V19,.list false (l.map .str),.int .i64 l.length,.int .i64 0],[],g,h⟩ Q:=by
 rw[IN]
 refine wS l.length (λi st=>∃y10 g h',st=⟨[V0,V1,V2,.ptr 0 0,V4,.func 75 [] [.ptr 0 0],V6,V7,V8,.loc gs [.str x.name,.list false (x.locals.map wc),.list false (x.eqs.map ww),.list false (x.autos.map wq),.list false (x.unl.map wJ),.list false (x.til.map wJ)],y10,V11,V12,V13,V14,V15,V16,V17,V18,V19,.list false (l.map .str),.int .i64 l.length,.int .i64 i],[],g,h'⟩∧Ba h' 0 (yx z (wM (l.take i) (vV x.locals)))) ?_ ?_ ⟨_,g,h,rfl,by simpa[yx,wM] using hb⟩
 ·rintro i hi st ⟨y10,g,h',rfl,hb⟩ ih
  have hw:=wk i (by omega)
  have cK:=E0 z (wM (l.take i) (vV x.locals))
  have dN:=JN (l.take i) (vV x.locals)
  simp only[bB] at dN
  have gu:=c1T hL x.locals (by omega) false l[i] h'
  rw[yO hi,Nk,JM] at ih
  by_cases dn:l[i]∈vV x.locals
  ·have hz:wM [l[i]] (vV x.locals)=[]:=by simp[wM,dn]
   rw[hz] at ih
   simp[dn] at gu
   simp[hi,hw,gu]
   exact ih _ ⟨_,_,h',rfl,hb⟩
  ·have hz:wM [l[i]] (vV x.locals)=[l[i]]:=by simp[wM,dn]
   rw[hz] at ih
   simp[dn] at gu
   obtain⟨h2,hc,dB⟩:=NA hL h' 0 _ hb (by omega) l[i]
   simp[hi,hw,gu,hc]
   exact ih _ ⟨_,_,h2,rfl,dB⟩
 ·rintro st ⟨y10,g,h',rfl,hb⟩
  rw[aB] at hb
  simp
  exact ok _ _ _ hb
def JQ (L:Nat→Option PFunc) (s:State):Prop:=∃h',vU L 35 [.nils,.list false (s.eqs.map ww),.list false (s.autos.map wq)] []=some (.list false ((zJ s).map .str),h')
theorem NB (eqs:List Eqn) (autos:List (List State)) (hq:eqs.length≤1500) (ha:autos.length≤1500) (hp:vT Eqn.parts eqs+xh autos≤1500) (iD:∀a∈autos,∀x∈a,x.locals.length≤1500) (dO:∀a∈autos,∀x∈a,JQ L x):
  ∃h',vU L 35 [.nils,.list false (eqs.map ww),.list false (autos.map wq)] []=some (.list false ((yE (zt eqs) autos).map .str),h'):=by
 suffices H:∃r,vU L 35 [.nils,.list false (eqs.map ww),.list false (autos.map wq)] []=some r∧r.1 = .list false ((yE (zt eqs) autos).map .str) by
  obtain⟨⟨v,h'⟩,h1,h2⟩:=H
  simp only at h2; subst h2
  exact⟨h',h1⟩
 refine zq (hL 35 _ rfl) rfl ?_
 have fJ:PV.nils.cells=[.nils]:=rfl
 simp[Q0,fJ]
 rw[Mx]
 refine wS eqs.length (λj st=>∃y6 y7 y14 y15 y16 g h',st=⟨[.nils,.list false (eqs.map ww),.list false (autos.map wq),.ptr 0 0,.nils,.func 75 [] [.ptr 0 0],y6,y7,.dead,.dead,.dead,.list false (eqs.map ww),.int .i64 eqs.length,.int .i64 j,y14,y15,y16,.dead,.dead,.dead,.dead,.dead,.dead],[],g,h'⟩∧Ba h' 0 (zt (eqs.take j))) ?_ ?_ ⟨_,_,_,_,_,_,[.cells [.nils]],rfl,⟨.nils,rfl,.inl ⟨rfl,rfl⟩⟩⟩
 ·rintro j hj st ⟨y6,y7,y14,y15,y16,g,h',rfl,hb⟩ ih
  have hw:=wk j (by omega)
  have h1:=JO (eqs.take j)
  have h2:=c19 Eqn.parts eqs j
  have h4:=zR Eqn.parts (ai hj)
  have h5:eqs[j].left.length≤Eqn.parts eqs[j]:=by simp only[Eqn.parts]; omega
  simp[hj]
  refine b8P hL eqs[j].left (by omega) (zt (eqs.take j)) (by omega) _ _ _ _ _ _ _ _ _ _ _ _ _ _ _ _ _ _ _ _ hb ?_
  intro y7' h2 dB
  simp[hw]
  refine ih _ ⟨_,_,_,_,_,_,h2,rfl,?_⟩
  have hs:zt (eqs.take (j+1))=yx (zt (eqs.take j)) eqs[j].left:=by
   unfold zt
   rw[yO hj,List.flatMap_append,List.flatMap_singleton,JM]
  rw[hs]; exact dB
 ·rintro st ⟨y6,y7,y14,y15,y16,g,h',rfl,hb⟩
  rw[aB] at hb
  simp
  rw[My]
  refine wS autos.length (λj st=>∃cur y6 y7 y8 y9 y10 y11 y12 y13 y14 y15 y16 y20 y21 y22 g h',st=⟨[.nils,.list false (eqs.map ww),.list false (autos.map wq),.ptr 0 0,.nils,.func 75 [] [.ptr 0 0],y6,y7,y8,y9,y10,y11,y12,y13,y14,y15,y16,.list false (autos.map wq),.int .i64 autos.length,.int .i64 j,y20,y21,y22],[],g,h'⟩∧Ba h' 0 cur∧yE cur (autos.drop j)=yE (zt eqs) autos∧cur.length+xh (autos.drop j)≤1500) ?_ ?_ ⟨zt eqs,_,_,_,_,_,_,_,_,_,_,_,_,_,_,_,_,rfl,hb,rfl,?_⟩
  ·rintro j hj st ⟨cur,y6,y7,y8,y9,y10,y11,y12,y13,y14,y15,y16,y20,y21,y22,g,h',rfl,hb,hd,hl⟩ ih
   have hw:=wk j (by omega)
   rw[aQ hj] at hd hl
   have dW:=ai hj
   have lA:=iD _ dW
   have m8:=dO _ dW
   simp only[xh] at hl
   cases hA:autos[j] with
   | nil =>
     rw[hA] at hd hl
     simp only[yE] at hd
     simp[hj,hw,hA]
     exact ih _ ⟨cur,_,_,_,_,_,_,_,_,_,_,_,_,_,_,_,h',rfl,hb,hd,by simp only[zB] at hl; omega⟩
   | cons x r =>
     rw[hA] at hd hl lA m8
     simp only[yE] at hd
     simp only[zB] at hl
     obtain⟨ei,hx⟩:=m8 x (by simp)
     have iI:=Nz x
     have rB:=JN (zJ x) (vV x.locals)
     have fN:=E0 cur (wM (zJ x) (vV x.locals))
     have rC:=lA x (by simp)
     have mV:¬((r.length:Int)+1=0):=by omega
     simp[hj,hA,hx,mV]
     refine b8Q hL (zJ x) (by omega) x (by omega) cur (by omega) _ _ _ _ _ _ _ _ _ _ _ _ _ _ _ _ _ _ _ _ hb ?_
     intro y10' g' h2 dB
     simp[hw]
     exact ih _ ⟨_,_,_,_,_,_,_,_,_,_,_,_,_,_,_,_,h2,rfl,dB,hd,by omega⟩
  ·rintro st ⟨cur,y6,y7,y8,y9,y10,y11,y12,y13,y14,y15,y16,y20,y21,y22,g,h',rfl,hb,hd,hl⟩
   rw[aU (ao _)] at hd
   simp only[yE] at hd
   obtain⟨rv,hn,hr⟩:=hb
   rcases hr with⟨rfl,rfl⟩|⟨k,oq,rfl,hk⟩
   ·simp[hn,xi,wY,yq,zi,← hd]
   ·simp[hn,hk,xi,wY,yq,zi,wU,hd,NC]
  ·have h1:=JO eqs
   simp only[List.drop_zero]
   omega
theorem c1U (s:State) (hs:SW s) (hp:s.parts≤1500):JQ L s:=by
 induction s using State.ind with
 | h s ih =>
   unfold JQ
   rw[b6U]
   have nC:vT Eqn.parts s.eqs+xh s.autos≤s.parts:=by cases s; simp only[State.parts,State.eqs,State.autos]; omega
   refine NB hL s.eqs s.autos hs.eqs hs.autos (by omega) (λa ha x hx=>(hs.ss a ha x hx).locals) (λa ha x hx=>ih a ha x hx (hs.ss a ha x hx) ?_)
   have h1:zB a≤xh s.autos:=by
    rw[CL,Bs]
    have:=zR (λa=>1+vT State.parts a) ha
    omega
   have h2:x.parts≤zB a:=by rw[Bs]; exact zR _ hx
   omega
theorem b8R (n:Node) (hn:NW n) (hp:n.parts≤1500) (h:List PObj):vU L 14 [wE n] h=some (.list false ((defined n).map .str),h):=by
 have nC:vT Eqn.parts n.eqs+xh n.autos≤n.parts:=by simp only[Node.parts]; omega
 have uN:∀a∈n.autos,∀x∈a,x.parts≤1500:=by
  intro a ha x hx
  have h1:zB a≤xh n.autos:=by
   rw[CL,Bs]
   have:=zR (λa=>1+vT State.parts a) ha
   omega
  have h2:x.parts≤zB a:=by rw[Bs]; exact zR _ hx
  omega
 obtain⟨h',hc⟩:=NB hL n.eqs n.autos hn.eqs hn.autos.len (by omega) (λa ha x hx=>(hn.autos.ss a ha x hx).locals) (λa ha x hx=>c1U hL x (hn.autos.ss a ha x hx) (uN a ha x hx))
 refine wj (hL 14 _ rfl) rfl ?_
 have e:defined n=yE (zt n.eqs) n.autos:=rfl
 rw[← e] at hc
 simp[II,hc]
end
structure Takes (L:Nat→Option PFunc) (kf:Nat) (cs:List PV) (Inv:List Expr→List PObj→Prop):Prop where
 run:∀e l h,e.parts≤1500→EW e→Inv l h→∃h',vU L kf (vX e::cs) h=some (.tuple [],h')∧Inv (l++[e]) h'
section
variable {L:Nat→Option PFunc} (hL:∀k f,LS k=some f→L k=some f) {kf:Nat} {cs:List PV} {Inv:List Expr→List PObj→Prop} (hT:Takes L kf cs Inv)
include hL
theorem c4F (a b:List Trn) (hn:a.length+b.length≤4500) (o:Bool) (h:List PObj):∃h',vU L 112 [.list o [.list false (a.map wJ),.list false (b.map wJ)]] h=some (.list false ((a++b).map wJ),h'):=by
 have:=Mh c7M (by decide) (k:=112) (by':=88) (gr:=140) (hL 112 _ rfl) (hL 140 _ rfl) [a,b] (by simp) (by simp[xj,vT]; omega) o h
 simpa[xy] using this
theorem c1V (a b:List Expr) (hn:a.length+b.length≤4500) (o:Bool) (h:List PObj):∃h',vU L 80 [.list o [.list false (a.map vX),.list false (b.map vX)]] h=some (.list false ((a++b).map vX),h'):=by
 have:=Mh c4m (by decide) (k:=80) (by':=72) (gr:=113) (hL 80 _ rfl) (hL 113 _ rfl) [a,b] (by simp) (by simp[xj,vT]; omega) o h
 simpa[xy] using this
include hT
theorem c1W (ts:List Trn) (hl:ts.length≤4500) (hw:∀t∈ts,XW t.cond) (l:List Expr) (h:List PObj) (hi:Inv l h) (V0 V1 V3 V4 V5 V6 V7 V8 V9 V10 V11 V12 V13 V14 V15:PV) (g:Nat) {Q:PExit→St→Prop}
  (ok:∀y6 g' h',Inv (l++ts.map (·.cond)) h'→Q (.exit 6) ⟨[V0,V1,.func kf [] cs,V3,V4,V5,y6,V7,V8,V9,V10,V11,V12,V13,V14,V15,.list false (ts.map wJ),.int .i64 ts.length,.int .i64 ts.length],[],g',h'⟩):
  wpL L I4 ⟨[V0,V1,.func kf [] cs,V3,V4,V5,V6,V7,V8,V9,V10,V11,V12,V13,V14,V15,.list false (ts.map wJ),.int .i64 ts.length,.int .i64 0],[],g,h⟩ Q:=by
 have _:=hL
 rw[I4]
 refine wS ts.length (λj st=>∃y6 g' h',st=⟨[V0,V1,.func kf [] cs,V3,V4,V5,y6,V7,V8,V9,V10,V11,V12,V13,V14,V15,.list false (ts.map wJ),.int .i64 ts.length,.int .i64 j],[],g',h'⟩∧Inv (l++(ts.take j).map (·.cond)) h') ?_ ?_ ⟨_,_,h,rfl,by simpa using hi⟩
 ·rintro j hj st ⟨y6,g',h',rfl,hi⟩ ih
  have iX:=wk j (by omega)
  have hx:=hw _ (ai hj)
  obtain⟨h2,hc,dK⟩:=hT.run ts[j].cond _ h' hx.parts hx.ew hi
  simp[hj,iX,hc]
  exact ih _ ⟨_,_,h2,rfl,by rw[yO hj,bj,← aJ]; exact dK⟩
 ·rintro st ⟨y6,g',h',rfl,hi⟩
  rw[aB] at hi
  simp
  exact ok _ _ _ hi
def ND (L:Nat→Option PFunc) (kf:Nat) (cs:List PV) (Inv:List Expr→List PObj→Prop) (s:State):Prop:=∀l h,Inv l h→∃h',vU L 79 [.list false (s.eqs.map ww),.list false (s.autos.map wq),.func kf [] cs] h=some (.tuple [],h')∧Inv (l++(s.eqs.map (·.right)++zu s.autos)) h'
theorem NE (eqs:List Eqn) (autos:List (List State)) (hq:eqs.length≤1500) (uO:∀q∈eqs,QW q) (ha:AsW autos) (dO:∀a∈autos,∀x∈a,ND L kf cs Inv x) (l:List Expr) (h:List PObj) (hi:Inv l h):
  ∃h',vU L 79 [.list false (eqs.map ww),.list false (autos.map wq),.func kf [] cs] h=some (.tuple [],h')∧Inv (l++(eqs.map (·.right)++zu autos)) h':=by
 suffices H:∃r,vU L 79 [.list false (eqs.map ww),.list false (autos.map wq),.func kf [] cs] h=some r∧r.1 = .tuple []∧Inv (l++(eqs.map (·.right)++zu autos)) r.2 by
  obtain⟨⟨v,h'⟩,h1,h2,h3⟩:=H
  simp only at h2; subst h2
  exact⟨h',h1,h3⟩
 refine zq (hL 79 _ rfl) rfl ?_
 simp[I5]
 rw[MF]
 refine wS eqs.length (λj st=>∃y3 g h',st=⟨[.list false (eqs.map ww),.list false (autos.map wq),.func kf [] cs,y3,.dead,.dead,.dead,.list false (eqs.map ww),.int .i64 eqs.length,.int .i64 j,.dead,.dead,.dead,.dead,.dead,.dead,.dead,.dead,.dead],[],g,h'⟩∧Inv (l++(eqs.take j).map (·.right)) h') ?_ ?_ ⟨_,_,h,rfl,by simpa using hi⟩
 ·rintro j hj st ⟨y3,g,h',rfl,hi⟩ ih
  have iX:=wk j (by omega)
  have hx:=(uO _ (ai hj)).right
  obtain⟨h2,hc,dK⟩:=hT.run eqs[j].right _ h' hx.parts hx.ew hi
  simp[hj,iX,hc]
  exact ih _ ⟨_,_,h2,rfl,by rw[yO hj,bj,← aJ]; exact dK⟩
 ·rintro st ⟨y3,g,h',rfl,hi⟩
  rw[aB] at hi
  simp
  rw[MH]
  refine wS autos.length (λj st=>∃acc y4 y5 y6 y13 y14 y15 y16 y17 y18 g h',st=⟨[.list false (eqs.map ww),.list false (autos.map wq),.func kf [] cs,y3,y4,y5,y6,.list false (eqs.map ww),.int .i64 eqs.length,.int .i64 eqs.length,.list false (autos.map wq),.int .i64 autos.length,.int .i64 j,y13,y14,y15,y16,y17,y18],[],g,h'⟩∧Inv acc h'∧acc++zu (autos.drop j)=l++(eqs.map (·.right)++zu autos)) ?_ ?_ ⟨_,_,_,_,_,_,_,_,_,_,_,h',rfl,hi,by simp⟩
  ·rintro j hj st ⟨acc,y4,y5,y6,y13,y14,y15,y16,y17,y18,g,h',rfl,hi,hd⟩ ih
   have iX:=wk j (by have:=ha.len; omega)
   rw[aQ hj] at hd
   have dW:=ai hj
   have dr:=ha.as _ dW
   have uP:=ha.ss _ dW
   have m8:=dO _ dW
   simp only[zu] at hd
   simp[hj]
   rw[MG]
   refine wS autos[j].length (λi st=>∃acc y5 y6 y16 y17 y18 g4 g h',st=⟨[.list false (eqs.map ww),.list false (autos.map wq),.func kf [] cs,y3,.loc g4 (wq autos[j]).cells,y5,y6,.list false (eqs.map ww),.int .i64 eqs.length,.int .i64 eqs.length,.list false (autos.map wq),.int .i64 autos.length,.int .i64 j,.list false (autos[j].map wF),.int .i64 autos[j].length,.int .i64 i,y16,y17,y18],[],g,h'⟩∧Inv acc h'∧acc++(Cm (autos[j].drop i)++zu (autos.drop (j+1)))=l++(eqs.map (·.right)++zu autos)) ?_ ?_ ⟨acc,_,_,_,_,_,_,_,h',rfl,hi,by simpa using hd⟩
   ·rintro i il st ⟨acc,y5,y6,y16,y17,y18,g4,g,h',rfl,hi,hd⟩ ih2
    have om:=wk i (by omega)
    rw[aQ il] at hd
    obtain⟨x,hx⟩:∃x,x=autos[j][i]:=⟨_,rfl⟩
    have mB:=uP _ (ai il)
    have sS:=m8 _ (ai il)
    rw[← hx] at hd mB sS
    simp only[Cm,b8O] at hd
    obtain⟨h2,hc,dK⟩:=sS _ h' hi
    obtain⟨mY,j7⟩:=c4F hL x.unl x.til (by have:=mB.unl; have:=mB.til; omega) false []
    simp at j7
    simp[hj,il,← hx,hc,j7]
    have uQ:x.unl.length+x.til.length=(x.unl++x.til).length:=by simp
    have ot:x.unl.map wJ++x.til.map wJ=(x.unl++x.til).map wJ:=by simp
    have mC:(x.unl.length:Int)+x.til.length=((x.unl++x.til).length:Nat):=by simp
    rw[ot,mC]
    refine c1W hL hT (x.unl++x.til) (by have:=mB.unl; have:=mB.til; simp; omega) (λt ht=>(aw.1 ht).elim (mB.us t) (mB.ts t)) _ h2 dK _ _ _ _ _ _ _ _ _ _ _ _ _ _ _ _ ?_
    intro y6' g' h3 uR
    simp[om]
    exact ih2 _ ⟨_,_,_,_,_,_,_,_,h3,rfl,uR,by simpa using hd⟩
   ·rintro st ⟨acc,y5,y6,y16,y17,y18,g4,g,h',rfl,hi,hd⟩
    rw[aU (ao _)] at hd
    simp only[Cm,be] at hd
    simp[hj,iX]
    exact ih _ ⟨acc,_,_,_,_,_,_,_,_,_,_,h',rfl,hi,hd⟩
  ·rintro st ⟨acc,y4,y5,y6,y13,y14,y15,y16,y17,y18,g,h',rfl,hi,hd⟩
   rw[aU (ao _)] at hd
   simp only[zu,aW] at hd
   rw[← hd]
   simp[xi,wY,yq,wI]
   exact hi
theorem c8t (s:State) (hs:SW s):ND L kf cs Inv s:=by
 induction s using State.ind with
 | h s ih =>
   intro l h hi
   exact NE hL hT s.eqs s.autos hs.eqs hs.es hs.asW (λa ha x hx=>ih a ha x hx (hs.ss a ha x hx)) l h hi
theorem c1X (n:Node) (hn:NW n) (l:List Expr) (h:List PObj) (hi:Inv l h):∃h',vU L 37 [wE n,.func kf [] cs] h=some (.tuple [],h')∧Inv (l++zf n) h':=by
 suffices H:∃r,vU L 37 [wE n,.func kf [] cs] h=some r∧r.1 = .tuple []∧Inv (l++zf n) r.2 by
  obtain⟨⟨v,h'⟩,h1,h2,h3⟩:=H
  simp only at h2; subst h2
  exact⟨h',h1,h3⟩
 obtain⟨h2,hc,dK⟩:=NE hL hT n.eqs n.autos hn.eqs hn.es hn.autos (λa ha x hx=>c8t hL hT x (hn.autos.ss a ha x hx)) l h hi
 obtain⟨mY,j7⟩:=c1V hL n.assume n.ensure (by have:=hn.assume; have:=hn.ensure; omega) false []
 refine zq (hL 37 _ rfl) rfl ?_
 simp at j7
 simp[IP,hc,j7]
 obtain⟨M,hM⟩:∃M,M=n.assume++n.ensure:=⟨_,rfl⟩
 have ot:n.assume.map vX++n.ensure.map vX=M.map vX:=by rw[hM]; simp
 have mC:(n.assume.length:Int)+n.ensure.length=(M.length:Nat):=by rw[hM]; simp
 have uS:∀e∈M,XW e:=λe he=>by rw[hM] at he; exact(aw.1 he).elim (hn.as e) (hn.gs e)
 have hMl:M.length≤3000:=by rw[hM]; have:=hn.assume; have:=hn.ensure; simp; omega
 rw[ot,mC]
 have he:l++zf n=l++(n.eqs.map (·.right)++zu n.autos)++M:=by rw[hM]; simp[zf]
 rw[he]
 generalize l++(n.eqs.map (·.right)++zu n.autos)=l2 at *
 rw[Mz]
 refine wS M.length (λj st=>∃y3 g h',st=⟨[wE n,.func kf [] cs,.loc 0 (wE n).cells,y3,.list false (M.map vX),.int .i64 M.length,.int .i64 j],[],g,h'⟩∧Inv (l2++M.take j) h') ?_ ?_ ⟨_,_,h2,rfl,by simpa using dK⟩
 ·rintro j hj st ⟨y3,g,h',rfl,hi⟩ ih
  have iX:=wk j (by omega)
  have hx:=uS _ (ai hj)
  obtain⟨h2,hc,dK⟩:=hT.run M[j] _ h' hx.parts hx.ew hi
  simp[hj,iX,hc]
  exact ih _ ⟨_,_,h2,rfl,by rw[yO hj,← aJ]; exact dK⟩
 ·rintro st ⟨y3,g,h',rfl,hi⟩
  rw[aB] at hi
  simp[xi,wY,yq,wI]
  exact hi
end
section
variable {L:Nat→Option PFunc} (hL:∀k f,LS k=some f→L k=some f)
include hL
theorem c0a {V l:List PV} {g:Nat} {h:List PObj} {Q:PExit→St→Prop} {x:PX} {kb:Nat} {caps:List PX} {cs:List PV} (e:Expr) (he:EW e) (hx:rd ⟨V,l,g,h⟩ x=some (.func 114 [] [.cptr (vX e).cells])) (hc:rdAll ⟨V,l,g,h⟩ caps=some cs) (dY:∀p∈cs,cp p=some p)
  (I:List Expr→List PObj→Prop) (l0:List Expr) (h0:I l0 (h++[.loop true]))
  (step:∀x∈e.list,∀l h',I l h'→∃h'',wm L kb (.ptr h.length 0::(cs++[vX x])) h'=some (.val (.bool true),h'')∧I (l++[x]) h'')
  (last:∀h',I (l0++e.list) h'→h'[h.length]? = some (.loop true)∧Q .normal ⟨V,l,g,h'.set h.length .gone⟩):wpL L (.rangeF x kb caps) ⟨V,l,g,h⟩ Q:=by
 obtain⟨y,hy⟩:∃y:Expr→List PObj→Option (Out×List PObj),∀x h',y x h'=match wm L kb (.ptr h.length 0::(cs++[vX x])) h' with
  | some (.val (.bool b),h'')=>some (.val (.bool b),h'')
  | _=>none:=⟨_,λ_ _=>rfl⟩
 have key:∀(m:List Expr),(∀x∈m,x∈e.list)→∀l h',I l h'→∃h'',x5 y m h'=some (.val (.bool true),h'')∧I (l++m) h'':=by
  intro m
  induction m with
  | nil=>intro _ l h' hi; exact⟨h',rfl,by simpa using hi⟩
  | cons z m ih =>
    intro hm l h' hi
    obtain⟨h2,h3,h4⟩:=step z (hm z (by simp)) l h' hi
    obtain⟨h5,h6,h7⟩:=ih (λx hx=>hm x (by simp[hx])) _ h2 h4
    refine⟨h5,?_,by simpa using h7⟩
    simp only[x5,hy,h3]
    exact h6
 obtain⟨h',h1,h2⟩:=key e.list (λ_ h=>h) l0 _ h0
 obtain⟨h3,h4⟩:=last h' h2
 refine DO hL e he hx hc dY y ?_ ?_ _ h1 ?_
 ·intro x _ h' r hr
  rw[hy] at hr
  split at hr
  ·rename_i ho; rw[ho]; exact hr
  ·simp at hr
 ·intro x h' r hr
  rw[hy] at hr
  split at hr
  ·exact .inl ⟨_,_,(cB hr).symm⟩
  ·simp at hr
 ·simp only[Ac,h3]; exact h4
end
def zg (ns:List Node) (acc:List Nat) (x:Expr):List Nat:=if x.kind=10 then(match Ai ns x.name with
 | some i=>if i∈acc then acc else acc++[i]
 | none=>acc) else acc
def yi (ns:List Node) (l:List Expr):List Nat:=l.foldl (zg ns) []
theorem b5w (ns:List Node) (l:List Expr) (x:Expr):yi ns (l++[x])=zg ns (yi ns l) x:=by unfold yi; rw[List.foldl_append]; rfl
theorem NG (ns:List Node):∀l:List Expr,(yi ns l).Nodup∧(yi ns l).length≤l.length∧∀i,i∈yi ns l↔∃x∈l,x.kind=10∧Ai ns x.name=some i:=by
 have key:∀(l:List Expr) (p:List Expr) (acc:List Nat),(acc.Nodup∧acc.length≤p.length∧∀i,i∈acc↔∃x∈p,x.kind=10∧Ai ns x.name=some i)→((l.foldl (zg ns) acc).Nodup∧(l.foldl (zg ns) acc).length≤(p++l).length∧∀i,i∈l.foldl (zg ns) acc↔∃x∈p++l,x.kind=10∧Ai ns x.name=some i):=by
  intro l
  induction l with
  | nil=>intro p acc h; simpa using h
  | cons x l ih =>
    intro p acc ⟨h1,h2,h3⟩
    have:=ih (p++[x]) (zg ns acc x) ?_
    ·simpa using this
    ·unfold zg
     by_cases hk:x.kind=10
     ·simp only[hk,if_true]
      cases hf:Ai ns x.name with
      | none =>
        refine⟨h1,by simp; omega,λi =>?_⟩
        rw[h3]
        constructor
        ·rintro⟨y,hy,e⟩; exact⟨y,by simp[hy],e⟩
        ·rintro⟨y,hy,e1,e2⟩
         rcases aw.1 hy with hy|hy
         ·exact⟨y,hy,e1,e2⟩
         ·simp only[bg] at hy; subst hy; rw[hf] at e2; simp at e2
      | some m =>
        simp only
        by_cases hm:m∈acc
        ·rw[ah hm]
         refine⟨h1,by simp; omega,λi =>?_⟩
         rw[h3]
         constructor
         ·rintro⟨y,hy,e⟩; exact⟨y,by simp[hy],e⟩
         ·rintro⟨y,hy,e1,e2⟩
          rcases aw.1 hy with hy|hy
          ·exact⟨y,hy,e1,e2⟩
          ·simp only[bg] at hy; subst hy; rw[hf] at e2; simp only[aa] at e2; subst e2; exact(h3 _).1 hm
        ·rw[ae hm]
         refine⟨?_,by simp; omega,λi =>?_⟩
         ·rw[cj]
          exact⟨h1,by simp,λa ha b hb=>by simp only[bg] at hb; subst hb; exact λe=>hm (e▸ha)⟩
         ·rw[aw,bg,h3]
          constructor
          ·rintro(⟨y,hy,e⟩|rfl)
           ·exact⟨y,by simp[hy],e⟩
           ·exact⟨x,by simp,hk,hf⟩
          ·rintro⟨y,hy,e1,e2⟩
           rcases aw.1 hy with hy|hy
           ·exact .inl ⟨y,hy,e1,e2⟩
           ·simp only[bg] at hy; subst hy; rw[hf] at e2; simp only[aa] at e2; exact .inr e2.symm
     ·simp only[hk,if_false]
      refine⟨h1,by simp; omega,λi =>?_⟩
      rw[h3]
      constructor
      ·rintro⟨y,hy,e⟩; exact⟨y,by simp[hy],e⟩
      ·rintro⟨y,hy,e1,e2⟩
       rcases aw.1 hy with hy|hy
       ·exact⟨y,hy,e1,e2⟩
       ·simp only[bg] at hy; subst hy; exact absurd e1 hk
 intro l
 have:=key l [] [] ⟨by simp,by simp,by simp⟩
 simpa[yi] using this
theorem NH {ns:List Node} {s:Str} {i:Nat} (h:Ai ns s=some i):i<ns.length∧(ns.getD i default).name=s:=by
 unfold Ai at h
 obtain⟨hi,h2,_⟩:=cI.1 h
 refine⟨hi,?_⟩
 rw[cF,aq hi]
 simpa using h2
theorem b5y (ns:List Node) (n:Node):((yi ns ((zf n).flatMap Expr.list)).map λi:Nat=>(i:Int)).mergeSort (λx y=>decide (x≤y))=(zw ns n).map λi:Nat=>(i:Int):=by
 obtain⟨h1,_,h3⟩:=NG ns ((zf n).flatMap Expr.list)
 refine List.Perm.eq_of_pairwise (le:=λa b:Int=>a≤b) (λa b _ _ h1 h2=>Int.le_antisymm h1 h2) ?_ ?_ ?_
 ·have:=List.pairwise_mergeSort (le:=λx y:Int=>decide (x≤y)) (λa b c h1 h2=>by simp only[an] at *; omega) (λa b=>by simp only[bu,an]; omega) ((yi ns ((zf n).flatMap Expr.list)).map λi:Nat=>(i:Int))
  exact this.imp λh=>by simpa using h
 ·rw[List.pairwise_map]
  unfold zw
  refine List.Pairwise.filter _ (List.pairwise_lt_range.imp λh=>by omega)
 ·refine(List.mergeSort_perm _ _).trans (List.Perm.map _ ?_)
  unfold zw
  rw[List.perm_ext_iff_of_nodup h1 (List.nodup_range.filter _)]
  intro i
  rw[h3,bD,ck,an]
  constructor
  ·rintro⟨x,hx,hk,hf⟩
   obtain⟨hi,hn⟩:=NH hf
   refine⟨hi,by rw[hn]; exact hf,?_⟩
   rw[hn]
   unfold EZ
   exact aM.2 ⟨x,bD.2 ⟨hx,by simpa using hk⟩,rfl⟩
  ·rintro⟨hi,hf,hm⟩
   unfold EZ at hm
   obtain⟨x,hx,mU⟩:=aM.1 hm
   obtain⟨kA,gb⟩:=bD.1 hx
   exact⟨x,kA,by simpa using gb,by rw[mU]; exact hf⟩
theorem b6W (l:List Nat):CH (wO l)=some (l.map λi:Nat=>(i:Int)):=by
 induction l with
 | nil=>rfl
 | cons x l ih =>
   unfold wO at ih ⊢
   simp only[aF,CH,ih,ay]
def CallsH (p:Prog) (n:Nat) (l:List Nat) (h:List PObj):Prop:=h[0]? = some (.cells (wT p).cells)∧∃rv,h[1]? = some (.cells [rv])∧((rv = .list true []∧l=[])∨∃k,2≤k∧k≠n∧rv = .rowp k 1 false l.length∧h[k]? = some (.cells (wO l)))
section
variable {L:Nat→Option PFunc} (hL:∀k f,LS k=some f→L k=some f)
include hL
theorem c1Y (o:Bool) (m:Int) (h:List PObj):vU L 83 [.list o [],.int .i64 m] h=some (.bool false,h):=by
 have hi:vU L 117 [.list false [],.int .i64 m] h=some (.int .i64 (-1),h):=by
  refine wj (hL 117 _ rfl) rfl ?_
  simp[DH]
  rw[Jj,zE]
  simp[DH]
 refine wj (hL 83 _ rfl) rfl ?_
 simp[Gi,hi]
theorem c0b (l:List Nat) (hl:l.length≤2000000000) (n m:Nat) (h:List PObj) (hn:h[n]? = some (.cells (wO l))):vU L 83 [.rowp n 1 false l.length,.int .i64 m] h=some (.bool (decide (m∈l)),h):=by
 obtain⟨P,hP⟩:∃P:Nat→Bool,∀x,P x=decide (x=m):=⟨_,λ_=>rfl⟩
 have hi:vU L 117 [.rowp n 1 false l.length,.int .i64 m] h=some (.int .i64 (yW P l),h):=by
  refine wj (hL 117 _ rfl) rfl ?_
  simp[DH]
  rw[Jj]
  refine wS l.length (λj st=>∃y3,st=⟨[.rowp n 1 false l.length,.int .i64 m,.int .i64 0,y3,.int .i64 l.length,.int .i64 j],[],0,h⟩∧∀i (hi:i<l.length),i<j→P l[i]=false) ?_ ?_ ⟨_,rfl,λi _ hi=>by omega⟩
  ·rintro j hj st ⟨y3,rfl,iY⟩ ih
   have hw:=wk j (by omega)
   have hg:(wO l)[j]? = some (.int .i64 (l[j]:Nat)):=by simp[wO,hj]
   by_cases hp:l[j]=m
   ·have ek:((m:Nat):Int)=((l[j]:Nat):Int):=by omega
    have hp'':((l[j]:Nat):Int)=((m:Nat):Int):=by omega
    have iZ:P l[j]=true:=by rw[hP]; simpa using hp
    simp[hj,hw,hn,hg,tf ek,tf hp'',tf hp,tf hp.symm,Cn hj iZ iY]
   ·have ek:¬((m:Nat):Int)=((l[j]:Nat):Int):=by omega
    have hp'':¬((l[j]:Nat):Int)=((m:Nat):Int):=by omega
    have fm:¬m=l[j]:=λe=>hp e.symm
    have iZ:P l[j]=false:=by rw[hP]; simpa using hp
    simp[hj,hw,hn,hg,tf ek,tf hp'',tf hp,tf fm]
    refine ih _ ⟨_,rfl,λi hi kD =>?_⟩
    by_cases he:i=j
    ·subst he; exact iZ
    ·exact iY i hi (by omega)
  ·rintro st ⟨y3,rfl,iY⟩
   simp[DH,Co (λi hi=>iY i hi hi)]
 have ha:decide (m∈l)=l.any P:=by
  rw[aC,an,cC]
  constructor
  ·intro hm; exact⟨m,hm,by rw[hP]; simp⟩
  ·rintro⟨x,hm,hx⟩; rw[hP] at hx; simp at hx; subst hx; exact hm
 rw[ha]
 refine wj (hL 83 _ rfl) rfl ?_
 simp[Gi,hi,← DN]
theorem c4G (p:Prog) (hl:p.nodes.length≤1500) (s:Str) (h:List PObj):∃m:Int,vU L 82 [wT p,.str s] h=some (.tuple [.int .i64 m,.bool (Ai p.nodes s).isSome],h)∧∀i,Ai p.nodes s=some i→m=i:=by
 obtain⟨P,hP⟩:∃P:Node→Bool,∀x,P x=decide (x.name=s):=⟨_,λ_=>rfl⟩
 have cW:∀x:Node,vU L 116 [wE x,.cptr [.str s]] []=some (.bool (P x),[]):=by
  intro x
  refine wj (hL 116 _ rfl) rfl ?_
  rw[hP]
  simp[Ji]
 have hi:vU L 115 [.list false (p.nodes.map wE),.func 116 [] [.cptr [.str s]]] []=some (.int .i64 (yW P p.nodes),[]):=by
  refine wj (hL 115 _ rfl) rfl ?_
  simp[Gp]
  rw[MP]
  refine wS p.nodes.length (λj st=>∃y3,st=⟨[.list false (p.nodes.map wE),.func 116 [] [.cptr [.str s]],.int .i64 0,y3,.int .i64 p.nodes.length,.int .i64 j],[],0,[]⟩∧∀i (hi:i<p.nodes.length),i<j→P p.nodes[i]=false) ?_ ?_ ⟨_,rfl,λi _ hi=>by omega⟩
  ·rintro j hj st ⟨y3,rfl,hn⟩ ih
   have hw:=wk j (by omega)
   have hc:=cW p.nodes[j]
   cases hp:P p.nodes[j] with
   | true =>
     rw[hp] at hc
     simp[hj,hc,hw,Cn hj hp hn]
   | false =>
     rw[hp] at hc
     simp[hj,hc,hw]
     refine ih _ ⟨_,rfl,λi hi kD =>?_⟩
     by_cases he:i=j
     ·subst he; exact hp
     ·exact hn i hi (by omega)
  ·rintro st ⟨y3,rfl,hn⟩
   simp[Gp,Co (λi hi=>hn i hi hi)]
 have uT:Ai p.nodes s=p.nodes.findIdx? P:=by unfold Ai; congr 1; funext x; rw[hP]
 rw[uT]
 cases hf:p.nodes.findIdx? P with
 | none =>
   have hx:yW P p.nodes = -1:=by simp[yW,hf]
   rw[hx] at hi
   refine⟨0,?_,by simp⟩
   refine wj (hL 82 _ rfl) rfl ?_
   simp[Gh,hi,AA]
 | some i =>
   have hx:yW P p.nodes=i:=by simp[yW,hf]
   rw[hx] at hi
   refine⟨i,?_,by simp⟩
   have h0:(0:Int)≤i:=by omega
   have h1:¬(0:Int)>i:=by omega
   have h2:¬(i:Int)<0:=by omega
   refine wj (hL 82 _ rfl) rfl ?_
   simp[Gh,hi,AA,h0,h1,h2]
end
section
variable {L:Nat→Option PFunc}
def GK (n:Nat) (P:Out×List PObj→Prop):PExit→St→Prop
 | .normal,st=>st.heap[n]? = some (.loop false)∧P (.val (.bool true),st.heap.set n (.loop true))
 | .boom v,st=>P (.boom v,st.heap)
 | .exit id,st=>st.heap[n]? = some (.loop false)∧P (.val (.bool false),st.heap.set n (.over (some id)))
 | .ret,st=>st.heap[n]? = some (.loop false)∧P (.val (.bool false),st.heap.set n (.over none))
 | .after ..,_=>False
@[simp] theorem c08 {V l:List PV} {g:Nat} {h:List PObj} (n:Nat) (P:Out×List PObj→Prop):GK n P .normal ⟨V,l,g,h⟩=(h[n]? = some (.loop false)∧P (.val (.bool true),h.set n (.loop true))):=rfl
@[simp] theorem c3e {V l:List PV} {g:Nat} {h:List PObj} (n:Nat) (P:Out×List PObj→Prop) (v:PV):GK n P (.boom v) ⟨V,l,g,h⟩=P (.boom v,h):=rfl
def NI (L:Nat→Option PFunc) (b:PC) (n:Nat) (P:Out×List PObj→Prop):PExit→St→Prop
 | .normal,st=>st.heap[n]? = some (.loop true)∧wpL L b { st with heap:=st.heap.set n (.loop false) } (GK n P)
 | _,_=>False
@[simp] theorem c09 {V l:List PV} {g:Nat} {h:List PObj} (b:PC) (n:Nat) (P:Out×List PObj→Prop):NI L b n P .normal ⟨V,l,g,h⟩=(h[n]? = some (.loop true)∧wpL L b ⟨V,l,g,h.set n (.loop false)⟩ (GK n P)):=rfl
theorem b6X {k:Nat} {f:PFunc} {a b:PC} {n:Nat} {as:List PV} {hp:List PObj} {P:Out×List PObj→Prop} (hf:L k=some f) (hX:f.code = .round a b) (hl:as.length+1=f.params) (hn:hp[n]? = some (.loop true))
  (hw:wpL L a ⟨as.map dem++List.replicate (f.nv - as.length) .dead,[],0,hp⟩ (NI L b n P)) (hs:f.split=false:=by rfl) (fm:f.prim=none:=by rfl):∃r,wm L k (.ptr n 0::as) hp=some r∧P r:=by
 rw[A0] at hw
 obtain⟨e,st,h1,h2⟩:=hw
 have key:∀r,zM (λc st=>evL L c st) f.nv a b (.ptr n 0::as) hp=some r→wm L k (.ptr n 0::as) hp=some r:=by
  intro r hr
  refine Ig hf (by simpa using hl) ?_ hs fm
  unfold yA
  rw[hX]
  exact hr
 cases e with
 | normal =>
   obtain⟨h3,h4⟩:=h2
   rw[A0] at h4
   obtain⟨e2,st2,h5,h6⟩:=h4
   cases e2 with
   | normal=>exact⟨_,key _ (by simp only[zM,hn,h1,h3,h5,h6.1]),h6.2⟩
   | boom v=>exact⟨_,key _ (by simp only[zM,hn,h1,h3,h5]),h6⟩
   | exit id=>exact⟨_,key _ (by simp only[zM,hn,h1,h3,h5,h6.1]),h6.2⟩
   | ret=>exact⟨_,key _ (by simp only[zM,hn,h1,h3,h5,h6.1]),h6.2⟩
   | after kd cs v=>exact h6.elim
 | exit id=>exact h2.elim
 | ret=>exact h2.elim
 | boom v=>exact h2.elim
 | after kd cs v=>exact h2.elim
end
theorem b6Y (l:List Nat):yk 1 false (wO l) l.length 0=some (wO l):=by
 suffices H:∀(n off:Nat),off+n=l.length→yk 1 false (wO l) n off=some (wO (l.drop off)) by simpa using H l.length 0 (by omega)
 intro n
 induction n with
 | zero=>intro off h; rw[aU (by omega)]; rfl
 | succ n ih =>
   intro off h
   have cO:off<l.length:=by omega
   have hg:(wO l)[off]? = some (.int .i64 (l[off]:Nat)):=by simp[wO,cO]
   have hl:wh 1 false (wO l) off=some (.int .i64 (l[off]:Nat)):=by simp only[wh,hg]; rfl
   simp only[yk,hl,ih (off+1) (by omega)]
   rw[aQ cO]; rfl
theorem NJ (ns:List Node) (l:List Expr):(yi ns l).length≤ns.length:=by
 obtain⟨h1,_,h3⟩:=NG ns l
 have hp:(yi ns l).Perm ((List.range ns.length).filter λi=>decide (i∈yi ns l)):=by
  rw[List.perm_ext_iff_of_nodup h1 (List.nodup_range.filter _)]
  intro i
  rw[bD,ck,an]
  refine⟨λh=>⟨?_,h⟩,λh=>h.2⟩
  obtain⟨x,_,_,hf⟩:=(h3 i).1 h
  exact(NH hf).1
 rw[hp.length_eq]
 exact aL (List.length_filter_le _ _) (by simp)
theorem CallsH.gone {p:Prog} {n:Nat} {l:List Nat} {h:List PObj} (hh:CallsH p n l h) (hn:2≤n):CallsH p (h.set n .gone).length l (h.set n .gone):=by
 obtain⟨h0,rv,h1,hr⟩:=hh
 refine⟨by rw[ak (by omega)]; exact h0,rv,by rw[ak (by omega)]; exact h1,?_⟩
 rcases hr with h|⟨k,e1,e2,e3,e4⟩
 ·exact .inl h
 ·have:=(aj.1 e4).1
  exact .inr ⟨k,e1,by simp; omega,e3,by rw[ak (Ne.symm e2)]; exact e4⟩
theorem CallsH.loop {p:Prog} {l:List Nat} {h:List PObj} (hh:CallsH p h.length l h):CallsH p h.length l (h++[.loop true]):=by
 obtain⟨h0,rv,h1,hr⟩:=hh
 have b0:=(aj.1 h0).1
 have b1:=(aj.1 h1).1
 refine⟨by rw[al b0]; exact h0,rv,by rw[al b1]; exact h1,?_⟩
 rcases hr with h|⟨k,e1,e2,e3,e4⟩
 ·exact .inl h
 ·have:=(aj.1 e4).1
  exact .inr ⟨k,e1,e2,e3,by rw[al this]; exact e4⟩
theorem CallsH.push {p:Prog} {n m q:Nat} {l:List Nat} {H:List PObj} {vs:List PV} (ou:2≤n) (hm:m=H.length) (hq:q=l.length) (hv:vs=wO l) (h0:H[0]? = some (.cells (wT p).cells)) (hn:H[n]? = some (.loop false)):
  ((H++[PObj.cells vs]).set 1 (PObj.cells [.rowp m 1 false q]))[n]? = some (.loop false)∧CallsH p n l (((H++[PObj.cells vs]).set 1 (PObj.cells [.rowp m 1 false q])).set n (.loop true))∧(((H++[PObj.cells vs]).set 1 (PObj.cells [.rowp m 1 false q])).set n (.loop true))[n]? = some (.loop true):=by
 subst hm hq hv
 have cO:=(aj.1 hn).1
 refine⟨?_,⟨?_,_,?_,.inr ⟨H.length,by omega,by omega,rfl,?_⟩⟩,?_⟩
 ·rw[ak (by omega),al cO]; exact hn
 ·rw[ak (by omega),ak (by omega),al (by omega)]; exact h0
 ·rw[ak (by omega),a8 (by simp; omega)]
 ·rw[ak (by omega),ak (by omega),ap (ao _)]; simp
 ·rw[a8 (by simp; omega)]
section
variable {L:Nat→Option PFunc} (hL:∀k f,LS k=some f→L k=some f)
include hL
theorem b5z (p:Prog) (hl:p.nodes.length≤1500) (n:Nat) (ou:2≤n) (x:Expr) (l:List Nat) (sT:l.length≤100000) (h:List PObj) (hh:CallsH p n l h) (js:h[n]? = some (.loop true)):
  ∃h',wm L 187 [.ptr n 0,.ptr 0 0,.ptr 1 0,vX x] h=some (.val (.bool true),h')∧CallsH p n (zg p.nodes l x) h'∧h'[n]? = some (.loop true):=by
 suffices H:∃r,wm L 187 [.ptr n 0,.ptr 0 0,.ptr 1 0,vX x] h=some r∧r.1 = .val (.bool true)∧CallsH p n (zg p.nodes l x) r.2∧r.2[n]? = some (.loop true) by
  obtain⟨⟨v,h'⟩,h1,h2,h3⟩:=H
  simp only at h2; subst h2
  exact⟨h',h1,h3⟩
 have cO:=(aj.1 js).1
 have same:CallsH p n l ((h.set n (.loop false)).set n (.loop true))∧((h.set n (.loop false)).set n (.loop true))[n]? = some (.loop true):=by
  rw[c16,Dy js]; exact⟨hh,js⟩
 obtain⟨h0,rv,h1,hr⟩:=hh
 refine b6X (as:=[.ptr 0 0,.ptr 1 0,vX x]) (hL 187 _ rfl) rfl rfl js ?_
 obtain⟨H,hH⟩:∃H,H=h.set n (.loop false):=⟨_,rfl⟩
 have H0:H[0]? = some (.cells (wT p).cells):=by rw[hH,ak (by omega)]; exact h0
 have H1:H[1]? = some (.cells [rv]):=by rw[hH,ak (by omega)]; exact h1
 have Hn:H[n]? = some (.loop false):=by rw[hH,a8 cO]
 have Hlen:H.length=h.length:=by rw[hH]; simp
 rw[← hH] at same
 by_cases hk:x.kind=10
 ·obtain⟨m,hf,uU⟩:=c4G hL p hl x.name []
  cases fF:Ai p.nodes x.name with
  | none =>
    rw[fF] at hf
    have ha:zg p.nodes l x=l:=by simp[zg,hk,fF]
    rw[ha]
    simp at hf
    simp[CT,js,← hH,hk,H0,hf,Hn]
    exact same
  | some i =>
    have uV:=uU i fF
    subst uV
    rw[fF] at hf
    simp at hf
    rcases hr with⟨rfl,rfl⟩|⟨k,e1,e2,rfl,e4⟩
    ·have hc:=c1Y hL false i H
     have ha:zg p.nodes [] x=[i]:=by simp[zg,hk,fF]
     rw[ha]
     have e5:(H.set 1 (.cells [.list false []])++[PObj.cells [PV.int .i64 i]])[1]? = some (.cells [.list false []]):=by
      rw[al (by simp; omega),a8 (by omega)]
     have d8:1<H.length:=by omega
     simp[CT,js,← hH,hk,H0,H1,hf,hc,Ae,wL,e5,xG]
     exact CallsH.push ou (by simp) rfl rfl (by rw[ak (by omega)]; exact H0) (by rw[ak (by omega)]; exact Hn)
    ·have Hk:H[k]? = some (.cells (wO l)):=by rw[hH,ak (Ne.symm e2)]; exact e4
     have hc:=c0b hL l (by omega) k i H Hk
     by_cases dn:i∈l
     ·have ha:zg p.nodes l x=l:=by simp[zg,hk,fF,dn]
      rw[ha]
      simp[dn] at hc
      simp[CT,js,← hH,hk,H0,H1,hf,hc,Hn]
      exact same
     ·have ha:zg p.nodes l x=l++[i]:=by simp[zg,hk,fF,dn]
      rw[ha]
      simp[dn] at hc
      have eH:l.length+1≤2147483648:=by omega
      have e5:∀X,(H.set k .gone++[X])[1]? = some (.cells [.rowp k 1 false l.length]):=λX=>by
       rw[al (by simp; omega),ak (by omega)]; exact H1
      have jn:(wO l).length=l.length:=by simp[wO]
      have ec:List.take l.length (List.map dem (wO l))=wO l:=by
       rw[bP (by simp[wO])]
       unfold wO
       rw[List.map_map]; rfl
      have rD:List.map dem (List.take l.length (wO l))=wO l:=by rw[List.map_take]; exact ec
      simp[CT,js,← hH,hk,H0,H1,Hk,hf,hc,Ae,wL,e5,xG,eH,jn,ec,rD]
      exact CallsH.push ou (by simp) (by simp) (by simp[wO]) (by rw[ak (by omega)]; exact H0) (by rw[ak e2]; exact Hn)
 ·have ha:zg p.nodes l x=l:=by simp[zg,hk]
  rw[ha]
  simp[CT,js,← hH,hk,Hn]
  exact same
theorem b8S (p:Prog) (hl:p.nodes.length≤1500) (e:Expr) (he:EW e) (E:List Expr) (h:List PObj) (hh:CallsH p h.length (yi p.nodes (E.flatMap Expr.list)) h):
  ∃h',vU L 38 [vX e,.ptr 0 0,.ptr 1 0] h=some (.tuple [],h')∧CallsH p h'.length (yi p.nodes ((E++[e]).flatMap Expr.list)) h':=by
 suffices H:∃r,vU L 38 [vX e,.ptr 0 0,.ptr 1 0] h=some r∧r.1 = .tuple []∧CallsH p r.2.length (yi p.nodes ((E++[e]).flatMap Expr.list)) r.2 by
  obtain⟨⟨v,h'⟩,h1,h2,h3⟩:=H
  simp only at h2; subst h2
  exact⟨h',h1,h3⟩
 have b1:=(aj.1 hh.2.choose_spec.1).1
 have hE:=DP hL e h
 refine zq (hL 38 _ rfl) rfl ?_
 simp[IQ,hE]
 refine c0a hL e he (cs:=[.ptr 0 0,.ptr 1 0]) (by simp) (by simp) (by simp) (λm h'=>CallsH p h.length (yi p.nodes m) h'∧h'[h.length]? = some (.loop true)) (E.flatMap Expr.list) ⟨hh.loop,by simp⟩ ?_ ?_
 ·rintro x hx m h' ⟨h1,h2⟩
  obtain⟨h3,h4,h5,h6⟩:=b5z hL p hl h.length (by omega) x _ (by have:=NJ p.nodes m; omega) h' h1 h2
  exact⟨h3,h4,by rw[b5w]; exact h5,h6⟩
 ·rintro h' ⟨h1,h2⟩
  refine⟨h2,?_⟩
  simp[xi]
  have:(E++[e]).flatMap Expr.list=E.flatMap Expr.list++e.list:=by simp
  have hg:=h1.gone (by omega)
  simpa using hg
theorem c1Z (p:Prog) (hn:∀n∈p.nodes,NW n) (hl:p.nodes.length≤1500) (i:Int):∃o h',vU L 17 [wT p,.int .i64 i] []=some (.list o (wO (Bx p i)),h'):=by
 suffices H:∃r,vU L 17 [wT p,.int .i64 i] []=some r∧∃o,r.1 = .list o (wO (Bx p i)) by
  obtain⟨⟨v,h'⟩,h1,o,h2⟩:=H
  simp only at h2; subst h2
  exact⟨o,h',h1⟩
 refine zq (hL 17 _ rfl) rfl ?_
 by_cases h0:i<0
 ·have hc:Bx p i=[]:=by unfold Bx; rw[ae (by omega)]
  rw[hc]
  simp[DA,h0,wO,xi]
 by_cases h1:(p.nodes.length:Int)≤i
 ·have hc:Bx p i=[]:=by unfold Bx; rw[ae (by omega)]
  rw[hc]
  simp[DA,h0,h1,wO,xi]
 obtain⟨k,rfl⟩:∃k:Nat,i=k:=⟨i.toNat,by omega⟩
 have hk:k<p.nodes.length:=by omega
 obtain⟨N,hN⟩:∃N,N=p.nodes[k]:=⟨_,rfl⟩
 have hc:Bx p k=zw p.nodes N:=by
  unfold Bx
  rw[ah (by omega)]
  congr 1
  simp[List.getD,hk,hN]
 rw[hc]
 have sU:=hn _ (ai hk)
 rw[← hN] at sU
 have hT:Takes L 38 [.ptr 0 0,.ptr 1 0] (λE h=>CallsH p h.length (yi p.nodes (E.flatMap Expr.list)) h):=⟨λe l h _ he hi=>b8S hL p hl e he l h hi⟩
 obtain⟨h2,eu,hi⟩:=c1X hL hT N sU [] [.cells (wT p).cells,.cells [.list true []]] ⟨rfl,_,rfl,.inl ⟨rfl,rfl⟩⟩
 have hs:=b5y p.nodes N
 simp only[be] at hi
 obtain⟨i0,rv,i1,hr⟩:=hi
 simp at eu
 rcases hr with⟨rfl,iC⟩|⟨q,e1,e2,rfl,e4⟩
 ·have h39:vU L 39 [.list false []] h2=some (.tuple [],h2):=by rw[JR (hL 39 _ rfl) rfl rfl]; rfl
  rw[iC] at hs
  have lJ:zw p.nodes N=[]:=by simpa using hs.symm
  rw[lJ]
  simp[DA,h0,h1,hk,← hN,eu,i1,h39,wO,xi]
 ·have eg:=NJ p.nodes ((zf N).flatMap Expr.list)
  have h39:vU L 39 [.rowp q 1 false (yi p.nodes ((zf N).flatMap Expr.list)).length] h2=some (.tuple [],h2.set q (.cells (wO (zw p.nodes N)))):=by
   rw[JR (hL 39 _ rfl) rfl rfl]
   have jn:(wO (yi p.nodes ((zf N).flatMap Expr.list))).length=(yi p.nodes ((zf N).flatMap Expr.list)).length:=by simp[wO]
   have hx:Ds [.rowp q 1 false (yi p.nodes ((zf N).flatMap Expr.list)).length] h2=some (.tuple [],h2.set q (.cells (wO (zw p.nodes N)))):=by
    simp only[Ds,e4]
    rw[ah (by omega),bP (by omega),aU (by omega),b6W]
    simp only[ay,hs,aW]
    congr 4
    simp[wO]
   have ei:(MA.prim.getD λ_ _=>none) [.rowp q 1 false (yi p.nodes ((zf N).flatMap Expr.list)).length] h2=some (.tuple [],h2.set q (.cells (wO (zw p.nodes N)))):=hx
   simp[hx]
  have cK:(yi p.nodes ((zf N).flatMap Expr.list)).length=(zw p.nodes N).length:=by
   have:=aD List.length hs
   simpa using this
  have hq:=(aj.1 e4).1
  have i2:(h2.set q (PObj.cells (wO (zw p.nodes N))))[1]? = some (.cells [.rowp q 1 false (yi p.nodes ((zf N).flatMap Expr.list)).length]):=by rw[ak (by omega)]; exact i1
  have i3:(h2.set q (PObj.cells (wO (zw p.nodes N))))[q]? = some (.cells (wO (zw p.nodes N))):=by rw[a8 hq]
  have jn:=b6Y (zw p.nodes N)
  rw[cK] at i1 i2 h39
  simp[DA,h0,h1,hk,← hN,eu,i1,i2,i3,h39,jn,xi]
end
@[simp] theorem c8r (l:List Nat):wu (wO l)=true:=As (λ_=>rfl) l
theorem b2i (p:Prog) (hp:PF p):∃h',vU LS 3 [wT p] []=some (.bool true,h'):=by
 have hL:∀k f,LS k=some f→LS k=some f:=λ_ _ h=>h
 refine⟨[],?_⟩
 have hh:=b97 hL p hp []
 have rx:=b96
 refine wj rfl rfl ?_
 cases hv:EV p with
 | true =>
   rw[hv] at hh
   simp[Ey,hh,rx]
 | false =>
   rw[hv] at hh
   have hs:parts p≤1500:=by unfold EV at hv; simp at hv; omega
   have hw:=hp.pw hs
   have ma:=b8M hs
   obtain⟨h1,c1⟩:=c1E hL p hw hs
   obtain⟨h2,c2⟩:=L7 hL p hw
   unfold zS at c1 c2
   cases hb:BS p with
   | some b =>
     rw[hb] at c1
     have kX:=b6T hb
     simp only[zH,bL] at c1
     simp[Ey,hh,rx,c1,kX]
   | none =>
     rw[hb] at c1
     have dX:=(Nu.1 hb).shape
     rw[dX] at c2
     simp only[zH,Option.getD_none,Ew] at c1 c2
     have ry:=b6R hb
     simp[Ey,hh,c1,c2]
     rw[Ml]
     refine wS p.nodes.length (λj st=>∃y8 y9 y10 y11 y12 g,st=⟨[wT p,.loc 0 (wT p).cells,.bool false,.loc 1 [.int .i64 0,.int .i64 0],.int .i64 0,.loc 2 [.int .i64 0,.int .i64 0],.int .i64 0,.int .i64 j,y8,y9,y10,y11,y12],[],g,[]⟩) ?_ ?_ ⟨_,_,_,_,_,_,rfl⟩
     ·rintro j hj st ⟨y8,y9,y10,y11,y12,g,rfl⟩ ih
      have iX:=wk j (by have:=hw.nodes; omega)
      obtain⟨N,hN⟩:∃N,N=p.nodes[j]:=⟨_,rfl⟩
      have hn:=hw.ns _ (ai hj)
      have oj:=ma _ (ai hj)
      obtain⟨a1,a2,a3,a4⟩:=ry j hj
      rw[← hN] at hn oj a1 a2 a3 a4
      have d1:=b8R hL N hn oj []
      obtain⟨o3,h3,c3⟩:=c1Z hL p hw.ns hw.nodes j
      have kN:Bx p j=zw p.nodes N:=by
       unfold Bx
       rw[ah (by omega)]
       congr 1
       simp[List.getD,hj,hN]
      rw[kN] at c3
      obtain⟨D,hD⟩:∃D,D=defined N:=⟨_,rfl⟩
      rw[← hD] at d1 a1 a2 a3
      have sL:=hn.outs
      have pL:=hn.locals
      have uH:IntKind.i64.wrap ((N.outs.length:Int)+N.locals.length)=N.outs.length+N.locals.length:=xl _ (by omega) (by omega)
      have uI:(D.length:Int)=N.outs.length+N.locals.length:=by omega
      have ol:∀x,x∈D→vU LS 21 [.list false (D.map .str),.str x] []=some (.bool true,[]):=λx hx=>by
       have:=c2e hL D (by omega) x false []
       rw[this]; simp[hx]
      simp[hj,← hN,d1,uH,uI]
      rw[Mj]
      refine wS N.outs.length (λi st=>st=⟨[wT p,.loc 0 (wT p).cells,.bool false,.loc 1 [.int .i64 0,.int .i64 0],.int .i64 0,.loc 2 [.int .i64 0,.int .i64 0],.int .i64 0,.int .i64 j,.loc g (wE N).cells,.list false (D.map .str),.int .i64 i,y11,y12],[],g+1,[]⟩) ?_ ?_ rfl
      ·rintro i hi st rfl ih2
       have om:=wk i (by omega)
       have hx:=ol _ (a2 _ (ai hi))
       simp[hi,hx,om]
       exact ih2 _ rfl
      ·rintro st rfl
       simp
       rw[Mk]
       refine wS N.locals.length (λi st=>st=⟨[wT p,.loc 0 (wT p).cells,.bool false,.loc 1 [.int .i64 0,.int .i64 0],.int .i64 0,.loc 2 [.int .i64 0,.int .i64 0],.int .i64 0,.int .i64 j,.loc g (wE N).cells,.list false (D.map .str),.int .i64 N.outs.length,.int .i64 i,y12],[],g+1,[]⟩) ?_ ?_ rfl
       ·rintro i hi st rfl ih2
        have om:=wk i (by omega)
        have hx:=ol _ (a3 _ (ai hi))
        simp[hi,hx,om]
        exact ih2 _ rfl
       ·rintro st rfl
        obtain⟨C,hC⟩:∃C,C=zw p.nodes N:=⟨_,rfl⟩
        have hCl:C.length≤1500:=by
         rw[hC]
         exact aL (List.length_filter_le _ _) (by simpa using hw.nodes)
        rw[← hC] at c3 a4
        have jn:(wO C).length=C.length:=by simp[wO]
        cases pP:C with
        | nil =>
          rw[pP] at c3
          have m7:wO []=[]:=rfl
          rw[m7] at c3
          simp[c3,iX]
          exact ih _ ⟨_,_,_,_,_,_,rfl⟩
        | cons x r =>
          have j6:C.length - 1<C.length:=by rw[pP]; simp
          obtain⟨z,hz⟩:∃z,z=C[C.length - 1]:=⟨_,rfl⟩
          have uJ:z<j:=a4 z (by rw[hz]; exact ai _)
          have kY:(wO C)[C.length - 1]? = some (.int .i64 z):=by simp[wO,j6,hz]
          have nq:(wO C)[0]? = some (.int .i64 x):=by simp[wO,pP]
          have dI:0<C.length:=by rw[pP]; simp
          have oo:(0:Int)<C.length:=by omega
          have uK:IntKind.i64.wrap ((C.length:Int) - 1)=((C.length - 1:Nat):Int):=by
           rw[show (C.length:Int) - 1=((C.length - 1:Nat):Int) by omega]
           exact xl _ (by omega) (by omega)
          have fv:¬(x:Int)<0:=by omega
          have uL:¬(j:Int)≤z:=by omega
          obtain⟨E,hE⟩:∃E,E=wO C:=⟨_,rfl⟩
          have sR:wu E=true:=by rw[hE]; simp
          rw[← hE] at c3 jn kY nq
          have rz:E[0]'(by omega) = .int .i64 x:=(aj.1 nq).2
          have rA:E[C.length - 1]'(by omega) = .int .i64 z:=(aj.1 kY).2
          simp[c3,iX,sR,jn,dI,oo,uK,nq,kY,rz,rA,fv,uL]
          exact ih _ ⟨_,_,_,_,_,_,rfl⟩
     ·rintro st ⟨y8,y9,y10,y11,y12,g,rfl⟩
      simp[rx]
end PI.Sc
