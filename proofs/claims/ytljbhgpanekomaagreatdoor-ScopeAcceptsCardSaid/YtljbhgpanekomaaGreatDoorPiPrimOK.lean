import Derived.Test.YtljbhgpanekomaaGreatDoorPiFunc
import Derived.Test.YtljbhgpanekomaaGreatDoorPiStand
import Derived.Shelf.Strings.OnBuilder
import Derived.Shelf.Strings.BuilderK
import Derived.Shelf.Strings.Search1
import Derived.Shelf.Strconv.Itoa3
import Derived.Shelf.Strconv.ErrVarAll
import Derived.Shelf.Sort.Plain
import Derived.Shelf.Slices.In.SortNone
import Derived.Sort.OwnSortedInts
set_option linter.unusedSimpArgs false
set_option linter.unusedVariables false
set_option linter.unusedSectionVars false
namespace PI
open Go Go.RowKit Go.Shelf Go.Proofs
section
variable {N:Nm} {P:Program} {ρ:Ren}
theorem LA {w w':World} {G:GS} (h:Below w.heap.size w w') (fP:∀b o,G.fix b o→b<w.heap.size):Ext w G w' G:=
 ⟨h.os,h.tape,h.output,h.size,λb hb _=>h.block b hb,λb o hf=>⟨hf,by simp only[World.cell?,h.block b (fP b o hf)]⟩,λ_ _ h => .inl h,λ_ h => .inr h,λ_ _ h=>h,.same λk hk=>h.block k hk,rfl⟩
theorem b32 {w w':World} {G:GS} {hp:List PObj} (h:Below w.heap.size w w') (hb:Between N w G hp):Between N w' G hp:=by
 refine⟨hb.only,λb o hf=>aN (hb.fixlt b o hf) h.size,λb k ho=>aN (hb.owlt b k ho) h.size,?_,hb.hdom⟩
 exact hb.heap.keep (K:=λ_=>False) (LA h hb.fixlt) ⟨λb k ho _=>⟨ho,h.block b (hb.owlt b k ho),λ_ h=>h⟩,λ_ _ h=>h⟩ (λ_ _ h=>h)
theorem LB {k:Nat} {vals:Array Value} {w:World} {G:GS} {hp:List PObj} {r:PV} (hb:Between N w G hp) {R:Ending→World→Prop} (hc:Calls P (N.fn k) vals w R)
  (hR:∀e w',R e w'→∃v,e = .returned v∧VR N w' G.fix G.heap v r∧Below w.heap.size w w'):
  Calls P (N.fn k) vals w λe w'=>∃v G',e = .returned v∧VR N w' G'.fix G'.heap v r∧Ext w G w' G'∧Between N w' G' hp:=by
 refine hc.mono ?_
 intro e w' h
 obtain⟨v,rfl,h1,h2⟩:=hR e w' h
 exact⟨v,G,rfl,h1,LA h2 hb.fixlt,b32 h2 hb⟩
theorem two {vals:Array Value} {p q:PV} {w:World} {G:GS} (cQ:vals.size=[p,q].length) (cR:∀(i:Nat) (v:Value) (x:PV),vals[i]? = some v→[p,q][i]? = some x→VR N w G.fix G.heap v x):
  ∃v u,vals = #[v,u]∧VR N w G.fix G.heap v p∧VR N w G.fix G.heap u q:=by
 obtain⟨l⟩:=vals
 match l,cQ with
 | [v,u],_=>exact⟨v,u,rfl,cR 0 v p rfl rfl,cR 1 u q rfl rfl⟩
theorem d2S {vals:Array Value} {p:PV} {w:World} {G:GS} (cQ:vals.size=[p].length) (cR:∀(i:Nat) (v:Value) (x:PV),vals[i]? = some v→[p][i]? = some x→VR N w G.fix G.heap v x):
  ∃v,vals = #[v]∧VR N w G.fix G.heap v p:=by
 obtain⟨l⟩:=vals
 match l,cQ with
 | [v],_=>exact⟨v,rfl,cR 0 v p rfl rfl⟩
theorem c7H {w:World} {fix:Nat→Nat→Prop} {hp:Nat→Option Nat} (s:List UInt8):VR N w fix hp (.string ⟨s.toArray⟩) (.str s):=by
 have:=VR.str (N:=N) (w:=w) (fix:=fix) (hp:=hp) ⟨s.toArray⟩
 simpa using this
theorem b8u {w:World} {fix:Nat→Nat→Prop} {hp:Nat→Option Nat} {v:Value} {s:List UInt8} (h:VR N w fix hp v (.str s)):v = .string ⟨s.toArray⟩:=by
 cases h with
 | str s=>cases s; simp
theorem b49 {k:Nat} (hk:N.fn k=ρ.f 217) (L:Lays.n217 P ρ):CA N P k FN:=by
 intro args r h h' hg w G vals dZ cQ cR
 unfold FN at hg
 split at hg
 ·simp only[aa,ac] at hg
  obtain⟨rfl,rfl⟩:=hg
  obtain⟨v,u,rfl,hv,hu⟩:=two cQ cR
  have:=b8u hv; subst this
  cases hu
  refine LB dZ (hk▸Any.stringslite_IndexByte L _ _ w) ?_
  rintro e w' ⟨rfl,rfl⟩
  exact⟨_,rfl,by simpa using VR.int (N:=N) (w:=w') (fix:=G.fix) (hp:=G.heap) _ _,Below.refl _ _⟩
 ·simp at hg
theorem b8v (w:World) (k:Nat) (os:Array Obj):Below w.heap.size w (Go.Sort.grow (w.drewN k) os):=by
 refine⟨rfl,rfl,rfl,by simp[Go.Sort.grow,World.drewN],λj hj =>?_⟩
 simp[Go.Sort.grow,World.drewN,Array.getElem?_append,hj]
theorem c4c {k:Nat} (hk:N.fn k=ρ.f 171) (L:LaysM.n171 P ρ) (qK:∀w fix,Tab N w fix→Lib.TabIs P w "internal/strconv.uint64pow10" .u64 Lib.pow10Tab):CA N P k FO:=by
 intro args r h h' hg w G vals dZ cQ cR
 unfold FO at hg
 split at hg
 ·split at hg
  ·rename_i hr
   simp only[aa,ac] at hg
   obtain⟨rfl,rfl⟩:=hg
   obtain⟨v,rfl,hv⟩:=d2S cQ cR
   cases hv
   refine LB dZ (hk▸Any.strconv_Itoa L _ hr.1 hr.2 w (qK w G.fix dZ.heap.2)) ?_
   rintro e w' ⟨rfl,j,os,rfl⟩
   exact⟨_,rfl,c7H _,b8v w j os⟩
  ·simp at hg
 ·simp at hg
end
end PI
set_option linter.unusedSimpArgs false
set_option linter.unusedVariables false
namespace PI
open Go Go.RowKit Go.Shelf Go.Proofs Go.Sort
section
variable {N:Nm} {P:Program} {ρ:Ren}
theorem LC:∀{cs:List PV} {zs:List Int},CH cs=some zs→cs=zs.map (PV.int .i64)
 | [],zs,h=>by simp[CH] at h; subst h; rfl
 | e :: es, zs, h => by
   unfold CH at h
   split at h
   ·rename_i h0; simp at h0
   ·rename_i n r h0
    simp only[bq] at h0
    obtain⟨rfl,rfl⟩:=h0
    simp only[ab] at h
    obtain⟨ys,h1,rfl⟩:=h
    rw[LC h1]; rfl
   ·simp at h
theorem LD {w:World} {fix:Nat→Nat→Prop} {hp:Nat→Option Nat}:VR N w fix hp (.tuple #[]) (.tuple []) := .tuple _ _ rfl (by intro i c p hc hp; simp at hc)
theorem c4d {k:Nat} (hk:N.fn k=ρ.f 189) (L:Lays.n189 P ρ):CA N P k Ds:=by
 intro args r h h' hg w G vals dZ cQ cR
 unfold Ds at hg
 split at hg
 ·rename_i n len
  split at hg
  ·rename_i cs dY
   split at hg
   ·rename_i cK
    simp only[ab,ac] at hg
    obtain⟨zs,ge,rfl,rfl⟩:=hg
    have hz:=LC ge
    have lC:zs.length=len:=by
     have:=aD List.length hz
     simp at this; omega
    obtain⟨l⟩:=vals
    match l,cQ with
    | [v],_=>
    have hv:=cR 0 v _ rfl rfl
    cases hv with
    | rowp _ _ _ _ b cap hb cT dX=>
    rcases dZ.heap.1 n _ dY with hx|⟨b',k1,k2,f,cv,T,a1,a2,a3⟩
    ·simp at hx
    have:b'=b:=by rw[hb] at k1; simpa using k1.symm
    subst this
    have eX:b'<w.heap.size:=(aX.1 a1).1
    have nM:cv.toList.take zs.length=zs.map (Value.int .i64):=by
     apply bY
     intro j
     by_cases hj:j<zs.length
     ·rw[List.getElem?_take_of_lt hj,bN]
      have h1:cs[j]? = some (.int .i64 zs[j]):=by
       have:=aD (λl=>l[j]?) hz
       simp only[aA,aq hj,ay] at this
       rw[List.getElem?_take_of_lt (by omega)] at this
       exact this
      have pI:j<cv.size:=by omega
      have h2:=(a3 j cv[j] _ (by simp[pI]) h1).1
      generalize cv[j]'pI=c at h2
      have h3:cv[j]? = some cv[j]:=by simp[pI]
      have h4:=(a3 j cv[j] _ (by simp[pI]) h1).1
      generalize hc:cv[j]=c4 at h4 h3
      cases h4
      rw[h3]
      simp[hj]
     ·rw[List.getElem?_take_eq_none (by omega),List.getElem?_eq_none (by simp; omega)]
    have hH:=holds_of_blockI a1 nM
    have hc:=Any.slices_Sort_int L b' 0 cap zs w hH eX (by rw[lC]; exact cK.2)
    rw[lC] at hc
    refine(hk▸hc).mono ?_
    rintro e w' ⟨rfl,m,os,rfl⟩
    let ts:=zs.mergeSort λx y=>decide (x≤y)
    have nE:ts.length=len:=by rw[← lC]; exact List.length_mergeSort _
    have sM:=grownBy_sortedI (w:=w) (g:=b') (n:=m) (os:=os) ts.toArray
    have nB:=heap_sortedI (n:=m) (os:=os) ts.toArray a1
    generalize fV:grow (putRow (Value.int .i64) (Sort.ahead w m) b' 0 ts.toArray) os=w' at sM nB
    obtain⟨g1,g2,g3,g4,g5⟩:=sM
    have gR:∀x,x<w.heap.size→x≠b'→w'.heap[x]? = w.heap[x]? := λx hx c9=>g5 x hx (by simpa using c9)
    have eP:(putCells (Value.int .i64) 0 ts.toArray cv).size=cv.size:=by simp[putCells]
    have mj:ShapeLe w w' := .one b' (λx hx c9=>gR x hx c9) (λs hs=>by
     simp only[World.shape?,a1] at hs
     simp only[World.shape?,nB,eP]
     exact hs) (λs hs=>by rw[LE a1] at hs; simp at hs)
    have cJ:Ext w G w' G:=by
     refine⟨g1,g2,g3,g4,?_,?_,λ_ _ h => .inl h,λ_ h => .inr h,λ_ _ h=>h,mj,rfl⟩
     ·intro x hx ho
      exact gR x hx (by rintro rfl; rw[k2] at ho; simp at ho)
     ·intro x o hf
      refine⟨hf,?_⟩
      have c9:x≠b':=by rintro rfl; exact f o hf
      simp only[World.cell?,gR x (dZ.fixlt x o hf) c9]
    have cN:xa (λk=>k = .hobj n) w G w' G:=by
     refine⟨?_,λ_ _ h=>h⟩
     intro x kx hx c9
     refine⟨hx,gR x (dZ.owlt x kx hx) ?_,λ_ h=>h⟩
     rintro rfl
     rw[k2] at hx
     simp only[aa] at hx
     exact c9 hx.symm
    refine⟨_,G,rfl,LD,cJ,?_⟩
    refine⟨dZ.only,λx o hf=>aN (dZ.fixlt x o hf) g4,λx kx hx=>aN (dZ.owlt x kx hx) g4,?_,λm x hx=>by simpa using dZ.hdom m x hx⟩
    refine dZ.heap.keepBut cJ cN (by intro n' k' c9; simp[c9]) ?_
    intro nN
    refine .inr ⟨b',hb,k2,f,_,T,nB,?_,?_⟩
    ·rw[eP]
     have h0:=cK.1
     simp only[ax,aS,cA]
     show ts.length+_≤_
     omega
    ·intro j c x hc hx
     have mX:j<cv.size:=by rw[← eP]; exact(aX.1 hc).1
     by_cases hj:j<len
     ·have nO:j<ts.length:=by omega
      rw[al (by rw[aS]; exact nO)] at hx
      simp only[aA,ab] at hx
      obtain⟨z,eI,rfl⟩:=hx
      have eI:ts[j]? = some z:=eI
      have:c = .int .i64 z:=by
       simp[putCells,mX,nO] at hc
       rw[aq nO] at eI
       simp only[aa] at eI
       rw[← hc,eI]
      subst this
      exact⟨.int _ _,rfl,True.intro⟩
     ·have nO:ts.length≤j:=by omega
      rw[ap (by rw[aS]; exact nO)] at hx
      simp only[aS,aT] at hx
      have hx:cs[len+(j - ts.length)]? = some x:=hx
      rw[show len+(j - ts.length)=j by omega] at hx
      have kR:cv[j]? = some c:=by
       simp[putCells,mX,show ¬j<ts.length by omega] at hc
       simp[mX,hc]
      exact(a3 j c x kR hx).keep cJ cN (by simp)
   ·simp at hg
  ·simp at hg
 ·rename_i o
  simp only[aa,ac] at hg
  obtain⟨rfl,rfl⟩:=hg
  obtain⟨l⟩:=vals
  match l,cQ with
  | [v],_=>
  have hv:=cR 0 v _ rfl rfl
  obtain⟨p,cap,rfl⟩:∃p cap,v = .slice p 0 cap:=by
   cases hv with
   | nils=>exact⟨none,0,rfl⟩
   | void _ a cap=>exact⟨some a,cap,rfl⟩
   | list _ b off len cap sz _ cv cK cT _ _ _ _=>simp at cK; subst cK; exact⟨_,cap,rfl⟩
  refine(hk▸Any.slices_Sort_int_none L p cap w).mono ?_
  rintro e w' ⟨rfl,rfl⟩
  exact⟨_,G,rfl,LD,Ext.refl _ _,dZ⟩
 ·simp at hg
end
end PI
