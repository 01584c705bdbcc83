import Derived.Test.YtljbhgpanekomaaGreatDoorPiFunc
import Derived.Test.YtljbhgpanekomaaGreatDoorPiStand
import Derived.Shelf.Strings.OnBuilder
import Derived.Shelf.Strings.BuilderK
import Derived.Shelf.Strings.Search1
import Derived.Shelf.Strconv.Itoa3
import Derived.Shelf.Strconv.ErrVarAll
import Derived.Shelf.Sort.Plain
import Derived.Shelf.Slices.In.SortNone
import Derived.Sort.OwnSortedInts
set_option linter.unusedSimpArgs false
set_option linter.unusedVariables false
set_option linter.unusedSectionVars false
namespace PI
open Go Go.RowKit Go.Shelf Go.Proofs
section
variable {N:Nm} {P:Program} {ρ:Ren}
theorem M4 {w w':World} {G:GS} (h:Below w.heap.size w w') (fW:∀b o,G.fix b o→b<w.heap.size):Ext w G w' G:=
 ⟨h.os,h.tape,h.output,h.size,λb hb _=>h.block b hb,λb o hf=>⟨hf,by simp only[World.cell?,h.block b (fW b o hf)]⟩,λ_ _ h => .inl h,λ_ h => .inr h,λ_ _ h=>h,.same λk hk=>h.block k hk,rfl⟩
theorem b54 {w w':World} {G:GS} {hp:List PObj} (h:Below w.heap.size w w') (hb:Between N w G hp):Between N w' G hp:=by
 refine⟨hb.only,λb o hf=>aO (hb.fixlt b o hf) h.size,λb k ho=>aO (hb.owlt b k ho) h.size,?_,hb.hdom⟩
 exact hb.heap.keep (K:=λ_=>False) (M4 h hb.fixlt) ⟨λb k ho _=>⟨ho,h.block b (hb.owlt b k ho),λ_ h=>h⟩,λ_ _ h=>h⟩ (λ_ _ h=>h)
theorem M5 {k:Nat} {vals:Array Value} {w:World} {G:GS} {hp:List PObj} {r:PV} (hb:Between N w G hp) {R:Ending→World→Prop} (hc:Calls P (N.fn k) vals w R)
  (hR:∀e w',R e w'→∃v,e = .returned v∧VR N w' G.fix G.heap v r∧Below w.heap.size w w'):
  Calls P (N.fn k) vals w λe w'=>∃v G',e = .returned v∧VR N w' G'.fix G'.heap v r∧Ext w G w' G'∧Between N w' G' hp:=by
 refine hc.mono ?_
 intro e w' h
 obtain⟨v,rfl,h1,h2⟩:=hR e w' h
 exact⟨v,G,rfl,h1,M4 h2 hb.fixlt,b54 h2 hb⟩
theorem two {vals:Array Value} {p q:PV} {w:World} {G:GS} (cQ:vals.size=[p,q].length) (cR:∀(i:Nat) (v:Value) (x:PV),vals[i]? = some v→[p,q][i]? = some x→VR N w G.fix G.heap v x):
  ∃v u,vals = #[v,u]∧VR N w G.fix G.heap v p∧VR N w G.fix G.heap u q:=by
 obtain⟨l⟩:=vals
 match l,cQ with
 | [v,u],_=>exact⟨v,u,rfl,cR 0 v p rfl rfl,cR 1 u q rfl rfl⟩
theorem d4P {vals:Array Value} {p:PV} {w:World} {G:GS} (cQ:vals.size=[p].length) (cR:∀(i:Nat) (v:Value) (x:PV),vals[i]? = some v→[p][i]? = some x→VR N w G.fix G.heap v x):
  ∃v,vals = #[v]∧VR N w G.fix G.heap v p:=by
 obtain⟨l⟩:=vals
 match l,cQ with
 | [v],_=>exact⟨v,rfl,cR 0 v p rfl rfl⟩
theorem c9H {w:World} {fix:Nat→Nat→Prop} {hp:Nat→Option Nat} (s:List UInt8):VR N w fix hp (.string ⟨s.toArray⟩) (.str s):=by
 have:=VR.str (N:=N) (w:=w) (fix:=fix) (hp:=hp) ⟨s.toArray⟩
 simpa using this
theorem c0r {w:World} {fix:Nat→Nat→Prop} {hp:Nat→Option Nat} {v:Value} {s:List UInt8} (h:VR N w fix hp v (.str s)):v = .string ⟨s.toArray⟩:=by
 cases h with
 | str s=>cases s; simp
theorem b7e {k:Nat} (hk:N.fn k=ρ.f 217) (L:Lays.n217 P ρ):Dh N P k GK:=by
 intro args r h h' hg w G vals d7 cQ cR
 unfold GK at hg
 split at hg
 ·simp only[aa,ac] at hg
  obtain⟨rfl,rfl⟩:=hg
  obtain⟨v,u,rfl,hv,hu⟩:=two cQ cR
  have:=c0r hv; subst this
  cases hu
  refine M5 d7 (hk▸Any.stringslite_IndexByte L _ _ w) ?_
  rintro e w' ⟨rfl,rfl⟩
  exact⟨_,rfl,by simpa using VR.int (N:=N) (w:=w') (fix:=G.fix) (hp:=G.heap) _ _,Below.refl _ _⟩
 ·simp at hg
theorem c0s (w:World) (k:Nat) (os:Array Obj):Below w.heap.size w (Go.Sort.grow (w.drewN k) os):=by
 refine⟨rfl,rfl,rfl,by simp[Go.Sort.grow,World.drewN],λj hj =>?_⟩
 simp[Go.Sort.grow,World.drewN,Array.getElem?_append,hj]
theorem c6g {k:Nat} (hk:N.fn k=ρ.f 171) (L:LaysM.n171 P ρ) (rj:∀w fix,Tab N w fix→Lib.TabIs P w "internal/strconv.uint64pow10" .u64 Lib.pow10Tab):Dh N P k GL:=by
 intro args r h h' hg w G vals d7 cQ cR
 unfold GL at hg
 split at hg
 ·split at hg
  ·rename_i hr
   simp only[aa,ac] at hg
   obtain⟨rfl,rfl⟩:=hg
   obtain⟨v,rfl,hv⟩:=d4P cQ cR
   cases hv
   refine M5 d7 (hk▸Any.strconv_Itoa L _ hr.1 hr.2 w (rj w G.fix d7.heap.2)) ?_
   rintro e w' ⟨rfl,j,os,rfl⟩
   exact⟨_,rfl,c9H _,c0s w j os⟩
  ·simp at hg
 ·simp at hg
end
end PI
set_option linter.unusedSimpArgs false
set_option linter.unusedVariables false
namespace PI
open Go Go.RowKit Go.Shelf Go.Proofs Go.Sort
section
variable {N:Nm} {P:Program} {ρ:Ren}
theorem M6:∀{cs:List PV} {zs:List Int},Fd cs=some zs→cs=zs.map (PV.int .i64)
 | [],zs,h=>by simp[Fd] at h; subst h; rfl
 | e :: es, zs, h => by
   unfold Fd at h
   split at h
   ·rename_i h0; simp at h0
   ·rename_i n r h0
    simp only[bx] at h0
    obtain⟨rfl,rfl⟩:=h0
    simp only[ab] at h
    obtain⟨ys,h1,rfl⟩:=h
    rw[M6 h1]; rfl
   ·simp at h
theorem M7 {w:World} {fix:Nat→Nat→Prop} {hp:Nat→Option Nat}:VR N w fix hp (.tuple #[]) (.tuple []) := .tuple _ _ rfl (by intro i c p hc hp; simp at hc)
theorem c6h {k:Nat} (hk:N.fn k=ρ.f 189) (L:Lays.n189 P ρ):Dh N P k GM:=by
 intro args r h h' hg w G vals d7 cQ cR
 unfold GM at hg
 split at hg
 ·rename_i n len
  split at hg
  ·rename_i cs ea
   split at hg
   ·rename_i cI
    simp only[ab,ac] at hg
    obtain⟨zs,gB,rfl,rfl⟩:=hg
    have hz:=M6 gB
    have j5:zs.length=len:=by
     have:=aH List.length hz
     simp at this; omega
    obtain⟨l⟩:=vals
    match l,cQ with
    | [v],_=>
    have hv:=cR 0 v _ rfl rfl
    cases hv with
    | rowp _ _ _ _ b cap hb cT dV=>
    rcases d7.heap.1 n _ ea with hx|⟨b',k1,k2,f,cv,T,a1,a2,a3⟩
    ·simp at hx
    have:b'=b:=by rw[hb] at k1; simpa using k1.symm
    subst this
    have fp:b'<w.heap.size:=(aX.1 a1).1
    have ou:cv.toList.take zs.length=zs.map (Value.int .i64):=by
     apply b9
     intro j
     by_cases hj:j<zs.length
     ·rw[List.getElem?_take_of_lt hj,bP]
      have h1:cs[j]? = some (.int .i64 zs[j]):=by
       have:=aH (λl=>l[j]?) hz
       simp only[aB,an hj,az] at this
       rw[List.getElem?_take_of_lt (by omega)] at this
       exact this
      have qd:j<cv.size:=by omega
      have h2:=(a3 j cv[j] _ (by simp[qd]) h1).1
      generalize cv[j]'qd=c at h2
      have h3:cv[j]? = some cv[j]:=by simp[qd]
      have h4:=(a3 j cv[j] _ (by simp[qd]) h1).1
      generalize hc:cv[j]=c4 at h4 h3
      cases h4
      rw[h3]
      simp[hj]
     ·rw[List.getElem?_take_eq_none (by omega),List.getElem?_eq_none (by simp; omega)]
    have hH:=holds_of_blockI a1 ou
    have hc:=Any.slices_Sort_int L b' 0 cap zs w hH fp (by rw[j5]; exact cI.2)
    rw[j5] at hc
    refine(hk▸hc).mono ?_
    rintro e w' ⟨rfl,m,os,rfl⟩
    let ts:=zs.mergeSort λx y=>decide (x≤y)
    have jy:ts.length=len:=by rw[← j5]; exact List.length_mergeSort _
    have tg:=grownBy_sortedI (w:=w) (g:=b') (n:=m) (os:=os) ts.toArray
    have oa:=heap_sortedI (n:=m) (os:=os) ts.toArray a1
    generalize gq:grow (putRow (Value.int .i64) (Sort.ahead w m) b' 0 ts.toArray) os=w' at tg oa
    obtain⟨g1,g2,g3,g4,g5⟩:=tg
    have iA:∀x,x<w.heap.size→x≠b'→w'.heap[x]? = w.heap[x]? := λx hx c9=>g5 x hx (by simpa using c9)
    have eX:(putCells (Value.int .i64) 0 ts.toArray cv).size=cv.size:=by simp[putCells]
    have mO:ShapeLe w w' := .one b' (λx hx c9=>iA x hx c9) (λs hs=>by
     simp only[World.shape?,a1] at hs
     simp only[World.shape?,oa,eX]
     exact hs) (λs hs=>by rw[M8 a1] at hs; simp at hs)
    have cH:Ext w G w' G:=by
     refine⟨g1,g2,g3,g4,?_,?_,λ_ _ h => .inl h,λ_ h => .inr h,λ_ _ h=>h,mO,rfl⟩
     ·intro x hx ho
      exact iA x hx (by rintro rfl; rw[k2] at ho; simp at ho)
     ·intro x o hf
      refine⟨hf,?_⟩
      have c9:x≠b':=by rintro rfl; exact f o hf
      simp only[World.cell?,iA x (d7.fixlt x o hf) c9]
    have cM:xO (λk=>k = .hobj n) w G w' G:=by
     refine⟨?_,λ_ _ h=>h⟩
     intro x kx hx c9
     refine⟨hx,iA x (d7.owlt x kx hx) ?_,λ_ h=>h⟩
     rintro rfl
     rw[k2] at hx
     simp only[aa] at hx
     exact c9 hx.symm
    refine⟨_,G,rfl,M7,cH,?_⟩
    refine⟨d7.only,λx o hf=>aO (d7.fixlt x o hf) g4,λx kx hx=>aO (d7.owlt x kx hx) g4,?_,λm x hx=>by simpa using d7.hdom m x hx⟩
    refine d7.heap.keepBut cH cM (by intro n' k' c9; simp[c9]) ?_
    intro ov
    refine .inr ⟨b',hb,k2,f,_,T,oa,?_,?_⟩
    ·rw[eX]
     have h0:=cI.1
     simp only[av,aS,cz]
     show ts.length+_≤_
     omega
    ·intro j c x hc hx
     have nx:j<cv.size:=by rw[← eX]; exact(aX.1 hc).1
     by_cases hj:j<len
     ·have oz:j<ts.length:=by omega
      rw[am (by rw[aS]; exact oz)] at hx
      simp only[aB,ab] at hx
      obtain⟨z,eQ,rfl⟩:=hx
      have eQ:ts[j]? = some z:=eQ
      have:c = .int .i64 z:=by
       simp[putCells,nx,oz] at hc
       rw[an oz] at eQ
       simp only[aa] at eQ
       rw[← hc,eQ]
      subst this
      exact⟨.int _ _,rfl,True.intro⟩
     ·have oz:ts.length≤j:=by omega
      rw[ap (by rw[aS]; exact oz)] at hx
      simp only[aS,aU] at hx
      have hx:cs[len+(j - ts.length)]? = some x:=hx
      rw[show len+(j - ts.length)=j by omega] at hx
      have iR:cv[j]? = some c:=by
       simp[putCells,nx,show ¬j<ts.length by omega] at hc
       simp[nx,hc]
      exact(a3 j c x iR hx).keep cH cM (by simp)
   ·simp at hg
  ·simp at hg
 ·rename_i o
  simp only[aa,ac] at hg
  obtain⟨rfl,rfl⟩:=hg
  obtain⟨l⟩:=vals
  match l,cQ with
  | [v],_=>
  have hv:=cR 0 v _ rfl rfl
  obtain⟨p,cap,rfl⟩:∃p cap,v = .slice p 0 cap:=by
   cases hv with
   | nils=>exact⟨none,0,rfl⟩
   | void _ a cap=>exact⟨some a,cap,rfl⟩
   | list _ b off len cap sz _ cv cI cT _ _ _ _=>simp at cI; subst cI; exact⟨_,cap,rfl⟩
  refine(hk▸Any.slices_Sort_int_none L p cap w).mono ?_
  rintro e w' ⟨rfl,rfl⟩
  exact⟨_,G,rfl,M7,Ext.refl _ _,d7⟩
 ·simp at hg
end
end PI
