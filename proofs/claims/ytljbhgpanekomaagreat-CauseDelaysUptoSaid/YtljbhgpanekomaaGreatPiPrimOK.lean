import Derived.Test.YtljbhgpanekomaaGreatPiFunc
import Derived.Test.YtljbhgpanekomaaGreatPiStand
import Derived.Shelf.Strings.OnBuilder
import Derived.Shelf.Strings.BuilderK
import Derived.Shelf.Strings.Search1
import Derived.Shelf.Strconv.Itoa3
import Derived.Shelf.Strconv.ErrVarAll
import Derived.Shelf.Sort.Plain
import Derived.Shelf.Slices.In.SortNone
import Derived.Sort.OwnSortedInts
set_option linter.unusedSimpArgs false
set_option linter.unusedVariables false
set_option linter.unusedSectionVars false
namespace PI
open Go Go.RowKit Go.Shelf Go.Proofs
section
variable {N:Nm} {P:Program} {ρ:Ren}
theorem QB {w w':World} {G:GS} (h:Below w.heap.size w w') (fS:∀b o,G.fix b o→b<w.heap.size):Ext w G w' G:=
 ⟨h.os,h.tape,h.output,h.size,λb hb _=>h.block b hb,λb o hf=>⟨hf,by simp only[World.cell?,h.block b (fS b o hf)]⟩,λ_ _ h => .inl h,λ_ h => .inr h,λ_ _ h=>h,.same λk hk=>h.block k hk,rfl⟩
theorem b5R {w w':World} {G:GS} {hp:List PObj} (h:Below w.heap.size w w') (hb:Between N w G hp):Between N w' G hp:=by
 refine⟨hb.only,λb o hf=>aN (hb.fixlt b o hf) h.size,λb k ho=>aN (hb.owlt b k ho) h.size,?_,hb.hdom⟩
 exact hb.heap.keep (K:=λ_=>False) (QB h hb.fixlt) ⟨λb k ho _=>⟨ho,h.block b (hb.owlt b k ho),λ_ h=>h⟩,λ_ _ h=>h⟩ (λ_ _ h=>h)
theorem c2J {k:Nat} {vals:Array Value} {w:World} {G:GS} {hp:List PObj} {r:PV} (hb:Between N w G hp) {R:Ending→World→Prop} (hc:Calls P (N.fn k) vals w R)
  (hR:∀e w',R e w'→∃v,e = .returned v∧VR N w' G.fix G.heap v r∧Below w.heap.size w w'):
  Calls P (N.fn k) vals w λe w'=>∃v G',e = .returned v∧VR N w' G'.fix G'.heap v r∧Ext w G w' G'∧Between N w' G' hp:=by
 refine hc.mono ?_
 intro e w' h
 obtain⟨v,rfl,h1,h2⟩:=hR e w' h
 exact⟨v,G,rfl,h1,QB h2 hb.fixlt,b5R h2 hb⟩
theorem two {vals:Array Value} {p q:PV} {w:World} {G:GS} (cV:vals.size=[p,q].length) (cW:∀(i:Nat) (v:Value) (x:PV),vals[i]? = some v→[p,q][i]? = some x→VR N w G.fix G.heap v x):
  ∃v u,vals = #[v,u]∧VR N w G.fix G.heap v p∧VR N w G.fix G.heap u q:=by
 obtain⟨l⟩:=vals
 match l,cV with
 | [v,u],_=>exact⟨v,u,rfl,cW 0 v p rfl rfl,cW 1 u q rfl rfl⟩
theorem c0V {w:World} {fix:Nat→Nat→Prop} {hp:Nat→Option Nat} {v:Value} {s:List UInt8} (h:VR N w fix hp v (.str s)):v = .string ⟨s.toArray⟩:=by
 cases h with
 | str s=>cases s; simp
theorem b7h {k:Nat} (hk:N.fn k=ρ.f 217) (L:Lays.n217 P ρ):CL N P k Hb:=by
 intro args r h h' hg w G vals dU cV cW
 unfold Hb at hg
 split at hg
 ·simp only[aa,ac] at hg
  obtain⟨rfl,rfl⟩:=hg
  obtain⟨v,u,rfl,hv,hu⟩:=two cV cW
  have:=c0V hv; subst this
  cases hu
  refine c2J dU (hk▸Any.stringslite_IndexByte L _ _ w) ?_
  rintro e w' ⟨rfl,rfl⟩
  exact⟨_,rfl,by simpa using VR.int (N:=N) (w:=w') (fix:=G.fix) (hp:=G.heap) _ _,Below.refl _ _⟩
 ·simp at hg
end
end PI
set_option linter.unusedSimpArgs false
set_option linter.unusedVariables false
namespace PI
open Go Go.RowKit Go.Shelf Go.Proofs Go.Sort
section
variable {N:Nm} {P:Program} {ρ:Ren}
theorem QC:∀{cs:List PV} {zs:List Int},Ge cs=some zs→cs=zs.map (PV.int .i64)
 | [],zs,h=>by simp[Ge] at h; subst h; rfl
 | e :: es, zs, h => by
   unfold Ge at h
   split at h
   ·rename_i h0; simp at h0
   ·rename_i n r h0
    simp only[bw] at h0
    obtain⟨rfl,rfl⟩:=h0
    simp only[ab] at h
    obtain⟨ys,h1,rfl⟩:=h
    rw[QC h1]; rfl
   ·simp at h
theorem QD {w:World} {fix:Nat→Nat→Prop} {hp:Nat→Option Nat}:VR N w fix hp (.tuple #[]) (.tuple []) := .tuple _ _ rfl (by intro i c p hc hp; simp at hc)
theorem c7B {k:Nat} (hk:N.fn k=ρ.f 189) (L:Lays.n189 P ρ):CL N P k GL:=by
 intro args r h h' hg w G vals dU cV cW
 unfold GL at hg
 split at hg
 ·rename_i n len
  split at hg
  ·rename_i cs dW
   split at hg
   ·rename_i cO
    simp only[ab,ac] at hg
    obtain⟨zs,gC,rfl,rfl⟩:=hg
    rw[c2I]
    have hz:=QC gC
    have jF:zs.length=len:=by
     have:=aF List.length hz
     simp at this; omega
    obtain⟨l⟩:=vals
    match l,cV with
    | [v],_=>
    have hv:=cW 0 v _ rfl rfl
    cases hv with
    | rowp _ _ _ _ b cap hb cX dY=>
    rcases dU.heap.1 n _ dW with hx|⟨b',k1,k2,f,cv,T,a1,a2,a3⟩
    ·simp at hx
    have:b'=b:=by rw[hb] at k1; simpa using k1.symm
    subst this
    have eE:b'<w.heap.size:=(aV.1 a1).1
    have ku:cv.toList.take zs.length=zs.map (Value.int .i64):=by
     apply bL
     intro j
     by_cases hj:j<zs.length
     ·rw[cu hj,bI]
      have h1:cs[j]? = some (.int .i64 zs[j]):=by
       have:=aF (λl=>l[j]?) hz
       simp only[az,al hj,aB] at this
       rw[cu (by omega)] at this
       exact this
      have mR:j<cv.size:=by omega
      have h2:=(a3 j cv[j] _ (by simp[mR]) h1).1
      generalize cv[j]'mR=c at h2
      have h3:cv[j]? = some cv[j]:=by simp[mR]
      have h4:=(a3 j cv[j] _ (by simp[mR]) h1).1
      generalize hc:cv[j]=c4 at h4 h3
      cases h4
      rw[h3]
      simp[hj]
     ·rw[List.getElem?_take_eq_none (by omega),cD (by simp; omega)]
    have hH:=holds_of_blockI a1 ku
    have hc:=Any.slices_Sort_int L b' 0 cap zs w hH eE (by rw[jF]; exact cO.2)
    rw[jF] at hc
    refine(hk▸hc).mono ?_
    rintro e w' ⟨rfl,m,os,rfl⟩
    let ts:=zs.mergeSort λx y=>decide (x≤y)
    have nO:ts.length=len:=by rw[← jF]; exact List.length_mergeSort _
    have oV:=grownBy_sortedI (w:=w) (g:=b') (n:=m) (os:=os) ts.toArray
    have lx:=heap_sortedI (n:=m) (os:=os) ts.toArray a1
    generalize gM:grow (putRow (Value.int .i64) (Sort.ahead w m) b' 0 ts.toArray) os=w' at oV lx
    obtain⟨g1,g2,g3,g4,g5⟩:=oV
    have fL:∀x,x<w.heap.size→x≠b'→w'.heap[x]? = w.heap[x]? := λx hx cZ=>g5 x hx (by simpa using cZ)
    have el:(putCells (Value.int .i64) 0 ts.toArray cv).size=cv.size:=by simp[putCells]
    have iW:ShapeLe w w' := .one b' (λx hx cZ=>fL x hx cZ) (λs hs=>by
     simp only[World.shape?,a1] at hs
     simp only[World.shape?,lx,el]
     exact hs) (λs hs=>by rw[LA a1] at hs; simp at hs)
    have cN:Ext w G w' G:=by
     refine⟨g1,g2,g3,g4,?_,?_,λ_ _ h => .inl h,λ_ h => .inr h,λ_ _ h=>h,iW,rfl⟩
     ·intro x hx ho
      exact fL x hx (by rintro rfl; rw[k2] at ho; simp at ho)
     ·intro x o hf
      refine⟨hf,?_⟩
      have cZ:x≠b':=by rintro rfl; exact f o hf
      simp only[World.cell?,fL x (dU.fixlt x o hf) cZ]
    have cR:xa (λk=>k = .hobj n) w G w' G:=by
     refine⟨?_,λ_ _ h=>h⟩
     intro x kx hx cZ
     refine⟨hx,fL x (dU.owlt x kx hx) ?_,λ_ h=>h⟩
     rintro rfl
     rw[k2] at hx
     simp only[aa] at hx
     exact cZ hx.symm
    refine⟨_,G,rfl,QD,cN,?_⟩
    refine⟨dU.only,λx o hf=>aN (dU.fixlt x o hf) g4,λx kx hx=>aN (dU.owlt x kx hx) g4,?_,λm x hx=>by simpa using dU.hdom m x hx⟩
    refine dU.heap.keepBut cN cR (by intro n' k' cZ; simp[cZ]) ?_
    intro jR
    refine .inr ⟨b',hb,k2,f,_,T,lx,?_,?_⟩
    ·rw[el]
     have h0:=cO.1
     simp only[ap,aA,cg]
     show ts.length+_≤_
     omega
    ·intro j c x hc hx
     have kR:j<cv.size:=by rw[← el]; exact(aV.1 hc).1
     by_cases hj:j<len
     ·have kT:j<ts.length:=by omega
      rw[am (by rw[aA]; exact kT)] at hx
      simp only[az,ab] at hx
      obtain⟨z,eX,rfl⟩:=hx
      have eX:ts[j]? = some z:=eX
      have:c = .int .i64 z:=by
       simp[putCells,kR,kT] at hc
       rw[al kT] at eX
       simp only[aa] at eX
       rw[← hc,eX]
      subst this
      exact⟨.int _ _,rfl,True.intro⟩
     ·have kT:ts.length≤j:=by omega
      rw[ar (by rw[aA]; exact kT)] at hx
      simp only[aA,aX] at hx
      have hx:cs[len+(j - ts.length)]? = some x:=hx
      rw[show len+(j - ts.length)=j by omega] at hx
      have jt:cv[j]? = some c:=by
       simp[putCells,kR,show ¬j<ts.length by omega] at hc
       simp[kR,hc]
      exact(a3 j c x jt hx).keep cN cR (by simp)
   ·simp at hg
  ·simp at hg
 ·rename_i o
  simp only[aa,ac] at hg
  obtain⟨rfl,rfl⟩:=hg
  obtain⟨l⟩:=vals
  match l,cV with
  | [v],_=>
  have hv:=cW 0 v _ rfl rfl
  obtain⟨p,cap,rfl⟩:∃p cap,v = .slice p 0 cap:=by
   cases hv with
   | nils=>exact⟨none,0,rfl⟩
   | void _ a cap=>exact⟨some a,cap,rfl⟩
   | list _ b off len cap sz _ cv cO cX _ _ _ _=>simp at cO; subst cO; exact⟨_,cap,rfl⟩
  refine(hk▸Any.slices_Sort_int_none L p cap w).mono ?_
  rintro e w' ⟨rfl,rfl⟩
  exact⟨_,G,rfl,QD,Ext.refl _ _,dU⟩
 ·simp at hg
end
end PI
