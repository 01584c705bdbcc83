import Derived.Test.YtljbhgpanekomaaGreatDoorPiFunc
import Derived.Test.YtljbhgpanekomaaGreatDoorPiStand
import Derived.Shelf.Strings.OnBuilder
import Derived.Shelf.Strings.BuilderK
import Derived.Shelf.Strings.Search1
import Derived.Shelf.Strconv.Itoa3
import Derived.Shelf.Strconv.ErrVarAll
import Derived.Shelf.Sort.Plain
import Derived.Shelf.Slices.In.SortNone
import Derived.Sort.OwnSortedInts
set_option linter.unusedSimpArgs false
set_option linter.unusedVariables false
set_option linter.unusedSectionVars false
namespace PI
open Go Go.RowKit Go.Shelf Go.Proofs
section
variable {N:Nm} {P:Program} {ρ:Ren}
theorem Ma {w w':World} {G:GS} (h:Below w.heap.size w w') (fS:∀b o,G.fix b o→b<w.heap.size):Ext w G w' G:=
 ⟨h.os,h.tape,h.output,h.size,λb hb _=>h.block b hb,λb o hf=>⟨hf,by simp only[World.cell?,h.block b (fS b o hf)]⟩,λ_ _ h => .inl h,λ_ h => .inr h,λ_ _ h=>h,.same λk hk=>h.block k hk,rfl⟩
theorem b4k {w w':World} {G:GS} {hp:List PObj} (h:Below w.heap.size w w') (hb:Between N w G hp):Between N w' G hp:=by
 refine⟨hb.only,λb o hf=>aK (hb.fixlt b o hf) h.size,λb k ho=>aK (hb.owlt b k ho) h.size,?_,hb.hdom⟩
 exact hb.heap.keep (K:=λ_=>False) (Ma h hb.fixlt) ⟨λb k ho _=>⟨ho,h.block b (hb.owlt b k ho),λ_ h=>h⟩,λ_ _ h=>h⟩ (λ_ _ h=>h)
theorem Mb {k:Nat} {vals:Array Value} {w:World} {G:GS} {hp:List PObj} {r:PV} (hb:Between N w G hp) {R:Ending→World→Prop} (hc:Calls P (N.fn k) vals w R)
  (hR:∀e w',R e w'→∃v,e = .returned v∧VR N w' G.fix G.heap v r∧Below w.heap.size w w'):
  Calls P (N.fn k) vals w λe w'=>∃v G',e = .returned v∧VR N w' G'.fix G'.heap v r∧Ext w G w' G'∧Between N w' G' hp:=by
 refine hc.mono ?_
 intro e w' h
 obtain⟨v,rfl,h1,h2⟩:=hR e w' h
 exact⟨v,G,rfl,h1,Ma h2 hb.fixlt,b4k h2 hb⟩
theorem two {vals:Array Value} {p q:PV} {w:World} {G:GS} (cS:vals.size=[p,q].length) (cT:∀(i:Nat) (v:Value) (x:PV),vals[i]? = some v→[p,q][i]? = some x→VR N w G.fix G.heap v x):
  ∃v u,vals = #[v,u]∧VR N w G.fix G.heap v p∧VR N w G.fix G.heap u q:=by
 obtain⟨l⟩:=vals
 match l,cS with
 | [v,u],_=>exact⟨v,u,rfl,cT 0 v p rfl rfl,cT 1 u q rfl rfl⟩
theorem d3o {vals:Array Value} {p:PV} {w:World} {G:GS} (cS:vals.size=[p].length) (cT:∀(i:Nat) (v:Value) (x:PV),vals[i]? = some v→[p][i]? = some x→VR N w G.fix G.heap v x):
  ∃v,vals = #[v]∧VR N w G.fix G.heap v p:=by
 obtain⟨l⟩:=vals
 match l,cS with
 | [v],_=>exact⟨v,rfl,cT 0 v p rfl rfl⟩
theorem c8g {w:World} {fix:Nat→Nat→Prop} {hp:Nat→Option Nat} (s:List UInt8):VR N w fix hp (.string ⟨s.toArray⟩) (.str s):=by
 have:=VR.str (N:=N) (w:=w) (fix:=fix) (hp:=hp) ⟨s.toArray⟩
 simpa using this
theorem b8V {w:World} {fix:Nat→Nat→Prop} {hp:Nat→Option Nat} {v:Value} {s:List UInt8} (h:VR N w fix hp v (.str s)):v = .string ⟨s.toArray⟩:=by
 cases h with
 | str s=>cases s; simp
theorem b5x {k:Nat} (hk:N.fn k=ρ.f 217) (L:Lays.n217 P ρ):C1 N P k Gf:=by
 intro args r h h' hg w G vals d4 cS cT
 unfold Gf at hg
 split at hg
 ·simp only[aa,ac] at hg
  obtain⟨rfl,rfl⟩:=hg
  obtain⟨v,u,rfl,hv,hu⟩:=two cS cT
  have:=b8V hv; subst this
  cases hu
  refine Mb d4 (hk▸Any.stringslite_IndexByte L _ _ w) ?_
  rintro e w' ⟨rfl,rfl⟩
  exact⟨_,rfl,by simpa using VR.int (N:=N) (w:=w') (fix:=G.fix) (hp:=G.heap) _ _,Below.refl _ _⟩
 ·simp at hg
theorem b8W (w:World) (k:Nat) (os:Array Obj):Below w.heap.size w (Go.Sort.grow (w.drewN k) os):=by
 refine⟨rfl,rfl,rfl,by simp[Go.Sort.grow,World.drewN],λj hj =>?_⟩
 simp[Go.Sort.grow,World.drewN,Array.getElem?_append,hj]
theorem c4K {k:Nat} (hk:N.fn k=ρ.f 171) (L:LaysM.n171 P ρ) (rm:∀w fix,Tab N w fix→Lib.TabIs P w "internal/strconv.uint64pow10" .u64 Lib.pow10Tab):C1 N P k DR:=by
 intro args r h h' hg w G vals d4 cS cT
 unfold DR at hg
 split at hg
 ·split at hg
  ·rename_i hr
   simp only[aa,ac] at hg
   obtain⟨rfl,rfl⟩:=hg
   obtain⟨v,rfl,hv⟩:=d3o cS cT
   cases hv
   refine Mb d4 (hk▸Any.strconv_Itoa L _ hr.1 hr.2 w (rm w G.fix d4.heap.2)) ?_
   rintro e w' ⟨rfl,j,os,rfl⟩
   exact⟨_,rfl,c8g _,b8W w j os⟩
  ·simp at hg
 ·simp at hg
end
end PI
set_option linter.unusedSimpArgs false
set_option linter.unusedVariables false
namespace PI
open Go Go.RowKit Go.Shelf Go.Proofs Go.Sort
section
variable {N:Nm} {P:Program} {ρ:Ren}
theorem Mc:∀{cs:List PV} {zs:List Int},ET cs=some zs→cs=zs.map (PV.int .i64)
 | [],zs,h=>by simp[ET] at h; subst h; rfl
 | e :: es, zs, h => by
   unfold ET at h
   split at h
   ·rename_i h0; simp at h0
   ·rename_i n r h0
    simp only[bx] at h0
    obtain⟨rfl,rfl⟩:=h0
    simp only[ab] at h
    obtain⟨ys,h1,rfl⟩:=h
    rw[Mc h1]; rfl
   ·simp at h
theorem Md {w:World} {fix:Nat→Nat→Prop} {hp:Nat→Option Nat}:VR N w fix hp (.tuple #[]) (.tuple []) := .tuple _ _ rfl (by intro i c p hc hp; simp at hc)
theorem c4L {k:Nat} (hk:N.fn k=ρ.f 189) (L:Lays.n189 P ρ):C1 N P k Gg:=by
 intro args r h h' hg w G vals d4 cS cT
 unfold Gg at hg
 split at hg
 ·rename_i n len
  split at hg
  ·rename_i cs d9
   split at hg
   ·rename_i cM
    simp only[ab,ac] at hg
    obtain⟨zs,gm,rfl,rfl⟩:=hg
    have hz:=Mc gm
    have lO:zs.length=len:=by
     have:=aE List.length hz
     simp at this; omega
    obtain⟨l⟩:=vals
    match l,cS with
    | [v],_=>
    have hv:=cT 0 v _ rfl rfl
    cases hv with
    | rowp _ _ _ _ b cap hb cV d8=>
    rcases d4.heap.1 n _ d9 with hx|⟨b',k1,k2,f,cv,T,a1,a2,a3⟩
    ·simp at hx
    have:b'=b:=by rw[hb] at k1; simpa using k1.symm
    subst this
    have fe:b'<w.heap.size:=(ba.1 a1).1
    have ol:cv.toList.take zs.length=zs.map (Value.int .i64):=by
     apply cg
     intro j
     by_cases hj:j<zs.length
     ·rw[List.getElem?_take_of_lt hj,bR]
      have h1:cs[j]? = some (.int .i64 zs[j]):=by
       have:=aE (λl=>l[j]?) hz
       simp only[aF,av hj,aA] at this
       rw[List.getElem?_take_of_lt (by omega)] at this
       exact this
      have p7:j<cv.size:=by omega
      have h2:=(a3 j cv[j] _ (by simp[p7]) h1).1
      generalize cv[j]'p7=c at h2
      have h3:cv[j]? = some cv[j]:=by simp[p7]
      have h4:=(a3 j cv[j] _ (by simp[p7]) h1).1
      generalize hc:cv[j]=c4 at h4 h3
      cases h4
      rw[h3]
      simp[hj]
     ·rw[List.getElem?_take_eq_none (by omega),List.getElem?_eq_none (by simp; omega)]
    have hH:=holds_of_blockI a1 ol
    have hc:=Any.slices_Sort_int L b' 0 cap zs w hH fe (by rw[lO]; exact cM.2)
    rw[lO] at hc
    refine(hk▸hc).mono ?_
    rintro e w' ⟨rfl,m,os,rfl⟩
    let ts:=zs.mergeSort λx y=>decide (x≤y)
    have nk:ts.length=len:=by rw[← lO]; exact List.length_mergeSort _
    have ta:=grownBy_sortedI (w:=w) (g:=b') (n:=m) (os:=os) ts.toArray
    have nV:=heap_sortedI (n:=m) (os:=os) ts.toArray a1
    generalize fO:grow (putRow (Value.int .i64) (Sort.ahead w m) b' 0 ts.toArray) os=w' at ta nV
    obtain⟨g1,g2,g3,g4,g5⟩:=ta
    have gZ:∀x,x<w.heap.size→x≠b'→w'.heap[x]? = w.heap[x]? := λx hx da=>g5 x hx (by simpa using da)
    have eU:(putCells (Value.int .i64) 0 ts.toArray cv).size=cv.size:=by simp[putCells]
    have mA:ShapeLe w w' := .one b' (λx hx da=>gZ x hx da) (λs hs=>by
     simp only[World.shape?,a1] at hs
     simp only[World.shape?,nV,eU]
     exact hs) (λs hs=>by rw[Me a1] at hs; simp at hs)
    have cL:Ext w G w' G:=by
     refine⟨g1,g2,g3,g4,?_,?_,λ_ _ h => .inl h,λ_ h => .inr h,λ_ _ h=>h,mA,rfl⟩
     ·intro x hx ho
      exact gZ x hx (by rintro rfl; rw[k2] at ho; simp at ho)
     ·intro x o hf
      refine⟨hf,?_⟩
      have da:x≠b':=by rintro rfl; exact f o hf
      simp only[World.cell?,gZ x (d4.fixlt x o hf) da]
    have cP:xq (λk=>k = .hobj n) w G w' G:=by
     refine⟨?_,λ_ _ h=>h⟩
     intro x kx hx da
     refine⟨hx,gZ x (d4.owlt x kx hx) ?_,λ_ h=>h⟩
     rintro rfl
     rw[k2] at hx
     simp only[aa] at hx
     exact da hx.symm
    refine⟨_,G,rfl,Md,cL,?_⟩
    refine⟨d4.only,λx o hf=>aK (d4.fixlt x o hf) g4,λx kx hx=>aK (d4.owlt x kx hx) g4,?_,λm x hx=>by simpa using d4.hdom m x hx⟩
    refine d4.heap.keepBut cL cP (by intro n' k' da; simp[da]) ?_
    intro om
    refine .inr ⟨b',hb,k2,f,_,T,nV,?_,?_⟩
    ·rw[eU]
     have h0:=cM.1
     simp only[ap,aN,cB]
     show ts.length+_≤_
     omega
    ·intro j c x hc hx
     have mB:j<cv.size:=by rw[← eU]; exact(ba.1 hc).1
     by_cases hj:j<len
     ·have oo:j<ts.length:=by omega
      rw[am (by rw[aN]; exact oo)] at hx
      simp only[aF,ab] at hx
      obtain⟨z,eP,rfl⟩:=hx
      have eP:ts[j]? = some z:=eP
      have:c = .int .i64 z:=by
       simp[putCells,mB,oo] at hc
       rw[av oo] at eP
       simp only[aa] at eP
       rw[← hc,eP]
      subst this
      exact⟨.int _ _,rfl,True.intro⟩
     ·have oo:ts.length≤j:=by omega
      rw[ar (by rw[aN]; exact oo)] at hx
      simp only[aN,aW] at hx
      have hx:cs[len+(j - ts.length)]? = some x:=hx
      rw[show len+(j - ts.length)=j by omega] at hx
      have iM:cv[j]? = some c:=by
       simp[putCells,mB,show ¬j<ts.length by omega] at hc
       simp[mB,hc]
      exact(a3 j c x iM hx).keep cL cP (by simp)
   ·simp at hg
  ·simp at hg
 ·rename_i o
  simp only[aa,ac] at hg
  obtain⟨rfl,rfl⟩:=hg
  obtain⟨l⟩:=vals
  match l,cS with
  | [v],_=>
  have hv:=cT 0 v _ rfl rfl
  obtain⟨p,cap,rfl⟩:∃p cap,v = .slice p 0 cap:=by
   cases hv with
   | nils=>exact⟨none,0,rfl⟩
   | void _ a cap=>exact⟨some a,cap,rfl⟩
   | list _ b off len cap sz _ cv cM cV _ _ _ _=>simp at cM; subst cM; exact⟨_,cap,rfl⟩
  refine(hk▸Any.slices_Sort_int_none L p cap w).mono ?_
  rintro e w' ⟨rfl,rfl⟩
  exact⟨_,G,rfl,Md,Ext.refl _ _,d4⟩
 ·simp at hg
end
end PI
