import Derived.Test.YtljbhgpanekomaaGreatPiFunc
import Derived.Test.YtljbhgpanekomaaGreatPiStand
import Derived.Shelf.SlSortCmp.NoneTotal
import Derived.Sort.OwnSortedInts
import Derived.Test.YtljbhgpanekomaaGreatPiCaPlain
import Derived.WalkKit
import Derived.StillTailTactics
import Derived.Deep.RegionWith
set_option linter.unusedSimpArgs false
set_option linter.unusedVariables false
set_option linter.unusedSectionVars false
namespace PI
open Go Go.RowKit Go.Shelf Go.Proofs Go.Sort
section
variable {N:Nm} {P:Program} {ρ:Ren}
theorem QE:∀{cs:List PV} {zs:List (Int×Int)},CT cs=some zs→cs=zs.flatMap wV
 | [],zs,h=>by simp[CT] at h; subst h; rfl
 | [e],zs,h=>by unfold CT at h; split at h<;>simp_all
 | e :: e' :: es, zs, h => by
   unfold CT at h
   split at h
   ·rename_i h0; simp at h0
   ·rename_i a b r h0
    simp only[bw] at h0
    obtain⟨rfl,rfl,rfl⟩:=h0
    simp only[ab] at h
    obtain⟨ys,h1,rfl⟩:=h
    rw[QE h1]; rfl
   ·simp at h
def zN (x:Int×Int):List Value:=[.int .i64 x.1,.int .i64 x.2]
def zr (zs:List (Int×Int)):List Value:=zs.flatMap zN
theorem EB:∀zs:List (Int×Int),(zr zs).length=zs.length*2
 | []=>rfl
 | z::zs=>by simp only[zr,aG,ap,aI]; have:=EB zs; unfold zr at this; rw[this]; simp[zN]; omega
theorem DI:∀zs:List (Int×Int),(zs.flatMap wV).length=zs.length*2
 | []=>rfl
 | z::zs=>by simp only[aG,ap,aI,DI zs]; simp[wV]; omega
theorem QG:∀(zs:List (Int×Int)) (t:Nat) (h:t<zs.length*2),(zr zs)[t]? = some ((zN (zs.toArray[t / 2]!))[t % 2]!)
 | [],t,h=>by simp at h
 | z::zs,0,h=>by simp[zr,zN]
 | z::zs,1,h=>by simp[zr,zN]
 | z :: zs, t + 2, h => by
   have:=QG zs t (by simp at h; omega)
   simp only[zr,aG,zN,aL,aY,bY] at this ⊢
   rw[this]
   have e1:(t+2) / 2=t / 2+1:=by omega
   have e2:(t+2) % 2=t % 2:=by omega
   rw[e1,e2]
   simp
theorem QH (zs:List (Int×Int)):flatK zN 2 zs.toArray=(zr zs).toArray:=by
 apply Array.ext'
 apply bL
 intro t
 by_cases h:t<zs.length*2
 ·rw[List.toList_toArray,QG zs t h]
  have h1:=get_flatK zN 2 zs.toArray t (by simpa using h)
  rw[getElem!_pos _ t (by simpa using h)] at h1
  rw[bI,cM (by simpa using h),h1]
 ·rw[cD (by simp; omega),cD (by simp[EB]; omega)]
theorem QI {zs:List (Int×Int)}:∀{j:Nat} {x:PV},(zs.flatMap wV)[j]? = some x→∃z,x = .int .i64 z∧(zr zs)[j]? = some (.int .i64 z):=by
 induction zs with
 | nil=>intro j x h; simp at h
 | cons z zs ih =>
   intro j x h
   match j with
   | 0=>simp[wV] at h; exact⟨_,h.symm,by simp[zr,zN]⟩
   | 1=>simp[wV] at h; exact⟨_,h.symm,by simp[zr,zN]⟩
   | j + 2 =>
     simp only[aG,wV,aL,aY,bY] at h
     obtain⟨z',h1,h2⟩:=ih h
     exact⟨z',h1,by simpa[zr,zN] using h2⟩
theorem c0W {w:World} {g:Nat} {cur:Array Value} {e:TypeId} {ss:List Value} (hb:w.heap[g]? = some (.cells cur e (0,0))) (ht:cur.toList.take ss.length=ss):Holds (id:Value→Value) w g 0 ss.toArray:=by
 intro j hj
 have lU:j<ss.length:=by simpa using hj
 refine⟨?_,by simp[World.frozen?,hb]⟩
 have h1:(cur.toList.take ss.length)[j]? = ss[j]? := by rw[ht]
 rw[cu lU] at h1
 simp only[World.cell?,hb,aM]
 simp only[Option.isSome_none,aH,if_false]
 rw[← bI,h1]
 simp[lU]
theorem c2K {w:World} {g n:Nat} {os:Array Obj} {cur:Array Value} {e:TypeId} {fr:Nat×Nat} (d:Array Value) (hb:w.heap[g]? = some (.cells cur e fr)):
  (grow (putRow id (Sort.ahead w n) g 0 d) os).heap[g]? = some (.cells (putCells id 0 d cur) e fr):=by
 have hg:g<w.heap.size:=(aV.1 hb).1
 rw[heap_grow_old _ _ (by simpa using hg)]
 simp[putRow,mapBlock,Sort.ahead,cK,hb,onCells]
theorem b7i {w:World} {g n:Nat} {os:Array Obj} (d:Array Value):w.grownBy (grow (putRow id (Sort.ahead w n) g 0 d) os) (some g):=by
 refine⟨rfl,rfl,rfl,by simp,λk hk cZ =>?_⟩
 rw[heap_grow_old _ _ (by simpa using hk)]
 have:g≠k:=λe=>cZ (by rw[e])
 simp[putRow,mapBlock,Sort.ahead,cK,this]
def Cm (x y:Int×Int):Int:=if x.1<y.1 then -1 else if y.1<x.1 then 1 else if x.2<y.2 then -1 else if y.2<x.2 then 1 else 0
theorem Gf (x y:Int×Int):ltOf Cm x y=decide (x.1<y.1∨x.1=y.1∧x.2<y.2):=by
 unfold ltOf Cm
 by_cases h1:x.1<y.1
 ·simp[h1]
 ·by_cases h2:y.1<x.1
  ·simp[h1,h2]; omega
  ·by_cases h3:x.2<y.2
   ·simp[h1,h2,h3]; omega
   ·by_cases h4:y.2<x.2
    ·simp[h1,h2,h3,h4]
    ·simp[h1,h2,h3,h4]
theorem b8T:SWO (ltOf Cm) where
 irrefl x:=by rw[Gf]; simp
 trans x y z h1 h2:=by rw[Gf] at *; simp at *; omega
 ntrans x y z h1 h2:=by rw[Gf] at *; simp at *; omega
theorem c0X:(λx y:Int×Int => !(ltOf Cm) y x)=yX:=by
 funext x y
 rw[Gf,yX,← decide_not]
 refine decide_eq_decide.2 ?_
 omega
theorem c4z {k kc:Nat} (hk:N.fn k=ρ.f 6) (L:SlLaysF0.n6 P ρ) (aE:∀w,(isAgg (ρ.t 24)).run P w = .ok true w) (zE:∀w,(Go.sizeOf (ρ.t 24)).run P w = .ok 2 w)
  (eg:∀args w,(callFunc (N.fn kc) args).run P w = .ok (.enter (N.fn kc) args) w)
  (dt:∀(x y:Int×Int) (W:World),Calls P (N.fn kc) #[.agg (zN x).toArray,.agg (zN y).toArray] W λe w'=>e = .returned (.int .i64 (Cm x y))∧∃q os',w'=grow (W.drewN q) os'):CL N P k (CM kc):=by
 intro args r h h' hg w G vals dU cV cW
 unfold CM at hg
 split at hg
 ·rename_i n len kf
  split at hg
  ·rename_i cs dW
   split at hg
   ·rename_i cO
    obtain⟨rfl,cO⟩:=cO
    simp only[ab,ac] at hg
    obtain⟨zs,gC,rfl,rfl⟩:=hg
    rw[c0U]
    have hz:=QE gC
    have jF:zs.length=len:=by
     have:=aF List.length hz
     rw[DI] at this
     simp at this; omega
    obtain⟨l⟩:=vals
    match l,cV with
    | [v,v2],_=>
    have hv:=cW 0 v _ rfl rfl
    have gJ:=cW 1 v2 _ rfl rfl
    obtain rfl:v2 = .func (.func (N.fn kf)) #[] #[]:=by
     cases gJ with
     | func _ fs cs _ _ _ e1 e2 =>
       have:fs = #[]:=Array.eq_empty_of_size_eq_zero (by simpa using e1)
       subst this
       have:cs = #[]:=Array.eq_empty_of_size_eq_zero (by simpa using e2)
       subst this
       rfl
    cases hv with
    | rowp _ _ _ _ b cap hb cX dY=>
    rcases dU.heap.1 n _ dW with hx|⟨b',k1,k2,f,cv,T,a1,a2,a3⟩
    ·simp at hx
    have:b'=b:=by rw[hb] at k1; simpa using k1.symm
    subst this
    have eE:b'<w.heap.size:=(aV.1 a1).1
    have ku:cv.toList.take (zr zs).length=zr zs:=by
     rw[EB]
     apply bL
     intro j
     by_cases hj:j<zs.length*2
     ·rw[cu hj,bI]
      have mR:j<cv.size:=by omega
      have h1:cs[j]? = (zs.flatMap wV)[j]? := by
       have:=aF (λl:List PV=>l[j]?) hz
       rw[cu (by omega)] at this
       exact this
      obtain⟨x,hx⟩:∃x,(zs.flatMap wV)[j]? = some x:=⟨_,al (by rw[DI]; exact hj)⟩
      obtain⟨z,rfl,h2⟩:=QI hx
      have h4:=(a3 j cv[j] _ (by simp[mR]) (h1.trans hx)).1
      have h3:cv[j]? = some cv[j]:=by simp[mR]
      generalize hc:cv[j]=c4 at h4 h3
      cases h4
      rw[h3,h2]
     ·rw[List.getElem?_take_eq_none (by omega),cD (by rw[EB]; omega)]
    have hH:HoldsK zN 2 w b' 0 zs.toArray:=by
     unfold HoldsK
     rw[QH]
     exact c0W a1 ku
    have hc:=AnyQ.slices_SortFunc_total L 2 aE zE zN (λ_=>rfl) (λx v hv=>by simp[zN] at hv; rcases hv with rfl | rfl<;>rfl) Cm b8T (N.fn kf) #[] b' 0 cap zs.toArray w eg
     (λm os dk hs x y=>dt x y _) hH eE (by simpa[jF] using cO.2) (λx y h1 h2=>by
      rw[Gf] at h1 h2
      simp at h1 h2
      exact Prod.ext (by omega) (by omega))
    rw[c0X] at hc
    simp only[co,jF] at hc
    refine(hk▸hc).mono ?_
    rintro e w' ⟨rfl,m,os,rfl⟩
    obtain⟨ts,eo⟩:∃ts,ts=zs.mergeSort yX:=⟨_,rfl⟩
    have nO:ts.length=len:=by rw[← jF,eo]; exact List.length_mergeSort _
    rw[← eo]
    show ∃v G',_∧_∧_∧_
    have oV:=b7i (w:=w) (g:=b') (n:=m) (os:=os) (zr ts).toArray
    have lx:=c2K (n:=m) (os:=os) (zr ts).toArray a1
    have vE:sortWorldK zN 2 w b' 0 m ts.toArray os=grow (putRow id (Sort.ahead w m) b' 0 (zr ts).toArray) os:=by
     unfold sortWorldK putRowK
     rw[QH]
    rw[vE]
    generalize gM:grow (putRow id (Sort.ahead w m) b' 0 (zr ts).toArray) os=w' at oV lx
    obtain⟨g1,g2,g3,g4,g5⟩:=oV
    have fL:∀x,x<w.heap.size→x≠b'→w'.heap[x]? = w.heap[x]? := λx hx cZ=>g5 x hx (by simpa using cZ)
    have el:(putCells id 0 (zr ts).toArray cv).size=cv.size:=by simp[putCells]
    have iW:ShapeLe w w' := .one b' (λx hx cZ=>fL x hx cZ) (λs hs=>by
     simp only[World.shape?,a1] at hs
     simp only[World.shape?,lx,el]
     exact hs) (λs hs=>by rw[LA a1] at hs; simp at hs)
    have cN:Ext w G w' G:=by
     refine⟨g1,g2,g3,g4,?_,?_,λ_ _ h => .inl h,λ_ h => .inr h,λ_ _ h=>h,iW,rfl⟩
     ·intro x hx ho
      exact fL x hx (by rintro rfl; rw[k2] at ho; simp at ho)
     ·intro x o hf
      refine⟨hf,?_⟩
      have cZ:x≠b':=by rintro rfl; exact f o hf
      simp only[World.cell?,fL x (dU.fixlt x o hf) cZ]
    have cR:xa (λk=>k = .hobj n) w G w' G:=by
     refine⟨?_,λ_ _ h=>h⟩
     intro x kx hx cZ
     refine⟨hx,fL x (dU.owlt x kx hx) ?_,λ_ h=>h⟩
     rintro rfl
     rw[k2] at hx
     simp only[aa] at hx
     exact cZ hx.symm
    refine⟨_,G,rfl,.tuple _ _ rfl (by intro i c p hc hp; simp at hc),cN,?_⟩
    refine⟨dU.only,λx o hf=>aN (dU.fixlt x o hf) g4,λx kx hx=>aN (dU.owlt x kx hx) g4,?_,λm x hx=>by simpa using dU.hdom m x hx⟩
    refine dU.heap.keepBut cN cR (by intro n' k' cZ; simp[cZ]) ?_
    intro jR
    refine .inr ⟨b',hb,k2,f,_,T,lx,?_,?_⟩
    ·rw[el]
     have h0:=cO.1
     simp only[ap,cg,DI]
     omega
    ·intro j c x hc hx
     have kR:j<cv.size:=by rw[← el]; exact(aV.1 hc).1
     by_cases hj:j<len*2
     ·have kT:j<(zr ts).length:=by rw[EB]; omega
      rw[am (by rw[DI]; omega)] at hx
      obtain⟨z,rfl,h2⟩:=QI hx
      have:c = .int .i64 z:=by
       simp[putCells,kR,kT] at hc
       rw[al kT] at h2
       simp only[aa] at h2
       rw[← hc,h2]
      subst this
      exact⟨.int _ _,rfl,True.intro⟩
     ·have kT:(ts.flatMap wV).length≤j:=by rw[DI]; omega
      rw[ar kT] at hx
      simp only[aX,DI] at hx
      have hx:cs[len*2+(j - ts.length*2)]? = some x:=hx
      rw[show len*2+(j - ts.length*2)=j by omega] at hx
      have jt:cv[j]? = some c:=by
       simp[putCells,kR,show ¬j<(zr ts).length by rw[EB]; omega] at hc
       simp[kR,hc]
      exact(a3 j c x jt hx).keep cN cR (by simp)
   ·simp at hg
  ·simp at hg
 ·rename_i o q
  simp only[aa,ac] at hg
  obtain⟨rfl,rfl⟩:=hg
  obtain⟨l⟩:=vals
  match l,cV with
  | [v,v2],_=>
  have hv:=cW 0 v _ rfl rfl
  obtain⟨p,cap,rfl⟩:∃p cap,v = .slice p 0 cap:=by
   cases hv with
   | nils=>exact⟨none,0,rfl⟩
   | void _ a cap=>exact⟨some a,cap,rfl⟩
   | list _ b off len cap sz _ cv cO cX _ _ _ _=>simp at cO; subst cO; exact⟨_,cap,rfl⟩
  refine(hk▸AnyF.slices_SortFunc_none L p cap v2 w).mono ?_
  rintro e w' ⟨rfl,rfl⟩
  exact⟨_,G,rfl,.tuple _ _ rfl (by intro i c p hc hp; simp at hc),Ext.refl _ _,dU⟩
 ·simp at hg
end
end PI
set_option maxRecDepth 100000
namespace Go.Proofs.YtljbhgpanekomaaGreat.Pi
open Go Go.Shelf Go.RowKit Go.Lib Go.Sort PI
set_option maxHeartbeats 4000000 in
theorem c3F (b:Nat) (x y:Int) (W:World) (h0:x≠0) (hx:W.cell? ⟨b,0,none⟩=some (.int .i64 x)) (hy:W.cell? ⟨b,1,none⟩=some (.int .i64 y)):
  Calls Tryz.prog 51 #[.slice (some ⟨b,0,none⟩) 2 2] W λe w'=>e = .returned (.int .i64 x)∧w'=W:=by
 have h1:(x != 0)=true:=by simp[h0]
 go_enter Tryz.func51,Tryz.ntmps51
 go_wp2
 refine wp_loop_rounds 1 ?_
 rw[rounds_succ]
 go_wp2
 go_ret
 exact⟨rfl,rfl⟩
set_option maxHeartbeats 4000000 in
theorem c6y (b:Nat) (y:Int) (W:World) (h0:y=0∨y≠0) (hx:W.cell? ⟨b,0,none⟩=some (.int .i64 0)) (hy:W.cell? ⟨b,1,none⟩=some (.int .i64 y)):
  Calls Tryz.prog 51 #[.slice (some ⟨b,0,none⟩) 2 2] W λe w'=>e = .returned (.int .i64 y)∧w'=W:=by
 go_enter Tryz.func51,Tryz.ntmps51
 go_wp2
 refine wp_loop_rounds 3 ?_
 rw[rounds_succ]
 go_wp2
 rw[rounds_succ]
 rcases h0 with rfl|h0
 ·go_wp2
  rw[rounds_succ]
  go_wp2
  go_ret
  exact⟨rfl,rfl⟩
 ·have h1:(y != 0)=true:=by simp[h0]
  go_wp2
  go_ret
  exact⟨rfl,rfl⟩
theorem c6z (b:Nat) (x y:Int) (W:World) (hx:W.cell? ⟨b,0,none⟩=some (.int .i64 x)) (hy:W.cell? ⟨b,1,none⟩=some (.int .i64 y)):
  Calls Tryz.prog 51 #[.slice (some ⟨b,0,none⟩) 2 2] W λe w'=>e = .returned (.int .i64 (if x=0 then y else x))∧w'=W:=by
 by_cases h:x=0
 ·subst h
  rw[ah rfl]
  exact c6y b y W (by omega) hx hy
 ·rw[af h]
  exact c3F b x y W h hx hy
theorem b98 (x y:Int×Int):(if Lib.compareInt x.1 y.1=0 then Lib.compareInt x.2 y.2 else Lib.compareInt x.1 y.1)=Cm x y:=by
 unfold Lib.compareInt Cm
 (repeat' split)<;>first|rfl|omega
theorem b99 {P:Program} {id:Nat} {Q:Exit→Act→World→Prop} {a:Act} {w:World} {l:List Oper} (n:Nat) (hm:P.follows .mixedOrders=true) (hB:Region.lexTailB .any l.toArray n=true)
  (h:wpStill P l.toArray w.drew (λa'=>wpList P l.toArray Q (l.drop n) a' w.drew) (l.take n) a):(Code.region id l.toArray true).wp P Q a w:=wp_region_still_tail n hm hB h
set_option maxHeartbeats 4000000 in
theorem c3G (x y:Int×Int) (W:World):
  Calls Tryz.prog 50 #[.agg (zN x).toArray,.agg (zN y).toArray] W λe w'=>e = .returned (.int .i64 (Cm x y))∧∃q os',w'=grow (W.drewN q) os':=by
 have kZ:=λx y W'=>Any.cmp_Compare_int Tryz.lays122 x y W'
 change ∀x y W',Calls Tryz.prog 52 #[.int .i64 x,.int .i64 y] W' (λe w'=>e = .returned (.int .i64 (Lib.compareInt x y))∧w'=W') at kZ
 rw[← b98]
 obtain⟨x1,x2⟩:=x
 obtain⟨y1,y2⟩:=y
 simp only
 show Calls Tryz.prog 50 #[.agg #[.int .i64 x1,.int .i64 x2],.agg #[.int .i64 y1,.int .i64 y2]] W _
 have h1:=kZ x1 y1
 have h2:=kZ x2 y2
 generalize Lib.compareInt x1 y1=r1 at h1 ⊢
 generalize Lib.compareInt x2 y2=r2 at h2 ⊢
 clear kZ
 have sQ:=λb W hx hy=>c6z b r1 r2 W hx hy
 generalize hr:(if r1=0 then r2 else r1)=r at sQ ⊢
 clear hr
 go_enter Tryz.func50,Tryz.ntmps50
 go_wp2
 refine b99 10 (by kernel_rfl) (by kernel_rfl) ?_
 simp only[List.take_succ_cons,cz,List.drop_succ_cons,List.drop_zero]
 still_step
 still_step
 still_step
 still_step
 still_call (h1 _)
 still_step
 still_step
 still_step
 still_step
 still_call (h2 _)
 refine wpStill_nil ?_
 go_wp2_with fail
 refine(sQ _ _ ?_ ?_).mono ?_
 ·simp only[World.cell?_drew]; exact World.cell?_alloc_at _ _ _ _ (by simp)
 ·simp only[World.cell?_drew]; exact World.cell?_alloc_at _ _ _ _ (by simp)
 rintro e w' ⟨rfl,rfl⟩
 simp only
 go_wp2
 go_ret
 exact⟨rfl,1,_,by rw[alloc_eq_grow,alloc_eq_grow,alloc_eq_grow,grow_grow,grow_grow]; rfl⟩
end Go.Proofs.YtljbhgpanekomaaGreat.Pi
