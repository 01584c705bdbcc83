import Derived.Test.YtljbhgpanekomaaGreatPiFunc
import Derived.Test.YtljbhgpanekomaaGreatPiLaw
import Derived.Shelf.SlSortCmp.NoneTotal
import Derived.Sort.OwnSortedInts
import Derived.Test.YtljbhgpanekomaaGreatPiCaPlain
import Derived.WalkKit
import Derived.StillTailTactics
import Derived.Deep.RegionWith
import Derived.Test.YtljbhgpanekomaaGreatPiBase
set_option linter.unusedSimpArgs false
set_option linter.unusedVariables false
set_option linter.unusedSectionVars false
namespace PI
open Go Go.RowKit Go.Shelf Go.Proofs Go.Sort
section
variable {N:Nm} {P:Program} {ρ:Ren}
theorem Tz:∀{cs:List PV} {zs:List (Int×Int)},ET cs=some zs→cs=zs.flatMap zi
 | [],zs,h=>by simp[ET] at h; subst h; rfl
 | [e],zs,h=>by unfold ET at h; split at h<;>simp_all
 | e :: e' :: es, zs, h => by
   unfold ET at h
   split at h
   ·rename_i h0; simp at h0
   ·rename_i a b r h0
    simp only[bF] at h0
    obtain⟨rfl,rfl,rfl⟩:=h0
    simp only[ab] at h
    obtain⟨ys,h1,rfl⟩:=h
    rw[Tz h1]; rfl
   ·simp at h
def BC (x:Int×Int):List Value:=[.int .i64 x.1,.int .i64 x.2]
def Bm (zs:List (Int×Int)):List Value:=zs.flatMap BC
theorem GI:∀zs:List (Int×Int),(Bm zs).length=zs.length*2
 | []=>rfl
 | z::zs=>by simp only[Bm,aM,ao,aB]; have:=GI zs; unfold Bm at this; rw[this]; simp[BC]; omega
theorem FP:∀zs:List (Int×Int),(zs.flatMap zi).length=zs.length*2
 | []=>rfl
 | z::zs=>by simp only[aM,ao,aB,FP zs]; simp[zi]; omega
theorem TA:∀(zs:List (Int×Int)) (t:Nat) (h:t<zs.length*2),(Bm zs)[t]? = some ((BC (zs.toArray[t / 2]!))[t % 2]!)
 | [],t,h=>by simp at h
 | z::zs,0,h=>by simp[Bm,BC]
 | z::zs,1,h=>by simp[Bm,BC]
 | z :: zs, t + 2, h => by
   have:=TA zs t (by simp at h; omega)
   simp only[Bm,aM,BC,aK,be,cE] at this ⊢
   rw[this]
   have e1:(t+2) / 2=t / 2+1:=by omega
   have e2:(t+2) % 2=t % 2:=by omega
   rw[e1,e2]
   simp
theorem TB (zs:List (Int×Int)):flatK BC 2 zs.toArray=(Bm zs).toArray:=by
 apply Array.ext'
 apply bO
 intro t
 by_cases h:t<zs.length*2
 ·rw[List.toList_toArray,TA zs t h]
  have h1:=get_flatK BC 2 zs.toArray t (by simpa using h)
  rw[getElem!_pos _ t (by simpa using h)] at h1
  rw[bM,cW (by simpa using h),h1]
 ·rw[cL (by simp; omega),cL (by simp[GI]; omega)]
theorem TC {zs:List (Int×Int)}:∀{j:Nat} {x:PV},(zs.flatMap zi)[j]? = some x→∃z,x = .int .i64 z∧(Bm zs)[j]? = some (.int .i64 z):=by
 induction zs with
 | nil=>intro j x h; simp at h
 | cons z zs ih =>
   intro j x h
   match j with
   | 0=>simp[zi] at h; exact⟨_,h.symm,by simp[Bm,BC]⟩
   | 1=>simp[zi] at h; exact⟨_,h.symm,by simp[Bm,BC]⟩
   | j + 2 =>
     simp only[aM,zi,aK,be,cE] at h
     obtain⟨z',h1,h2⟩:=ih h
     exact⟨z',h1,by simpa[Bm,BC] using h2⟩
theorem c09 {w:World} {g:Nat} {cur:Array Value} {e:TypeId} {ss:List Value} (hb:w.heap[g]? = some (.cells cur e (0,0))) (ht:cur.toList.take ss.length=ss):Holds (id:Value→Value) w g 0 ss.toArray:=by
 intro j hj
 have kM:j<ss.length:=by simpa using hj
 refine⟨?_,by simp[World.frozen?,hb]⟩
 have h1:(cur.toList.take ss.length)[j]? = ss[j]? := by rw[ht]
 rw[cD kM] at h1
 simp only[World.cell?,hb,aU]
 simp only[Option.isSome_none,aJ,if_false]
 rw[← bM,h1]
 simp[kM]
theorem c2X {w:World} {g n:Nat} {os:Array Obj} {cur:Array Value} {e:TypeId} {fr:Nat×Nat} (d:Array Value) (hb:w.heap[g]? = some (.cells cur e fr)):
  (grow (putRow id (Sort.ahead w n) g 0 d) os).heap[g]? = some (.cells (putCells id 0 d cur) e fr):=by
 have hg:g<w.heap.size:=(aX.1 hb).1
 rw[heap_grow_old _ _ (by simpa using hg)]
 simp[putRow,mapBlock,Sort.ahead,cT,hb,onCells]
theorem b7r {w:World} {g n:Nat} {os:Array Obj} (d:Array Value):w.grownBy (grow (putRow id (Sort.ahead w n) g 0 d) os) (some g):=by
 refine⟨rfl,rfl,rfl,by simp,λk hk dh =>?_⟩
 rw[heap_grow_old _ _ (by simpa using hk)]
 have:g≠k:=λe=>dh (by rw[e])
 simp[putRow,mapBlock,Sort.ahead,cT,this]
def El (x y:Int×Int):Int:=if x.1<y.1 then -1 else if y.1<x.1 then 1 else if x.2<y.2 then -1 else if y.2<x.2 then 1 else 0
theorem IE (x y:Int×Int):ltOf El x y=decide (x.1<y.1∨x.1=y.1∧x.2<y.2):=by
 unfold ltOf El
 by_cases h1:x.1<y.1
 ·simp[h1]
 ·by_cases h2:y.1<x.1
  ·simp[h1,h2]; omega
  ·by_cases h3:x.2<y.2
   ·simp[h1,h2,h3]; omega
   ·by_cases h4:y.2<x.2
    ·simp[h1,h2,h3,h4]
    ·simp[h1,h2,h3,h4]
theorem b82:SWO (ltOf El) where
 irrefl x:=by rw[IE]; simp
 trans x y z h1 h2:=by rw[IE] at *; simp at *; omega
 ntrans x y z h1 h2:=by rw[IE] at *; simp at *; omega
theorem c1a:(λx y:Int×Int => !(ltOf El) y x)=AS:=by
 funext x y
 rw[IE,AS,← decide_not]
 refine decide_eq_decide.2 ?_
 omega
theorem c4I {k kc:Nat} (hk:N.fn k=ρ.f 6) (L:SlLaysF0.n6 P ρ) (aE:∀w,(isAgg (ρ.t 24)).run P w = .ok true w) (zE:∀w,(Go.sizeOf (ρ.t 24)).run P w = .ok 2 w)
  (eg:∀args w,(callFunc (N.fn kc) args).run P w = .ok (.enter (N.fn kc) args) w)
  (dH:∀(x y:Int×Int) (W:World),Calls P (N.fn kc) #[.agg (BC x).toArray,.agg (BC y).toArray] W λe w'=>e = .returned (.int .i64 (El x y))∧∃q os',w'=grow (W.drewN q) os'):EQ N P k (ER kc):=by
 intro args r h h' hg w G vals ef dj di
 unfold ER at hg
 split at hg
 ·rename_i n len kf
  split at hg
  ·rename_i cs d9
   split at hg
   ·rename_i cY
    obtain⟨rfl,cY⟩:=cY
    simp only[ab,ac] at hg
    obtain⟨zs,iq,rfl,rfl⟩:=hg
    rw[c07]
    have hz:=Tz iq
    have kD:zs.length=len:=by
     have:=aL List.length hz
     rw[FP] at this
     simp at this; omega
    obtain⟨l⟩:=vals
    match l,dj with
    | [v,v2],_=>
    have hv:=di 0 v _ rfl rfl
    have gV:=di 1 v2 _ rfl rfl
    obtain rfl:v2 = .func (.func (N.fn kf)) #[] #[]:=by
     cases gV with
     | func _ fs cs _ _ _ e1 e2 =>
       have:fs = #[]:=Array.eq_empty_of_size_eq_zero (by simpa using e1)
       subst this
       have:cs = #[]:=Array.eq_empty_of_size_eq_zero (by simpa using e2)
       subst this
       rfl
    cases hv with
    | rowp _ _ _ _ b cap hb dl ep=>
    rcases ef.heap.1 n _ d9 with hx|⟨b',k1,k2,f,cv,T,a1,a2,a3⟩
    ·simp at hx
    have:b'=b:=by rw[hb] at k1; simpa using k1.symm
    subst this
    have fK:b'<w.heap.size:=(aX.1 a1).1
    have lQ:cv.toList.take (Bm zs).length=Bm zs:=by
     rw[GI]
     apply bO
     intro j
     by_cases hj:j<zs.length*2
     ·rw[cD hj,bM]
      have oO:j<cv.size:=by omega
      have h1:cs[j]? = (zs.flatMap zi)[j]? := by
       have:=aL (λl:List PV=>l[j]?) hz
       rw[cD (by omega)] at this
       exact this
      obtain⟨x,hx⟩:∃x,(zs.flatMap zi)[j]? = some x:=⟨_,an (by rw[FP]; exact hj)⟩
      obtain⟨z,rfl,h2⟩:=TC hx
      have h4:=(a3 j cv[j] _ (by simp[oO]) (h1.trans hx)).1
      have h3:cv[j]? = some cv[j]:=by simp[oO]
      generalize hc:cv[j]=c4 at h4 h3
      cases h4
      rw[h3,h2]
     ·rw[List.getElem?_take_eq_none (by omega),cL (by rw[GI]; omega)]
    have hH:HoldsK BC 2 w b' 0 zs.toArray:=by
     unfold HoldsK
     rw[TB]
     exact c09 a1 lQ
    have hc:=AnyQ.slices_SortFunc_total L 2 aE zE BC (λ_=>rfl) (λx v hv=>by simp[BC] at hv; rcases hv with rfl | rfl<;>rfl) El b82 (N.fn kf) #[] b' 0 cap zs.toArray w eg
     (λm os dk hs x y=>dH x y _) hH fK (by simpa[kD] using cY.2) (λx y h1 h2=>by
      rw[IE] at h1 h2
      simp at h1 h2
      exact Prod.ext (by omega) (by omega))
    rw[c1a] at hc
    simp only[cr,kD] at hc
    refine(hk▸hc).mono ?_
    rintro e w' ⟨rfl,m,os,rfl⟩
    obtain⟨ts,ft⟩:∃ts,ts=zs.mergeSort AS:=⟨_,rfl⟩
    have pU:ts.length=len:=by rw[← kD,ft]; exact List.length_mergeSort _
    rw[← ft]
    show ∃v G',_∧_∧_∧_
    have qX:=b7r (w:=w) (g:=b') (n:=m) (os:=os) (Bm ts).toArray
    have mP:=c2X (n:=m) (os:=os) (Bm ts).toArray a1
    have xJ:sortWorldK BC 2 w b' 0 m ts.toArray os=grow (putRow id (Sort.ahead w m) b' 0 (Bm ts).toArray) os:=by
     unfold sortWorldK putRowK
     rw[TB]
    rw[xJ]
    generalize iz:grow (putRow id (Sort.ahead w m) b' 0 (Bm ts).toArray) os=w' at qX mP
    obtain⟨g1,g2,g3,g4,g5⟩:=qX
    have gw:∀x,x<w.heap.size→x≠b'→w'.heap[x]? = w.heap[x]? := λx hx dh=>g5 x hx (by simpa using dh)
    have eW:(putCells id 0 (Bm ts).toArray cv).size=cv.size:=by simp[putCells]
    have jN:ShapeLe w w' := .one b' (λx hx dh=>gw x hx dh) (λs hs=>by
     simp only[World.shape?,a1] at hs
     simp only[World.shape?,mP,eW]
     exact hs) (λs hs=>by rw[Ow a1] at hs; simp at hs)
    have cX:Ext w G w' G:=by
     refine⟨g1,g2,g3,g4,?_,?_,λ_ _ h => .inl h,λ_ h => .inr h,λ_ _ h=>h,jN,rfl⟩
     ·intro x hx ho
      exact gw x hx (by rintro rfl; rw[k2] at ho; simp at ho)
     ·intro x o hf
      refine⟨hf,?_⟩
      have dh:x≠b':=by rintro rfl; exact f o hf
      simp only[World.cell?,gw x (ef.fixlt x o hf) dh]
    have db:zu (λk=>k = .hobj n) w G w' G:=by
     refine⟨?_,λ_ _ h=>h⟩
     intro x kx hx dh
     refine⟨hx,gw x (ef.owlt x kx hx) ?_,λ_ h=>h⟩
     rintro rfl
     rw[k2] at hx
     simp only[aa] at hx
     exact dh hx.symm
    refine⟨_,G,rfl,.tuple _ _ rfl (by intro i c p hc hp; simp at hc),cX,?_⟩
    refine⟨ef.only,λx o hf=>aP (ef.fixlt x o hf) g4,λx kx hx=>aP (ef.owlt x kx hx) g4,?_,λm x hx=>by simpa using ef.hdom m x hx⟩
    refine ef.heap.keepBut cX db (by intro n' k' dh; simp[dh]) ?_
    intro jy
    refine .inr ⟨b',hb,k2,f,_,T,mP,?_,?_⟩
    ·rw[eW]
     have h0:=cY.1
     simp only[ao,cm,FP]
     omega
    ·intro j c x hc hx
     have mj:j<cv.size:=by rw[← eW]; exact(aX.1 hc).1
     by_cases hj:j<len*2
     ·have mr:j<(Bm ts).length:=by rw[GI]; omega
      rw[al (by rw[FP]; omega)] at hx
      obtain⟨z,rfl,h2⟩:=TC hx
      have:c = .int .i64 z:=by
       simp[putCells,mj,mr] at hc
       rw[an mr] at h2
       simp only[aa] at h2
       rw[← hc,h2]
      subst this
      exact⟨.int _ _,rfl,True.intro⟩
     ·have mr:(ts.flatMap zi).length≤j:=by rw[FP]; omega
      rw[aq mr] at hx
      simp only[bc,FP] at hx
      have hx:cs[len*2+(j - ts.length*2)]? = some x:=hx
      rw[show len*2+(j - ts.length*2)=j by omega] at hx
      have gU:cv[j]? = some c:=by
       simp[putCells,mj,show ¬j<(Bm ts).length by rw[GI]; omega] at hc
       simp[mj,hc]
      exact(a3 j c x gU hx).keep cX db (by simp)
   ·simp at hg
  ·simp at hg
 ·rename_i o q
  simp only[aa,ac] at hg
  obtain⟨rfl,rfl⟩:=hg
  obtain⟨l⟩:=vals
  match l,dj with
  | [v,v2],_=>
  have hv:=di 0 v _ rfl rfl
  obtain⟨p,cap,rfl⟩:∃p cap,v = .slice p 0 cap:=by
   cases hv with
   | nils=>exact⟨none,0,rfl⟩
   | void _ a cap=>exact⟨some a,cap,rfl⟩
   | list _ b off len cap sz _ cv cY dl _ _ _ _=>simp at cY; subst cY; exact⟨_,cap,rfl⟩
  refine(hk▸AnyF.slices_SortFunc_none L p cap v2 w).mono ?_
  rintro e w' ⟨rfl,rfl⟩
  exact⟨_,G,rfl,.tuple _ _ rfl (by intro i c p hc hp; simp at hc),Ext.refl _ _,ef⟩
 ·simp at hg
end
end PI
set_option maxRecDepth 100000
namespace Go.Proofs.YtljbhgpanekomaaGreat.Pi
open Go Go.Shelf Go.RowKit Go.Lib Go.Sort PI
set_option maxHeartbeats 4000000 in
theorem c3Q (b:Nat) (x y:Int) (W:World) (h0:x≠0) (hx:W.cell? ⟨b,0,none⟩=some (.int .i64 x)) (hy:W.cell? ⟨b,1,none⟩=some (.int .i64 y)):
  Calls Tryz.prog 51 #[.slice (some ⟨b,0,none⟩) 2 2] W λe w'=>e = .returned (.int .i64 x)∧w'=W:=by
 have h1:(x != 0)=true:=by simp[h0]
 go_enter Tryz.func51,Tryz.ntmps51
 go_wp2
 refine wp_loop_rounds 1 ?_
 rw[rounds_succ]
 go_wp2
 go_ret
 exact⟨rfl,rfl⟩
set_option maxHeartbeats 4000000 in
theorem c6z (b:Nat) (y:Int) (W:World) (h0:y=0∨y≠0) (hx:W.cell? ⟨b,0,none⟩=some (.int .i64 0)) (hy:W.cell? ⟨b,1,none⟩=some (.int .i64 y)):
  Calls Tryz.prog 51 #[.slice (some ⟨b,0,none⟩) 2 2] W λe w'=>e = .returned (.int .i64 y)∧w'=W:=by
 go_enter Tryz.func51,Tryz.ntmps51
 go_wp2
 refine wp_loop_rounds 3 ?_
 rw[rounds_succ]
 go_wp2
 rw[rounds_succ]
 rcases h0 with rfl|h0
 ·go_wp2
  rw[rounds_succ]
  go_wp2
  go_ret
  exact⟨rfl,rfl⟩
 ·have h1:(y != 0)=true:=by simp[h0]
  go_wp2
  go_ret
  exact⟨rfl,rfl⟩
theorem c6A (b:Nat) (x y:Int) (W:World) (hx:W.cell? ⟨b,0,none⟩=some (.int .i64 x)) (hy:W.cell? ⟨b,1,none⟩=some (.int .i64 y)):
  Calls Tryz.prog 51 #[.slice (some ⟨b,0,none⟩) 2 2] W λe w'=>e = .returned (.int .i64 (if x=0 then y else x))∧w'=W:=by
 by_cases h:x=0
 ·subst h
  rw[af rfl]
  exact c6z b y W (by omega) hx hy
 ·rw[ae h]
  exact c3Q b x y W h hx hy
theorem c0k (x y:Int×Int):(if Lib.compareInt x.1 y.1=0 then Lib.compareInt x.2 y.2 else Lib.compareInt x.1 y.1)=El x y:=by
 unfold Lib.compareInt El
 (repeat' split)<;>first|rfl|omega
theorem c0l {P:Program} {id:Nat} {Q:Exit→Act→World→Prop} {a:Act} {w:World} {l:List Oper} (n:Nat) (hm:P.follows .mixedOrders=true) (hB:Region.lexTailB .any l.toArray n=true)
  (h:wpStill P l.toArray w.drew (λa'=>wpList P l.toArray Q (l.drop n) a' w.drew) (l.take n) a):(Code.region id l.toArray true).wp P Q a w:=wp_region_still_tail n hm hB h
set_option maxHeartbeats 4000000 in
theorem c3R (x y:Int×Int) (W:World):
  Calls Tryz.prog 50 #[.agg (BC x).toArray,.agg (BC y).toArray] W λe w'=>e = .returned (.int .i64 (El x y))∧∃q os',w'=grow (W.drewN q) os':=by
 have my:=λx y W'=>Any.cmp_Compare_int Tryz.lays122 x y W'
 change ∀x y W',Calls Tryz.prog 52 #[.int .i64 x,.int .i64 y] W' (λe w'=>e = .returned (.int .i64 (Lib.compareInt x y))∧w'=W') at my
 rw[← c0k]
 obtain⟨x1,x2⟩:=x
 obtain⟨y1,y2⟩:=y
 simp only
 show Calls Tryz.prog 50 #[.agg #[.int .i64 x1,.int .i64 x2],.agg #[.int .i64 y1,.int .i64 y2]] W _
 have h1:=my x1 y1
 have h2:=my x2 y2
 generalize Lib.compareInt x1 y1=r1 at h1 ⊢
 generalize Lib.compareInt x2 y2=r2 at h2 ⊢
 clear my
 have uU:=λb W hx hy=>c6A b r1 r2 W hx hy
 generalize hr:(if r1=0 then r2 else r1)=r at uU ⊢
 clear hr
 go_enter Tryz.func50,Tryz.ntmps50
 go_wp2
 refine c0l 10 (by kernel_rfl) (by kernel_rfl) ?_
 simp only[List.take_succ_cons,List.take_zero,List.drop_succ_cons,List.drop_zero]
 still_step
 still_step
 still_step
 still_step
 still_call (h1 _)
 still_step
 still_step
 still_step
 still_step
 still_call (h2 _)
 refine wpStill_nil ?_
 go_wp2_with fail
 refine(uU _ _ ?_ ?_).mono ?_
 ·simp only[World.cell?_drew]; exact World.cell?_alloc_at _ _ _ _ (by simp)
 ·simp only[World.cell?_drew]; exact World.cell?_alloc_at _ _ _ _ (by simp)
 rintro e w' ⟨rfl,rfl⟩
 simp only
 go_wp2
 go_ret
 exact⟨rfl,1,_,by rw[alloc_eq_grow,alloc_eq_grow,alloc_eq_grow,grow_grow,grow_grow]; rfl⟩
end Go.Proofs.YtljbhgpanekomaaGreat.Pi
set_option linter.unusedVariables false
set_option linter.unusedSimpArgs false
namespace PI.Sc
def fup {α:Type} (f:Nat→α) (v:Nat) (x:α):Nat→α:=λu=>if u=v then x else f u
theorem zZ {α:Type} (f:Nat→α) (v:Nat) (x:α):fup f v x v=x:=by simp[fup]
theorem Aq {α:Type} (f:Nat→α) {v u:Nat} (x:α) (h:u≠v):fup f v x u=f u:=by simp[fup,h]
def MW (n:Nat) (N:Nat→List Nat) (f:Nat→Nat):Prop:=∀u,u<n→∀w∈N u,f u<f w
structure TS where
 ix:Nat→Nat
 lo:Nat→Nat
 on:Nat→Bool
 st:List Nat
 ct:Nat
 nu:Nat→Nat
 pa:Nat
def A3 (t:TS) (w:Nat):TS:={ t with ct:=t.ct+1,ix:=fup t.ix w (t.ct+1),lo:=fup t.lo w (t.ct+1),st:=w::t.st,on:=fup t.on w true }
def EU (t:TS) (p k:Nat):TS:={ t with lo:=fup t.lo p (min (t.lo p) k) }
def EV (t:TS) (w:Nat) (r:List Nat):TS:={ t with st:=r,on:=fup t.on w false,nu:=fup t.nu w t.pa }
def CB (v:Nat):List Nat→TS→TS
 | [],t=>t
 | w::r,t=>if w=v then EV t w r else CB v r (EV t w r)
def zP (t:TS) (v:Nat):TS:=if t.lo v=t.ix v then { CB v t.st t with pa:=t.pa+1 } else t
def Fin1 (t:TS) (k:Nat) (l:List Nat):Prop:=∀w∈l,0<t.ix w∧(w∈t.st→k≤t.ix w)
theorem Fin1.mono {t t':TS} {k k':Nat} {l:List Nat} (h:Fin1 t k l) (ii:∀w,0<t.ix w→t'.ix w=t.ix w) (dz:∀w,0<t.ix w→w∈t'.st→w∈t.st) (hk:k'≤k):Fin1 t' k' l:=by
 intro w hw
 obtain⟨h1,h2⟩:=h w hw
 rw[ii w h1]
 exact⟨h1,λh3=>aH hk (h2 (dz w h1 h3))⟩
def Seg (N:Nat→List Nat) (b:Nat) (t:TS):List (Nat×Nat)→List Nat→Prop
 | [],r=>r=[]
 | (v,i)::F,r=>(F=[]→t.ix v=b)∧∃s r',r=s++v::r'∧i≤(N v).length∧t.lo v≤t.ix v∧(∀x∈s,Fin1 t (t.lo v) (N x))∧Fin1 t (t.lo v) ((N v).take i)∧Seg N b t F r'
theorem Seg.mono {N:Nat→List Nat} {b:Nat} {t t':TS} (ii:∀w,0<t.ix w→t'.ix w=t.ix w) (dz:∀w,0<t.ix w→w∈t'.st→w∈t.st):
  ∀(F:List (Nat×Nat)) (r:List Nat),Seg N b t F r→(∀v∈r,0<t.ix v)→(∀v∈r,t'.lo v≤t.lo v)→Seg N b t' F r
 | [],r,h,_,_=>h
 | (v, i) :: F, r, ⟨h0, s, r', e, h1, h2, h3, h4, h5⟩, hp, hl => by
   subst e
   have hv:=hp v (by simp)
   have uV:=hl v (by simp)
   refine⟨λe =>?_,s,r',rfl,h1,?_,λx hx=>(h3 x hx).mono ii dz uV,h4.mono ii dz uV,Seg.mono ii dz F r' h5 (λx hx=>hp x (by simp[hx])) (λx hx=>hl x (by simp[hx]))⟩
   ·rw[ii v hv]; exact h0 e
   ·rw[ii v hv]; omega
theorem Seg.step {N:Nat→List Nat} {b v i:Nat} {t:TS} {F:List (Nat×Nat)} {r:List Nat} (h:Seg N b t ((v,i)::F) r) (hi:i<(N v).length) (hf:Fin1 t (t.lo v) [(N v)[i]]):Seg N b t ((v,i+1)::F) r:=by
 obtain⟨h0,s,r',e,h1,h2,h3,h4,h5⟩:=h
 refine⟨h0,s,r',e,hi,h2,h3,?_,h5⟩
 intro w hw
 rw[a8,an hi] at hw
 rcases aw.1 hw with hw|hw
 ·exact h4 w hw
 ·exact hf w hw
structure TI (n:Nat) (N:Nat→List Nat) (b k:Nat) (t:TS) (F:List (Nat×Nat)):Prop where
 on:∀v,t.on v=true↔v∈t.st
 nd:t.st.Pairwise (λa c=>t.ix c<t.ix a)
 lt:∀v∈t.st,v<n
 pos:∀v∈t.st,b≤t.ix v∧b≤t.lo v∧t.ix v≤t.ct
 b0:0<b
 cl:∀v,0<t.ix v→v∉t.st→t.nu v<t.pa∧∀w∈N v,0<t.ix w∧w∉t.st∧t.nu w≤t.nu v
 seg:Seg N b t F t.st
 vis:∀v,v<k→0<t.ix v
section
variable {n:Nat} {N:Nat→List Nat} {b k v i:Nat} {t:TS} {F:List (Nat×Nat)}
theorem TI.ixp (h:TI n N b k t F):∀x∈t.st,0<t.ix x:=λx hx=>by
 have:=(h.pos x hx).1; have:=h.b0; omega
theorem TI.top (h:TI n N b k t ((v,i)::F)):v∈t.st∧i≤(N v).length∧t.lo v≤t.ix v:=by
 obtain⟨h0,s,r',e,h1,h2,_⟩:=h.seg
 exact⟨by rw[e]; simp,h1,h2⟩
theorem TI.nodup (h:TI n N b k t F):t.st.Nodup:=h.nd.imp (λh e=>by subst e; omega)
theorem TI.step (h:TI n N b k t ((v,i)::F)) (hi:i<(N v).length) (hf:Fin1 t (t.lo v) [(N v)[i]]):TI n N b k t ((v,i+1)::F):=
 { h with seg:=h.seg.step hi hf }
theorem TI.skip (h:TI n N b k t ((v,i)::F)) (hi:i<(N v).length) (h0:0<t.ix (N v)[i]) (h1:t.on (N v)[i]=false):TI n N b k t ((v,i+1)::F):=by
 refine h.step hi ?_
 intro w hw
 rw[aQ] at hw
 subst hw
 exact⟨h0,λhm=>by rw[(h.on _).2 hm] at h1; cases h1⟩
theorem TI.min (h:TI n N b k t F) {p m:Nat} (hm:b≤m):TI n N b k (EU t p m) F:=by
 have mX:∀x,(EU t p m).lo x≤t.lo x:=by
  intro x
  show fup t.lo p _ x≤_
  by_cases e:x=p
  ·subst e; rw[zZ]; omega
  ·rw[Aq _ _ e]; exact am _
 refine { on:=h.on,nd:=h.nd,lt:=h.lt,b0:=h.b0,cl:=h.cl,vis:=h.vis,seg:=Seg.mono (t:=t) (t':=EU t p m) (λ_ _=>rfl) (λ_ _ h=>h) F t.st h.seg h.ixp (λx _=>mX x),pos := ?_ }
 intro x hx
 obtain⟨h1,h2,h3⟩:=h.pos x hx
 refine⟨h1,?_,h3⟩
 show _≤fup t.lo p _ x
 by_cases e:x=p
 ·subst e; rw[zZ]; omega
 ·rw[Aq _ _ e]; exact h2
theorem TI.back (h:TI n N b k t ((v,i)::F)) (hi:i<(N v).length) (h1:t.on (N v)[i]=true):TI n N b k (EU t v (t.ix (N v)[i])) ((v,i+1)::F):=by
 have hm:=(h.on _).1 h1
 refine(h.min (h.pos _ hm).1).step hi ?_
 intro w hw
 rw[aQ] at hw
 subst hw
 refine⟨h.ixp _ hm,λ_ =>?_⟩
 show fup t.lo v _ v≤t.ix _
 rw[zZ]; omega
theorem TI.enter0 (h:TI n N b k t F) (hb:F≠[]→b≤t.ct) {w:Nat} (hw:w<n) (h0:t.ix w=0) {b':Nat} (dn:F≠[]→b'=b) (dK:F=[]→b'=t.ct+1) {k':Nat} (hk:k'=k∨(k'=k+1∧w=k)):TI n N b' k' (A3 t w) ((w,0)::F):=by
 have hp:=h.ixp
 have fR:w∉t.st:=λhm=>by have:=hp w hm; omega
 have ii:∀x,0<t.ix x→(A3 t w).ix x=t.ix x:=λx hx=>Aq _ _ (by rintro rfl; omega)
 have p6:∀x,x∈t.st→(A3 t w).lo x=t.lo x:=λx hx=>Aq _ _ (by rintro rfl; exact fR hx)
 have dz:∀x,0<t.ix x→x∈(A3 t w).st→x∈t.st:=by
  intro x hx hm
  rcases az.1 hm with rfl|hm
  ·omega
  ·exact hm
 have eU:(A3 t w).ix w=t.ct+1:=zZ _ _ _
 have ke:F=[]→t.st=[]:=λe=>by have:=h.seg; rw[e] at this; exact this
 have hb'p:b'≤t.ct+1∧0<b':=by
  by_cases e:F=[]
  ·rw[dK e]; omega
  ·rw[dn e]; have:=hb e; have:=h.b0; omega
 refine { on := ?_,nd := ?_,lt := ?_,pos := ?_,b0:=hb'p.2,cl := ?_,seg := ?_,vis := ?_ }
 ·intro u
  show fup t.on w true u=true↔u∈w::t.st
  by_cases e:u=w
  ·subst e; simp[fup]
  ·rw[Aq _ _ e,h.on]; simp[e]
 ·refine bR.2 ⟨λc hc =>?_,h.nd.imp_of_mem λha hc dc =>?_⟩
  ·rw[ii c (hp c hc),eU]; have:=(h.pos c hc).2.2; omega
  ·rw[ii _ (hp _ ha),ii _ (hp _ hc)]; exact dc
 ·intro x hx
  rcases az.1 hx with rfl|hx
  ·exact hw
  ·exact h.lt x hx
 ·intro x hx
  rcases az.1 hx with rfl|hx
  ·rw[eU]
   show _∧_≤fup t.lo x _ x∧_≤t.ct+1
   rw[zZ]; omega
  ·have e:F≠[]:=λe=>by rw[ke e] at hx; cases hx
   rw[ii x (hp x hx),p6 x hx,dn e]
   obtain⟨h1,h2,h3⟩:=h.pos x hx
   exact⟨h1,h2,Nat.le_succ_of_le h3⟩
 ·intro x hx hm
  have nS:x≠w:=λe=>hm (by subst e; exact bZ)
  have eT:0<t.ix x:=by
   have:(A3 t w).ix x=t.ix x:=Aq _ _ nS
   omega
  obtain⟨h1,h2⟩:=h.cl x eT (λhh=>hm (bo _ hh))
  refine⟨h1,λy hy =>?_⟩
  obtain⟨h3,h4,h5⟩:=h2 y hy
  refine⟨by rw[ii y h3]; exact h3,?_,h5⟩
  intro hh
  exact h4 (dz y h3 hh)
 ·refine⟨λe=>(by rw[eU,dK e]),[],t.st,rfl,bJ _,?_,λx hx=>(by cases hx),λx hx=>(by simp at hx),?_⟩
  ·rw[eU]; show fup t.lo w _ w≤_; rw[zZ]; exact am _
  ·by_cases e:F=[]
   ·subst e; exact ke rfl
   ·rw[dn e]; exact Seg.mono ii dz F t.st h.seg hp (λx hx=>by rw[p6 x hx]; exact am _)
 ·intro x hx
  by_cases e:x=w
  ·subst e; rw[eU]; omega
  ·have h1:=h.vis x (by rcases hk with rfl|⟨rfl,rfl⟩<;>omega)
   rw[ii x h1]; exact h1
theorem TI.enter (h:TI n N b k t ((v,i)::F)) (hi:i<(N v).length) (hw:(N v)[i]<n) (h0:t.ix (N v)[i]=0):TI n N b k (A3 t (N v)[i]) (((N v)[i],0)::(v,i+1)::F):=by
 obtain⟨hv,_,hl⟩:=h.top
 obtain⟨p1,p2,p3⟩:=h.pos v hv
 have h1:TI n N b k (A3 t (N v)[i]) (((N v)[i],0)::(v,i)::F):=h.enter0 (λ_=>by omega) hw h0 (λ_=>rfl) (λe=>by cases e) (.inl rfl)
 refine { h1 with seg := ?_ }
 obtain⟨g0,s,r',e,g1,g2,g3,g4,g5⟩:=h1.seg
 refine⟨λe=>(by cases e),s,r',e,g1,g2,g3,g4,g5.step hi ?_⟩
 intro w hw
 rw[aQ] at hw
 subst hw
 have dh:v≠(N v)[i]:=λe=>by have:=h.ixp v hv; rw[← e] at h0; omega
 show 0<fup t.ix _ _ _∧(_→fup t.lo _ _ v≤fup t.ix _ _ _)
 rw[zZ,Aq _ _ dh]
 exact⟨by omega,λ_=>by omega⟩
theorem TI.begin (h:TI n N b k t []) (hk:k<n) (h0:t.ix k=0):TI n N (t.ct+1) (k+1) (A3 t k) [(k,0)]:=
 h.enter0 (λe=>absurd rfl e) hk h0 (λe=>absurd rfl e) (λ_=>rfl) (.inr ⟨rfl,rfl⟩)
theorem TI.known (h:TI n N b k t []) (h0:t.ix k≠0):TI n N b (k+1) t []:=by
 refine { h with vis := ?_ }
 intro v hv
 by_cases e:v=k
 ·subst e; omega
 ·exact h.vis v (by omega)
theorem MX (v:Nat) (r:List Nat):∀(s:List Nat) (t:TS),v∉s→CB v (s++v::r) t={ t with st:=r,on:=λu=>if u∈s++[v] then false else t.on u,nu:=λu=>if u∈s++[v] then t.pa else t.nu u }
 | [], t, _ => by
   simp only[be,CB,if_true,EV,aQ]
   rfl
 | w :: s, t, h => by
   have dh:w≠v:=λe=>h (by simp[e])
   rw[aK,CB,ae dh,MX v r s _ (λhh=>h (by simp[hh]))]
   unfold EV
   congr 1
   ·funext u
    show (if u∈s++[v] then false else fup t.on w false u)=if u∈w::s++[v] then false else t.on u
    by_cases h1:u∈s++[v]
    ·have:u∈w::s++[v]:=bo _ h1
     rw[af h1,af this]
    ·rw[ae h1]
     by_cases h2:u=w
     ·subst h2; rw[zZ,af (by simp)]
     ·rw[Aq _ _ h2,ae (show ¬u∈w::s++[v] from λhh=>(az.1 hh).elim h2 h1)]
   ·funext u
    show (if u∈s++[v] then t.pa else fup t.nu w t.pa u)=if u∈w::s++[v] then t.pa else t.nu u
    by_cases h1:u∈s++[v]
    ·have:u∈w::s++[v]:=bo _ h1
     rw[af h1,af this]
    ·rw[ae h1]
     by_cases h2:u=w
     ·subst h2; rw[zZ,af (by simp)]
     ·rw[Aq _ _ h2,ae (show ¬u∈w::s++[v] from λhh=>(az.1 hh).elim h2 h1)]
theorem TI.close (h:TI n N b k t ((v,i)::F)) (hi:i=(N v).length) (he:t.lo v=t.ix v):TI n N b k (zP t v) F:=by
 obtain⟨h0,s,r,e,h1,h2,h3,h4,h5⟩:=h.seg
 have dx:=h.nd
 rw[e] at dx
 obtain⟨n1,n2,n3⟩:=List.pairwise_append.1 dx
 obtain⟨n4,n5⟩:=bR.1 n2
 have iU:v∉s:=λhm=>by have:=n3 v hm v (by simp); omega
 unfold zP
 rw[af he,e,MX v r s t iU]
 rw[hi,aD] at h4
 have hd:∀u,u∈s++[v]→u∉r:=by
  intro u hu hr
  rcases aw.1 hu with hu|hu
  ·have:=n3 u hu u (by simp[hr]); omega
  ·rw[aQ] at hu; subst hu; have:=n4 u hr; omega
 have dX:∀u,u∈t.st↔u∈s++[v]∨u∈r:=by intro u; rw[e]; simp[or_assoc]
 have fc:∀u,u∈s++[v]→Fin1 t (t.lo v) (N u):=by
  intro u hu
  rcases aw.1 hu with hu|hu
  ·exact h3 u hu
  ·rw[aQ] at hu; subst hu; exact h4
 refine { on := ?_,nd:=n5,lt:=λx hx=>h.lt x ((dX x).2 (.inr hx)),pos:=λx hx=>h.pos x ((dX x).2 (.inr hx)),b0:=h.b0,cl := ?_,seg := ?_,vis:=h.vis }
 ·intro u
  show (if u∈s++[v] then false else t.on u)=true↔u∈r
  by_cases hu:u∈s++[v]
  ·rw[af hu]; exact⟨λh=>(by cases h),λhr=>absurd hr (hd u hu)⟩
  ·rw[ae hu,h.on,dX]; exact⟨λh=>h.resolve_left hu,.inr⟩
 ·intro u hu hr
  show (if u∈s++[v] then t.pa else t.nu u)<t.pa+1∧∀w∈N u,0<t.ix w∧w∉r∧(if w∈s++[v] then t.pa else t.nu w)≤(if u∈s++[v] then t.pa else t.nu u)
  by_cases hm:u∈s++[v]
  ·simp only[af hm]
   refine⟨by omega,λw hw =>?_⟩
   obtain⟨g1,g2⟩:=fc u hm w hw
   have kg:w∉r:=λkg=>by
    have:=g2 ((dX w).2 (.inr kg))
    have:=n4 w kg
    omega
   refine⟨g1,kg,?_⟩
   by_cases nL:w∈s++[v]
   ·rw[af nL]; exact am _
   ·rw[ae nL]
    have:=(h.cl w g1 (λhh=>((dX w).1 hh).elim nL kg)).1
    omega
  ·have eV:u∉t.st:=λhh=>((dX u).1 hh).elim hm hr
   obtain⟨g1,g2⟩:=h.cl u hu eV
   simp only[ae hm]
   refine⟨by omega,λw hw =>?_⟩
   obtain⟨g3,g4,g5⟩:=g2 w hw
   rw[ae (λhh=>g4 ((dX w).2 (.inl hh)))]
   exact⟨g3,λhh=>g4 ((dX w).2 (.inr hh)),g5⟩
 ·refine Seg.mono (t:=t) ?_ ?_ F r h5 (λx hx=>h.ixp x ((dX x).2 (.inr hx))) ?_
  ·intro _ _; rfl
  ·intro x _ hx; exact(dX x).2 (.inr hx)
  ·intro x _; exact am _
theorem TI.merge {p j:Nat} (h:TI n N b k t ((v,i)::(p,j)::F)) (hi:i=(N v).length) (hl:t.lo p≤t.lo v):TI n N b k t ((p,j)::F):=by
 obtain⟨h0,s,r,e,h1,h2,h3,h4,g0,s2,r2,e2,g1,g2,g3,g4,g5⟩:=h.seg
 rw[hi,aD] at h4
 have mn:∀{l},Fin1 t (t.lo v) l→Fin1 t (t.lo p) l:=λh=>h.mono (λ_ _=>rfl) (λ_ _ h=>h) hl
 refine { h with seg:=⟨g0,s++v::s2,r2,by rw[e,e2]; simp,g1,g2,?_,g4,g5⟩ }
 intro x hx
 rcases aw.1 hx with hx|hx
 ·exact mn (h3 x hx)
 ·rcases az.1 hx with rfl|hx
  ·exact mn h4
  ·exact g3 x hx
theorem TI.root (h:TI n N b k t [(v,i)]):t.lo v=t.ix v:=by
 obtain⟨hv,_,hl⟩:=h.top
 have:=h.seg.1 rfl
 have:=(h.pos v hv).2.1
 omega
theorem TI.leave {p j:Nat} (h:TI n N b k t ((v,i)::(p,j)::F)) (hi:i=(N v).length):TI n N b k (EU (zP t v) p ((zP t v).lo v)) ((p,j)::F):=by
 obtain⟨hv,_,hl⟩:=h.top
 have hb:=(h.pos v hv).2.1
 by_cases he:t.lo v=t.ix v
 ·refine(h.close hi he).min ?_
  unfold zP
  rw[af he]
  obtain⟨_,s,r,e,_⟩:=h.seg
  have dx:=h.nd
  rw[e] at dx
  have iU:v∉s:=λhm=>by have:=(List.pairwise_append.1 dx).2.2 v hm v (by simp); omega
  rw[e,MX v r s t iU]
  exact hb
 ·have e:zP t v=t:=ae he
  rw[e]
  refine TI.merge (v:=v) (i:=i) (h.min hb) hi ?_
  show fup t.lo p _ p≤fup t.lo p _ v
  rw[zZ]
  by_cases e:v=p
  ·subst e; rw[zZ]; exact am _
  ·rw[Aq _ _ e]; omega
theorem TI.done (h:TI n N b k t []) (hk:n≤k):∀v,v<n→t.nu v<t.pa∧∀w∈N v,t.nu w≤t.nu v:=by
 intro v hv
 have hs:t.st=[]:=h.seg
 obtain⟨h1,h2⟩:=h.cl v (h.vis v (by omega)) (by rw[hs]; simp)
 exact⟨h1,λw hw=>(h2 w hw).2.2⟩
end
theorem b5q {n:Nat} {N:Nat→List Nat} {nu:Nat→Nat} {pa:Nat} (hn:∀v,v<n→∀w∈N v,w<n) (h:∀v,v<n→nu v<pa∧∀w∈N v,nu w≤nu v) (hs:∀v,v<n→v∉N v)
  (hi:∀u v,u<n→v<n→nu u=nu v→u=v):MW n N λv=>pa - nu v:=by
 intro u hu w hw
 have fR:=hn u hu w hw
 obtain⟨h1,h2⟩:=h u hu
 have h3:=h2 w hw
 have h4:=(h w fR).1
 have:nu w≠nu u:=λe=>hs u hu (by rw[hi u w hu fR e.symm] at hw ⊢; exact hw)
 show pa - nu u<pa - nu w
 omega
def tot:Nat→(Nat→Nat)→Nat
 | 0,_=>0
 | n+1,f=>tot n f+f n
theorem HI {f g:Nat→Nat}:∀n,(∀v,v<n→f v=g v)→tot n f=tot n g
 | 0,_=>rfl
 | n+1,h=>by rw[tot,tot,HI n (λv hv=>h v (by omega)),h n (by omega)]
theorem HJ {f g:Nat→Nat}:∀n,(∀v,v<n→f v≤g v)→tot n f≤tot n g
 | 0,_=>am _
 | n+1,h=>by have:=HJ n (λv hv=>h v (by omega)); have:=h n (by omega); simp only[tot]; omega
theorem HK {f g:Nat→Nat} {w c:Nat}:∀n,(∀v,v<n→f v≤g v)→w<n→f w+c≤g w→tot n f+c≤tot n g
 | 0,_,h,_=>by omega
 | n + 1, h, hw, hc => by
   by_cases e:w=n
   ·subst e; have:=HJ w (λv hv=>h v (by omega)); simp only[tot]; omega
   ·have:=HK n (λv hv=>h v (by omega)) (by omega) hc; have:=h n (by omega); simp only[tot]; omega
theorem c37 {f:Nat→Nat} {n v:Nat} (h:tot n f=0) (hv:v<n):f v=0:=by
 have:=HK (f:=λ_=>0) (g:=f) (w:=v) (c:=f v) n (λ_ _=>bJ _) hv (by omega)
 omega
theorem MY {f g:Nat→Nat} {w c:Nat}:∀n,(∀v,v<n→v≠w→f v=g v)→w<n→f w+c=g w→tot n f+c=tot n g
 | 0,_,h,_=>by omega
 | n + 1, h, hw, hc => by
   by_cases e:w=n
   ·subst e; have:=HI w (λv hv=>h v (by omega) (by omega)); simp only[tot]; omega
   ·have:=MY n (λv hv=>h v (by omega)) (by omega) hc; have:=h n (by omega) (λe'=>e e'.symm); simp only[tot]; omega
def cnt (n:Nat) (N:Nat→List Nat) (O:List Nat) (w:Nat):Nat:=tot n λu=>if u∈O then 0 else(N u).count w
structure OI (n:Nat) (N:Nat→List Nat) (O R:List Nat) (rest:List Nat) (c:Nat→Nat):Prop where
 cn:∀w,w<n→c w=cnt n N O w+rest.count w
 nd:(O++R).Nodup
 mem:∀v,v∈O++R↔v<n∧c v=0
 ord:∀i (h:i<O.length) a,a<n→O[i]∈N a→a∈O.take i
section
variable {n:Nat} {N:Nat→List Nat} {O R:List Nat} {c:Nat→Nat}
theorem c0A {l:List Nat} {a:Nat} (h:a∈l):0<l.count a:=List.count_pos_iff.2 h
theorem OI.pop {v:Nat} {R':List Nat} (h:OI n N O R [] c) (hp:R.Perm (v::R')):v<n∧OI n N (O++[v]) R' (N v) c:=by
 have wx:v∈R:=hp.mem_iff.2 (by simp)
 obtain⟨hv,jm⟩:=(h.mem v).1 (by simp[wx])
 have pp:(O++R).Perm ((O++[v])++R'):=by
  rw[aI]; exact hp.append_left O
 have dx:=pp.nodup_iff.1 h.nd
 have qe:v∉O:=by
  intro hm
  rw[aI] at dx
  exact(cd.1 dx).2.2 v hm v (by simp) rfl
 refine⟨hv,?_,dx,λu=>by rw[← pp.mem_iff]; exact h.mem u,?_⟩
 ·intro w hw
  rw[h.cn w hw,List.count_nil,bx]
  symm
  refine MY (w:=v) n ?_ hv ?_
  ·intro u _ hu; simp[hu]
  ·simp[qe]
 ·intro i hi a ha hm
  by_cases e:i<O.length
  ·rw[List.getElem_append_left e] at hm
   rw[cU (by omega)]
   exact h.ord i e a ha hm
  ·have:i=O.length:=by simp at hi; omega
   subst this
   simp at hm
   rw[List.take_left']
   ·by_cases hx:a∈O
    ·exact hx
    ·exfalso
     have h1:=h.cn v hv
     rw[jm,List.count_nil] at h1
     have h2:=c37 (n:=n) (v:=a) (f:=λu=>if u∈O then 0 else(N u).count v) (by unfold cnt at h1; omega) ha
     simp only[hx,if_false] at h2
     have:=c0A hm
     omega
   ·rfl
theorem OI.dec {w:Nat} {r:List Nat} (h:OI n N O R (w::r) c) (hw:w<n):0<c w∧(c w=1→OI n N O (w::R) r (fup c w (c w - 1)))∧(c w≠1→OI n N O R r (fup c w (c w - 1))):=by
 have h0:=h.cn w hw
 rw[List.count_cons_self] at h0
 have dB:0<c w:=by omega
 have hc:∀x,x<n→fup c w (c w - 1) x=cnt n N O x+r.count x:=by
  intro x hx
  by_cases e:x=w
  ·subst e; rw[zZ]; omega
  ·rw[Aq _ _ e,h.cn x hx,List.count_cons_of_ne (λe'=>e e'.symm)]
 have sN:w∉O++R:=λhm=>by have:=((h.mem w).1 hm).2; omega
 refine⟨dB,λh1=>⟨hc,?_,?_,h.ord⟩,λh1=>⟨hc,h.nd,?_,h.ord⟩⟩
 ·have hp:(O++w::R).Perm (w::(O++R)):=List.perm_middle
  exact hp.nodup_iff.2 (cg.2 ⟨sN,h.nd⟩)
 ·intro v
  have hp:(O++w::R).Perm (w::(O++R)):=List.perm_middle
  rw[hp.mem_iff,az,h.mem]
  by_cases e:v=w
  ·subst e; rw[zZ]; simp[hw,h1]
  ·rw[Aq _ _ e]; simp[e]
 ·intro v
  rw[h.mem]
  by_cases e:v=w
  ·subst e; rw[zZ]; constructor<;>intro hh<;>omega
  ·rw[Aq _ _ e]
theorem OI.perm {R' rest:List Nat} (h:OI n N O R rest c) (hp:R'.Perm R):OI n N O R' rest c:=
 ⟨h.cn,(hp.append_left O).nodup_iff.2 h.nd,λv=>by rw[(hp.append_left O).mem_iff]; exact h.mem v,h.ord⟩
theorem OI.lt {rest:List Nat} (h:OI n N O R rest c):∀v∈O++R,v<n:=λv hv=>((h.mem v).1 hv).1
end
theorem Gf:∀(n:Nat) (O:List Nat),O.Nodup→(∀v∈O,v<n)→O.length≤n∧(O.length=n→∀v,v<n→v∈O)
 | 0, O, _, hl => by
   cases O with
   | nil=>simp
   | cons x O=>have:=hl x (by simp); omega
 | n + 1, O, hn, hl => by
   have h1:∀v∈O.erase n,v<n:=by
    intro v hv
    have:=hl v (List.mem_of_mem_erase hv)
    have:v≠n:=(List.Nodup.mem_erase_iff hn |>.1 hv).1
    omega
   obtain⟨h2,h3⟩:=Gf n (O.erase n) (hn.erase n) h1
   have h4:=List.length_erase (a:=n) (l:=O)
   by_cases hm:n∈O
   ·have:0<O.length:=List.length_pos_of_mem hm
    rw[af hm] at h4
    refine⟨by omega,λhe v hv =>?_⟩
    by_cases e:v=n
    ·subst e; exact hm
    ·exact List.mem_of_mem_erase (h3 (by omega) v (by omega))
   ·rw[ae hm] at h4
    exact⟨by omega,λhe=>by omega⟩
theorem Q5:∀(n:Nat) (O:List Nat),(∀v,v<n→v∈O)→n≤O.length
 | 0,_,_=>bJ _
 | n + 1, O, h => by
   have h1:=Q5 n (O.erase n) (λv hv=>(List.mem_erase_of_ne (by omega)).2 (h v (by omega)))
   have hm:=h n (by omega)
   have h2:=List.length_erase_of_mem hm
   have:0<O.length:=List.length_pos_of_mem hm
   omega
theorem M6:∀n,tot n (λ_=>0)=0
 | 0=>rfl
 | n+1=>by rw[tot,M6 n]
section
variable {n:Nat} {N:Nat→List Nat} {O:List Nat} {c:Nat→Nat}
theorem OI.no_topo (h:OI n N O [] [] c) (hl:O.length<n) (f:Nat→Nat) (hf:MW n N f):False:=by
 have dh:∃v,v<n∧v∉O:=by
  apply cw
  intro hh
  have dT:∀v,v<n→v∈O:=λv hv=>cw λhc=>hh ⟨v,hv,hc⟩
  have:=Q5 n O dT
  omega
 have key:∀k v,v<n→v∉O→f v=k→False:=by
  intro k
  induction k using Nat.strongRecOn with
  | _ k ih =>
    intro v hv qe hk
    have kj:c v=0:=by
     rw[h.cn v hv,List.count_nil,bx]
     have:cnt n N O v=tot n λ_=>0:=by
      refine HI n λu hu =>?_
      by_cases hm:u∈O
      ·simp[hm]
      ·simp only[hm,if_false]
       refine List.count_eq_zero.2 λgV =>?_
       have:=hf u hu v gV
       exact ih (f u) (by omega) u hu hm rfl
     rw[this,M6]
    have:=(h.mem v).2 ⟨hv,kj⟩
    rw[aW] at this
    exact qe this
 obtain⟨v,hv,qe⟩:=dh
 exact key _ v hv qe rfl
theorem OI.order (h:OI n N O [] [] c) (hl:¬O.length<n):O.length=n∧O.Nodup∧(∀v,v∈O↔v<n)∧∀i (h:i<O.length) a,a<n→O[i]∈N a→a∈O.take i:=by
 have dx:=h.nd
 rw[aW] at dx
 have dc:∀v∈O,v<n:=λv hv=>h.lt v (by simp[hv])
 obtain⟨h1,h2⟩:=Gf n O dx dc
 exact⟨by omega,dx,λv=>⟨dc v,h2 (by omega) v⟩,h.ord⟩
theorem M5 {O:List Nat} (hn:∀v,v<n→∀w∈N v,w<n) (dx:O.Nodup) (hm:∀v,v∈O↔v<n) (ho:∀i (h:i<O.length) a,a<n→O[i]∈N a→a∈O.take i):MW n N λv=>O.idxOf v:=by
 intro u hu w hw
 have wy:=(hm w).2 (hn u hu w hw)
 obtain⟨i,hi,rfl⟩:=bC.1 wy
 have h1:=ho i hi u hu hw
 obtain⟨j,hj,rfl⟩:=bC.1 h1
 rw[cO]
 rw[ba] at hj
 show O.idxOf O[j]<O.idxOf O[i]
 rw[dx.idxOf_getElem,dx.idxOf_getElem]
 omega
end
end PI.Sc
