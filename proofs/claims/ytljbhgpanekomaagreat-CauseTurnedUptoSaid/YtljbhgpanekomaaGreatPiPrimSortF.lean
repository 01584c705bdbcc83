import Derived.Test.YtljbhgpanekomaaGreatPiFunc
import Derived.Test.YtljbhgpanekomaaGreatPiLaw
import Derived.Shelf.SlSortCmp.NoneTotal
import Derived.Sort.OwnSortedInts
import Derived.Test.YtljbhgpanekomaaGreatPiCaPlain
import Derived.WalkKit
import Derived.StillTailTactics
import Derived.Deep.RegionWith
set_option linter.unusedSimpArgs false
set_option linter.unusedVariables false
set_option linter.unusedSectionVars false
namespace PI
open Go Go.RowKit Go.Shelf Go.Proofs Go.Sort
section
variable {N:Nm} {P:Program} {ρ:Ren}
theorem TX:∀{cs:List PV} {zs:List (Int×Int)},EM cs=some zs→cs=zs.flatMap yW
 | [],zs,h=>by simp[EM] at h; subst h; rfl
 | [e],zs,h=>by unfold EM at h; split at h<;>simp_all
 | e :: e' :: es, zs, h => by
   unfold EM at h
   split at h
   ·rename_i h0; simp at h0
   ·rename_i a b r h0
    simp only[bJ] at h0
    obtain⟨rfl,rfl,rfl⟩:=h0
    simp only[ab] at h
    obtain⟨ys,h1,rfl⟩:=h
    rw[TX h1]; rfl
   ·simp at h
def BB (x:Int×Int):List Value:=[.int .i64 x.1,.int .i64 x.2]
def Bl (zs:List (Int×Int)):List Value:=zs.flatMap BB
theorem Gx:∀zs:List (Int×Int),(Bl zs).length=zs.length*2
 | []=>rfl
 | z::zs=>by simp only[Bl,aM,ap,aB]; have:=Gx zs; unfold Bl at this; rw[this]; simp[BB]; omega
theorem FM:∀zs:List (Int×Int),(zs.flatMap yW).length=zs.length*2
 | []=>rfl
 | z::zs=>by simp only[aM,ap,aB,FM zs]; simp[yW]; omega
theorem TY:∀(zs:List (Int×Int)) (t:Nat) (h:t<zs.length*2),(Bl zs)[t]? = some ((BB (zs.toArray[t / 2]!))[t % 2]!)
 | [],t,h=>by simp at h
 | z::zs,0,h=>by simp[Bl,BB]
 | z::zs,1,h=>by simp[Bl,BB]
 | z :: zs, t + 2, h => by
   have:=TY zs t (by simp at h; omega)
   simp only[Bl,aM,BB,aK,bg,cz] at this ⊢
   rw[this]
   have e1:(t+2) / 2=t / 2+1:=by omega
   have e2:(t+2) % 2=t % 2:=by omega
   rw[e1,e2]
   simp
theorem TZ (zs:List (Int×Int)):flatK BB 2 zs.toArray=(Bl zs).toArray:=by
 apply Array.ext'
 apply bK
 intro t
 by_cases h:t<zs.length*2
 ·rw[List.toList_toArray,TY zs t h]
  have h1:=get_flatK BB 2 zs.toArray t (by simpa using h)
  rw[getElem!_pos _ t (by simpa using h)] at h1
  rw[ci,cQ (by simpa using h),h1]
 ·rw[cG (by simp; omega),cG (by simp[Gx]; omega)]
theorem T0 {zs:List (Int×Int)}:∀{j:Nat} {x:PV},(zs.flatMap yW)[j]? = some x→∃z,x = .int .i64 z∧(Bl zs)[j]? = some (.int .i64 z):=by
 induction zs with
 | nil=>intro j x h; simp at h
 | cons z zs ih =>
   intro j x h
   match j with
   | 0=>simp[yW] at h; exact⟨_,h.symm,by simp[Bl,BB]⟩
   | 1=>simp[yW] at h; exact⟨_,h.symm,by simp[Bl,BB]⟩
   | j + 2 =>
     simp only[aM,yW,aK,bg,cz] at h
     obtain⟨z',h1,h2⟩:=ih h
     exact⟨z',h1,by simpa[Bl,BB] using h2⟩
theorem c1Q {w:World} {g:Nat} {cur:Array Value} {e:TypeId} {ss:List Value} (hb:w.heap[g]? = some (.cells cur e (0,0))) (ht:cur.toList.take ss.length=ss):Holds (id:Value→Value) w g 0 ss.toArray:=by
 intro j hj
 have lK:j<ss.length:=by simpa using hj
 refine⟨?_,by simp[World.frozen?,hb]⟩
 have h1:(cur.toList.take ss.length)[j]? = ss[j]? := by rw[ht]
 rw[cy lK] at h1
 simp only[World.cell?,hb,aS]
 simp only[Option.isSome_none,aL,if_false]
 rw[← ci,h1]
 simp[lK]
theorem c3O {w:World} {g n:Nat} {os:Array Obj} {cur:Array Value} {e:TypeId} {fr:Nat×Nat} (d:Array Value) (hb:w.heap[g]? = some (.cells cur e fr)):
  (grow (putRow id (Sort.ahead w n) g 0 d) os).heap[g]? = some (.cells (putCells id 0 d cur) e fr):=by
 have hg:g<w.heap.size:=(aZ.1 hb).1
 rw[heap_grow_old _ _ (by simpa using hg)]
 simp[putRow,mapBlock,Sort.ahead,Array.getElem?_modify,hb,onCells]
theorem b7V {w:World} {g n:Nat} {os:Array Obj} (d:Array Value):w.grownBy (grow (putRow id (Sort.ahead w n) g 0 d) os) (some g):=by
 refine⟨rfl,rfl,rfl,by simp,λk hk da =>?_⟩
 rw[heap_grow_old _ _ (by simpa using hk)]
 have:g≠k:=λe=>da (by rw[e])
 simp[putRow,mapBlock,Sort.ahead,Array.getElem?_modify,this]
def Ec (x y:Int×Int):Int:=if x.1<y.1 then -1 else if y.1<x.1 then 1 else if x.2<y.2 then -1 else if y.2<x.2 then 1 else 0
theorem Iz (x y:Int×Int):ltOf Ec x y=decide (x.1<y.1∨x.1=y.1∧x.2<y.2):=by
 unfold ltOf Ec
 by_cases h1:x.1<y.1
 ·simp[h1]
 ·by_cases h2:y.1<x.1
  ·simp[h1,h2]; omega
  ·by_cases h3:x.2<y.2
   ·simp[h1,h2,h3]; omega
   ·by_cases h4:y.2<x.2
    ·simp[h1,h2,h3,h4]
    ·simp[h1,h2,h3,h4]
theorem b9B:SWO (ltOf Ec) where
 irrefl x:=by rw[Iz]; simp
 trans x y z h1 h2:=by rw[Iz] at *; simp at *; omega
 ntrans x y z h1 h2:=by rw[Iz] at *; simp at *; omega
theorem c1R:(λx y:Int×Int => !(ltOf Ec) y x)=Av:=by
 funext x y
 rw[Iz,Av,← decide_not]
 refine decide_eq_decide.2 ?_
 omega
theorem c5H {k kc:Nat} (hk:N.fn k=ρ.f 6) (L:SlLaysF0.n6 P ρ) (aE:∀w,(isAgg (ρ.t 24)).run P w = .ok true w) (zE:∀w,(Go.sizeOf (ρ.t 24)).run P w = .ok 2 w)
  (eg:∀args w,(callFunc (N.fn kc) args).run P w = .ok (.enter (N.fn kc) args) w)
  (dA:∀(x y:Int×Int) (W:World),Calls P (N.fn kc) #[.agg (BB x).toArray,.agg (BB y).toArray] W λe w'=>e = .returned (.int .i64 (Ec x y))∧∃q os',w'=grow (W.drewN q) os'):EG N P k (EI kc):=by
 intro args r h h' hg w G vals dW dc cZ
 unfold EI at hg
 split at hg
 ·rename_i n len kf
  split at hg
  ·rename_i cs dS
   split at hg
   ·rename_i cS
    obtain⟨rfl,cS⟩:=cS
    simp only[ab,ac] at hg
    obtain⟨zs,ia,rfl,rfl⟩:=hg
    rw[c1O]
    have hz:=TX ia
    have ka:zs.length=len:=by
     have:=aI List.length hz
     rw[FM] at this
     simp at this; omega
    obtain⟨l⟩:=vals
    match l,dc with
    | [v,v2],_=>
    have hv:=cZ 0 v _ rfl rfl
    have iV:=cZ 1 v2 _ rfl rfl
    obtain rfl:v2 = .func (.func (N.fn kf)) #[] #[]:=by
     cases iV with
     | func _ fs cs _ _ _ e1 e2 =>
       have:fs = #[]:=Array.eq_empty_of_size_eq_zero (by simpa using e1)
       subst this
       have:cs = #[]:=Array.eq_empty_of_size_eq_zero (by simpa using e2)
       subst this
       rfl
    cases hv with
    | rowp _ _ _ _ b cap hb db ec=>
    rcases dW.heap.1 n _ dS with hx|⟨b',k1,k2,f,cv,T,a1,a2,a3⟩
    ·simp at hx
    have:b'=b:=by rw[hb] at k1; simpa using k1.symm
    subst this
    have gf:b'<w.heap.size:=(aZ.1 a1).1
    have lv:cv.toList.take (Bl zs).length=Bl zs:=by
     rw[Gx]
     apply bK
     intro j
     by_cases hj:j<zs.length*2
     ·rw[cy hj,ci]
      have ov:j<cv.size:=by omega
      have h1:cs[j]? = (zs.flatMap yW)[j]? := by
       have:=aI (λl:List PV=>l[j]?) hz
       rw[cy (by omega)] at this
       exact this
      obtain⟨x,hx⟩:∃x,(zs.flatMap yW)[j]? = some x:=⟨_,am (by rw[FM]; exact hj)⟩
      obtain⟨z,rfl,h2⟩:=T0 hx
      have h4:=(a3 j cv[j] _ (by simp[ov]) (h1.trans hx)).1
      have h3:cv[j]? = some cv[j]:=by simp[ov]
      generalize hc:cv[j]=c4 at h4 h3
      cases h4
      rw[h3,h2]
     ·rw[List.getElem?_take_eq_none (by omega),cG (by rw[Gx]; omega)]
    have hH:HoldsK BB 2 w b' 0 zs.toArray:=by
     unfold HoldsK
     rw[TZ]
     exact c1Q a1 lv
    have hc:=AnyQ.slices_SortFunc_total L 2 aE zE BB (λ_=>rfl) (λx v hv=>by simp[BB] at hv; rcases hv with rfl | rfl<;>rfl) Ec b9B (N.fn kf) #[] b' 0 cap zs.toArray w eg
     (λm os dk hs x y=>dA x y _) hH gf (by simpa[ka] using cS.2) (λx y h1 h2=>by
      rw[Iz] at h1 h2
      simp at h1 h2
      exact Prod.ext (by omega) (by omega))
    rw[c1R] at hc
    simp only[cj,ka] at hc
    refine(hk▸hc).mono ?_
    rintro e w' ⟨rfl,m,os,rfl⟩
    obtain⟨ts,ff⟩:∃ts,ts=zs.mergeSort Av:=⟨_,rfl⟩
    have pH:ts.length=len:=by rw[← ka,ff]; exact List.length_mergeSort _
    rw[← ff]
    show ∃v G',_∧_∧_∧_
    have qL:=b7V (w:=w) (g:=b') (n:=m) (os:=os) (Bl ts).toArray
    have mt:=c3O (n:=m) (os:=os) (Bl ts).toArray a1
    have xz:sortWorldK BB 2 w b' 0 m ts.toArray os=grow (putRow id (Sort.ahead w m) b' 0 (Bl ts).toArray) os:=by
     unfold sortWorldK putRowK
     rw[TZ]
    rw[xz]
    generalize gA:grow (putRow id (Sort.ahead w m) b' 0 (Bl ts).toArray) os=w' at qL mt
    obtain⟨g1,g2,g3,g4,g5⟩:=qL
    have gV:∀x,x<w.heap.size→x≠b'→w'.heap[x]? = w.heap[x]? := λx hx da=>g5 x hx (by simpa using da)
    have eG:(putCells id 0 (Bl ts).toArray cv).size=cv.size:=by simp[putCells]
    have jA:ShapeLe w w' := .one b' (λx hx da=>gV x hx da) (λs hs=>by
     simp only[World.shape?,a1] at hs
     simp only[World.shape?,mt,eG]
     exact hs) (λs hs=>by rw[Oo a1] at hs; simp at hs)
    have cR:Ext w G w' G:=by
     refine⟨g1,g2,g3,g4,?_,?_,λ_ _ h => .inl h,λ_ h => .inr h,λ_ _ h=>h,jA,rfl⟩
     ·intro x hx ho
      exact gV x hx (by rintro rfl; rw[k2] at ho; simp at ho)
     ·intro x o hf
      refine⟨hf,?_⟩
      have da:x≠b':=by rintro rfl; exact f o hf
      simp only[World.cell?,gV x (dW.fixlt x o hf) da]
    have cU:zo (λk=>k = .hobj n) w G w' G:=by
     refine⟨?_,λ_ _ h=>h⟩
     intro x kx hx da
     refine⟨hx,gV x (dW.owlt x kx hx) ?_,λ_ h=>h⟩
     rintro rfl
     rw[k2] at hx
     simp only[aa] at hx
     exact da hx.symm
    refine⟨_,G,rfl,.tuple _ _ rfl (by intro i c p hc hp; simp at hc),cR,?_⟩
    refine⟨dW.only,λx o hf=>aT (dW.fixlt x o hf) g4,λx kx hx=>aT (dW.owlt x kx hx) g4,?_,λm x hx=>by simpa using dW.hdom m x hx⟩
    refine dW.heap.keepBut cR cU (by intro n' k' da; simp[da]) ?_
    intro je
    refine .inr ⟨b',hb,k2,f,_,T,mt,?_,?_⟩
    ·rw[eG]
     have h0:=cS.1
     simp only[ap,cg,FM]
     omega
    ·intro j c x hc hx
     have lP:j<cv.size:=by rw[← eG]; exact(aZ.1 hc).1
     by_cases hj:j<len*2
     ·have lQ:j<(Bl ts).length:=by rw[Gx]; omega
      rw[al (by rw[FM]; omega)] at hx
      obtain⟨z,rfl,h2⟩:=T0 hx
      have:c = .int .i64 z:=by
       simp[putCells,lP,lQ] at hc
       rw[am lQ] at h2
       simp only[aa] at h2
       rw[← hc,h2]
      subst this
      exact⟨.int _ _,rfl,True.intro⟩
     ·have lQ:(ts.flatMap yW).length≤j:=by rw[FM]; omega
      rw[aq lQ] at hx
      simp only[bi,FM] at hx
      have hx:cs[len*2+(j - ts.length*2)]? = some x:=hx
      rw[show len*2+(j - ts.length*2)=j by omega] at hx
      have gO:cv[j]? = some c:=by
       simp[putCells,lP,show ¬j<(Bl ts).length by rw[Gx]; omega] at hc
       simp[lP,hc]
      exact(a3 j c x gO hx).keep cR cU (by simp)
   ·simp at hg
  ·simp at hg
 ·rename_i o q
  simp only[aa,ac] at hg
  obtain⟨rfl,rfl⟩:=hg
  obtain⟨l⟩:=vals
  match l,dc with
  | [v,v2],_=>
  have hv:=cZ 0 v _ rfl rfl
  obtain⟨p,cap,rfl⟩:∃p cap,v = .slice p 0 cap:=by
   cases hv with
   | nils=>exact⟨none,0,rfl⟩
   | void _ a cap=>exact⟨some a,cap,rfl⟩
   | list _ b off len cap sz _ cv cS db _ _ _ _=>simp at cS; subst cS; exact⟨_,cap,rfl⟩
  refine(hk▸AnyF.slices_SortFunc_none L p cap v2 w).mono ?_
  rintro e w' ⟨rfl,rfl⟩
  exact⟨_,G,rfl,.tuple _ _ rfl (by intro i c p hc hp; simp at hc),Ext.refl _ _,dW⟩
 ·simp at hg
end
end PI
set_option maxRecDepth 100000
namespace Go.Proofs.YtljbhgpanekomaaGreat.Pi
open Go Go.Shelf Go.RowKit Go.Lib Go.Sort PI
set_option maxHeartbeats 4000000 in
theorem c4J (b:Nat) (x y:Int) (W:World) (h0:x≠0) (hx:W.cell? ⟨b,0,none⟩=some (.int .i64 x)) (hy:W.cell? ⟨b,1,none⟩=some (.int .i64 y)):
  Calls Tryz.prog 51 #[.slice (some ⟨b,0,none⟩) 2 2] W λe w'=>e = .returned (.int .i64 x)∧w'=W:=by
 have h1:(x != 0)=true:=by simp[h0]
 go_enter Tryz.func51,Tryz.ntmps51
 go_wp2
 refine wp_loop_rounds 1 ?_
 rw[rounds_succ]
 go_wp2
 go_ret
 exact⟨rfl,rfl⟩
set_option maxHeartbeats 4000000 in
theorem c7y (b:Nat) (y:Int) (W:World) (h0:y=0∨y≠0) (hx:W.cell? ⟨b,0,none⟩=some (.int .i64 0)) (hy:W.cell? ⟨b,1,none⟩=some (.int .i64 y)):
  Calls Tryz.prog 51 #[.slice (some ⟨b,0,none⟩) 2 2] W λe w'=>e = .returned (.int .i64 y)∧w'=W:=by
 go_enter Tryz.func51,Tryz.ntmps51
 go_wp2
 refine wp_loop_rounds 3 ?_
 rw[rounds_succ]
 go_wp2
 rw[rounds_succ]
 rcases h0 with rfl|h0
 ·go_wp2
  rw[rounds_succ]
  go_wp2
  go_ret
  exact⟨rfl,rfl⟩
 ·have h1:(y != 0)=true:=by simp[h0]
  go_wp2
  go_ret
  exact⟨rfl,rfl⟩
theorem c7z (b:Nat) (x y:Int) (W:World) (hx:W.cell? ⟨b,0,none⟩=some (.int .i64 x)) (hy:W.cell? ⟨b,1,none⟩=some (.int .i64 y)):
  Calls Tryz.prog 51 #[.slice (some ⟨b,0,none⟩) 2 2] W λe w'=>e = .returned (.int .i64 (if x=0 then y else x))∧w'=W:=by
 by_cases h:x=0
 ·subst h
  rw[ai rfl]
  exact c7y b y W (by omega) hx hy
 ·rw[ae h]
  exact c4J b x y W h hx hy
theorem c0Y (x y:Int×Int):(if Lib.compareInt x.1 y.1=0 then Lib.compareInt x.2 y.2 else Lib.compareInt x.1 y.1)=Ec x y:=by
 unfold Lib.compareInt Ec
 (repeat' split)<;>first|rfl|omega
theorem c0Z {P:Program} {id:Nat} {Q:Exit→Act→World→Prop} {a:Act} {w:World} {l:List Oper} (n:Nat) (hm:P.follows .mixedOrders=true) (hB:Region.lexTailB .any l.toArray n=true)
  (h:wpStill P l.toArray w.drew (λa'=>wpList P l.toArray Q (l.drop n) a' w.drew) (l.take n) a):(Code.region id l.toArray true).wp P Q a w:=wp_region_still_tail n hm hB h
set_option maxHeartbeats 4000000 in
theorem c4K (x y:Int×Int) (W:World):
  Calls Tryz.prog 50 #[.agg (BB x).toArray,.agg (BB y).toArray] W λe w'=>e = .returned (.int .i64 (Ec x y))∧∃q os',w'=grow (W.drewN q) os':=by
 have lU:=λx y W'=>Any.cmp_Compare_int Tryz.lays122 x y W'
 change ∀x y W',Calls Tryz.prog 52 #[.int .i64 x,.int .i64 y] W' (λe w'=>e = .returned (.int .i64 (Lib.compareInt x y))∧w'=W') at lU
 rw[← c0Y]
 obtain⟨x1,x2⟩:=x
 obtain⟨y1,y2⟩:=y
 simp only
 show Calls Tryz.prog 50 #[.agg #[.int .i64 x1,.int .i64 x2],.agg #[.int .i64 y1,.int .i64 y2]] W _
 have h1:=lU x1 y1
 have h2:=lU x2 y2
 generalize Lib.compareInt x1 y1=r1 at h1 ⊢
 generalize Lib.compareInt x2 y2=r2 at h2 ⊢
 clear lU
 have uG:=λb W hx hy=>c7z b r1 r2 W hx hy
 generalize hr:(if r1=0 then r2 else r1)=r at uG ⊢
 clear hr
 go_enter Tryz.func50,Tryz.ntmps50
 go_wp2
 refine c0Z 10 (by kernel_rfl) (by kernel_rfl) ?_
 simp only[List.take_succ_cons,List.take_zero,List.drop_succ_cons,List.drop_zero]
 still_step
 still_step
 still_step
 still_step
 still_call (h1 _)
 still_step
 still_step
 still_step
 still_step
 still_call (h2 _)
 refine wpStill_nil ?_
 go_wp2_with fail
 refine(uG _ _ ?_ ?_).mono ?_
 ·simp only[World.cell?_drew]; exact World.cell?_alloc_at _ _ _ _ (by simp)
 ·simp only[World.cell?_drew]; exact World.cell?_alloc_at _ _ _ _ (by simp)
 rintro e w' ⟨rfl,rfl⟩
 simp only
 go_wp2
 go_ret
 exact⟨rfl,1,_,by rw[alloc_eq_grow,alloc_eq_grow,alloc_eq_grow,grow_grow,grow_grow]; rfl⟩
end Go.Proofs.YtljbhgpanekomaaGreat.Pi
