import Derived.Test.YtljbhgpanekomaaGreatDoorPiScRun10
set_option maxRecDepth 100000
set_option linter.unusedSimpArgs false
set_option linter.unusedVariables false
set_option linter.unusedSectionVars false
namespace PI.Sc
open Go (IntKind BinOp UnOp)
open Short
def zm (y:Expr→List PObj→Option (Out×List PObj)):List Expr→List PObj→Option (Out×List PObj)
 | [],h=>some (.val (.bool true),h)
 | x :: xs, h => match y x h with
   | some (.val (.bool true),h')=>zm y xs h'
   | r=>r
theorem Py (y:Expr→List PObj→Option (Out×List PObj)):∀(a b:List Expr) (h:List PObj),zm y (a++b) h=match zm y a h with
  | some (.val (.bool true),h')=>zm y b h'
  | r=>r
 | [],b,h=>rfl
 | x :: a, b, h => by
   simp only[aW,zm]
   split
   ·exact Py y a b _
   ·rename_i c9
    split
    ·rename_i h1; exact absurd h1 (c9 _)
    ·rfl
theorem F0 {y:Expr→List PObj→Option (Out×List PObj)} {f:Expr→Int} {R:Int→Out×List PObj} {h:List PObj}:∀(l:List Expr),(∀x∈l,f x=0→y x h=some (.val (.bool true),h))→(∀x∈l,f x≠0→y x h=some (R (f x)))→(∀e h',R e≠(.val (.bool true),h'))→zm y l h=some (if wA f l=0 then(.val (.bool true),h) else R (wA f l))
 | [],_,_,_=>by simp[zm,wA]
 | x :: l, h1, h2, h3 => by
   simp only[zm]
   by_cases hx:f x=0
   ·rw[h1 x (by simp) hx]
    simp only[wA,hx,if_true]
    exact F0 l (λz hz=>h1 z (by simp[hz])) (λz hz=>h2 z (by simp[hz])) h3
   ·rw[h2 x (by simp) hx]
    simp only[wA,hx,if_false]
    split
    ·rename_i hh; simp only[aa] at hh; exact absurd hh (h3 _ _)
    ·rfl
theorem Pz {y:Expr→List PObj→Option (Out×List PObj)} {H:Nat→List PObj}:∀(l:List Expr) (i:Nat),(∀x∈l,∀k,i≤k→k<i+l.length→y x (H k)=some (.val (.bool true),H (k+1)))→zm y l (H i)=some (.val (.bool true),H (i+l.length))
 | [],i,_=>rfl
 | x :: l, i, h => by
   simp only[zm,h x (by simp) i (aq _) (by simp)]
   rw[Pz l (i+1) (λz hz k h1 h2=>h z (by simp[hz]) k (by omega) (by simp; omega)),bi]
   congr 3; omega
theorem yAt (H0:List PObj) (R:Expr→Out×List PObj):∃y:Expr→List PObj→Option (Out×List PObj),(∀x,y x H0=some (R x))∧∀x h r,y x h=some r→h=H0∧r=R x:=by
 classical
 refine⟨λx h=>if h=H0 then some (R x) else none,λx=>ah rfl,λx h r hr =>?_⟩
 simp only at hr
 split at hr
 ·rename_i he; exact⟨he,(Option.some.inj hr).symm⟩
 ·simp at hr
theorem yO (n:Nat) (cs:List PV) (off:Nat) (v:PV):wM n false cs off v=if off<cs.length∧v.flat=true then some (cs.set off v) else none:=rfl
section
variable {L:Nat→Option PFunc} {V l:List PV} {g:Nat} {h:List PObj}
@[simp] theorem d2e {n:Nat} {o o':PObj}:(h.set n o).set n o'=h.set n o':=List.set_set ..
theorem Fq {n:Nat} {o:PObj} (hn:h[n]? = some o):h.set n o=h:=by
 obtain⟨cO,he⟩:=aj.1 hn
 rw[← he]; exact List.set_getElem_self cO
end
section
variable {L:Nat→Option PFunc} (hL:∀k f,LS k=some f→L k=some f)
include hL
theorem c6R (kb:Nat) (first captured:List PV) (y:Expr→List PObj→Option (Out×List PObj)) (hfr:∀p∈first++captured,cp p=some p) (hb:∀x h r,y x h=some r→(∃b h',r=(.val (.bool b),h'))∨∃v h',r=(.boom v,h')) (e:Expr):EW e→(∀x∈e.list,∀h r,y x h=some r→wQ L kb (first++[wy x]++captured) h=some r)→∀(h:List PObj) (r:Out×List PObj),zm y e.list h=some r→wQ L 141 [wy e,.func kb first captured] h=some r:=by
 induction e using Expr.ind with
 | h e ih=>
 intro he hy h r hr
 obtain⟨_,_,dt⟩:=he.self
 rw[Expr.list_eq] at hr
 simp only[zm] at hr
 refine zF (hL 141 _ rfl) rfl ?_
 cases qn:y e h with
 | none=>rw[qn] at hr; simp at hr
 | some q =>
   rw[qn] at hr
   have jP:=hy e (by rw[Expr.list_eq]; simp) h q qn
   simp only[aC] at jP
   rcases hb e h q qn with⟨b,h',rfl⟩|⟨v,h',rfl⟩
   ·cases b with
    | false =>
      simp only[aa] at hr
      subst hr
      simp at jP
      simp[Ck,jP]
    | true =>
      simp only at hr
      simp at jP
      simp[Ck,jP]
      suffices H:∀(n i:Nat) (h:List PObj) (x4:PV) (g:Nat),i+n=e.args.length→zm y ((e.args.drop i).flatMap Expr.list) h=some r→wpL L FJ ⟨[wy e,.func kb first captured,.loc 0 (wy e).cells,.bool false,x4,.list false (e.args.map wy),.int .i64 e.args.length,.int .i64 i],[],g,h⟩ (AQ 0 (A8 L (S (R [t 3 T]) Y) (BV L Ck r))) by
       simpa[Ck] using H e.args.length 0 h' .dead 1 (by omega) (by simpa using hr)
      intro n
      induction n with
      | zero =>
        intro i h x4 g hi hr
        have:i=e.args.length:=by omega
        subst this
        rw[ba (aq _)] at hr
        simp only[List.flatMap_nil,zm,aa] at hr
        subst hr
        rw[FJ,zo]
        simp[Ck]
      | succ n ih2 =>
        intro i h x4 g hi hr
        have dC:i<e.args.length:=by omega
        have hw:=wC i (by omega)
        rw[aN dC,bh,Py] at hr
        rw[FJ,zo]
        cases hq:zm y e.args[i].list h with
        | none=>rw[hq] at hr; simp at hr
        | some q =>
          have hc:=ih e.args[i] (ae dC) (he.arg (ae dC)) (λx hx=>hy x (by rw[Expr.list_eq]; exact bD _ (List.mem_flatMap.2 ⟨_,ae dC,hx⟩))) h q hq
          rw[hq] at hr
          have jW:(∃b h',q=(.val (.bool b),h'))∨∃v h',q=(.boom v,h'):=by
           have key:∀(l:List Expr) (h:List PObj) (q),zm y l h=some q→(∃b h',q=(.val (.bool b),h'))∨∃v h',q=(.boom v,h'):=by
            intro l
            induction l with
            | nil=>intro h q hq; simp only[zm,aa] at hq; exact .inl ⟨true,h,hq.symm⟩
            | cons x l ihl =>
              intro h q hq
              simp only[zm] at hq
              split at hq
              ·exact ihl _ _ hq
              ·exact hb _ _ _ hq
           exact key _ _ _ hq
          rcases jW with⟨b,h2,rfl⟩|⟨v,h2,rfl⟩
          ·cases b with
           | false =>
             simp only[aa] at hr
             subst hr
             simp[dC,hc,Ck]
           | true =>
             simp only at hr
             simp[dC,hc,hw]
             have:=ih2 (i+1) h2 (.loc g (wy e.args[i]).cells) (g+1) (by omega) hr
             rw[FJ] at this
             simpa using this
          ·simp only[aa] at hr
           subst hr
           simp[dC,hc,Ck]
   ·simp only[aa] at hr
    subst hr
    simp at jP
    simp[Ck,jP]
theorem F1 (e:Expr) (h:List PObj):wr L 81 [wy e] h=some (.func 114 [] [.cptr (wy e).cells],h):=by
 refine wz (hL 81 _ rfl) rfl ?_
 simp[J7]
theorem F2 {V l:List PV} {g:Nat} {h:List PObj} {Q:PExit→St→Prop} {x:PX} {kb:Nat} {caps:List PX} {cs:List PV} (e:Expr) (he:EW e) (hx:rd ⟨V,l,g,h⟩ x=some (.func 114 [] [.cptr (wy e).cells])) (hc:rdAll ⟨V,l,g,h⟩ caps=some cs) (ea:∀p∈cs,cp p=some p)
  (y:Expr→List PObj→Option (Out×List PObj)) (hy:∀x∈e.list,∀h' r,y x h'=some r→wQ L kb (.ptr h.length 0::(cs++[wy x])) h'=some r) (hb:∀x h r,y x h=some r→(∃b h',r=(.val (.bool b),h'))∨∃v h',r=(.boom v,h'))
  (r:Out×List PObj) (hr:zm y e.list (h++[.loop true])=some r) (hq:AZ V l g h.length Q r):wpL L (.rangeF x kb caps) ⟨V,l,g,h⟩ Q:=by
 have iy:CL L 114=true:=by unfold CL; rw[hL 114 _ rfl]; rfl
 have hE:=c6R hL kb (.ptr h.length 0::cs) [] y (by
  intro p hp
  simp only[aL,aA] at hp
  rcases hp with rfl|hp
  ·rfl
  ·exact ea p hp) hb e he (λx hx h' r hr=>by have:=hy x hx h' r hr; simpa using this) _ r hr
 have ho:∃r',wQ L 114 ([] ++ .func kb (.ptr h.length 0::cs) []::[.cptr (wy e).cells]) (h++[.loop true])=some r'∧AZ V l g h.length Q r':=by
  obtain⟨o,h'⟩:=r
  cases o with
  | val v =>
    refine⟨(.val (.tuple []),h'),?_,hq⟩
    refine zF (hL 114 _ rfl) rfl ?_
    simp[Hn,hE]
  | boom v =>
    refine⟨(.boom v,h'),?_,hq⟩
    refine zF (hL 114 _ rfl) rfl ?_
    simp[Hn,hE]
 obtain⟨r',h1,h2⟩:=ho
 exact c0q hx hc iy h1 h2
theorem c4f (e:Expr) (he:EW e) (hp:e.parts≤1500) (h:List PObj):wr L 148 [wy e] []=some (.int .i64 e.parts,[.cells [.int .i64 e.parts],.gone]):=by
 refine wz (hL 148 _ rfl) rfl ?_
 have hE:=F1 hL e [.cells [.int .i64 0]]
 simp[Ky,hE]
 have ey:∀(x:Expr) (c:Nat),c≤1500→wQ L 193 [.ptr 1 0,.ptr 0 0,wy x] [.cells [.int .i64 c],.loop true]=some (.val (.bool true),[.cells [.int .i64 (c+1:Nat)],.loop true]):=by
  intro x c hc
  have hw:=wC c (by omega)
  refine Fc (as:=[.ptr 0 0,wy x]) (hL 193 _ rfl) rfl rfl rfl ?_
  simp[KN,hw,yO,wD]
 refine F2 hL e he (cs:=[.ptr 0 0]) (by simp) (by simp) (by simp) (λx h=>match h with | [.cells [.int .i64 c],.loop true]=>if 0≤c∧c≤1500 then some (.val (.bool true),[.cells [.int .i64 (c+1)],.loop true]) else none | _=>none) ?_ ?_ (.val (.bool true),[.cells [.int .i64 e.parts],.loop true]) ?_ ?_
 ·intro x _ h' r hr
  split at hr
  ·split at hr
   ·rename_i c hc
    simp only[aa] at hr
    subst hr
    obtain⟨n,rfl⟩:=Int.eq_ofNat_of_zero_le hc.1
    have:=ey x n (by omega)
    simpa using this
   ·simp at hr
  ·simp at hr
 ·intro x h r hr
  split at hr
  ·split at hr
   ·simp only[aa] at hr; exact .inl ⟨true,_,hr.symm⟩
   ·simp at hr
  ·simp at hr
 ·have:=Pz (y:=λx h=>match h with | [.cells [.int .i64 c],.loop true]=>if 0≤c∧c≤1500 then some (.val (.bool true),[.cells [.int .i64 (c+1)],.loop true]) else none | _=>none) (H:=λk=>[.cells [.int .i64 k],.loop true]) e.list 0 (by
   intro x hx k h1 h2
   have hk:k≤1500:=by have:e.list.length=e.parts:=rfl; omega
   have:(0:Int)≤(k:Int)∧(k:Int)≤1500:=by omega
   simp[this])
  have cI:e.list.length=e.parts:=rfl
  rw[cI] at this
  simp only[aK] at this
  simpa using this
 ·simp[AZ]
def DL (f:Expr→Int) (x:Expr):List PObj→Option (Out×List PObj)
 | [.cells [c],.loop true]=>some (if f x=0 then(.val (.bool true),[.cells [c],.loop true]) else(.val (.bool false),[.cells [.int .i64 (f x)],.over none]))
 | _=>none
theorem d0r (f:Expr→Int) (x:Expr) (h:List PObj) (r:Out×List PObj) (hr:DL f x h=some r):(∃b h',r=(.val (.bool b),h'))∨∃v h',r=(.boom v,h'):=by
 have _:=hL
 unfold DL at hr
 split at hr
 ·simp only[aa] at hr
  subst hr
  split
  ·exact .inl ⟨_,_,rfl⟩
  ·exact .inl ⟨_,_,rfl⟩
 ·simp at hr
theorem c4g (f:Expr→Int) (c:PV) (l:List Expr):zm (DL f) l [.cells [c],.loop true]=some (if wA f l=0 then(.val (.bool true),[.cells [c],.loop true]) else(.val (.bool false),[.cells [.int .i64 (wA f l)],.over none])):=by
 have _:=hL
 refine F0 (R:=λe=>(.val (.bool false),[.cells [.int .i64 e],.over none])) l ?_ ?_ ?_
 ·intro x _ hx; simp[DL,hx]
 ·intro x _ hx; simp[DL,hx]
 ·intro e h'; simp
theorem c2C (e:Expr) (he:EW e) (hp:e.parts≤1500):∃h',wr L 122 [wy e] []=some (.int .i64 (C7 e),h'):=by
 suffices H:∃r,wr L 122 [wy e] []=some r∧r.1 = .int .i64 (C7 e) by
  obtain⟨⟨v,h'⟩,h1,h2⟩:=H
  exact⟨h',by rw[h1]; simp only at h2; rw[h2]⟩
 refine Bl (hL 122 _ rfl) rfl ?_
 have h1:=c4f hL e he hp []
 have h2:=c2B hL e hp []
 have hE:=F1 hL e [.cells [.int .i64 0]]
 have cQ:=PA hp
 unfold C7
 rw[cQ]
 by_cases b1:(400:Int)<e.parts
 ·have b2:¬(e.parts:Int)≤400:=by omega
  have b3:400<e.parts:=by omega
  have b4:¬e.parts≤400:=by omega
  simp[FF,h1,b1,b2,b3,b4,need,ww,yO,wD,yJ]
 ·have b2:(e.parts:Int)≤400:=by omega
  have b3:¬400<e.parts:=by omega
  have b4:e.parts≤400:=by omega
  by_cases d1:32<e.depth
  ·have d2:¬e.depth≤32:=by omega
   simp[FF,h1,h2,b1,b2,b3,b4,d1,d2,need,ww,yO,wD,yJ]
  ·have d2:e.depth≤32:=by omega
   simp[FF,h1,h2,b1,b2,b3,b4,d1,d2,hE]
   have ey:∀(x:Expr) (c:PV),wQ L 191 [.ptr 1 0,.ptr 0 0,wy x] [.cells [c],.loop true]=some (if Az x=0 then(.val (.bool true),[.cells [c],.loop true]) else(.val (.bool false),[.cells [.int .i64 (Az x)],.over none])):=by
    intro x c
    have ho:=d0q hL x []
    refine Fc (as:=[.ptr 0 0,wy x]) (hL 191 _ rfl) rfl rfl rfl ?_
    by_cases hz:Az x=0
    ·rw[hz] at ho
     simp[HA,ho,hz]
    ·simp[HA,ho,hz,yO]
   refine F2 hL e he (cs:=[.ptr 0 0]) (by simp) (by simp) (by simp) (DL Az) ?_ (d0r hL Az) _ (c4g hL Az (.int .i64 0) e.list) ?_
   ·intro x _ h' r hr
    unfold DL at hr
    split at hr
    ·simp only[aa] at hr
     subst hr
     simpa using ey x _
    ·simp at hr
   ·by_cases hf:wA Az e.list=0
    ·simp[hf,AZ,yO,wD,yJ]
    ·simp[hf,AZ,wD,yJ]
theorem PB (e:Expr) (he:EW e):∃h',wr L 147 [wy e] []=some (.bool (Bt e),h'):=by
 suffices H:∃r,wr L 147 [wy e] []=some r∧r.1 = .bool (Bt e) by
  obtain⟨⟨v,h'⟩,h1,h2⟩:=H
  exact⟨h',by rw[h1]; simp only at h2; rw[h2]⟩
 refine Bl (hL 147 _ rfl) rfl ?_
 have hE:=F1 hL e [.cells [.bool false]]
 obtain⟨f,hf⟩:∃f:Expr→Int,∀x,f x=if x.kind=5∨x.kind=6∨x.kind=7∨x.kind=10∨x.kind=11 then 1 else 0:=⟨_,λ_=>rfl⟩
 have dz:Bt e=decide (wA f e.list=0):=by
  unfold Bt
  rw[aF,aD,ak,A2]
  constructor
  ·intro h x hx
   have:=h x hx
   rw[hf,af (by simpa using this)]
  ·intro h x hx
   have:=h x hx
   rw[hf] at this
   split at this
   ·simp at this
   ·rename_i hn; simpa using hn
 rw[dz]
 simp[Kx,hE]
 have ey:∀(x:Expr) (c:PV),wQ L 192 [.ptr 1 0,.ptr 0 0,wy x] [.cells [c],.loop true]=some (if f x=0 then(.val (.bool true),[.cells [c],.loop true]) else(.val (.bool false),[.cells [.bool false],.over none])):=by
  intro x c
  refine Fc (as:=[.ptr 0 0,wy x]) (hL 192 _ rfl) rfl rfl rfl ?_
  rw[hf]
  by_cases k5:x.kind=5
  ·simp[C4,tf k5,yO]
  by_cases k6:x.kind=6
  ·simp[C4,tf k5,tf k6,yO]
  by_cases k7:x.kind=7
  ·simp[C4,tf k5,tf k6,tf k7,yO]
  by_cases k10:x.kind=10
  ·simp[C4,tf k5,tf k6,tf k7,tf k10,yO]
  by_cases k11:x.kind=11
  ·simp[C4,tf k5,tf k6,tf k7,tf k10,tf k11,yO]
  simp[C4,tf k5,tf k6,tf k7,tf k10,tf k11]
 obtain⟨y,hy⟩:∃y:Expr→List PObj→Option (Out×List PObj),∀x h,y x h=match h with
  | [.cells [c],.loop true]=>some (if f x=0 then(.val (.bool true),[.cells [c],.loop true]) else(.val (.bool false),[.cells [.bool false],.over none]))
  | _=>none:=⟨_,λ_ _=>rfl⟩
 have oZ:zm y e.list [.cells [.bool false],.loop true]=some (if wA f e.list=0 then(.val (.bool true),[.cells [.bool false],.loop true]) else(.val (.bool false),[.cells [.bool false],.over none])):=by
  refine F0 (f:=f) (R:=λ_=>(.val (.bool false),[.cells [.bool false],.over none])) e.list ?_ ?_ ?_
  ·intro x _ hx; simp[hy,hx]
  ·intro x _ hx; simp[hy,hx]
  ·intro e h'; simp
 refine F2 hL e he (cs:=[.ptr 0 0]) (by simp) (by simp) (by simp) y ?_ ?_ _ oZ ?_
 ·intro x _ h' r hr
  rw[hy] at hr
  split at hr
  ·simp only[aa] at hr
   subst hr
   simpa using ey x _
  ·simp at hr
 ·intro x h r hr
  rw[hy] at hr
  split at hr
  ·simp only[aa] at hr
   subst hr
   split
   ·exact .inl ⟨_,_,rfl⟩
   ·exact .inl ⟨_,_,rfl⟩
  ·simp at hr
 ·by_cases hz:wA f e.list=0
  ·simp[hz,AZ,yO,wD,yJ]
  ·simp[hz,AZ,wD,yJ]
theorem c2D (en:List Enum) (e:Expr) (he:EW e) (o:Bool) (h:List PObj):wr L 123 [.list o (en.map wJ),wy e] h=some (.int .i64 (yr en e),h):=by
 refine wz (hL 123 _ rfl) rfl ?_
 obtain⟨ht,_,_⟩:=he.self
 have hs:=HU hL en e.t ht false []
 have hh:=F3 hL en e.t e.v ht false []
 unfold yr
 rcases(by omega:e.kind=1∨e.kind=8∨e.kind=9∨(¬e.kind=1∧¬e.kind=8∧¬e.kind=9)) with hk|hk|hk|⟨h1,h8,h9⟩
 ·have h8:¬e.kind=8:=by omega
  have h9:¬e.kind=9:=by omega
  by_cases hz:xE en e.t=0
  ·have eQ:¬0<xE en e.t:=by omega
   simp[Ci,tf hk,tf h8,tf h9,hs,hz,eQ,need,ww]
  ·have eQ:0<xE en e.t:=by omega
   have eE:(0:Int)<xE en e.t:=by omega
   cases hq:AA en e.t e.v<;>rw[hq] at hh<;>simp[Ci,tf hk,tf h8,tf h9,hs,hh,hz,eQ,eE,hq,need,ww]
 ·have h1:¬e.kind=1:=by omega
  have h9:¬e.kind=9:=by omega
  by_cases hz:xE en e.t=0
  ·have eQ:¬0<xE en e.t:=by omega
   simp[Ci,tf hk,tf h1,tf h9,hs,hz,eQ,need,ww]
  ·have eQ:0<xE en e.t:=by omega
   have eE:(0:Int)<xE en e.t:=by omega
   cases hq:AA en e.t e.v<;>rw[hq] at hh<;>simp[Ci,tf hk,tf h1,tf h9,hs,hh,hz,eQ,eE,hq,need,ww]
 ·have h1:¬e.kind=1:=by omega
  have h8:¬e.kind=8:=by omega
  by_cases hz:xE en e.t=0
  ·have eQ:¬0<xE en e.t:=by omega
   simp[Ci,tf hk,tf h1,tf h8,hs,hz,eQ,need,ww]
  ·have eQ:0<xE en e.t:=by omega
   by_cases hl:e.args.length=xE en e.t
   ·have oS:((e.args.length:Int)=(xE en e.t:Int))=True:=eq_true (by omega)
    simp[Ci,tf hk,tf h1,tf h8,hs,hz,eQ,oS,tf hl,need,ww]
   ·have oS:((e.args.length:Int)=(xE en e.t:Int))=False:=eq_false (by omega)
    simp[Ci,tf hk,tf h1,tf h8,hs,hz,eQ,oS,tf hl,need,ww]
 ·simp[Ci,tf h1,tf h8,tf h9,hs]
theorem DM (en:List Enum) (e:Expr) (he:XW e) (o:Bool):∃h',wr L 94 [.list o (en.map wJ),wy e] []=some (.int .i64 (zG en e),h'):=by
 suffices H:∃r,wr L 94 [.list o (en.map wJ),wy e] []=some r∧r.1 = .int .i64 (zG en e) by
  obtain⟨⟨v,h'⟩,h1,h2⟩:=H
  exact⟨h',by rw[h1]; simp only at h2; rw[h2]⟩
 refine Bl (hL 94 _ rfl) rfl ?_
 obtain⟨h',hc⟩:=c2C hL e he.ew he.parts
 have hE:=F1 hL e [.cells [.list false (en.map wJ)],.cells [.int .i64 0]]
 unfold zG
 by_cases hz:C7 e=0
 ·rw[hz] at hc ⊢
  rw[yP]
  simp[Hj,hc,hE]
  have ey:∀(x:Expr),EW x→∀(c:PV),wQ L 189 [.ptr 2 0,.ptr 0 0,.ptr 1 0,wy x] [.cells [.list false (en.map wJ)],.cells [c],.loop true]=some (if yr en x=0 then(.val (.bool true),[.cells [.list false (en.map wJ)],.cells [c],.loop true]) else(.val (.bool false),[.cells [.list false (en.map wJ)],.cells [.int .i64 (yr en x)],.over none])):=by
   intro x hx c
   have ho:=c2D hL en x hx false []
   refine Fc (as:=[.ptr 0 0,.ptr 1 0,wy x]) (hL 189 _ rfl) rfl rfl rfl ?_
   by_cases hz:yr en x=0
   ·rw[hz] at ho
    simp[Hz,ho,hz,wD]
   ·simp[Hz,ho,hz,yO,wD]
  obtain⟨y,lC,qo⟩:=yAt [.cells [.list false (en.map wJ)],.cells [.int .i64 0],.loop true] (λx=>if yr en x=0 then(.val (.bool true),[.cells [.list false (en.map wJ)],.cells [.int .i64 0],.loop true]) else(.val (.bool false),[.cells [.list false (en.map wJ)],.cells [.int .i64 (yr en x)],.over none]))
  have oZ:zm y e.list [.cells [.list false (en.map wJ)],.cells [.int .i64 0],.loop true]=some (if wA (yr en) e.list=0 then(.val (.bool true),[.cells [.list false (en.map wJ)],.cells [.int .i64 0],.loop true]) else(.val (.bool false),[.cells [.list false (en.map wJ)],.cells [.int .i64 (wA (yr en) e.list)],.over none])):=by
   refine F0 (f:=yr en) (R:=λq=>(.val (.bool false),[.cells [.list false (en.map wJ)],.cells [.int .i64 q],.over none])) e.list ?_ ?_ ?_
   ·intro x _ hx; rw[lC,ah hx]
   ·intro x _ hx; rw[lC,af hx]
   ·intro e h'; simp
  refine F2 hL e he.ew (cs:=[.ptr 0 0,.ptr 1 0]) (by simp) (by simp) (by simp) y ?_ ?_ _ oZ ?_
  ·intro x hx h' r hr
   obtain⟨rfl,rfl⟩:=qo x h' r hr
   simpa using ey x (he.ew.mem hx) (.int .i64 0)
  ·intro x h r hr
   obtain⟨rfl,rfl⟩:=qo x h r hr
   split
   ·exact .inl ⟨_,_,rfl⟩
   ·exact .inl ⟨_,_,rfl⟩
  ·by_cases hf:wA (yr en) e.list=0
   ·simp[hf,AZ,yO,wD,yJ]
   ·simp[hf,AZ,wD,yJ]
 ·simp[Hj,hc,hz,ww,yO,wD,yJ]
end
def xV (t:Nat) (a b e:Int):PV := .iface t (.agg [.int .i64 a,.int .i64 b,.int .i64 e])
def wG (t:Nat) (a b e:Int):Out:=if e=0 then .val (.tuple []) else .boom (xV t a b e)
theorem xh (t:Nat) (a b:Int):wG t a b 0 = .val (.tuple []):=rfl
theorem zH {t:Nat} {a b e:Int} (h:e≠0):wG t a b e = .boom (xV t a b e):=af h
def xa (en:List Enum) (a b:Int):PObj := .cells [.list false (en.map wJ),.int .i64 a,.int .i64 b]
section
variable {L:Nat→Option PFunc} (hL:∀k f,LS k=some f→L k=some f)
include hL
variable (en:List Enum) (n:Nat) (a b:Int) (h:List PObj) (hn:h[n]? = some (xa en a b))
include hn
theorem CI (e:Int):wQ L 49 [.ptr n 0,.bool true,.int .i64 e] h=some (.val (.tuple []),h):=by
 have _:=hn
 refine zF (hL 49 _ rfl) rfl ?_
 simp[Hd]
theorem Cq (e:Int):wQ L 49 [.ptr n 0,.bool false,.int .i64 e] h=some (.boom (xV 2 a b e),h):=by
 refine zF (hL 49 _ rfl) rfl ?_
 simp[Hd,hn,xa,xV]
theorem F4 (s:Str):wQ L 89 [.ptr n 0,.str s] h=some (wG 2 a b (xU s),h):=by
 have hi:=Pa hL s []
 have hT:=CI hL en n a b h hn
 have hF:=Cq hL en n a b h hn
 refine zF (hL 89 _ rfl) rfl ?_
 unfold xU
 cases hs:yo s<;>rw[hs] at hi<;>simp[J9,hi,hT,hF,wG]
theorem Lj (e:Int):wQ L 93 [.ptr n 0,.int .i64 e] h=some (wG 2 a b e,h):=by
 have hT:=CI hL en n a b h hn
 have hF:=Cq hL en n a b h hn
 refine zF (hL 93 _ rfl) rfl ?_
 by_cases he:e=0
 ·subst he; simp[Hi,hT,wG]
 ·simp[Hi,hF,he,wG]
theorem c6T (u:Enum) (hu:u.tags.length≤1500):wQ L 50 [.ptr n 0,wJ u] h=some (wG 2 a b (BW u),h):=by
 have hi:=λs=>F4 hL en n a b h hn s
 have hT:=CI hL en n a b h hn
 have hF:=Cq hL en n a b h hn
 refine zF (hL 50 _ rfl) rfl ?_
 unfold BW
 by_cases h0:xU u.name=0
 ·by_cases h1:u.tags=[]
  ·simp[En,hi,h0,h1,hF,need,ww,wG]
  ·have gC:0<u.tags.length:=bC.2 h1
   have eK:(0:Int)<u.tags.length:=by omega
   by_cases h2:u.tags.length≤16
   ·have gR:(u.tags.length:Int)≤16:=by omega
    simp[En,hi,h0,h1,gC,eK,h2,gR,hT,xh]
    refine zy u.tags xU (λi (x:PV)=>[(3,x),(6,.int .i64 i)]) .dead ?_ ?_ ?_ rfl
    ·intro i dC cJ x ih
     have hw:=wC i (by omega)
     simp[dC,hw,hi,cJ,xh]
     simpa using ih _
    ·intro i dC cJ hf x
     simp[dC,hi,zH cJ,hf]
    ·intro h0 x
     simp[h0,xh]
   ·have gR:¬(u.tags.length:Int)≤16:=by omega
    simp[En,hi,h0,h1,gC,eK,h2,gR,hT,hF,need,ww,wG]
 ·simp[En,hi,h0,ww,wG]
theorem F5 (l:List Decl) (hl:l.length≤1500) (hd:∀d∈l,DW d) (port:Bool) (o:Bool):wQ L 90 [.ptr n 0,.list o (l.map wF),.bool port] h=some (wG 2 a b (wA (yx en port) l),h):=by
 have hi:=λs=>F4 hL en n a b h hn s
 have hT:=CI hL en n a b h hn
 have hF:=Cq hL en n a b h hn
 refine zF (hL 90 _ rfl) rfl ?_
 simp[Ka]
 refine Ae l (yx en port) (λi (x:(PV×PV×PV×PV×PV)×Nat)=>[(3,x.1.1),(4,x.1.2.1),(8,x.1.2.2.1),(9,x.1.2.2.2.1),(10,x.1.2.2.2.2),(7,.int .i64 i)]) (λ_ x=>x.2) (λ_ _=>h) ((.dead,.dead,.dead,.dead,.dead),0) ?_ ?_ ?_ rfl rfl rfl
 ·intro i dC cJ x ih
  have hw:=wC i (by omega)
  have lD:=hd _ (ae dC)
  have dm:=lD.clock
  have hs:=HU hL en l[i].type lD.type false []
  unfold yx at cJ
  rw[zx,zx,zx,zx,yZ (by decide),yZ (by decide),yZ (by decide),ak,ak] at cJ
  obtain⟨k1,k2,k3,k4,k5⟩:=cJ
  have k2i:(0:Int)<xE en l[i].type:=by omega
  have k4i:(l[i].clock.length:Int)≤4:=by omega
  have fc:(!port||decide (l[i].clock=[]))=true:=k3
  have hE:∀o∈l[i].clock,Af en o=0:=A2.1 k5
  cases port with
  | false =>
    simp[dC,hi,k1,xh,hn,xa,hs,k2,k2i,k4,k4i,hT]
    refine Ae l[i].clock (Af en) (λj (y:PV×Nat)=>[(10,.int .i64 j),(4,y.1)]) (λ_ y=>y.2) (λ_ _=>h) (x.1.2.1,x.2+1) ?_ ?_ ?_ rfl rfl rfl
    ·intro j hj cU y ih2
     have gq:=wC j (by omega)
     have fQ:=F3 hL en l[i].clock[j].t l[i].clock[j].tag (lD.on _ (ae hj)) false []
     unfold Af at cU
     rw[zx,yZ (by decide),al,ak] at cU
     obtain⟨q1,q2,q3⟩:=cU
     rw[q3] at fQ
     simp[hj,hi,q1,xh,tf q2,hn,xa,fQ,hT,gq]
     simpa using ih2 (_,_)
    ·intro j hj cU _ y
     exact absurd (hE _ (ae hj)) cU
    ·intro _ y
     simp[hw]
     simpa using ih ((_,_,_,_,_),_)
  | true =>
    have jQ:l[i].clock=[]:=by simpa using fc
    simp[dC,hi,k1,xh,hn,xa,hs,k2,k2i,k4,k4i,hT,tf jQ]
    refine Ae l[i].clock (Af en) (λj (y:PV×Nat)=>[(10,.int .i64 j),(4,y.1)]) (λ_ y=>y.2) (λ_ _=>h) (x.1.2.1,x.2+1) ?_ ?_ ?_ rfl rfl rfl
    ·intro j hj cU y ih2
     have gq:=wC j (by omega)
     have fQ:=F3 hL en l[i].clock[j].t l[i].clock[j].tag (lD.on _ (ae hj)) false []
     unfold Af at cU
     rw[zx,yZ (by decide),al,ak] at cU
     obtain⟨q1,q2,q3⟩:=cU
     rw[q3] at fQ
     simp[hj,hi,q1,xh,tf q2,hn,xa,fQ,hT,gq]
     simpa using ih2 (_,_)
    ·intro j hj cU _ y
     exact absurd (hE _ (ae hj)) cU
    ·intro _ y
     simp[hw]
     simpa using ih ((_,_,_,_,_),_)
 ·intro i dC cJ hf x
  have lD:=hd _ (ae dC)
  have dm:=lD.clock
  have hs:=HU hL en l[i].type lD.type false []
  rw[hf]
  unfold yx at cJ ⊢
  by_cases k1:xU l[i].name=0
  ·by_cases k2:0<xE en l[i].type
   ·have k2i:(0:Int)<xE en l[i].type:=by omega
    by_cases k3:port=true∧l[i].clock≠[]
    ·have lE:¬l[i].clock=[]:=k3.2
     have jQ:¬(l[i].clock.length:Int)=0:=by
      intro e; exact k3.2 (bb.1 (by omega))
     rw[k3.1]
     simp[dC,hi,k1,xh,hn,xa,hs,k2,k2i,hT,hF,lE,jQ,need,ww,wG]
    ·by_cases k4:l[i].clock.length≤4
     ·have k4i:(l[i].clock.length:Int)≤4:=by omega
      have fc:(!port||decide (l[i].clock=[]))=true:=by
       cases port with
       | false=>rfl
       | true=>simpa using k3
      have hE:wA (Af en) l[i].clock≠0:=by
       intro e; apply cJ
       simp[k1,k2,fc,k4,e]
      have dl:ww (xU l[i].name) (ww (need (decide (0<xE en l[i].type)) 10) (ww (need (!port||decide (l[i].clock=[])) 11) (ww (need (decide (l[i].clock.length≤4)) 3) (wA (Af en) l[i].clock))))=wA (Af en) l[i].clock:=by
       simp[k1,k2,fc,k4]
      rw[dl]
      cases port with
      | true =>
        have jQ:l[i].clock=[]:=by simpa using fc
        rw[jQ] at hE; exact absurd rfl hE
      | false=>
      simp[dC,hi,k1,xh,hn,xa,hs,k2,k2i,k4,k4i,hT]
      refine Ae l[i].clock (Af en) (λj (y:PV×Nat)=>[(10,.int .i64 j),(4,y.1)]) (λ_ y=>y.2) (λ_ _=>h) (x.1.2.1,x.2+1) ?_ ?_ ?_ rfl rfl rfl
      ·intro j hj cU y ih2
       have gq:=wC j (by omega)
       have fQ:=F3 hL en l[i].clock[j].t l[i].clock[j].tag (lD.on _ (ae hj)) false []
       unfold Af at cU
       rw[zx,yZ (by decide),al,ak] at cU
       obtain⟨q1,q2,q3⟩:=cU
       rw[q3] at fQ
       simp[hj,hi,q1,xh,tf q2,hn,xa,fQ,hT,gq]
       simpa using ih2 (_,_)
      ·intro j hj cU gO y
       have fQ:=F3 hL en l[i].clock[j].t l[i].clock[j].tag (lD.on _ (ae hj)) false []
       rw[gO]
       unfold Af
       by_cases q1:xU l[i].clock[j].name=0
       ·by_cases q2:l[i].clock[j].t=2
        ·simp[hj,hi,q1,xh,tf q2,hF,need,ww,wG]
        ·cases q3:AA en l[i].clock[j].t l[i].clock[j].tag with
         | true=>exfalso; apply cU; simp[Af,q1,q2,q3]
         | false=>rw[q3] at fQ; simp[hj,hi,q1,xh,tf q2,hn,xa,fQ,hF,need,ww,wG]
       ·simp[hj,hi,zH q1,q1,ww]
      ·intro hz y
       exact absurd hz hE
     ·have k4i:¬(l[i].clock.length:Int)≤4:=by omega
      have lE:¬l[i].clock=[]:=by intro e; rw[e] at k4; simp at k4
      have ia:port=false:=by
       cases port with
       | false=>rfl
       | true=>exact absurd ⟨rfl,lE⟩ k3
      rw[ia]
      simp[dC,hi,k1,xh,hn,xa,hs,k2,k2i,k4,k4i,hT,hF,need,ww,wG]
   ·have k2i:¬(0:Int)<xE en l[i].type:=by omega
    simp[dC,hi,k1,xh,hn,xa,hs,k2,k2i,hF,need,ww,wG]
  ·simp[dC,hi,zH k1,k1,ww]
 ·intro h0 x
  simp[h0,xh]
end
section
variable {L:Nat→Option PFunc} (hL:∀k f,LS k=some f→L k=some f)
include hL
section
variable (en:List Enum) (n:Nat) (a b:Int) (h:List PObj) (hn:h[n]? = some (xa en a b))
include hn
theorem F6 (q:Eqn) (hq:QW q):wQ L 91 [.ptr n 0,xn q] h=some (wG 2 a b (zr en q),h):=by
 have hi:=λs=>F4 hL en n a b h hn s
 have hr:=λe=>Lj hL en n a b h hn e
 have hT:=CI hL en n a b h hn
 have hF:=Cq hL en n a b h hn
 obtain⟨h',hx⟩:=DM hL en q.right hq.right false
 have qq:=hq.left
 refine zF (hL 91 _ rfl) rfl ?_
 unfold zr
 by_cases h1:q.left=[]
 ·simp[Fz,h1,hF,need,ww,wG]
 have gC:0<q.left.length:=bC.2 h1
 have eK:(0:Int)<q.left.length:=by omega
 by_cases h2:q.left.length≤64
 ·have gR:(q.left.length:Int)≤64:=by omega
  simp[Fz,h1,gC,eK,h2,gR,hT]
  refine zy q.left xU (λi (x:PV)=>[(3,x),(6,.int .i64 i)]) .dead ?_ ?_ ?_ rfl
  ·intro i dC cJ x ih
   have hw:=wC i (by omega)
   simp[dC,hw,hi,cJ,xh]
   simpa using ih _
  ·intro i dC cJ hf x
   simp[dC,hi,zH cJ,hf,Bv cJ]
  ·intro h0 x
   rw[h0,yP]
   by_cases h3:zG en q.right=0
   ·rw[h3] at hx
    by_cases h4:q.left.length=1
    ·have qt:(q.left.length:Int)=1:=by omega
     simp[hn,xa,hx,h3,hr,xh,tf h4,tf qt,hT]
    ·have qt:¬(q.left.length:Int)=1:=by omega
     by_cases h5:q.right.kind=10
     ·simp[hn,xa,hx,h3,hr,xh,tf h4,tf qt,tf h5,hT]
     ·simp[hn,xa,hx,h3,hr,xh,tf h4,tf qt,tf h5,hF,need,wG]
   ·simp[hn,xa,hx,hr,zH h3,Bv h3]
 ·have gR:¬(q.left.length:Int)≤64:=by omega
  simp[Fz,h1,gC,eK,h2,gR,hT,hF,need,ww,wG]
theorem HV (l:List Trn) (hl:l.length≤1500) (ht:∀t∈l,XW t.cond) (m:Nat) (strong:Bool) (o:Bool):wQ L 121 [.ptr n 0,.list o (l.map xL),.int .i64 m,.bool strong] h=some (wG 2 a b (wA (Ba en m strong) l),h):=by
 have hr:=λe=>Lj hL en n a b h hn e
 have hT:=CI hL en n a b h hn
 have hF:=Cq hL en n a b h hn
 refine zF (hL 121 _ rfl) rfl ?_
 simp[Kn]
 refine Ae l (Ba en m strong) (λi (x:PV×Nat)=>[(4,x.1),(7,.int .i64 i)]) (λ_ x=>x.2) (λ_ _=>h) (.dead,0) ?_ ?_ ?_ rfl rfl rfl
 ·intro i dC cJ x ih
  have hw:=wC i (by omega)
  have kH:=ht _ (ae dC)
  obtain⟨h',hx⟩:=DM hL en l[i].cond kH false
  obtain⟨h'',hs⟩:=PB hL l[i].cond kH.ew
  unfold Ba at cJ
  rw[zx,zx,yZ (by decide),yZ (by decide),ak] at cJ
  obtain⟨⟨k1,k2⟩,k3,k4⟩:=cJ
  rw[k3] at hx
  cases strong with
  | false =>
    simp[dC,hw,k1,k2,hn,xa,hx,hr,xh,hT]
    simpa using ih (_,_)
  | true =>
    have k4:Bt l[i].cond=true:=by simpa using k4
    rw[k4] at hs
    simp[dC,hw,k1,k2,hn,xa,hx,hr,xh,hs,hT]
    simpa using ih (_,_)
 ·intro i dC cJ hf x
  have kH:=ht _ (ae dC)
  obtain⟨h',hx⟩:=DM hL en l[i].cond kH false
  obtain⟨h'',hs⟩:=PB hL l[i].cond kH.ew
  rw[hf]
  unfold Ba at cJ ⊢
  by_cases k1:0≤l[i].to
  ·by_cases k2:l[i].to<m
   ·by_cases k3:zG en l[i].cond=0
    ·rw[k3] at hx
     cases strong with
     | false=>exfalso; apply cJ; simp[k1,k2,k3]
     | true =>
       cases k4:Bt l[i].cond with
       | true=>exfalso; apply cJ; simp[k1,k2,k3,k4]
       | false=>rw[k4] at hs; simp[dC,k1,k2,hn,xa,hx,hr,xh,hs,hT,hF,k3,need,ww,wG]
    ·simp[dC,k1,k2,hn,xa,hx,hr,zH k3,hT,need,ww,k3]
   ·simp[dC,k1,k2,hF,need,ww,wG]
  ·simp[dC,k1,hF,need,ww,wG]
 ·intro h0 x
  simp[h0,xh]
theorem PK:∀(d:Nat),d≤3→∀au:zq,au.length≤1500→(∀x∈au,SW x)→wQ L 92 [.ptr n 0,xg au,.int .i64 (3 - (d:Int))] h=some (wG 2 a b (zI en d au),h)
 | 0, _, au, dt, ha => by
   have hF:=Cq hL en n a b h hn
   refine zF (hL 92 _ rfl) rfl ?_
   simp[Eq,hF,zI,wG]
 | d + 1, hd, au, dt, ha => by
   have ih:=PK d (by omega)
   have hi:=λs=>F4 hL en n a b h hn s
   have hT:=CI hL en n a b h hn
   have hF:=Cq hL en n a b h hn
   have m2:(3:Int) - ((d+1:Nat):Int)=2 - (d:Int):=by omega
   rw[m2]
   have cO:2 - (d:Int)<3:=by omega
   have me:IntKind.i64.wrap (2 - (d:Int)+1)=3 - (d:Int):=by rw[xx]<;>omega
   refine zF (hL 92 _ rfl) rfl ?_
   simp only[zI]
   by_cases h1:au=[]
   ·simp[Eq,cO,hT,hF,h1,need,ww,wG]
   have gC:0<au.length:=bC.2 h1
   have eK:(0:Int)<au.length:=by omega
   by_cases h2:au.length≤8
   ·have gR:(au.length:Int)≤8:=by omega
    simp[Eq,cO,hT,h1,gC,eK,h2,gR]
    refine Ae au (C8 en au.length (zI en d)) (λi (x:(PV×PV×PV×PV×PV×PV×PV×PV×PV)×Nat)=>[(4,x.1.1),(5,x.1.2.1),(6,x.1.2.2.1),(9,.int .i64 i),(10,x.1.2.2.2.1),(11,x.1.2.2.2.2.1),(12,x.1.2.2.2.2.2.1),(13,x.1.2.2.2.2.2.2.1),(14,x.1.2.2.2.2.2.2.2.1),(15,x.1.2.2.2.2.2.2.2.2)]) (λ_ x=>x.2) (λ_ _=>h) ((.dead,.dead,.dead,.dead,.dead,.dead,.dead,.dead,.dead),1) ?_ ?_ ?_ rfl rfl rfl
    ·intro i dC cJ x ih2
     have hw:=wC i (by omega)
     have hs:=ha _ (ae dC)
     have gg:=F5 hL en n a b h hn au[i].locals hs.locals hs.ls false false
     have fO:=HV hL en n a b h hn au[i].unl hs.unl hs.us au.length true false
     have jB:=HV hL en n a b h hn au[i].til hs.til hs.ts au.length false false
     have el:=hs.eqs
     have vn:=hs.autos
     unfold C8 at cJ
     rw[zx,zx,zx,zx,zx,zx,yZ (by decide),ak] at cJ
     obtain⟨k0,⟨c1,c2,c3,c4,c5⟩,k1,k2,k3,k4,k5⟩:=cJ
     rw[k1] at gg; rw[k4] at fO; rw[k5] at jB
     have c1i:(au[i].locals.length:Int)≤256:=by omega
     have c2i:(au[i].eqs.length:Int)≤256:=by omega
     have c3i:(au[i].autos.length:Int)≤8:=by omega
     have c45:(if au[i].unl.length<au[i].til.length then(au[i].til.length:Int) else(au[i].unl.length:Int))≤4:=by split<;>omega
     have e2:=A2.1 k2
     have e3:=A2.1 k3
     simp[dC,hi,k0,xh,c1,c2,c3,c1i,c2i,c3i,c45,hT,gg]
     refine Ae au[i].eqs (zr en) (λj (y:PV×Nat)=>[(5,y.1),(12,.int .i64 j)]) (λ_ y=>y.2) (λ_ _=>h) (x.1.2.1,x.2+1) ?_ ?_ ?_ rfl rfl rfl
     ·intro j hj cU y ih3
      have gq:=wC j (by omega)
      have hc:=F6 hL en n a b h hn au[i].eqs[j] (hs.es _ (ae hj))
      rw[cU] at hc
      simp[hj,gq,hc,xh]
      simpa using ih3 (_,_)
     ·intro j hj cU _ y
      exact absurd (e2 _ (ae hj)) cU
     ·intro _ y
      simp
      refine Ae au[i].autos (zI en d) (λj (z:PV×Nat)=>[(6,z.1),(15,.int .i64 j)]) (λ_ z=>z.2) (λ_ _=>h) (x.1.2.2.1,y.2) ?_ ?_ ?_ rfl rfl rfl
      ·intro j hj cU z ih3
       have gq:=wC j (by omega)
       have hc:=ih au[i].autos[j] (hs.as _ (ae hj)) (hs.ss _ (ae hj))
       rw[cU] at hc
       simp[hj,gq,me,hc,xh]
       simpa using ih3 (_,_)
      ·intro j hj cU _ z
       exact absurd (e3 _ (ae hj)) cU
      ·intro _ z
       simp[fO,jB,xh,hw]
       simpa using ih2 ((_,_,_,_,_,_,_,_,_),_)
    ·intro i dC cJ hf x
     have hs:=ha _ (ae dC)
     have gg:=F5 hL en n a b h hn au[i].locals hs.locals hs.ls false false
     have fO:=HV hL en n a b h hn au[i].unl hs.unl hs.us au.length true false
     have jB:=HV hL en n a b h hn au[i].til hs.til hs.ts au.length false false
     have el:=hs.eqs
     have vn:=hs.autos
     rw[hf]
     unfold C8 at cJ ⊢
     by_cases k0:xU au[i].name=0
     ·rw[k0,yP] at cJ ⊢
      by_cases c1:au[i].locals.length≤256
      rotate_left
      ·have c1i:¬(au[i].locals.length:Int)≤256:=by omega
       simp[dC,hi,k0,xh,c1,c1i,hF,need,ww,wG]
      have c1i:(au[i].locals.length:Int)≤256:=by omega
      by_cases c2:au[i].eqs.length≤256
      rotate_left
      ·have c2i:¬(au[i].eqs.length:Int)≤256:=by omega
       simp[dC,hi,k0,xh,c1,c1i,c2,c2i,hF,need,ww,wG]
      have c2i:(au[i].eqs.length:Int)≤256:=by omega
      by_cases c3:au[i].autos.length≤8
      rotate_left
      ·have c3i:¬(au[i].autos.length:Int)≤8:=by omega
       simp[dC,hi,k0,xh,c1,c1i,c2,c2i,c3,c3i,hF,need,ww,wG]
      have c3i:(au[i].autos.length:Int)≤8:=by omega
      by_cases c4:au[i].unl.length≤4∧au[i].til.length≤4
      rotate_left
      ·have c45:¬(if au[i].unl.length<au[i].til.length then(au[i].til.length:Int) else(au[i].unl.length:Int))≤4:=by split<;>omega
       have c4n:¬(au[i].unl.length≤4∧au[i].til.length≤4):=c4
       simp[dC,hi,k0,xh,c1,c1i,c2,c2i,c3,c3i,c45,hF,need,ww,wG,c4n]
      have c45:(if au[i].unl.length<au[i].til.length then(au[i].til.length:Int) else(au[i].unl.length:Int))≤4:=by split<;>omega
      have kI:need (decide (au[i].locals.length≤256∧au[i].eqs.length≤256∧au[i].autos.length≤8∧au[i].unl.length≤4∧au[i].til.length≤4)) 3=0:=by
       rw[yZ (by decide),ak]; exact⟨c1,c2,c3,c4⟩
      rw[kI,yP] at cJ ⊢
      by_cases k1:wA (yx en false) au[i].locals=0
      rotate_left
      ·simp[dC,hi,k0,xh,c1,c2,c3,c1i,c2i,c3i,c45,hT,gg,zH k1,Bv k1]
      rw[k1,yP] at cJ ⊢
      rw[k1] at gg
      simp[dC,hi,k0,xh,c1,c2,c3,c1i,c2i,c3i,c45,hT,gg]
      refine Ae au[i].eqs (zr en) (λj (y:PV×Nat)=>[(5,y.1),(12,.int .i64 j)]) (λ_ y=>y.2) (λ_ _=>h) (x.1.2.1,x.2+1) ?_ ?_ ?_ rfl rfl rfl
      ·intro j hj cU y ih3
       have gq:=wC j (by omega)
       have hc:=F6 hL en n a b h hn au[i].eqs[j] (hs.es _ (ae hj))
       rw[cU] at hc
       simp[hj,gq,hc,xh]
       simpa using ih3 (_,_)
      ·intro j hj cU gO y
       have hc:=F6 hL en n a b h hn au[i].eqs[j] (hs.es _ (ae hj))
       rw[gO]
       simp[hj,hc,zH cU,Bv cU]
      ·intro k2 y
       rw[k2,yP] at cJ ⊢
       simp
       refine Ae au[i].autos (zI en d) (λj (z:PV×Nat)=>[(6,z.1),(15,.int .i64 j)]) (λ_ z=>z.2) (λ_ _=>h) (x.1.2.2.1,y.2) ?_ ?_ ?_ rfl rfl rfl
       ·intro j hj cU z ih3
        have gq:=wC j (by omega)
        have hc:=ih au[i].autos[j] (hs.as _ (ae hj)) (hs.ss _ (ae hj))
        rw[cU] at hc
        simp[hj,gq,me,hc,xh]
        simpa using ih3 (_,_)
       ·intro j hj cU gO z
        have hc:=ih au[i].autos[j] (hs.as _ (ae hj)) (hs.ss _ (ae hj))
        rw[gO]
        simp[hj,me,hc,zH cU,Bv cU]
       ·intro k3 z
        rw[k3,yP] at cJ ⊢
        by_cases k4:wA (Ba en au.length true) au[i].unl=0
        ·rw[k4,yP] at cJ ⊢
         rw[k4] at fO
         simp[fO,jB,xh,zH cJ]
        ·simp[fO,zH k4,Bv k4]
     ·simp[dC,hi,zH k0,Bv k0]
    ·intro h0 x
     simp[h0,xh]
   ·have gR:¬(au.length:Int)≤8:=by omega
    simp[Eq,cO,hT,hF,h1,gC,eK,h2,gR,need,ww,wG]
end
end
end PI.Sc
set_option maxRecDepth 100000
set_option linter.unusedSimpArgs false
set_option linter.unusedVariables false
namespace PI
section
variable {L:Nat→Option PFunc} {V l:List PV} {g:Nat} {h:List PObj}
def EE (L:Nat→Option PFunc) (f:PFunc) (P:PV×List PObj→Prop) (e:PExit) (st:St):Prop:=∃v h',BV L f (.val v,h') e st∧P (v,h')
@[simp] theorem b7I (f:PFunc) (P:PV×List PObj→Prop):EE L f P .normal ⟨V,l,g,h⟩=∃v,x9 ⟨V,l,g,h⟩ f.results=some v∧P (v,xj V f.results h):=by
 simp only[EE,PL,eq_iff_iff]
 constructor
 ·rintro⟨v,h',⟨v',h1,h2⟩,h3⟩
  simp only[ac,Out.val.injEq] at h2
  obtain⟨rfl,rfl⟩:=h2
  exact⟨v,h1,h3⟩
 ·rintro⟨v,h1,h2⟩; exact⟨v,_,⟨v,h1,rfl⟩,h2⟩
@[simp] theorem d0s (f:PFunc) (P:PV×List PObj→Prop):EE L f P .ret ⟨V,l,g,h⟩=∃v,x9 ⟨V,l,g,h⟩ f.results=some v∧P (v,xj V f.results h):=b7I (L:=L) f P
@[simp] theorem c6V (f:PFunc) (P:PV×List PObj→Prop) (kd:Nat) (cs:List PV) (p:Option PV):EE L f P (.after kd cs p) ⟨V,l,g,h⟩=(f.code.NR=true∧∃h1 x,yU L kd (p.getD .nilIface::cs) h=some h1∧x9 ⟨V,l,g,h1⟩ f.results=some x∧P (x,xj V f.results h1)):=by
 simp only[EE,c1w,eq_iff_iff]
 constructor
 ·rintro⟨v,h',⟨h0,h1,x,h2,h3,h4⟩,h5⟩
  simp only[ac,Out.val.injEq] at h4
  obtain⟨rfl,rfl⟩:=h4
  exact⟨h0,h1,v,h2,h3,h5⟩
 ·rintro⟨h0,h1,x,h2,h3,h5⟩; exact⟨x,_,⟨h0,h1,x,h2,h3,rfl⟩,h5⟩
theorem NA {k:Nat} {f:PFunc} {args:List PV} {hp:List PObj} {P:PV×List PObj→Prop} (hf:L k=some f) (hl:args.length=f.params)
  (hw:wpL L f.code ⟨args.map dem++List.replicate (f.nv - f.params) .dead,[],0,hp⟩ (EE L f P)) (hs:f.split=false:=by rfl) (fD:f.prim=none:=by rfl) (hr:f.code.isRound=false:=by rfl):∃r,wr L k args hp=some r∧P r:=by
 rw[B9] at hw
 obtain⟨e,st,h1,v,h',h2,h3⟩:=hw
 exact⟨(v,h'),c3l hf hl (B9.2 ⟨e,st,h1,h2⟩) hs fD hr,h3⟩
def Dq (L:Nat→Option PFunc) (f:PFunc) (P:Out×List PObj→Prop) (e:PExit) (st:St):Prop:=∃r,BV L f r e st∧P r
@[simp] theorem b81 (f:PFunc) (P:Out×List PObj→Prop):Dq L f P .normal ⟨V,l,g,h⟩=∃v,x9 ⟨V,l,g,h⟩ f.results=some v∧P (.val v,xj V f.results h):=by
 simp only[Dq,PL,eq_iff_iff]
 constructor
 ·rintro⟨r,⟨v,h1,rfl⟩,h2⟩; exact⟨v,h1,h2⟩
 ·rintro⟨v,h1,h2⟩; exact⟨_,⟨v,h1,rfl⟩,h2⟩
@[simp] theorem d2g (f:PFunc) (P:Out×List PObj→Prop):Dq L f P .ret ⟨V,l,g,h⟩=∃v,x9 ⟨V,l,g,h⟩ f.results=some v∧P (.val v,xj V f.results h):=b81 (L:=L) f P
@[simp] theorem d0t (f:PFunc) (P:Out×List PObj→Prop) (v:PV):Dq L f P (.boom v) ⟨V,l,g,h⟩=P (.boom v,h):=by
 simp only[Dq,c3k,eq_iff_iff]
 exact⟨fun⟨r,h1,h2⟩=>h1▸h2,λh2=>⟨_,rfl,h2⟩⟩
theorem Cb {k:Nat} {f:PFunc} {args:List PV} {hp:List PObj} {P:Out×List PObj→Prop} (hf:L k=some f) (hl:args.length=f.params)
  (hw:wpL L f.code ⟨args.map dem++List.replicate (f.nv - f.params) .dead,[],0,hp⟩ (Dq L f P)) (hs:f.split=false:=by rfl) (fD:f.prim=none:=by rfl) (hr:f.code.isRound=false:=by rfl):∃r,wQ L k args hp=some r∧P r:=by
 rw[B9] at hw
 obtain⟨e,st,h1,r,h2,h3⟩:=hw
 exact⟨r,zF hf hl (B9.2 ⟨e,st,h1,h2⟩) hs fD hr,h3⟩
end
end PI
namespace PI.Sc
open Go (IntKind BinOp UnOp)
open Short
def yg (t:Nat):Option Bad→Out
 | none => .val (.tuple [])
 | some b => .boom (xV t b.node b.eq b.err)
section
variable {L:Nat→Option PFunc} (hL:∀k f,LS k=some f→L k=some f)
include hL
theorem PM (en:List Enum) (n:Nat) (a b:Int) (h:List PObj) (hn:h[n]? = some (xa en a b)) (i:Nat) (nd:Node) (gD:NW nd):∃k:Int,wQ L 51 [.ptr n 0,.int .i64 i,xc nd] h=some (yg 2 (zc en nd i),h.set n (xa en i k)):=by
 suffices H:∃r,wQ L 51 [.ptr n 0,.int .i64 i,xc nd] h=some r∧∃k:Int,r=(yg 2 (zc en nd i),h.set n (xa en i k)) by
  obtain⟨r,h1,k,rfl⟩:=H
  exact⟨k,h1⟩
 refine Cb (hL 51 _ rfl) rfl ?_
 have cO:n<h.length:=(aj.1 hn).1
 have eC:∀k:Int,PObj.cells [.list false (en.map wJ),.int .i64 i,.int .i64 k]=xa en i k:=λ_=>rfl
 have gH:∀k:Int,(h.set n (xa en i k))[n]? = some (xa en i k):=λk=>by simp[cO]
 have hi:=λs=>F4 hL en n i (-1) (h.set n (xa en i (-1))) (gH _) s
 have hr:=λe=>Lj hL en n i (-1) (h.set n (xa en i (-1))) (gH _) e
 have hT:=CI hL en n i (-1) (h.set n (xa en i (-1))) (gH _)
 have hF:=Cq hL en n i (-1) (h.set n (xa en i (-1))) (gH _)
 have lF:=F5 hL en n i (-1) (h.set n (xa en i (-1))) (gH _) nd.ins gD.ins gD.is true false
 have mf:=F5 hL en n i (-1) (h.set n (xa en i (-1))) (gH _) nd.outs gD.outs gD.os true false
 have gK:=F5 hL en n i (-1) (h.set n (xa en i (-1))) (gH _) nd.locals gD.locals gD.ls false false
 have gS:=λ(au:zq) (h1:au.length≤1500) (h2:∀x∈au,SW x)=>PK hL en n i (-1) (h.set n (xa en i (-1))) (gH _) 3 (by omega) au h1 h2
 have mg:zD en nd≠0→zc en nd i=some ⟨i,-1,zD en nd⟩:=λhh=>by unfold zc; rw[ah hh]
 obtain⟨RES,em⟩:∃RES,RES=zc en nd i:=⟨_,rfl⟩
 rw[← em]
 have eL:∀e:Int,zD en nd=e→e≠0→RES=some ⟨i,-1,e⟩:=λe h1 h2=>by rw[em,mg (by rw[h1]; exact h2),h1]
 simp[JS,hn,xa,wM]
 rw[eC]
 by_cases k0:xU nd.name=0
 rotate_left
 ·have:=eL (xU nd.name) (by unfold zD; exact Bv k0) k0
  rw[this]
  simp[hi,zH k0,yg]
  exact⟨-1,rfl⟩
 by_cases c12:nd.ins.length≤64∧nd.outs.length≤64
 rotate_left
 ·have hc:¬(if nd.ins.length<nd.outs.length then(nd.outs.length:Int) else(nd.ins.length:Int))≤64:=by split<;>omega
  have := eL 3 (by unfold zD; rw [k0, yP]; have : ¬ (nd.ins.length ≤ 64 ∧ nd.outs.length ≤ 64 ∧ nd.locals.length ≤ 256 ∧ nd.eqs.length ≤ 256 ∧ nd.autos.length ≤ 8 ∧ nd.assume.length ≤ 8 ∧ nd.ensure.length ≤ 8) := by omega
                   simp only[this,decide_false,F7]; rfl) (by decide)
  rw[this]
  simp[hi,k0,xh,hc,hF,yg]
  exact⟨-1,rfl⟩
 have m12:(if nd.ins.length<nd.outs.length then(nd.outs.length:Int) else(nd.ins.length:Int))≤64:=by split<;>omega
 by_cases c3:nd.locals.length≤256
 rotate_left
 ·have c3i:¬(nd.locals.length:Int)≤256:=by omega
  have := eL 3 (by unfold zD; rw [k0, yP]; have : ¬ (nd.ins.length ≤ 64 ∧ nd.outs.length ≤ 64 ∧ nd.locals.length ≤ 256 ∧ nd.eqs.length ≤ 256 ∧ nd.autos.length ≤ 8 ∧ nd.assume.length ≤ 8 ∧ nd.ensure.length ≤ 8) := by omega
                   simp only[this,decide_false,F7]; rfl) (by decide)
  rw[this]
  simp[hi,k0,xh,m12,c3,c3i,hF,yg]
  exact⟨-1,rfl⟩
 have c3i:(nd.locals.length:Int)≤256:=by omega
 by_cases c4:nd.eqs.length≤256
 rotate_left
 ·have c4i:¬(nd.eqs.length:Int)≤256:=by omega
  have := eL 3 (by unfold zD; rw [k0, yP]; have : ¬ (nd.ins.length ≤ 64 ∧ nd.outs.length ≤ 64 ∧ nd.locals.length ≤ 256 ∧ nd.eqs.length ≤ 256 ∧ nd.autos.length ≤ 8 ∧ nd.assume.length ≤ 8 ∧ nd.ensure.length ≤ 8) := by omega
                   simp only[this,decide_false,F7]; rfl) (by decide)
  rw[this]
  simp[hi,k0,xh,m12,c3,c3i,c4,c4i,hF,yg]
  exact⟨-1,rfl⟩
 have c4i:(nd.eqs.length:Int)≤256:=by omega
 by_cases c5:nd.autos.length≤8
 rotate_left
 ·have c5i:¬(nd.autos.length:Int)≤8:=by omega
  have := eL 3 (by unfold zD; rw [k0, yP]; have : ¬ (nd.ins.length ≤ 64 ∧ nd.outs.length ≤ 64 ∧ nd.locals.length ≤ 256 ∧ nd.eqs.length ≤ 256 ∧ nd.autos.length ≤ 8 ∧ nd.assume.length ≤ 8 ∧ nd.ensure.length ≤ 8) := by omega
                   simp only[this,decide_false,F7]; rfl) (by decide)
  rw[this]
  simp[hi,k0,xh,m12,c3,c3i,c4,c4i,c5,c5i,hF,yg]
  exact⟨-1,rfl⟩
 have c5i:(nd.autos.length:Int)≤8:=by omega
 by_cases c67:nd.assume.length≤8∧nd.ensure.length≤8
 rotate_left
 ·have m67:¬(if nd.assume.length<nd.ensure.length then(nd.ensure.length:Int) else(nd.assume.length:Int))≤8:=by split<;>omega
  have := eL 3 (by unfold zD; rw [k0, yP]; have : ¬ (nd.ins.length ≤ 64 ∧ nd.outs.length ≤ 64 ∧ nd.locals.length ≤ 256 ∧ nd.eqs.length ≤ 256 ∧ nd.autos.length ≤ 8 ∧ nd.assume.length ≤ 8 ∧ nd.ensure.length ≤ 8) := by omega
                   simp only[this,decide_false,F7]; rfl) (by decide)
  rw[this]
  simp[hi,k0,xh,m12,c3,c3i,c4,c4i,c5,c5i,m67,hF,yg]
  exact⟨-1,rfl⟩
 have m67:(if nd.assume.length<nd.ensure.length then(nd.ensure.length:Int) else(nd.assume.length:Int))≤8:=by split<;>omega
 have kI:need (decide (nd.ins.length≤64∧nd.outs.length≤64∧nd.locals.length≤256∧nd.eqs.length≤256∧nd.autos.length≤8∧nd.assume.length≤8∧nd.ensure.length≤8)) 3=0:=by
  rw[yZ (by decide),ak]; omega
 have hH:zD en nd=ww (need (decide (nd.outs≠[])) 8) (ww (wA (yx en true) nd.ins) (ww (wA (yx en true) nd.outs) (wA (yx en false) nd.locals))):=by
  unfold zD; rw[k0,yP,kI,yP]
 by_cases o1:nd.outs=[]
 ·have o1p:¬0<nd.outs.length:=by simp[o1]
  have o1q:¬(0:Int)<nd.outs.length:=by omega
  have:=eL 8 (by rw[hH]; simp[o1,ww]) (by decide)
  rw[this]
  simp[hi,k0,xh,m12,c3,c3i,c4,c4i,c5,c5i,m67,hT,tf o1,o1p,o1q,hF,yg]
  exact⟨-1,rfl⟩
 have o1n:0<nd.outs.length:=bC.2 o1
 have o1i:(0:Int)<nd.outs.length:=by omega
 have ly:zD en nd=ww (wA (yx en true) nd.ins) (ww (wA (yx en true) nd.outs) (wA (yx en false) nd.locals)):=by
  rw[hH]; simp[o1]
 by_cases z1:wA (yx en true) nd.ins=0
 rotate_left
 ·have:=eL _ (by rw[ly]; exact Bv z1) z1
  rw[this]
  simp[hi,k0,xh,m12,c3,c3i,c4,c4i,c5,c5i,m67,hT,o1,o1n,o1i,lF,zH z1,yg]
  exact⟨-1,rfl⟩
 rw[z1,yP] at ly
 rw[z1] at lF
 by_cases z2:wA (yx en true) nd.outs=0
 rotate_left
 ·have:=eL _ (by rw[ly]; exact Bv z2) z2
  rw[this]
  simp[hi,k0,xh,m12,c3,c3i,c4,c4i,c5,c5i,m67,hT,o1,o1n,o1i,lF,mf,zH z2,yg]
  exact⟨-1,rfl⟩
 rw[z2,yP] at ly
 rw[z2] at mf
 by_cases z3:wA (yx en false) nd.locals=0
 rotate_left
 ·have:=eL _ ly z3
  rw[this]
  simp[hi,k0,xh,m12,c3,c3i,c4,c4i,c5,c5i,m67,hT,o1,o1n,o1i,lF,mf,gK,zH z3,yg]
  exact⟨-1,rfl⟩
 rw[z3] at gK ly
 have vp:=gD.eqs
 have gf:RES=match Av (zr en) nd.eqs 0 with
  | some (k,e)=>some ⟨i,k,e⟩
  | none=>if Aq en nd≠0 then some ⟨i,-1,Aq en nd⟩ else none:=by
  rw[em]; unfold zc; rw[af (by simpa using ly)]; rfl
 clear eL mg em
 simp[hi,k0,xh,m12,c3,c3i,c4,c4i,c5,c5i,m67,hT,o1,o1n,o1i,lF,mf,gK]
 refine HW nd.eqs (λ_ q=>decide (zr en q=0)) (λj (x:(PV×PV)×Nat)=>[(4,x.1.1),(5,x.1.2),(11,.int .i64 j)]) (λ_ x=>x.2) (λj _=>h.set n (xa en i ((j:Int) - 1))) ((.dead,.dead),1) ?_ ?_ ?_ rfl rfl rfl
 ·intro j hj cJ x ih
  have hw:=wC j (by omega)
  rw[ak] at cJ
  have hc:=F6 hL en n i j (h.set n (xa en i j)) (gH _) nd.eqs[j] (gD.es _ (ae hj))
  rw[cJ] at hc
  have ih:=λy=>ih y
  rw[show ((j+1:Nat):Int) - 1=j by omega] at ih
  have lG:=eC j
  simp[hj,cO,xa,yO]
  simp only[lG]
  simp[hc,xh,hw]
  simpa using ih ((_,_),_)
 ·intro j hj cJ dK x
  rw[aT] at cJ
  have hc:=F6 hL en n i j (h.set n (xa en i j)) (gH _) nd.eqs[j] (gD.es _ (ae hj))
  have lf:=Lm (f:=zr en) (j:=0) hj cJ (λk hk h1=>by have:=dK k hk h1; simpa using this)
  rw[lf,aK] at gf
  simp only at gf
  rw[gf]
  have lG:=eC j
  simp[hj,cO,xa,yO]
  simp only[lG]
  simp[hc,zH cJ,yg]
  exact⟨j,rfl⟩
 ·intro cY x
  have lf:Av (zr en) nd.eqs 0=none:=FU.2 (λq hq=>by obtain⟨k,hk,rfl⟩:=bg.1 hq; simpa using cY k hk)
  rw[lf] at gf
  simp only at gf
  have lG:=eC (-1)
  simp[cO,xa,yO]
  simp only[lG]
  have las:=gD.assume
  have lgs:=gD.ensure
  refine Ae nd.autos (zI en 3) (λj (y:PV×Nat)=>[(6,y.1),(14,.int .i64 j)]) (λ_ y=>y.2) (λ_ _=>h.set n (xa en i (-1))) (.dead,x.2) ?_ ?_ ?_ rfl rfl rfl
  ·intro j hj cJ y ih
   have hw:=wC j (by have:=gD.autos.len; omega)
   have hc:=gS nd.autos[j] (gD.autos.as _ (ae hj)) (gD.autos.ss _ (ae hj))
   rw[cJ] at hc
   simp at hc
   simp[hj,hc,xh,hw]
   simpa using ih (_,_)
  ·intro j hj cJ hf y
   have hc:=gS nd.autos[j] (gD.autos.as _ (ae hj)) (gD.autos.ss _ (ae hj))
   have ht:Aq en nd=zI en 3 nd.autos[j]:=by unfold Aq; rw[hf]; exact Bv cJ
   rw[ht,ah cJ] at gf
   rw[gf]
   simp at hc
   simp[hj,hc,zH cJ,yg]
   exact⟨-1,rfl⟩
  ·intro e1 y
   simp
   refine Ae nd.assume (zG en) (λj (y:PV×Nat)=>[(7,y.1),(17,.int .i64 j)]) (λ_ y=>y.2) (λ_ _=>h.set n (xa en i (-1))) (.dead,y.2) ?_ ?_ ?_ rfl rfl rfl
   ·intro j hj cJ z ih
    have hw:=wC j (by omega)
    obtain⟨h',hx⟩:=DM hL en nd.assume[j] (gD.as _ (ae hj)) false
    rw[cJ] at hx
    have el:wD 1 false [PV.list false (en.map wJ),.int .i64 i,.int .i64 (-1)] 0=some (.list false (en.map wJ)):=rfl
    simp[hj,cO,hw]
    simp only[xa]
    simp[hx]
    simp only[lG]
    simp[hr,xh,hw]
    simpa using ih (_,_)
   ·intro j hj cJ hf z
    obtain⟨h',hx⟩:=DM hL en nd.assume[j] (gD.as _ (ae hj)) false
    have ht:Aq en nd=zG en nd.assume[j]:=by unfold Aq; rw[e1,yP,hf]; exact Bv cJ
    rw[ht,ah cJ] at gf
    rw[gf]
    simp[hj,cO]
    simp only[xa]
    simp[hx]
    simp only[lG]
    simp[hr,zH cJ,yg]
    exact⟨-1,rfl⟩
   ·intro e2 z
    simp
    refine Ae nd.ensure (zG en) (λj (y:PV×Nat)=>[(8,y.1),(20,.int .i64 j)]) (λ_ y=>y.2) (λ_ _=>h.set n (xa en i (-1))) (.dead,z.2) ?_ ?_ ?_ rfl rfl rfl
    ·intro j hj cJ u ih
     have hw:=wC j (by omega)
     obtain⟨h',hx⟩:=DM hL en nd.ensure[j] (gD.gs _ (ae hj)) false
     rw[cJ] at hx
     simp[hj,cO,hw]
     simp only[xa]
     simp[hx]
     simp only[lG]
     simp[hr,xh,hw]
     simpa using ih (_,_)
    ·intro j hj cJ hf u
     obtain⟨h',hx⟩:=DM hL en nd.ensure[j] (gD.gs _ (ae hj)) false
     have ht:Aq en nd=zG en nd.ensure[j]:=by unfold Aq; rw[e1,yP,e2,yP,hf]
     rw[ht,ah cJ] at gf
     rw[gf]
     simp[hj,cO]
     simp only[xa]
     simp[hx]
     simp only[lG]
     simp[hr,zH cJ,yg]
     exact⟨-1,rfl⟩
    ·intro e3 u
     have ht:Aq en nd=0:=by unfold Aq; rw[e1,e2,e3]; rfl
     rw[ht] at gf
     simp only[ne_eq,bc,if_false] at gf
     rw[gf]
     simp[yg]
     exact⟨-1,rfl⟩
theorem rec48 (w1 w2 c a b e:Int) (o:PObj):yU L 48 [xV 2 a b e,.ptr 0 0,.ptr 1 0] [.cells [.int .i64 w1,.int .i64 w2],.cells [.int .i64 c],o]=some [.cells [.int .i64 a,.int .i64 b],.cells [.int .i64 e],o]:=by
 unfold yU
 rw[hL 48 _ rfl]
 simp[JR,A0,xV]
theorem d0u (w1 w2 c:Int) (o:PObj):yU L 48 [.nilIface,.ptr 0 0,.ptr 1 0] [.cells [.int .i64 w1,.int .i64 w2],.cells [.int .i64 c],o]=some [.cells [.int .i64 w1,.int .i64 w2],.cells [.int .i64 c],o]:=by
 unfold yU
 rw[hL 48 _ rfl]
 simp[JR,A0]
theorem c4h (p:Prog) (hp:PW p):∃h',wr L 23 [yh p] []=some (zh (yy (A4 p)),h'):=by
 suffices H:∃r,wr L 23 [yh p] []=some r∧r.1=zh (yy (A4 p)) by
  obtain⟨⟨v,h'⟩,h1,h2⟩:=H
  exact⟨h',by rw[h1]; simp only at h2; rw[h2]⟩
 refine NA (hL 23 _ rfl) rfl ?_
 obtain⟨H,hH⟩:∃H:PObj→List PObj,∀o,H o=[.cells [.int .i64 0,.int .i64 0],.cells [.int .i64 0],o]:=⟨_,λ_=>rfl⟩
 have gH:∀o,(H o)[2]? = some o:=λo=>by rw[hH]; rfl
 have hT:=CI hL p.enums 2 (-1) (-1) [.cells [.int .i64 0,.int .i64 0],.cells [.int .i64 0],xa p.enums (-1) (-1)] rfl
 have hF:=Cq hL p.enums 2 (-1) (-1) [.cells [.int .i64 0,.int .i64 0],.cells [.int .i64 0],xa p.enums (-1) (-1)] rfl
 have lA:=c6T hL p.enums 2 (-1) (-1) [.cells [.int .i64 0,.int .i64 0],.cells [.int .i64 0],xa p.enums (-1) (-1)] rfl
 have eC:PObj.cells [PV.list false (p.enums.map wJ),.int .i64 (-1),.int .i64 (-1)]=xa p.enums (-1) (-1):=rfl
 have l1:=hp.enums
 have l2:=hp.nodes
 have d8:=rec48 hL 0 0 0
 have o5:=d0u hL 0 0 0
 simp[JN]
 rw[NC (cs:=[.ptr 0 0,.ptr 1 0]) _ _ _ rfl (by simp)]
 unfold A4
 by_cases c1:p.enums.length≤24
 rotate_left
 ·have c1i:¬(p.enums.length:Int)≤24:=by omega
  simp[eC,c1,c1i,hF,d8,yy,zh,wD]
  rfl
 have c1i:(p.enums.length:Int)≤24:=by omega
 by_cases c2:p.nodes.length≤96
 rotate_left
 ·have c2i:¬(p.nodes.length:Int)≤96:=by omega
  simp[eC,c1,c1i,c2,c2i,hF,d8,yy,zh,wD]
  rfl
 have c2i:(p.nodes.length:Int)≤96:=by omega
 rw[af (by simp[c1,c2])]
 obtain⟨RES,em⟩:∃RES,RES=(if wA BW p.enums≠0 then some ⟨-1,-1,wA BW p.enums⟩ else Am p.enums p.nodes 0):=⟨_,rfl⟩
 rw[← em]
 simp[eC,c1,c1i,c2,c2i,hT]
 refine Ae p.enums BW (λi (x:PV×Nat)=>[(5,x.1),(11,.int .i64 i)]) (λ_ x=>x.2) (λ_ _=>[.cells [.int .i64 0,.int .i64 0],.cells [.int .i64 0],xa p.enums (-1) (-1)]) (.dead,1) ?_ ?_ ?_ rfl rfl rfl
 ·intro i hi cJ x ih
  have hw:=wC i (by omega)
  have hc:=lA p.enums[i] (hp.tags _ (ae hi))
  rw[cJ] at hc
  simp[hi,hw,hc,xh]
  simpa using ih (_,_)
 ·intro i hi cJ hf x
  have hc:=lA p.enums[i] (hp.tags _ (ae hi))
  rw[hf,ah cJ] at em
  subst em
  simp[hi,hc,zH cJ,d8,yy,zh,wD]
  rfl
 ·intro e1 x
  rw[e1,af (by simp)] at em
  simp
  refine HW p.nodes (λi nd=>(zc p.enums nd i).isNone) (λi (y:((PV×PV)×Nat)×Int×Int)=>[(6,y.1.1.1),(7,y.1.1.2),(14,.int .i64 i)]) (λ_ y=>y.1.2) (λ_ y=>[.cells [.int .i64 0,.int .i64 0],.cells [.int .i64 0],xa p.enums y.2.1 y.2.2]) (((.dead,.dead),x.2),-1,-1) ?_ ?_ ?_ rfl rfl rfl
  ·intro i hi cJ y ih
   have hw:=wC i (by omega)
   obtain⟨k,hc⟩:=PM hL p.enums 2 y.2.1 y.2.2 [.cells [.int .i64 0,.int .i64 0],.cells [.int .i64 0],xa p.enums y.2.1 y.2.2] rfl i p.nodes[i] (hp.ns _ (ae hi))
   rw[bR] at cJ
   rw[cJ] at hc
   simp[yg] at hc
   simp[hi,hw,hc]
   simpa using ih (((_,_),_),i,k)
  ·intro i hi cJ dK y
   obtain⟨k,hc⟩:=PM hL p.enums 2 y.2.1 y.2.2 [.cells [.int .i64 0,.int .i64 0],.cells [.int .i64 0],xa p.enums y.2.1 y.2.2] rfl i p.nodes[i] (hp.ns _ (ae hi))
   obtain⟨b,hb⟩:∃b,zc p.enums p.nodes[i] i=some b:=by
    cases hx:zc p.enums p.nodes[i] i with
    | none=>rw[hx] at cJ; simp at cJ
    | some b=>exact⟨b,rfl⟩
   have dl:Am p.enums p.nodes 0=some b:=Ln hi (by rw[aK]; exact hb) (λk hk h1=>by have:=dK k hk h1; rw[bR] at this; rw[aK]; exact this)
   rw[hb] at hc
   rw[dl] at em
   subst em
   simp[yg] at hc
   simp[hi,hc,d8,yy,zh,wD]
   rfl
  ·intro cY y
   have dl:Am p.enums p.nodes 0=none:=Lo (λk hk=>by have:=cY k hk; rw[bR] at this; rw[aK]; exact this)
   rw[dl] at em
   subst em
   simp[wM,o5,yy,Dw,zh,wD]
   rfl
end
end PI.Sc
set_option maxRecDepth 100000
set_option linter.unusedSimpArgs false
set_option linter.unusedVariables false
namespace PI.Sc
open Go (IntKind BinOp UnOp)
open Short
def zV (k:Int×Str):PV := .agg [.int .i64 k.1,.str k.2]
def F8 (x:(Int×Str)×Int):PV×PV:=(zV x.1,.int .i64 x.2)
abbrev ye:=List ((Int×Str)×Int)
def zp (l:ye):List (Int×Str):=l.map (·.1)
def wK (l:ye):PObj := .map (l.map F8)
def wI (en:List Enum) (ns:List Node) (a b:Int):PObj := .cells [.list false (en.map wJ),.list false (ns.map xc),.int .i64 a,.int .i64 b,.map (some 2)]
def yX (k:Int×Str):ye→Option Int
 | []=>none
 | x::l=>if k=x.1 then some x.2 else yX k l
theorem Dv {k:Int×Str}:∀{l:ye},yX k l=none↔k∉zp l
 | []=>by simp[yX,zp]
 | x :: l => by
   have:=Dv (k:=k) (l:=l)
   by_cases h:k=x.1<;>simp[yX,zp,h] at this ⊢<;>exact this
theorem d0w (a b:Int×Str):peq true [.i,.s] (zV a) (zV b)=some (decide (a=b)):=by
 obtain⟨a1,a2⟩:=a
 obtain⟨b1,b2⟩:=b
 simp only[zV,peq,if_true,Ah,AB,ar,az,aa,cd,ac]
 rw[aF]; simp
theorem F9 (k:Int×Str):∀(l:ye) (i:Nat),∃r,yk true [.i,.s] (zV k) (l.map F8) i=some r∧r.map (·.2)=(yX k l).map (PV.int .i64)
 | [],i=>⟨none,by simp[yk,zV],rfl⟩
 | x :: l, i => by
   have he:peq true [.i,.s] (zV k) (F8 x).1=some (decide (k=x.1)):=d0w k x.1
   by_cases hx:k=x.1
   ·subst hx
    refine⟨some (i,.int .i64 x.2),?_,by simp[yX]⟩
    simp only[aG,yk,he,ar,decide_true,if_true]
    rfl
   ·obtain⟨r,h1,h2⟩:=F9 k l (i+1)
    refine⟨r,?_,by simp[yX,hx,h2]⟩
    simp only[aG,yk,he,ar,hx,decide_false,ay,if_false,h1]
def bmE (l:List Str):List (PV×PV):=l.map λs=>(.str s,.bool true)
def A1 (l:List Str) (x:Str):List Str:=if x∈l then l else l++[x]
theorem GU {l:List Str} {x y:Str}:y∈A1 l x↔y∈l∨y=x:=by
 unfold A1; split
 ·rename_i h
  exact⟨.inl,λhh=>hh.elim id λe=>e▸h⟩
 ·simp
theorem PN (x:Str):∀(l:List Str) (i:Nat),(x∉l→yk false [.s] (.str x) (bmE l) i=some none)∧(x∈l→∃j,yk false [.s] (.str x) (bmE l) i=some (some (i+j,.bool true))∧l[j]? = some x)
 | [],i=>⟨λ_=>rfl,λh=>by simp at h⟩
 | y :: l, i => by
   have he:peq false [.s] (.str x) (.str y)=some (x==y):=rfl
   obtain⟨h1,h2⟩:=PN x l (i+1)
   constructor
   ·intro h
    simp only[aA,not_or] at h
    have hb:(x==y)=false:=by simpa using h.1
    simp only[bmE,aG,yk,he,ar,hb,ay,if_false]
    exact h1 h.2
   ·intro h
    by_cases hx:x=y
    ·subst hx
     exact⟨0,by simp[bmE,yk,he],rfl⟩
    ·have hb:(x==y)=false:=by simpa using hx
     obtain⟨j,h3,h4⟩:=h2 (by simpa[hx] using h)
     refine⟨j+1,?_,by simpa using h4⟩
     simp only[bmE,aG,yk,he,ar,hb,ay,if_false]
     rw[show i+(j+1)=i+1+j by omega]
     exact h3
theorem BM (x:Str) (l:List Str):∃r,yk false [.s] (.str x) (bmE l) 0=some r∧r.map (·.2)=(if x∈l then some (PV.bool true) else none)∧HX (bmE l) (.str x) (.bool true) r=bmE (A1 l x):=by
 obtain⟨h1,h2⟩:=PN x l 0
 by_cases h:x∈l
 ·obtain⟨j,h3,h4⟩:=h2 h
  refine⟨_,h3,by simp[h],?_⟩
  obtain⟨hj,hx⟩:=aj.1 h4
  simp only[b72,A1,h,if_true,aK]
  have:(bmE l)[j]'(by simpa[bmE] using hj)=(.str x,.bool true):=by simp[bmE,hx]
  rw[← this,List.set_getElem_self]
 ·exact⟨none,h1 h,by simp[h],by simp[A1,h,bmE]⟩
structure Fr where
 O:List Str
 D:List Str
 I:List Str
 df:List Str
def Kp (b:Nat) (h h':List PObj):Prop:=h.length≤h'.length∧∀n,n<b→h'[n]? = h[n]?
theorem Kp.refl (b:Nat) (h:List PObj):Kp b h h:=⟨aq _,λ_ _=>rfl⟩
theorem Kp.trans {b:Nat} {h h' h'':List PObj} (h1:Kp b h h') (h2:Kp b h' h''):Kp b h h'':=⟨aR h1.1 h2.1,λn hn=>(h2.2 n hn).trans (h1.2 n hn)⟩
theorem Kp.le {b b':Nat} {h h':List PObj} (h1:Kp b h h') (hb:b'≤b):Kp b' h h':=⟨h1.1,λn hn=>h1.2 n (by omega)⟩
theorem Kp.app {b:Nat} {h e:List PObj} (hb:b≤h.length):Kp b h (h++e):=⟨by simp,λn hn=>by rw[am (by omega)]⟩
theorem Kp.set {b n:Nat} {h:List PObj} {o:PObj} (hb:b≤n):Kp b h (h.set n o):=⟨by simp,λk hk=>by rw[ao (by omega)]⟩
def PP (h:List PObj) (b' b:Nat) (dv:PV) (df:List Str):Prop:=(dv = .list true []∧df=[])∨∃k,b'≤k∧k<b∧dv = .rowp k 1 false df.length∧h[k]? = some (.cells (df.map PV.str))
def Holds (h:List PObj):Nat→PV→List Fr→Prop
 | b,v,[]=>v = .nilptr
 | b, v, f :: fs => ∃ (b' n o d : Nat) (i dv up : PV), v = .ptr n 0 ∧ b' ≤ n ∧ b' ≤ o ∧ b' ≤ d ∧ n < b ∧ o < b ∧ d < b ∧ n ≠ o ∧ n ≠ d ∧ o ≠ d ∧ 4 ≤ b' ∧ h[n]? = some (.cells [up, .map (some o), .map (some d), i, dv]) ∧ h[o]? = some (.map (bmE f.O)) ∧ h[d]? = some (.map (bmE f.D)) ∧
   ((i = .map none∧f.I=[])∨∃m,i = .map (some m)∧b'≤m∧m<b∧m≠n∧m≠o∧m≠d∧h[m]? = some (.map (bmE f.I)))∧PP h b' b dv f.df∧(∀k s a len,dv = .rowp k s a len→k≠n∧k≠o∧k≠d∧i≠.map (some k))∧Holds h b' up fs
theorem Holds.keep {h h':List PObj}:∀{fs:List Fr} {b:Nat} {v:PV},Holds h b v fs→(∀n,n<b→h'[n]? = h[n]?)→Holds h' b v fs
 | [],b,v,hh,_=>hh
 | f :: fs, b, v, hh, hk => by
   obtain⟨b',n,o,d,i,dv,up,h1,h2,h3,h4,h5,h6,h7,h8,h9,ij,pd,gQ,m5,lH,nJ,pe,pg,jR⟩:=hh
   refine⟨b',n,o,d,i,dv,up,h1,h2,h3,h4,h5,h6,h7,h8,h9,ij,pd,(hk _ h5).trans gQ,(hk _ h6).trans m5,(hk _ h7).trans lH,?_,?_,pg,jR.keep λk dh=>hk k (by omega)⟩
   ·rcases nJ with h|⟨m,e1,e2,e3,e4,e5,e6,e7⟩
    ·exact .inl h
    ·exact .inr ⟨m,e1,e2,e3,e4,e5,e6,(hk _ e3).trans e7⟩
   ·rcases pe with h|⟨k,e1,e2,e3,e4⟩
    ·exact .inl h
    ·exact .inr ⟨k,e1,e2,e3,(hk _ e2).trans e4⟩
theorem Holds.up {h:List PObj}:∀{fs:List Fr} {b c:Nat} {v:PV},Holds h b v fs→b≤c→Holds h c v fs
 | [],b,c,v,hh,_=>hh
 | f :: fs, b, c, v, hh, hk => by
   obtain⟨b',n,o,d,i,dv,up,h1,h2,h3,h4,h5,h6,h7,h8,h9,ij,pd,gQ,m5,lH,nJ,pe,pg,jR⟩:=hh
   refine⟨b',n,o,d,i,dv,up,h1,h2,h3,h4,by omega,by omega,by omega,h8,h9,ij,pd,gQ,m5,lH,?_,?_,pg,jR⟩
   ·rcases nJ with h|⟨m,e1,e2,e3,e4,e5,e6,e7⟩
    ·exact .inl h
    ·exact .inr ⟨m,e1,e2,by omega,e4,e5,e6,e7⟩
   ·rcases pe with h|⟨k,e1,e2,e3,e4⟩
    ·exact .inl h
    ·exact .inr ⟨k,e1,by omega,e3,e4⟩
theorem Holds.ptr {h:List PObj} {fs:List Fr} {b:Nat} {v:PV} (hv:Holds h b v fs):v = .nilptr∨∃n,v = .ptr n 0:=by
 cases fs with
 | nil=>exact .inl hv
 | cons f fs=>obtain⟨_,n,_,_,_,_,_,e,_⟩:=hv; exact .inr ⟨n,e⟩
theorem Holds.cp {h:List PObj} {fs:List Fr} {b:Nat} {v:PV} (hv:Holds h b v fs):cp v=some v:=by rcases hv.ptr with rfl|⟨n,rfl⟩<;>rfl
theorem Holds.tkv {h:List PObj} {fs:List Fr} {b:Nat} {v:PV} (hv:Holds h b v fs):tkv v=some (v,false):=by rcases hv.ptr with rfl|⟨n,rfl⟩<;>rfl
theorem Holds.dem {h:List PObj} {fs:List Fr} {b:Nat} {v:PV} (hv:Holds h b v fs):dem v=v:=by rcases hv.ptr with rfl|⟨n,rfl⟩<;>rfl
def xK (fs:List Fr) (x:Str):Bool:=fs.any λf=>decide (x∈f.O)
def zw (fs:List Fr) (x:Str):Bool:=fs.any λf=>decide (x∈f.D)||decide (x∈f.I)
section
variable {L:Nat→Option PFunc} (hL:∀k f,LS k=some f→L k=some f) (en:List Enum) (ns:List Node) (a b:Int)
include hL
section
variable (h:List PObj) (h3:h[3]? = some (wI en ns a b))
include h3
theorem Cc (e:Int):wQ L 57 [.ptr 3 0,.bool true,.int .i64 e] h=some (.val (.tuple []),h):=by
 have _:=h3
 refine zF (hL 57 _ rfl) rfl ?_
 simp[He]
theorem Cd (e:Int):wQ L 57 [.ptr 3 0,.bool false,.int .i64 e] h=some (.boom (xV 1 a b e),h):=by
 refine zF (hL 57 _ rfl) rfl ?_
 simp[He,h3,wI,xV]
theorem Js (l:ye) (h2:h[2]? = some (wK l)) (k:Int×Str) (i:Int) (hk:k∈zp l):wQ L 28 [.ptr 3 0,zV k,.int .i64 i] h=some (.boom (xV 1 a b 7),h):=by
 have hm:=Cd hL en ns a b h h3 7
 obtain⟨r,h4,h5⟩:=F9 k l 0
 cases r with
 | none =>
   have:yX k l=none:=by simpa using h5.symm
   exact absurd hk (Dv.1 this)
 | some r =>
   obtain⟨j,v⟩:=r
   obtain⟨z,rfl⟩:∃z,v = .int .i64 z:=by
    cases he:yX k l with
    | none=>rw[he] at h5; simp at h5
    | some z=>rw[he] at h5; exact⟨z,by simpa using h5⟩
   refine zF (hL 28 _ rfl) rfl ?_
   have eW:zV k = .agg [.int .i64 k.1,.str k.2]:=rfl
   rw[eW] at h4 ⊢
   simp[Hb,h4,h3,h2,wI,wK,hm,C9]
theorem Jt (l:ye) (h2:h[2]? = some (wK l)) (k:Int×Str) (i:Int) (hk:k∉zp l):wQ L 28 [.ptr 3 0,zV k,.int .i64 i] h=some (.val (.tuple []),h.set 2 (wK (l++[(k,i)]))):=by
 have hm:=Cc hL en ns a b h h3 7
 obtain⟨r,h4,h5⟩:=F9 k l 0
 rw[Dv.2 hk] at h5
 simp only[co,Option.map_eq_none_iff] at h5
 subst h5
 refine zF (hL 28 _ rfl) rfl ?_
 have eW:zV k = .agg [.int .i64 k.1,.str k.2]:=rfl
 have e3:wK (l++[(k,i)]) = .map (l.map F8++[(.agg [.int .i64 k.1,.str k.2],.int .i64 i)]):=by simp[wK,F8,zV]
 rw[e3]
 rw[eW] at h4 ⊢
 simp[Hb,h4,h3,h2,wI,wK,hm,C9]
end
theorem HY (x:Str):∀(fs:List Fr) (h:List PObj) (b:Nat) (v:PV),Holds h b v fs→wr L 97 [v,.str x] h=some (.bool (xK fs x),h):=by
 have key:∀(fs:List Fr) (h:List PObj) (b:Nat) (v:PV),Holds h b v fs→wpL L FA ⟨[v,.str x,.bool false],[],0,h⟩ (AQ 0 (A8 L (S (R [t 2 F]) Y) (Bs Er.results (.bool (xK fs x),h)))):=by
  intro fs
  induction fs with
  | nil =>
    intro h b v hv
    have hv:v = .nilptr:=hv
    subst hv
    rw[FA,zo]
    simp[Er,xK]
  | cons f fs ih =>
    intro h b v hv
    obtain⟨b',n,o,d,i,dv,up,h1,h2,h3,h4,h5,h6,h7,h8,h9,ij,pd,gQ,m5,lH,nJ,pe,pg,jR⟩:=hv
    subst h1
    obtain⟨r,hr,eG,_⟩:=BM x f.O
    rw[FA,zo]
    by_cases hx:x∈f.O
    ·simp[hx] at eG
     obtain⟨j,rfl⟩:=eG
     simp[gQ,m5,hr,xt,Er,xK,hx]
    ·simp[hx] at eG
     subst eG
     simp[gQ,m5,hr,xt,jR.cp,jR.tkv]
     have:=ih h b' up jR
     rw[FA] at this
     simpa[xK,hx] using this
 intro fs h b v hv
 refine wz (hL 97 _ rfl) rfl ?_
 simpa[Er,hv.dem] using key fs h b v hv
theorem c0T (x:Str):∀(fs:List Fr) (h:List PObj) (b:Nat) (v:PV),Holds h b v fs→wr L 98 [v,.str x] h=some (.bool (zw fs x),h):=by
 have key:∀(fs:List Fr) (h:List PObj) (b:Nat) (v:PV),Holds h b v fs→wpL L FB ⟨[v,.str x,.bool false],[],0,h⟩ (AQ 0 (A8 L (S (R [t 2 F]) Y) (Bs DA.results (.bool (zw fs x),h)))):=by
  intro fs
  induction fs with
  | nil =>
    intro h b v hv
    have hv:v = .nilptr:=hv
    subst hv
    rw[FB,zo]
    simp[DA,zw]
  | cons f fs ih =>
    intro h b v hv
    obtain⟨b',n,o,d,i,dv,up,h1,h2,h3,h4,h5,h6,h7,h8,h9,ij,pd,gQ,m5,lH,nJ,pe,pg,jR⟩:=hv
    subst h1
    obtain⟨r,hr,eG,_⟩:=BM x f.D
    have d8:=ih h b' up jR
    rw[FB] at d8
    rw[FB,zo]
    by_cases hx:x∈f.D
    ·simp[hx] at eG
     obtain⟨j,rfl⟩:=eG
     simp[gQ,lH,hr,xt,DA,zw,hx]
    ·simp[hx] at eG
     subst eG
     rcases nJ with⟨rfl,hI⟩|⟨m,rfl,_,_,_,_,_,hm⟩
     ·simp[gQ,lH,hr,xt,yk,jR.cp,jR.tkv]
      simpa[zw,hx,hI] using d8
     ·obtain⟨r,fl,ii,_⟩:=BM x f.I
      by_cases hy:x∈f.I
      ·simp[hy] at ii
       obtain⟨j,rfl⟩:=ii
       simp[gQ,lH,hr,fl,hm,xt,DA,zw,hx,hy]
      ·simp[hy] at ii
       subst ii
       simp[gQ,lH,hr,fl,hm,xt,jR.cp,jR.tkv]
       simpa[zw,hx,hy] using d8
 intro fs h b v hv
 refine wz (hL 98 _ rfl) rfl ?_
 simpa[DA,hv.dem] using key fs h b v hv
end
structure TopAt (h:List PObj) (b b' n o d:Nat) (i dv up:PV) (f:Fr) (fs:List Fr):Prop where
 ln:b'≤n
 lo:b'≤o
 ld:b'≤d
 un:n<b
 uo:o<b
 ud:d<b
 no:n≠o
 nd:n≠d
 od:o≠d
 four:4≤b'
 hn:h[n]? = some (.cells [up,.map (some o),.map (some d),i,dv])
 ho:h[o]? = some (.map (bmE f.O))
 hd:h[d]? = some (.map (bmE f.D))
 hi:(i = .map none∧f.I=[])∨∃m,i = .map (some m)∧b'≤m∧m<b∧m≠n∧m≠o∧m≠d∧h[m]? = some (.map (bmE f.I))
 row:PP h b' b dv f.df
 rne:∀k s a len,dv = .rowp k s a len→k≠n∧k≠o∧k≠d∧i≠.map (some k)
 hup:Holds h b' up fs
theorem TopAt.holds {h:List PObj} {b b' n o d:Nat} {i dv up:PV} {f:Fr} {fs:List Fr} (t:TopAt h b b' n o d i dv up f fs):Holds h b (.ptr n 0) (f::fs):=
 ⟨b',n,o,d,i,dv,up,rfl,t.ln,t.lo,t.ld,t.un,t.uo,t.ud,t.no,t.nd,t.od,t.four,t.hn,t.ho,t.hd,t.hi,t.row,t.rne,t.hup⟩
section
variable {h h':List PObj} {b b' n o d:Nat} {i dv up:PV} {f:Fr} {fs:List Fr}
theorem TopAt.keep (t:TopAt h b b' n o d i dv up f fs) (hk:∀n,n<b→h'[n]? = h[n]?):TopAt h' b b' n o d i dv up f fs where
 ln:=t.ln
 lo:=t.lo
 ld:=t.ld
 un:=t.un
 uo:=t.uo
 ud:=t.ud
 no:=t.no
 nd:=t.nd
 od:=t.od
 four:=t.four
 hn:=(hk _ t.un).trans t.hn
 ho:=(hk _ t.uo).trans t.ho
 hd:=(hk _ t.ud).trans t.hd
 hi:=by
  rcases t.hi with h|⟨m,e1,e2,e3,e4,e5,e6,e7⟩
  ·exact .inl h
  ·exact .inr ⟨m,e1,e2,e3,e4,e5,e6,(hk _ e3).trans e7⟩
 row:=by
  rcases t.row with h|⟨k,e1,e2,e3,e4⟩
  ·exact .inl h
  ·exact .inr ⟨k,e1,e2,e3,(hk _ e2).trans e4⟩
 rne:=t.rne
 hup:=t.hup.keep λk dh=>hk k (by have:=t.ln; have:=t.un; omega)
theorem TopAt.setO (t:TopAt h b b' n o d i dv up f fs) (O:List Str):TopAt (h.set o (.map (bmE O))) b b' n o d i dv up { f with O:=O } fs where
 ln:=t.ln
 lo:=t.lo
 ld:=t.ld
 un:=t.un
 uo:=t.uo
 ud:=t.ud
 no:=t.no
 nd:=t.nd
 od:=t.od
 four:=t.four
 hn:=by rw[ao (Ne.symm t.no)]; exact t.hn
 ho:=by
  obtain⟨hl,_⟩:=aj.1 t.ho
  rw[bp hl]
 hd:=by rw[ao t.od]; exact t.hd
 hi:=by
  rcases t.hi with h|⟨m,e1,e2,e3,e4,e5,e6,e7⟩
  ·exact .inl h
  ·exact .inr ⟨m,e1,e2,e3,e4,e5,e6,by rw[ao (Ne.symm e5)]; exact e7⟩
 row:=by
  rcases t.row with h|⟨k,e1,e2,e3,e4⟩
  ·exact .inl h
  ·exact .inr ⟨k,e1,e2,e3,by rw[ao (Ne.symm (t.rne _ _ _ _ e3).2.1)]; exact e4⟩
 rne:=t.rne
 hup:=t.hup.keep λk dh=>ao (by have:=t.lo; omega)
theorem TopAt.setD (t:TopAt h b b' n o d i dv up f fs) (D:List Str):TopAt (h.set d (.map (bmE D))) b b' n o d i dv up { f with D:=D } fs where
 ln:=t.ln
 lo:=t.lo
 ld:=t.ld
 un:=t.un
 uo:=t.uo
 ud:=t.ud
 no:=t.no
 nd:=t.nd
 od:=t.od
 four:=t.four
 hn:=by rw[ao (Ne.symm t.nd)]; exact t.hn
 ho:=by rw[ao (Ne.symm t.od)]; exact t.ho
 hd:=by
  obtain⟨hl,_⟩:=aj.1 t.hd
  rw[bp hl]
 hi:=by
  rcases t.hi with h|⟨m,e1,e2,e3,e4,e5,e6,e7⟩
  ·exact .inl h
  ·exact .inr ⟨m,e1,e2,e3,e4,e5,e6,by rw[ao (Ne.symm e6)]; exact e7⟩
 row:=by
  rcases t.row with h|⟨k,e1,e2,e3,e4⟩
  ·exact .inl h
  ·exact .inr ⟨k,e1,e2,e3,by rw[ao (Ne.symm (t.rne _ _ _ _ e3).2.2.1)]; exact e4⟩
 rne:=t.rne
 hup:=t.hup.keep λk dh=>ao (by have:=t.ld; omega)
end
def BN (l:ye) (tags:List Str):Prop:=∀x,((0:Int),x)∈zp l↔x∈tags
def NodesIn (l:ye) (ns:List Node) (k:Nat):Prop:=∀x,match callee (ns.take k) x with
 | none=>∀i:Int,yX (1,x) l=some i→¬i<k
 | some m=>∃j:Nat,yX (1,x) l=some (j:Int)∧j<k∧ns[j]? = some m
section
variable {L:Nat→Option PFunc} (hL:∀k f,LS k=some f→L k=some f) (en:List Enum) (ns:List Node) (a b:Int) (ents:ye)
include hL
theorem Nu (tags:List Str) (db:BN ents tags) (l:List Decl) (hl:l.length≤4500) (r:Bool) (h:List PObj) (h2:h[2]? = some (wK ents)) (h3:h[3]? = some (wI en ns a b)) (q q' n o d:Nat) (i dv up:PV) (f:Fr) (fs:List Fr) (t:TopAt h q q' n o d i dv up f fs) (vis:List Str) (di:∀x,xK (f::fs) x=true↔x∈vis):
  ∃h' O,wQ L 59 [.ptr 3 0,.ptr n 0,.list r (l.map wF)] h=some (wG 1 a b (w9 tags l vis).1,h')∧Kp q' h h'∧h'.length=h.length∧TopAt h' q q' n o d i dv up { f with O:=O } fs∧((w9 tags l vis).1=0→(∀x,xK ({ f with O:=O }::fs) x=true↔x∈(w9 tags l vis).2)∧∀x,x∈O↔x∈f.O∨x∈wv l):=by
 suffices H:∃res,wQ L 59 [.ptr 3 0,.ptr n 0,.list r (l.map wF)] h=some res∧∃h' O,res=(wG 1 a b (w9 tags l vis).1,h')∧Kp q' h h'∧h'.length=h.length∧TopAt h' q q' n o d i dv up { f with O:=O } fs∧((w9 tags l vis).1=0→(∀x,xK ({ f with O:=O }::fs) x=true↔x∈(w9 tags l vis).2)∧∀x,x∈O↔x∈f.O∨x∈wv l) by
  obtain⟨res,e1,h',O,e2,e3⟩:=H
  exact⟨h',O,by rw[e1,e2],e3⟩
 refine Cb (hL 59 _ rfl) rfl ?_
 simp[Hf]
 rw[N4]
 refine yQ l.length (λk st=>∃y3 y4 g h' O vis',st=⟨[.ptr 3 0,.ptr n 0,.list false (l.map wF),y3,y4,.list false (l.map wF),.int .i64 l.length,.int .i64 k],[],g,h'⟩∧Kp q' h h'∧h'.length=h.length∧TopAt h' q q' n o d i dv up { f with O:=O } fs∧w9 tags l vis=w9 tags (l.drop k) vis'∧(∀x,xK ({ f with O:=O }::fs) x=true↔x∈vis')∧∀x,x∈O↔x∈f.O∨x∈wv (l.take k)) ?_ ?_ ⟨_,_,_,h,f.O,vis,rfl,Kp.refl _ _,rfl,t,rfl,di,λx=>by simp[wv]⟩
 ·rintro k hk st ⟨y3,y4,g,h',O,vis',rfl,cZ,cI,ht,da,hv,hO⟩ ih
  have hw:=wC k (by omega)
  have fM:h'[2]? = some (wK ents):=(cZ.2 2 (by have:=ht.four; omega)).trans h2
  have eF:h'[3]? = some (wI en ns a b):=(cZ.2 3 (by have:=ht.four; omega)).trans h3
  have hT:=Cc hL en ns a b h' eF 7
  have hF:=Cd hL en ns a b h' eF 7
  have hs:=HY hL l[k].name _ h' q _ ht.holds
  have j6:=hv l[k].name
  have gy:=db l[k].name
  rw[aN hk] at da
  simp only[w9] at da
  obtain⟨z,hz,eE⟩:=F9 (0,l[k].name) ents 0
  simp only[zV] at hz
  have hn:=ht.hn
  have ho:=ht.ho
  cases z with
  | some z =>
    obtain⟨j,v⟩:=z
    obtain⟨u,hu,rfl⟩:∃u,yX (0,l[k].name) ents=some u∧v = .int .i64 u:=by
     cases he:yX (0,l[k].name) ents with
     | none=>rw[he] at eE; simp at eE
     | some u=>rw[he] at eE; exact⟨u,rfl,by simpa using eE⟩
    have dO:l[k].name∈tags:=gy.1 (cG λhn=>by rw[Dv.2 hn] at hu; simp at hu)
    rw[ah (.inr dO)] at da
    simp[hk,eF,wI,fM,wK,xt,hz,hF]
    refine⟨h',by rw[da]; exact⟨rfl,rfl⟩,cZ,cI,O,ht,by rw[da]; simp⟩
  | none =>
    have eg:yX (0,l[k].name) ents=none:=by simpa using eE.symm
    have sd:l[k].name∉tags:=λhx=>Dv.1 eg (gy.2 hx)
    by_cases hx:l[k].name∈vis'
    ·rw[ah (.inl hx)] at da
     rw[j6.2 hx] at hs
     simp[hk,eF,wI,fM,wK,xt,hz,hs,hF]
     refine⟨h',by rw[da]; exact⟨rfl,rfl⟩,cZ,cI,O,ht,by rw[da]; simp⟩
    ·rw[af (by simp[hx,sd])] at da
     have kZ:xK ({ f with O:=O }::fs) l[k].name=false:=by
      cases hc:xK ({ f with O:=O }::fs) l[k].name with
      | false=>rfl
      | true=>exact absurd (j6.1 hc) hx
     rw[kZ] at hs
     have gu:wv (l.take (k+1))=wv (l.take k)++[l[k].name]:=by simp only[wv,bS,an hk,Option.toList,bk,aG,bA]
     obtain⟨r',hr,_,ii⟩:=BM l[k].name O
     simp[hk,eF,wI,fM,wK,xt,hz,hs,hT,hn,ho,hr,ii,hw]
     refine ih _ ⟨_,_,_,_,A1 O l[k].name,vis'++[l[k].name],rfl,cZ.trans (Kp.set ht.lo),by simp[cI],ht.setO _,da,?_,λx=>by rw[GU,hO,gu,ax,bH,or_assoc]⟩
     ·intro x
      have:=hv x
      simp only[xK,List.any_cons,bF,ak,GU,ax,bH] at this ⊢
      rw[← this]
      constructor
      ·rintro((h1|h1)|h1)
       ·exact .inl (.inl h1)
       ·exact .inr h1
       ·exact .inl (.inr h1)
      ·rintro((h1|h1)|h1)
       ·exact .inl (.inl h1)
       ·exact .inr h1
       ·exact .inl (.inr h1)
 ·rintro st ⟨y3,y4,g,h',O,vis',rfl,cZ,cI,ht,da,hv,hO⟩
  rw[ba (aq _)] at da
  simp only[w9] at da
  simp[Hf]
  refine⟨h',by rw[da]; exact⟨rfl,rfl⟩,cZ,cI,O,ht,?_⟩
  rw[da]
  intro _
  exact⟨by simpa using hv,by simpa using hO⟩
theorem Nv (l:List Decl) (hl:l.length≤4500) (hd:∀d∈l,DW d) (r:Bool) (h:List PObj) (h3:h[3]? = some (wI en ns a b)) (q:Nat) (v:PV) (fs:List Fr) (hv:Holds h q v fs) (vis:List Str) (di:∀x,xK fs x=true↔x∈vis):
  wQ L 60 [.ptr 3 0,v,.list r (l.map wF)] h=some (wG 1 a b (zg vis l),h):=by
 have hT:=Cc hL en ns a b h h3 6
 have hF:=Cd hL en ns a b h h3 6
 have hs:=λx=>HY hL x _ h q _ hv
 have lg:=hv.dem
 have iG:=hv.cp
 have iH:=hv.tkv
 have pj:∀x,xK fs x=decide (x∈vis):=λx=>by rw[aF,ak]; exact di x
 refine zF (hL 60 _ rfl) rfl ?_
 simp[Hg,lg]
 have dz:zg vis l=wA (λd=>wA (λo:On=>need (decide (o.name∈vis)) 6) d.clock) l:=rfl
 rw[dz]
 refine Ae l (λd=>wA (λo:On=>need (decide (o.name∈vis)) 6) d.clock) (λi (x:(PV×PV×PV×PV×PV)×Nat)=>[(3,x.1.1),(4,x.1.2.1),(8,x.1.2.2.1),(9,x.1.2.2.2.1),(10,x.1.2.2.2.2),(7,.int .i64 i)]) (λ_ x=>x.2) (λ_ _=>h) ((.dead,.dead,.dead,.dead,.dead),0) ?_ ?_ ?_ rfl rfl rfl
 ·intro i dC cJ x ih
  have hw:=wC i (by omega)
  have dm:=(hd _ (ae dC)).clock
  have hE:∀o∈l[i].clock,need (decide (o.name∈vis)) 6=0:=A2.1 cJ
  simp[dC]
  refine Ae l[i].clock (λo:On=>need (decide (o.name∈vis)) 6) (λj (y:PV×Nat)=>[(10,.int .i64 j),(4,y.1)]) (λ_ y=>y.2) (λ_ _=>h) (x.1.2.1,x.2+1) ?_ ?_ ?_ rfl rfl rfl
  ·intro j hj cU y ih2
   have gq:=wC j (by omega)
   rw[yZ (by decide),ak] at cU
   simp[hj,hs,pj,cU,hT,gq,iG,iH]
   simpa using ih2 (_,_)
  ·intro j hj cU _ y
   exact absurd (hE _ (ae hj)) cU
  ·intro _ y
   simp[hw]
   simpa using ih ((_,_,_,_,_),_)
 ·intro i dC cJ hf x
  have dm:=(hd _ (ae dC)).clock
  rw[hf]
  simp[dC]
  refine Ae l[i].clock (λo:On=>need (decide (o.name∈vis)) 6) (λj (y:PV×Nat)=>[(10,.int .i64 j),(4,y.1)]) (λ_ y=>y.2) (λ_ _=>h) (x.1.2.1,x.2+1) ?_ ?_ ?_ rfl rfl rfl
  ·intro j hj cU y ih2
   have gq:=wC j (by omega)
   rw[yZ (by decide),ak] at cU
   simp[hj,hs,pj,cU,hT,gq,iG,iH]
   simpa using ih2 (_,_)
  ·intro j hj cU m6 y
   have eY:¬l[i].clock[j].name∈vis:=by
    intro hm; exact cU (by simp[need,hm])
   rw[m6]
   simp[hj,hs,pj,eY,hF,need,wG,iG,iH]
  ·intro h0 y
   exact absurd h0 cJ
 ·intro h0 x
  rw[h0]
  simp[Hg,wG]
end
section
variable {L:Nat→Option PFunc} (hL:∀k f,LS k=some f→L k=some f) (en:List Enum) (ns:List Node) (a b:Int) (ents:ye)
include hL
theorem c6X (k:Nat) (hn:NodesIn ents ns k) (s:Place) (eV:s.before=ns.take k) (e:Expr) (outs:Nat) (h:List PObj) (h2:h[2]? = some (wK ents)) (h3:h[3]? = some (wI en ns a b)):
  wQ L 124 [.ptr 3 0,.int .i64 k,wy e,.int .i64 outs] h=some (wG 1 a b (EF s e outs),h):=by
 have hT:=λz=>Cc hL en ns a b h h3 z
 have hF:=λz=>Cd hL en ns a b h h3 z
 obtain⟨z,hz,eE⟩:=F9 (1,e.name) ents 0
 simp only[zV] at hz
 have hc:=hn e.name
 refine zF (hL 124 _ rfl) rfl ?_
 unfold EF
 rw[eV]
 cases fI:callee (ns.take k) e.name with
 | none =>
   rw[fI] at hc
   simp only at hc
   cases z with
   | none =>
     simp[DC,h3,h2,wI,wK,xt,hz,hF,wG]
   | some z =>
     obtain⟨j,v⟩:=z
     obtain⟨u,hu,rfl⟩:∃u,yX (1,e.name) ents=some u∧v = .int .i64 u:=by
      cases he:yX (1,e.name) ents with
      | none=>rw[he] at eE; simp at eE
      | some u=>rw[he] at eE; exact⟨u,rfl,by simpa using eE⟩
     have iP:=hc u hu
     simp[DC,h3,h2,wI,wK,xt,hz,hF,iP,wG]
 | some m =>
   rw[fI] at hc
   obtain⟨i,hi,gk,pn⟩:=hc
   cases z with
   | none=>rw[hi] at eE; simp at eE
   | some z =>
     obtain⟨j,v⟩:=z
     rw[hi] at eE
     have hv:v = .int .i64 i:=by simpa using eE
     subst hv
     have m7:(i:Int)<k:=by omega
     obtain⟨dC,pp⟩:=aj.1 pn
     have iP:(ns.map xc)[i]? = some (xc m):=by simp[pn]
     by_cases c1:(e.args.length:Int)=wrap (m.ins.length+e.v)
     ·have c1':wrap (m.ins.length+e.v)=(e.args.length:Int):=c1.symm
      by_cases c2:m.outs.length=outs
      ·have c2':outs=m.outs.length:=c2.symm
       have c3:(outs:Int)=m.outs.length:=by omega
       have c3':(m.outs.length:Int)=outs:=by omega
       simp[DC,h3,h2,wI,wK,xt,hz,hT,gk,m7,dC,pp,pn,tf c1,tf c1',tf c2,tf c3,tf c3',wG,need]
      ·have c3:¬(outs:Int)=m.outs.length:=by omega
       have c3':¬(m.outs.length:Int)=outs:=by omega
       simp[DC,h3,h2,wI,wK,xt,hz,hT,hF,gk,m7,dC,pp,pn,tf c1,tf c1',tf c2,tf c3,tf c3',wG,need]
     ·have c1':¬wrap (m.ins.length+e.v)=(e.args.length:Int):=λh=>c1 h.symm
      simp[DC,h3,h2,wI,wK,xt,hz,hT,hF,gk,m7,dC,pp,pn,tf c1,tf c1',wG,need]
def xT (h:List PObj) (k:Nat) (v:PV) (outs:Nat) (lp:Bool):List PObj:=h++[.cells [.ptr 3 0],.cells [.int .i64 k],.cells [v],.cells [.int .i64 outs],.loop lp]
omit hL in
theorem Lp (h:List PObj) (k:Nat) (v:PV) (outs:Nat) (lp:Bool) {n:Nat} (hn:n<h.length):(xT h k v outs lp)[n]? = h[n]? := by unfold xT; rw[am hn]
theorem PQ (k:Nat) (hn:NodesIn ents ns k) (s:Place) (eV:s.before=ns.take k) (x:Expr) (outs:Nat) (h:List PObj) (h2:h[2]? = some (wK ents)) (h3:h[3]? = some (wI en ns a b)) (q:Nat) (hq:q≤h.length) (v:PV) (fs:List Fr) (hv:Holds h q v fs) (di:∀x,xK fs x=true↔x∈s.vis):
  wQ L 190 [.ptr (h.length+4) 0,.ptr h.length 0,.ptr (h.length+1) 0,.ptr (h.length+2) 0,.ptr (h.length+3) 0,wy x] (xT h k v outs true)=some (if yf s outs x=0 then(.val (.bool true),xT h k v 1 true) else(.boom (xV 1 a b (yf s outs x)),xT h k v outs false)):=by
 have md:3<h.length:=(aj.1 h3).1
 have g2:(xT h k v outs false)[2]? = some (wK ents):=by rw[Lp _ _ _ _ _ (by omega)]; exact h2
 have g3:(xT h k v outs false)[3]? = some (wI en ns a b):=by rw[Lp _ _ _ _ _ md]; exact h3
 have hT:=λz=>Cc hL en ns a b (xT h k v outs false) g3 z
 have hF:=λz=>Cd hL en ns a b (xT h k v outs false) g3 z
 have hs:=HY hL x.name _ (xT h k v outs false) q _ (hv.keep λn hn=>Lp _ _ _ _ _ (by omega))
 have hc:=c6X hL en ns a b ents k hn s eV x outs (xT h k v outs false) g2 g3
 have iG:=hv.cp
 have iH:=hv.tkv
 have lg:=hv.dem
 have pj:∀x,xK fs x=decide (x∈s.vis):=λx=>by rw[aF,ak]; exact di x
 rw[pj] at hs
 simp only[xT] at hT hF hs hc ⊢
 refine Fc (as:=[.ptr h.length 0,.ptr (h.length+1) 0,.ptr (h.length+2) 0,.ptr (h.length+3) 0,wy x]) (hL 190 _ rfl) rfl rfl (by simp) ?_
 unfold yf
 by_cases hk:x.kind=2∨x.kind=8∨x.kind=9
 ·rw[ah hk]
  by_cases hm:x.name∈s.vis
  ·simp[hm] at hs
   rcases hk with k2|k2|k2<;>simp[DG,k2,wD,yO,iG,iH,hs,hT,hm]
  ·simp[hm] at hs
   rcases hk with k2|k2|k2<;>simp[DG,k2,wD,yO,iG,iH,hs,hF,hm,need]
 ·rw[af hk]
  simp only[not_or] at hk
  obtain⟨k2,k8,k9⟩:=hk
  by_cases k10:x.kind=10
  ·rw[ah k10]
   by_cases hz:EF s x outs=0
   ·rw[hz] at hc
    simp[wG] at hc
    simp[DG,tf k10,tf k2,tf k8,tf k9,wD,yO,iG,iH,hc,hz,wG]
   ·simp[wG,hz] at hc
    simp[DG,tf k10,tf k2,tf k8,tf k9,wD,yO,iG,iH,hc,hz,wG]
  ·rw[af k10]
   simp[DG,tf k2,tf k8,tf k9,tf k10,wD,yO,iG,iH]
end
section
variable {L:Nat→Option PFunc} (hL:∀k f,LS k=some f→L k=some f) (en:List Enum) (ns:List Node) (a b:Int) (ents:ye)
include hL
theorem Lq (k:Nat) (hn:NodesIn ents ns k) (s:Place) (eV:s.before=ns.take k) (e:Expr) (he:EW e) (outs:Nat) (h:List PObj) (h2:h[2]? = some (wK ents)) (h3:h[3]? = some (wI en ns a b)) (q:Nat) (hq:q≤h.length) (v:PV) (fs:List Fr) (hv:Holds h q v fs) (di:∀x,xK fs x=true↔x∈s.vis):
  ∃h',wQ L 99 [.ptr 3 0,.int .i64 k,v,wy e,.int .i64 outs] h=some (wG 1 a b (xe s e outs),h')∧Kp h.length h h':=by
 suffices H:∃res,wQ L 99 [.ptr 3 0,.int .i64 k,v,wy e,.int .i64 outs] h=some res∧∃h',res=(wG 1 a b (xe s e outs),h')∧Kp h.length h h' by
  obtain⟨res,e1,h',e2,e3⟩:=H
  exact⟨h',by rw[e1,e2],e3⟩
 have iG:=hv.cp
 have iH:=hv.tkv
 have lg:=hv.dem
 have fe:v.cells=[v]:=by rcases hv.ptr with rfl|⟨n,rfl⟩<;>rfl
 obtain⟨h0,qu⟩:∃h0,h0=h++[.cells [.ptr 3 0],.cells [.int .i64 k],.cells [v],.cells [.int .i64 outs]]:=⟨_,rfl⟩
 have jz:h0.length=h.length+4:=by rw[qu]; simp
 have hE:=F1 hL e h0
 have ix:=λx=>PQ hL en ns a b ents k hn s eV x outs h h2 h3 q hq v fs hv di
 have gf:=λx=>PQ hL en ns a b ents k hn s eV x 1 h h2 h3 q hq v fs hv di
 have hl:h0++[.loop true]=xT h k v outs true:=by rw[qu]; simp[xT]
 obtain⟨y,qo,tE,hy⟩:∃y:Expr→List PObj→Option (Out×List PObj),(∀x,y x (xT h k v outs true)=some (if yf s outs x=0 then(.val (.bool true),xT h k v 1 true) else(.boom (xV 1 a b (yf s outs x)),xT h k v outs false)))∧(∀x,y x (xT h k v 1 true)=some (if yf s 1 x=0 then(.val (.bool true),xT h k v 1 true) else(.boom (xV 1 a b (yf s 1 x)),xT h k v 1 false))) ∧
   ∀x h' r,y x h'=some r→∃o:Nat,h'=xT h k v o true∧(o=outs∨o=1)∧r=(if yf s o x=0 then(.val (.bool true),xT h k v 1 true) else(.boom (xV 1 a b (yf s o x)),xT h k v o false)):=by
  classical
  refine⟨λx h'=>if h'=xT h k v outs true then some (if yf s outs x=0 then(.val (.bool true),xT h k v 1 true) else(.boom (xV 1 a b (yf s outs x)),xT h k v outs false)) else if h'=xT h k v 1 true then some (if yf s 1 x=0 then(.val (.bool true),xT h k v 1 true) else(.boom (xV 1 a b (yf s 1 x)),xT h k v 1 false)) else none,λx=>ah rfl,λx =>?_,λx h' r hr =>?_⟩
  ·simp only
   by_cases ho:outs=1
   ·subst ho; simp
   ·have:¬xT h k v 1 true=xT h k v outs true:=by
     unfold xT
     rw[List.append_cancel_left_eq]
     simp; omega
    rw[af this]; simp
  ·simp only at hr
   split at hr
   ·rename_i e1; exact⟨outs,e1,.inl rfl,(Option.some.inj hr).symm⟩
   ·split at hr
    ·rename_i e1; exact⟨1,e1,.inr rfl,(Option.some.inj hr).symm⟩
    ·simp at hr
 refine Cb (hL 99 _ rfl) rfl ?_
 have c1:∀n o,(PV.ptr n o).cells=[.ptr n o]:=λ_ _=>rfl
 have c2:∀x,(PV.int .i64 x).cells=[.int .i64 x]:=λ_=>rfl
 have vq:wr L 81 [wy e] (h++[.cells [.ptr 3 0],.cells [.int .i64 k],.cells [v],.cells [.int .i64 outs]])=some (.func 114 [] [.cptr (wy e).cells],h++[.cells [.ptr 3 0],.cells [.int .i64 k],.cells [v],.cells [.int .i64 outs]]):=by rw[← qu]; exact hE
 simp[FC,fe,lg,iG,iH,c1,c2,vq]
 rw[← qu]
 have cL:zm y e.list (h0++[.loop true])=some (if xe s e outs=0 then(.val (.bool true),xT h k v 1 true) else(.boom (xV 1 a b (xe s e outs)),xT h k v (if yf s outs e=0 then 1 else outs) false)):=by
  rw[hl,Expr.list_eq]
  simp only[zm,qo]
  unfold xe
  by_cases h1:yf s outs e=0
  ·simp only[h1,if_true,ww]
   exact F0 (f:=yf s 1) (R:=λz=>(.boom (xV 1 a b z),xT h k v 1 false)) _ (λx _ hx=>by rw[tE,ah hx]) (λx _ hx=>by rw[tE,af hx]) (λz h'=>by simp)
  ·simp[h1,ww]
 refine F2 hL e he (cs:=[.ptr h.length 0,.ptr (h.length+1) 0,.ptr (h.length+2) 0,.ptr (h.length+3) 0]) (by simp) (by simp) (by simp[cp]) y ?_ ?_ _ cL ?_
 ·intro x _ h' r hr
  obtain⟨o,rfl,ho,rfl⟩:=hy x h' r hr
  rw[jz]
  rcases ho with rfl|rfl
  ·exact ix x
  ·exact gf x
 ·intro x h' r hr
  obtain⟨o,rfl,ho,rfl⟩:=hy x h' r hr
  split
  ·exact .inl ⟨_,_,rfl⟩
  ·exact .inr ⟨_,_,rfl⟩
 ·by_cases hz:xe s e outs=0
  ·rw[ah hz,jz]
   simp[AZ,xT,FC,hz,wG]
   exact Kp.app (aq _)
  ·rw[af hz,jz]
   simp[AZ,xT,FC,hz,wG]
   exact Kp.app (aq _)
theorem PR (k:Nat) (hn:NodesIn ents ns k) (s:Place) (eV:s.before=ns.take k) (l:List Trn) (hl:l.length≤1500) (hw:∀x∈l,XW x.cond) (r:Bool) (h:List PObj) (h2:h[2]? = some (wK ents)) (h3:h[3]? = some (wI en ns a b)) (q:Nat) (hq:q≤h.length) (v:PV) (fs:List Fr) (hv:Holds h q v fs) (di:∀x,xK fs x=true↔x∈s.vis):
  ∃h',wQ L 126 [.ptr 3 0,.int .i64 k,v,.list r (l.map xL)] h=some (wG 1 a b (zE s l),h')∧Kp h.length h h':=by
 suffices H:∃res,wQ L 126 [.ptr 3 0,.int .i64 k,v,.list r (l.map xL)] h=some res∧∃h',res=(wG 1 a b (zE s l),h')∧Kp h.length h h' by
  obtain⟨res,e1,h',e2,e3⟩:=H
  exact⟨h',by rw[e1,e2],e3⟩
 have iG:=hv.cp
 have iH:=hv.tkv
 have lg:=hv.dem
 refine Cb (hL 126 _ rfl) rfl ?_
 simp[Hp,lg]
 rw[Oq]
 refine yQ l.length (λj st=>∃y4 g h',st=⟨[.ptr 3 0,.int .i64 k,v,.list false (l.map xL),y4,.list false (l.map xL),.int .i64 l.length,.int .i64 j],[],g,h'⟩∧Kp h.length h h'∧zE s l=zE s (l.drop j)) ?_ ?_ ⟨_,_,h,rfl,Kp.refl _ _,rfl⟩
 ·rintro j hj st ⟨y4,g,h',rfl,cZ,da⟩ ih
  have se:=wC j (by omega)
  have md:3<h.length:=(aj.1 h3).1
  have fM:h'[2]? = some (wK ents):=(cZ.2 2 (by omega)).trans h2
  have eF:h'[3]? = some (wI en ns a b):=(cZ.2 3 md).trans h3
  obtain⟨h'',hx,fq⟩:=Lq hL en ns a b ents k hn s eV l[j].cond (hw _ (ae hj)).ew 1 h' fM eF q (aR hq cZ.1) v fs (hv.keep λn hn=>cZ.2 n (by omega)) di
  have fH:Kp h.length h h'':=cZ.trans (fq.le cZ.1)
  rw[aN hj] at da
  have iC:zE s (l[j]::l.drop (j+1))=if xe s l[j].cond 1=0 then zE s (l.drop (j+1)) else xe s l[j].cond 1:=rfl
  rw[iC] at da
  by_cases hz:xe s l[j].cond 1=0
  ·rw[ah hz] at da
   rw[hz] at hx
   simp[wG] at hx
   simp[hj,iG,iH,hx,se]
   exact ih _ ⟨_,_,_,rfl,fH,da⟩
  ·rw[af hz] at da
   simp[wG,hz] at hx
   simp[hj,iG,iH,hx]
   exact⟨h'',by simp[da,wG,hz],fH⟩
 ·rintro st ⟨y4,g,h',rfl,cZ,da⟩
  rw[ba (aq _)] at da
  have:zE s l=0:=da
  simp[Hp]
  exact⟨h',by simp[this,wG],cZ⟩
end
section
variable {h h':List PObj} {b b' n o d:Nat} {i dv up:PV} {f:Fr} {fs:List Fr}
theorem Fr.same {f:Fr} (h:f.D=f.df):({ f with D:=f.df,df:=f.df }:Fr)=f:=by cases f; simp at h ⊢; exact h.symm
theorem TopAt.upTo (t:TopAt h b b' n o d i dv up f fs) {c:Nat} (hc:b≤c):TopAt h c b' n o d i dv up f fs where
 ln:=t.ln
 lo:=t.lo
 ld:=t.ld
 un:=aO t.un hc
 uo:=aO t.uo hc
 ud:=aO t.ud hc
 no:=t.no
 nd:=t.nd
 od:=t.od
 four:=t.four
 hn:=t.hn
 ho:=t.ho
 hd:=t.hd
 hi:=by
  rcases t.hi with h|⟨m,e1,e2,e3,e4,e5,e6,e7⟩
  ·exact .inl h
  ·exact .inr ⟨m,e1,e2,aO e3 hc,e4,e5,e6,e7⟩
 row:=by
  rcases t.row with h|⟨k,e1,e2,e3,e4⟩
  ·exact .inl h
  ·exact .inr ⟨k,e1,aO e2 hc,e3,e4⟩
 rne:=t.rne
 hup:=t.hup
theorem TopAt.push (t:TopAt h h.length b' n o d i dv up f fs) (df:List Str) (h1:List PObj) (vt:h1.length=h.length) (hk:∀k,k<b'→h1[k]? = h[k]?) (eD:∀k,b'≤k→(∀s a len,dv≠.rowp k s a len)→k≠n→h1[k]? = h[k]?):
  TopAt ((h1++[PObj.cells (df.map PV.str)]).set n (.cells [up,.map (some o),.map (some d),i,.rowp h.length 1 false df.length])) (h.length+1) b' n o d i (.rowp h.length 1 false df.length) up { f with df:=df } fs:=by
 have fO:=t.un
 have lY:=t.ln
 have key:∀k,k<h.length→k≠n→(h1[k]? = h[k]?)→((h1++[PObj.cells (df.map PV.str)]).set n (.cells [up,.map (some o),.map (some d),i,.rowp h.length 1 false df.length]))[k]? = h[k]? := by
  intro k lq vu hh
  rw[ao (Ne.symm vu),am (by omega)]
  exact hh
 refine⟨t.ln,t.lo,t.ld,by omega,by have:=t.uo; omega,by have:=t.ud; omega,t.no,t.nd,t.od,t.four,?_,?_,?_,?_,?_,?_,?_⟩
 ·rw[bp (by simp; omega)]
 ·rw[key o t.uo (Ne.symm t.no) (eD o t.lo (λs a len e=>(t.rne _ _ _ _ e).2.1 rfl) (Ne.symm t.no))]
  exact t.ho
 ·rw[key d t.ud (Ne.symm t.nd) (eD d t.ld (λs a len e=>(t.rne _ _ _ _ e).2.2.1 rfl) (Ne.symm t.nd))]
  exact t.hd
 ·rcases t.hi with h|⟨m,e1,e2,e3,e4,e5,e6,e7⟩
  ·exact .inl h
  ·refine .inr ⟨m,e1,e2,by omega,e4,e5,e6,?_⟩
   rw[key m e3 e4 (eD m e2 (λs a len e=>(t.rne _ _ _ _ e).2.2.2 e1) e4)]
   exact e7
 ·refine .inr ⟨h.length,by omega,by omega,rfl,?_⟩
  rw[ao (by omega),← vt]
  simp
 ·intro k s a len e
  simp only[PV.rowp.injEq] at e
  obtain⟨rfl,_⟩:=e
  have:=t.uo
  have:=t.ud
  refine⟨by omega,by omega,by omega,?_⟩
  rcases t.hi with⟨h1,_⟩|⟨m,e1,e2,e3,_⟩
  ·rw[h1]; simp
  ·rw[e1]; simp; omega
 ·refine t.hup.keep λk dh =>?_
  rw[key k (by omega) (by omega) (hk k dh)]
end
section
variable {L:Nat→Option PFunc} (hL:∀k f,LS k=some f→L k=some f) (en:List Enum) (ns:List Node) (a b:Int) (ents:ye)
include hL
theorem c6Y (k:Nat) (s:Place) (l:List Str) (oR:l.length≤1500) (h:List PObj) (h2:h[2]? = some (wK ents)) (h3:h[3]? = some (wI en ns a b)) (q' n o d:Nat) (i dv up:PV) (f:Fr) (fs:List Fr) (t:TopAt h h.length q' n o d i dv up f fs) (di:∀x,xK (f::fs) x=true↔x∈s.vis)
  (d0:List Str) (hD:f.D=f.df) (dO:∀x,(x∈f.I∨zw fs x=true)↔(x∈s.inputs∨x∈d0)) (gK:f.df.length+l.length≤1000000) (V4 V5 V6:PV) {Q:PExit→St→Prop}
  (ok:(Ad s l (d0++f.df)).1=0→∀h' dv' df' y5 y8,Kp q' h h'→(Ad s l (d0++f.df)).2=d0++df'→TopAt h' h'.length q' n o d i dv' up { f with D:=df',df:=df' } fs→Q (.exit 0) ⟨[.ptr 3 0,.int .i64 k,.ptr n 0,V4,V5,y5,.list false (l.map PV.str),.int .i64 l.length,y8],[],1,h'⟩)
  (no:(Ad s l (d0++f.df)).1≠0→∀h' y5 y8,Kp q' h h'→Q (.boom (xV 1 a b (Ad s l (d0++f.df)).1)) ⟨[.ptr 3 0,.int .i64 k,.ptr n 0,V4,V5,y5,.list false (l.map PV.str),.int .i64 l.length,y8],[],1,h'⟩):
  wpL L JX ⟨[.ptr 3 0,.int .i64 k,.ptr n 0,V4,V5,V6,.list false (l.map PV.str),.int .i64 l.length,.int .i64 0],[],1,h⟩ Q:=by
 rw[JX]
 refine yQ l.length (λj st=>∃y5 h' dv' df',st=⟨[.ptr 3 0,.int .i64 k,.ptr n 0,V4,V5,y5,.list false (l.map PV.str),.int .i64 l.length,.int .i64 j],[],1,h'⟩∧Kp q' h h'∧TopAt h' h'.length q' n o d i dv' up { f with D:=df',df:=df' } fs∧Ad s l (d0++f.df)=Ad s (l.drop j) (d0++df')∧df'.length=f.df.length+j) ?_ ?_ ⟨_,h,dv,f.df,rfl,Kp.refl _ _,by rw[Fr.same hD]; exact t,rfl,rfl⟩
 ·rintro j hj st ⟨y5,h',dv',df',rfl,cZ,ht,da,cI⟩ ih
  have hw:=wC j (by omega)
  have fM:h'[2]? = some (wK ents):=(cZ.2 2 (by have:=ht.four; omega)).trans h2
  have eF:h'[3]? = some (wI en ns a b):=(cZ.2 3 (by have:=ht.four; omega)).trans h3
  have hT:=λz=>Cc hL en ns a b h' eF z
  have hF:=λz=>Cd hL en ns a b h' eF z
  have hs:=HY hL l[j] _ h' _ _ ht.holds
  have ec:=c0T hL l[j] _ h' _ _ ht.holds
  have j6:xK ({ f with D:=df',df:=df' }::fs) l[j]=decide (l[j]∈s.vis):=by
   rw[aF,ak,← di]; rfl
  have hX:zw ({ f with D:=df',df:=df' }::fs) l[j]=decide (l[j]∈s.inputs∨l[j]∈d0++df'):=by
   rw[aF,ak]
   have:=dO l[j]
   simp only[zw,List.any_cons,bF,ak,ax] at this ⊢
   constructor
   ·rintro((h1|h1)|h1)
    ·exact .inr (.inr h1)
    ·rcases this.1 (.inl h1) with h2|h2
     ·exact .inl h2
     ·exact .inr (.inl h2)
    ·rcases this.1 (.inr h1) with h2|h2
     ·exact .inl h2
     ·exact .inr (.inl h2)
   ·rintro(h1|h1|h1)
    ·rcases this.2 (.inl h1) with h2|h2
     ·exact .inl (.inr h2)
     ·exact .inr h2
    ·rcases this.2 (.inr h1) with h2|h2
     ·exact .inl (.inr h2)
     ·exact .inr h2
    ·exact .inl (.inl h1)
  rw[j6] at hs
  rw[hX] at ec
  have hn:=ht.hn
  have hd:=ht.hd
  rw[aN hj] at da
  simp only[Ad] at da
  by_cases hv:l[j]∈s.vis
  ·rw[af (not_not_intro hv)] at da
   by_cases pu:l[j]∈s.inputs∨l[j]∈d0++df'
   ·rw[ah pu] at da
    rw[decide_eq_true pu] at ec
    rw[decide_eq_true hv] at hs
    simp[hj,hs,ec,hT,hF]
    have:=no (by rw[da]; simp) h' (.str l[j]) (.int .i64 j) cZ
    rw[da] at this
    exact this
   ·rw[af pu] at da
    rw[decide_eq_false pu] at ec
    rw[decide_eq_true hv] at hs
    obtain⟨r',hr,_,ii⟩:=BM l[j] df'
    have gc:A1 df' l[j]=df'++[l[j]]:=by
     unfold A1; rw[af]; intro hm; exact pu (.inr (cg _ hm))
    rw[gc] at ii
    have iI:=ht.setD (df'++[l[j]])
    have kJ:(h'.set d (PObj.map (bmE (df'++[l[j]])))).length=h'.length:=by simp
    have kK:Kp q' h (h'.set d (PObj.map (bmE (df'++[l[j]])))):=cZ.trans (Kp.set ht.ld)
    obtain⟨h4,e4⟩:∃h4,h'.set d (PObj.map (bmE (df'++[l[j]])))=h4:=⟨_,rfl⟩
    rw[e4] at iI kJ kK
    rw[← kJ] at iI
    have n4:=iI.hn
    have fO:=iI.un
    have lY:=iI.ln
    rcases iI.row with⟨rfl,gt⟩|⟨kr,ic,eD,rfl,iS⟩
    ·simp only at gt
     subst gt
     obtain⟨h5,e5⟩:∃h5,h4.set n (.cells [up,.map (some o),.map (some d),i,.list false []])=h5:=⟨_,rfl⟩
     have ir:h5.length=h4.length:=by rw[← e5]; simp
     have n5:(h5++[PObj.cells [.str l[j]]])[n]? = some (.cells [up,.map (some o),.map (some d),i,.list false []]):=by
      rw[am (by omega),← e5,bp fO]
     have lh:=iI.push [l[j]] h5 ir (λc hc=>by rw[← e5,ao (by omega)]) (λc _ _ lE=>by rw[← e5,ao (Ne.symm lE)])
     simp only[aG,bA,bi,cj] at lh
     simp only[bu] at e4 ii
     simp[hj,hs,ec,hT,hF,hn,hd,hr,ii,hw,xt,e4,n4,e5,n5,Cf,xq,yO]
     rw[ir]
     refine ih _ ⟨_,_,.rowp h4.length 1 false 1,[l[j]],rfl,?_,?_,?_,?_⟩
     ·refine Kp.trans kK ⟨by simp[ir],λc hc =>?_⟩
      rw[ao (by omega),am (by have:=iI.four; omega),← e5,ao (by omega)]
     ·have:((h5++[PObj.cells [.str l[j]]]).set n (.cells [up,.map (some o),.map (some d),i,.rowp h4.length 1 false 1])).length=h4.length+1:=by simp[ir]
      rw[this]
      exact lh
     ·rw[da]; simp
     ·simp at cI ⊢; omega
    ·obtain⟨h5,e5⟩:∃h5,h4.set kr .gone=h5:=⟨_,rfl⟩
     have ir:h5.length=h4.length:=by rw[← e5]; simp
     have nK:=(iI.rne _ _ _ _ rfl).1
     have n5:(h5++[PObj.cells (df'.map PV.str++[.str l[j]])])[n]? = some (.cells [up,.map (some o),.map (some d),i,.rowp kr 1 false df'.length]):=by
      rw[am (by omega),← e5,ao nK]; exact n4
     have lh:=iI.push (df'++[l[j]]) h5 ir (λc hc=>by rw[← e5,ao (by omega)]) (λc hc eY lE=>by
      have:kr≠c:=by
       intro sf
       exact absurd rfl (eY 1 false df'.length |> λh=>by subst sf; exact h)
      rw[← e5,ao this])
     simp only[bk,aG,bA,av,bi,cj] at lh
     simp only at iS
     have eJ:df'.length≤2147483647:=by omega
     have dI:(df'.map PV.str).take df'.length=df'.map PV.str:=cA (by simp)
     have jY:(dem∘PV.str)=PV.str:=rfl
     have sg:List.map PV.str (df'.take df'.length)=List.map PV.str df':=by rw[aI]
     simp[hj,hs,ec,hT,hF,hn,hd,hr,ii,hw,xt,e4,n4,Cf,iS,eJ,dI,jY,sg,xq,yO,e5,n5]
     refine ih _ ⟨_,_,.rowp h4.length 1 false (df'.length+1),df'++[l[j]],rfl,?_,?_,?_,?_⟩
     ·refine Kp.trans kK ⟨by simp[ir],λc hc =>?_⟩
      rw[ao (by omega),am (by have:=iI.four; omega),← e5,ao (by omega)]
     ·have:((h5++[PObj.cells (df'.map PV.str++[.str l[j]])]).set n (.cells [up,.map (some o),.map (some d),i,.rowp h4.length 1 false (df'.length+1)])).length=h4.length+1:=by simp[ir]
      rw[this]
      exact lh
     ·rw[da]; simp
     ·simp at cI ⊢; omega
  ·rw[ah hv] at da
   rw[decide_eq_false hv] at hs
   simp[hj,hs,hF]
   have:=no (by rw[da]; simp) h' (.str l[j]) (.int .i64 j) cZ
   rw[da] at this
   exact this
 ·rintro st ⟨y5,h',dv',df',rfl,cZ,ht,da,cI⟩
  rw[ba (aq _)] at da
  simp
  exact ok (by rw[da]; rfl) h' dv' df' y5 _ cZ (by rw[da]; rfl) ht
theorem Ns (k:Nat) (dk:NodesIn ents ns k) (s:Place) (eV:s.before=ns.take k) (x:Eqn) (hx:QW x) (h:List PObj) (h2:h[2]? = some (wK ents)) (h3:h[3]? = some (wI en ns a b)) (q' n o d:Nat) (i dv up:PV) (f:Fr) (fs:List Fr) (t:TopAt h h.length q' n o d i dv up f fs) (di:∀x,xK (f::fs) x=true↔x∈s.vis)
  (d0:List Str) (hD:f.D=f.df) (dO:∀x,(x∈f.I∨zw fs x=true)↔(x∈s.inputs∨x∈d0)) (gK:f.df.length+x.left.length≤1000000):
  ∃h',wQ L 61 [.ptr 3 0,.int .i64 k,.ptr n 0,xn x] h=some (wG 1 a b (xz s x (d0++f.df)).1,h')∧Kp q' h h'∧((xz s x (d0++f.df)).1=0→∃dv' df',(xz s x (d0++f.df)).2=d0++df'∧TopAt h' h'.length q' n o d i dv' up { f with D:=df',df:=df' } fs):=by
 suffices H:∃res,wQ L 61 [.ptr 3 0,.int .i64 k,.ptr n 0,xn x] h=some res∧∃h',res=(wG 1 a b (xz s x (d0++f.df)).1,h')∧Kp q' h h'∧((xz s x (d0++f.df)).1=0→∃dv' df',(xz s x (d0++f.df)).2=d0++df'∧TopAt h' h'.length q' n o d i dv' up { f with D:=df',df:=df' } fs) by
  obtain⟨res,e1,h',e2,e3⟩:=H
  exact⟨h',by rw[e1,e2],e3⟩
 refine Cb (hL 61 _ rfl) rfl ?_
 simp[Eo]
 refine c6Y hL en ns a b ents k s x.left hx.left h h2 h3 q' n o d i dv up f fs t di d0 hD dO gK _ _ _ ?_ ?_
 ·intro hz h' dv' df' y5 y8 cZ ec ht
  have fM:h'[2]? = some (wK ents):=(cZ.2 2 (by have:=ht.four; omega)).trans h2
  have eF:h'[3]? = some (wI en ns a b):=(cZ.2 3 (by have:=ht.four; omega)).trans h3
  obtain⟨h'',nG,fq⟩:=Lq hL en ns a b ents k dk s eV x.right hx.right.ew x.left.length h' fM eF h'.length (aq _) _ _ ht.holds di
  have he:xz s x (d0++f.df)=(xe s x.right x.left.length,d0++df'):=by
   unfold xz xS
   rw[ah hz,ec]
  have lQ:q'≤h'.length:=aR ht.ln (Nat.le_of_lt ht.un)
  by_cases eE:xe s x.right x.left.length=0
  ·rw[eE] at nG
   simp[wG] at nG
   simp[nG,Eo]
   refine⟨h'',by rw[he]; simp[eE,wG],cZ.trans (fq.le lQ),λ_=>⟨dv',df',by rw[he],(ht.keep fq.2).upTo fq.1⟩⟩
  ·simp[wG,eE] at nG
   simp[nG,Eo]
   refine⟨h'',by rw[he]; simp[eE,wG],cZ.trans (fq.le lQ),λh0 =>?_⟩
   rw[he] at h0
   exact absurd h0 eE
 ·intro hz h' y5 y8 cZ
  have he:xz s x (d0++f.df)=((Ad s x.left (d0++f.df)).1,[]):=by
   unfold xz
   exact xZ hz _
  simp[Eo]
  refine⟨h',by rw[he]; simp[wG,hz],cZ,λh0 =>?_⟩
  rw[he] at h0
  exact absurd h0 hz
end
def Bw {α:Type} (P:α→Bool) (l:List α):Int:=match l.findIdx? P with
 | none => -1
 | some i=>i
theorem HZ {α:Type} {P:α→Bool} {l:List α} {j:Nat} (hj:j<l.length) (hp:P l[j]=true) (hn:∀i (hi:i<l.length),i<j→P l[i]=false):Bw P l=j:=by
 have:l.findIdx? P=some j:=by
  rw[List.findIdx?_eq_some_iff_getElem]
  exact⟨hj,hp,λi hi=>by simpa using hn i (by omega) hi⟩
 simp[Bw,this]
theorem H2 {α:Type} {P:α→Bool} {l:List α} (hn:∀i (hi:i<l.length),P l[i]=false):Bw P l = -1:=by
 have:l.findIdx? P=none:=by
  rw[List.findIdx?_eq_none_iff]
  intro x hx
  obtain⟨i,hi,rfl⟩:=bg.1 hx
  exact hn i hi
 simp[Bw,this]
theorem Lr {α:Type} (P:α→Bool) (l:List α):decide (0≤Bw P l)=l.any P:=by
 unfold Bw
 cases h:l.findIdx? P with
 | none =>
   rw[List.findIdx?_eq_none_iff] at h
   symm
   simp only[show ¬(0:Int)≤-1 by decide,decide_false]
   rw[List.any_eq_false]
   intro x hx; simp[h x hx]
 | some i =>
   have:=List.findIdx?_eq_some_iff_getElem.1 h
   obtain⟨h1,h2,_⟩:=this
   simp only[show (0:Int)≤(i:Int) by omega,decide_true]
   symm
   rw[List.any_eq_true]
   exact⟨_,ae h1,h2⟩
def d3E (h:List PObj) (v:PV) (l:List Str):Prop:=(∃o,v = .list o (l.map PV.str))∨∃k,v = .rowp k 1 false l.length∧h[k]? = some (.cells (l.map PV.str))
section
variable {L:Nat→Option PFunc} (hL:∀k f,LS k=some f→L k=some f)
include hL
theorem Ls (l:List Str) (hl:l.length≤2000000000) (v:PV) (h:List PObj) (hv:d3E h v l) (k:Nat) (cs:List PV) (P:Str→Bool) (dc:∀x∈l,wr L k [.str x,.cptr cs] h=some (.bool (P x),h)):wr L 151 [v,.func k [] [.cptr cs]] h=some (.int .i64 (Bw P l),h):=by
 refine wz (hL 151 _ rfl) rfl ?_
 rcases hv with⟨o,rfl⟩|⟨n,rfl,hn⟩
 ·simp[Eu]
  rw[KA]
  refine yQ l.length (λj st=>∃y3,st=⟨[.list false (l.map PV.str),.func k [] [.cptr cs],.int .i64 0,y3,.int .i64 l.length,.int .i64 j],[],0,h⟩∧∀i (hi:i<l.length),i<j→P l[i]=false) ?_ ?_ ⟨_,rfl,λi _ hi=>by omega⟩
  ·rintro j hj st ⟨y3,rfl,hn⟩ ih
   have hw:=wC j (by omega)
   have hc:=dc l[j] (ae hj)
   cases hp:P l[j] with
   | true =>
     rw[hp] at hc
     simp[hj,hc,hw,HZ hj hp hn]
   | false =>
     rw[hp] at hc
     simp[hj,hc,hw]
     refine ih _ ⟨_,rfl,λi hi nE =>?_⟩
     by_cases he:i=j
     ·subst he; exact hp
     ·exact hn i hi (by omega)
  ·rintro st ⟨y3,rfl,hn⟩
   simp[Eu,H2 (λi hi=>hn i hi hi)]
 ·simp[Eu]
  rw[KA]
  refine yQ l.length (λj st=>∃y3,st=⟨[.rowp n 1 false l.length,.func k [] [.cptr cs],.int .i64 0,y3,.int .i64 l.length,.int .i64 j],[],0,h⟩∧∀i (hi:i<l.length),i<j→P l[i]=false) ?_ ?_ ⟨_,rfl,λi _ hi=>by omega⟩
  ·rintro j hj st ⟨y3,rfl,dG⟩ ih
   have hw:=wC j (by omega)
   have hc:=dc l[j] (ae hj)
   cases hp:P l[j] with
   | true =>
     rw[hp] at hc
     simp[hj,hc,hw,hn,HZ hj hp dG]
   | false =>
     rw[hp] at hc
     simp[hj,hc,hw,hn]
     refine ih _ ⟨_,rfl,λi hi nE =>?_⟩
     by_cases he:i=j
     ·subst he; exact hp
     ·exact dG i hi (by omega)
  ·rintro st ⟨y3,rfl,dG⟩
   simp[Eu,H2 (λi hi=>dG i hi hi)]
theorem c6Z (l:List Str) (hl:l.length≤2000000000) (o:Bool) (h:List PObj) (k:Nat) (cs:List PV) (P:Str→Bool) (dc:∀x∈l,wr L k [.str x,.cptr cs] h=some (.bool (P x),h)):wr L 129 [.list o (l.map .str),.func k [] [.cptr cs]] h=some (.bool (l.any P),h):=by
 have hi:=Ls hL l hl _ h (.inl ⟨false,rfl⟩) k cs P dc
 refine wz (hL 129 _ rfl) rfl ?_
 simp[Ko,hi,← Lr]
theorem c60 (l:List Str) (hl:l.length≤2000000000) (o:Bool) (s:Str) (h:List PObj):wr L 110 [.list o (l.map .str),.str s] h=some (.bool (decide (s∈l)),h):=by
 obtain⟨P,hP⟩:∃P:Str→Bool,∀x,P x=decide (x=s):=⟨_,λ_=>rfl⟩
 have hi:wr L 139 [.list false (l.map .str),.str s] h=some (.int .i64 (Bw P l),h):=by
  refine wz (hL 139 _ rfl) rfl ?_
  simp[Hs]
  rw[Ow]
  refine yQ l.length (λj st=>∃y3,st=⟨[.list false (l.map PV.str),.str s,.int .i64 0,y3,.int .i64 l.length,.int .i64 j],[],0,h⟩∧∀i (hi:i<l.length),i<j→P l[i]=false) ?_ ?_ ⟨_,rfl,λi _ hi=>by omega⟩
  ·rintro j hj st ⟨y3,rfl,hn⟩ ih
   have hw:=wC j (by omega)
   by_cases hp:l[j]=s
   ·have fk:s=l[j]:=hp.symm
    have nH:P l[j]=true:=by rw[hP]; simpa using hp
    simp[hj,hw,tf hp,tf fk,HZ hj nH hn]
   ·have fk:¬s=l[j]:=λe=>hp e.symm
    have nH:P l[j]=false:=by rw[hP]; simpa using hp
    simp[hj,hw,tf hp,tf fk]
    refine ih _ ⟨_,rfl,λi hi nE =>?_⟩
    by_cases he:i=j
    ·subst he; exact nH
    ·exact hn i hi (by omega)
  ·rintro st ⟨y3,rfl,hn⟩
   simp[Hs,H2 (λi hi=>hn i hi hi)]
 have ha:decide (s∈l)=l.any P:=by
  rw[aF,ak,List.any_eq_true]
  constructor
  ·intro hm; exact⟨s,hm,by rw[hP]; simp⟩
  ·rintro⟨x,hm,hx⟩; rw[hP] at hx; simp at hx; subst hx; exact hm
 rw[ha]
 refine wz (hL 110 _ rfl) rfl ?_
 simp[Km,hi,← Lr]
theorem PS (l m:List Str) (hl:l.length≤2000000000) (hm:m.length≤2000000000) (o1 o2:Bool) (h:List PObj):wr L 103 [.list o1 (l.map .str),.list o2 (m.map .str)] h=some (.bool (decide (l.length=m.length)&&l.all λx=>decide (x∈m)),h):=by
 have hc:∀x∈l,wr L 130 [.str x,.cptr [.list false (m.map PV.str)]] []=some (.bool (!decide (x∈m)),[]):=by
  intro x _
  have:=c60 hL m hm false x []
  refine wz (hL 130 _ rfl) rfl ?_
  simp[Kq,this]
 have ha:=c6Z hL l hl false [] 130 [.list false (m.map PV.str)] (λx => !decide (x∈m)) hc
 refine wz (hL 103 _ rfl) rfl ?_
 have cY:(l.all λx=>decide (x∈m)) = !(l.any λx => !decide (x∈m)):=by simp[List.all_eq_not_any_not]
 rw[cY]
 by_cases cI:l.length=m.length
 ·have hi:(l.length:Int)=m.length:=by omega
  simp[Hk,tf hi,ha,tf cI]
 ·have hi:¬(l.length:Int)=m.length:=by omega
  simp[Hk,tf hi,tf cI]
end
section
variable {L:Nat→Option PFunc} (hL:∀k f,LS k=some f→L k=some f)
include hL
theorem c2H (l:List State) (hl:l.length≤2000000000) (o:Bool) (h:List PObj) (x:State):wr L 100 [.list o (l.map w8),.func 101 [] [.cptr (w8 x).cells]] h=some (.bool (l.any λs=>decide (s.name=x.name)),h):=by
 obtain⟨P,hP⟩:∃P:State→Bool,∀s,P s=decide (s.name=x.name):=⟨_,λ_=>rfl⟩
 have dc:∀s:State,wr L 101 [w8 s,.cptr (w8 x).cells] h=some (.bool (P s),h):=by
  intro s
  rw[hP]
  refine wz (hL 101 _ rfl) rfl ?_
  simp[Ke]
 simp only[KS] at dc
 have hi:wr L 125 [.list false (l.map w8),.func 101 [] [.cptr (w8 x).cells]] h=some (.int .i64 (Bw P l),h):=by
  refine wz (hL 125 _ rfl) rfl ?_
  simp[Ho]
  rw[Oo]
  refine yQ l.length (λj st=>∃y3,st=⟨[.list false (l.map w8),.func 101 [] [.cptr [.str x.name,.list false (x.locals.map wF),.list false (x.eqs.map xn),.list false (x.autos.map xg),.list false (x.unl.map xL),.list false (x.til.map xL)]],.int .i64 0,y3,.int .i64 l.length,.int .i64 j],[],0,h⟩∧∀i (hi:i<l.length),i<j→P l[i]=false) ?_ ?_ ⟨_,rfl,λi _ hi=>by omega⟩
  ·rintro j hj st ⟨y3,rfl,hn⟩ ih
   have hw:=wC j (by omega)
   have hc:=dc l[j]
   cases hp:P l[j] with
   | true =>
     rw[hp] at hc
     simp[hj,hc,hw,HZ hj hp hn]
   | false =>
     rw[hp] at hc
     simp[hj,hc,hw]
     refine ih _ ⟨_,rfl,λi hi nE =>?_⟩
     by_cases he:i=j
     ·subst he; exact hp
     ·exact hn i hi (by omega)
  ·rintro st ⟨y3,rfl,hn⟩
   simp[Ho,H2 (λi hi=>hn i hi hi)]
 have ha:(l.any λs=>decide (s.name=x.name))=l.any P:=by
  congr 1; funext s; exact(hP s).symm
 rw[ha]
 simp only[KS] at hi
 refine wz (hL 100 _ rfl) rfl ?_
 simp[Kd,hi,← Lr]
theorem b6f (o:Bool) (k:Nat) (cs:List PV) (h:List PObj):wr L 127 [.list o [],.func k [] [.cptr cs]] h=some (.list false [],h):=by
 have hi:=Ls hL [] (by simp) (.list false []) h (.inl ⟨false,rfl⟩) k cs (λ_=>false) (by simp)
 refine wz (hL 127 _ rfl) rfl ?_
 simp[Bw] at hi
 simp[FG,hi]
theorem c2I (l:List Str) (hl:l.length≤2000000000) (h:List PObj) (kr:Nat) (hk:h[kr]? = some (.cells (l.map PV.str))) (k:Nat) (cs:List PV) (P:Str→Bool) (dc:∀o,∀x∈l,wr L k [.str x,.cptr cs] (h.set kr o)=some (.bool (P x),h.set kr o)):wr L 127 [.rowp kr 1 false l.length,.func k [] [.cptr cs]] h=some (.rowp kr 1 false (l.filter λx => !P x).length,h.set kr (.cells ((l.filter λx => !P x).map PV.str))):=by
 have iJ:h.set kr (.cells (l.map PV.str))=h:=Fq hk
 have kL:kr<h.length:=(aj.1 hk).1
 have hi:=Ls hL l hl (.rowp kr 1 false l.length) h (.inr ⟨kr,rfl,hk⟩) k cs P (λx hx=>by have:=dc (.cells (l.map PV.str)) x hx; rwa [iJ] at this)
 refine wz (hL 127 _ rfl) rfl ?_
 cases hf:l.findIdx? P with
 | none =>
   have eY:l.filter (λx => !P x)=l:=by
    rw[List.findIdx?_eq_none_iff] at hf
    rw[List.filter_eq_self]
    intro x hx; simp[hf x hx]
   simp[Bw,hf] at hi
   simp[FG,hi,eY,iJ]
 | some i0 =>
   obtain⟨dC,vv,dO⟩:=List.findIdx?_eq_some_iff_getElem.1 hf
   simp[Bw,hf] at hi
   have mc:=wC i0 (by omega)
   have pz:(l.take (i0+1)).filter (λx => !P x)=l.take i0:=by
    rw[bS,an dC]
    simp only[Option.toList,List.filter_append,List.filter_cons,vv,Bool.not_true,ay,if_false,List.filter_nil,aL]
    rw[List.filter_eq_self]
    intro x hx
    obtain⟨j,hj,rfl⟩:=bg.1 hx
    simp only[bG] at hj
    rw[bB]
    have:=dO j (by omega)
    simpa using this
   have c9:¬(i0:Int) = -1:=by omega
   simp[FG,hi,mc,c9]
   rw[Ot]
   refine yQ (l.length - (i0+1)) (λj st=>∃y5 mid,st=⟨[.rowp kr 1 false l.length,.func k [] [.cptr cs],.list true [],.int .i64 ((l.take (i0+1+j)).filter λx => !P x).length,.int .i64 (i0+1+j:Nat),y5],[],0,h.set kr (.cells (((l.take (i0+1+j)).filter (λx => !P x)++mid++l.drop (i0+1+j)).map PV.str))⟩∧((l.take (i0+1+j)).filter λx => !P x).length+mid.length=i0+1+j) ?_ ?_ ⟨.dead,[l[i0]],?_,?_⟩
   ·rintro j hj st ⟨y5,mid,rfl,hm⟩ ih
    obtain⟨J,hJ⟩:∃J,J=i0+1+j:=⟨_,rfl⟩
    have m8:J<l.length:=by omega
    rw[← hJ] at hm ⊢
    have vz:i0+1+(j+1)=J+1:=by omega
    rw[vz] at ih
    have hw:=wC J (by omega)
    obtain⟨F,hF⟩:∃F,F=(l.take J).filter λx => !P x:=⟨_,rfl⟩
    rw[← hF] at hm ⊢
    have vA:=wC F.length (by omega)
    have lr:(l.take (J+1)).filter (λx => !P x)=F++if P l[J] then[] else[l[J]]:=by
     rw[bS,an m8,List.filter_append,← hF]
     simp only[Option.toList,List.filter_cons,List.filter_nil]
     cases P l[J]<;>simp
    rw[lr] at ih
    have xF:(F++mid++l.drop J)[J]? = some l[J]:=by
     rw[ap (by simp; omega)]
     simp[hm,aU,an m8]
    have hc:=dc (.cells ((F++mid++l.drop J).map PV.str)) l[J] (ae m8)
    have hcell:(h.set kr (.cells ((F++mid++l.drop J).map PV.str)))[kr]? = some (.cells ((F++mid++l.drop J).map PV.str)):=by rw[bp kL]
    obtain⟨C,hC⟩:∃C,C=F++mid++l.drop J:=⟨_,rfl⟩
    rw[← hC] at xF hc hcell ⊢
    obtain⟨h1,e1⟩:∃h1,h.set kr (.cells (C.map PV.str))=h1:=⟨_,rfl⟩
    rw[e1] at hc hcell ⊢
    have tF:J<C.length:=(aj.1 xF).1
    have tG:C[J]=l[J]:=(aj.1 xF).2
    have hFJ:F.length≤J:=by omega
    cases hp:P l[J] with
    | true =>
      rw[hp] at hc ih
      simp only[if_true,aL] at ih
      simp[m8,hcell,xF,hc,hw,tF,tG]
      have nA:C=F++(mid++[l[J]])++l.drop (J+1):=by rw[hC,aN m8]; simp
      have:=ih ⟨[.rowp kr 1 false l.length,.func k [] [.cptr cs],.list true [],.int .i64 F.length,.int .i64 (J+1:Nat),.str l[J]],[],0,h1⟩ ⟨_,mid++[l[J]],by rw[← e1,nA],by simp; omega⟩
      simpa using this
    | false =>
      rw[hp] at hc ih
      simp only[ay,if_false] at ih
      have mR:F.length<l.length:=by omega
      have vB:F.length<C.length:=by omega
      have wV:∃mid',C.set F.length l[J]=F++[l[J]]++mid'++l.drop (J+1)∧(F++[l[J]]).length+mid'.length=J+1:=by
       rw[hC,aN m8]
       generalize l.drop (J+1)=R
       generalize l[J]=x
       cases mid with
       | nil=>exact⟨[],by simp,by simp at hm ⊢; omega⟩
       | cons m0 ms=>exact⟨ms++[x],by simp,by simp at hm ⊢; omega⟩
      obtain⟨mid',d4,ot⟩:=wV
      have dQ:h1.set kr (.cells ((C.map PV.str).set F.length (.str l[J])))=h.set kr (.cells ((F++[l[J]]++mid'++l.drop (J+1)).map PV.str)):=by rw[← e1,List.set_set,← d4,List.map_set]
      simp[m8,hcell,xF,hc,hw,tF,tG,vA,mR,vB,yO,dQ]
      have:=ih ⟨[.rowp kr 1 false l.length,.func k [] [.cptr cs],.list true [],.int .i64 (F++[l[J]]).length,.int .i64 (J+1:Nat),.str l[J]],[],0,h.set kr (.cells ((F++[l[J]]++mid'++l.drop (J+1)).map PV.str))⟩ ⟨_,mid',rfl,ot⟩
      simpa using this
   ·rintro st ⟨y5,mid,rfl,hm⟩
    have hJ:i0+1+(l.length - (i0+1))=l.length:=by omega
    rw[hJ] at hm ⊢
    rw[aI] at hm ⊢
    rw[List.drop_length]
    obtain⟨F,hF⟩:∃F,F=l.filter λx => !P x:=⟨_,rfl⟩
    rw[← hF] at hm ⊢
    have mR:F.length≤l.length:=by omega
    have gx:((F++mid).map PV.str).take F.length=F.map PV.str:=by rw[bk,List.take_append_of_le_length (by simp),cA (by simp)]
    rw[bk] at gx
    by_cases sh:F=[]
    ·subst sh
     simp[kL]
    ·have hF1:¬F.length=0:=λe=>sh (bb.1 e)
     have i8:cp (.rows kr 1 false F.length (l.length - F.length))=some (.rows kr 1 false F.length (l.length - F.length)):=rfl
     simp[kL,mR,sh,gx,i8]
   ·rw[br,pz]
    have:(l.take i0).length=i0:=by simp; omega
    have ei:l.take i0++[l[i0]]++l.drop (i0+1)=l:=by
     rw[aC,List.singleton_append,List.getElem_cons_drop,bO]
    rw[this,ei,iJ]
    simp
   ·rw[br,pz]
    simp; omega
end
end PI.Sc
