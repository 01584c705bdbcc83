import Derived.Test.YtljbhgpanekomaaGreatDoorPiScLaw1
set_option maxRecDepth 100000
set_option linter.unusedSimpArgs false
set_option linter.unusedVariables false
set_option linter.unusedSectionVars false
namespace PI.Sc
open Go (IntKind BinOp UnOp)
open Short
def x5 (y:Expr→List PObj→Option (Out×List PObj)):List Expr→List PObj→Option (Out×List PObj)
 | [],h=>some (.val (.bool true),h)
 | x :: xs, h => match y x h with
   | some (.val (.bool true),h')=>x5 y xs h'
   | r=>r
theorem Ob (y:Expr→List PObj→Option (Out×List PObj)):∀(a b:List Expr) (h:List PObj),x5 y (a++b) h=match x5 y a h with
  | some (.val (.bool true),h')=>x5 y b h'
  | r=>r
 | [],b,h=>rfl
 | x :: a, b, h => by
   simp only[ba,x5]
   split
   ·exact Ob y a b _
   ·rename_i c9
    split
    ·rename_i h1; exact absurd h1 (c9 _)
    ·rfl
theorem E4 {y:Expr→List PObj→Option (Out×List PObj)} {f:Expr→Int} {R:Int→Out×List PObj} {h:List PObj}:∀(l:List Expr),(∀x∈l,f x=0→y x h=some (.val (.bool true),h))→(∀x∈l,f x≠0→y x h=some (R (f x)))→(∀e h',R e≠(.val (.bool true),h'))→x5 y l h=some (if wg f l=0 then(.val (.bool true),h) else R (wg f l))
 | [],_,_,_=>by simp[x5,wg]
 | x :: l, h1, h2, h3 => by
   simp only[x5]
   by_cases hx:f x=0
   ·rw[h1 x (by simp) hx]
    simp only[wg,hx,if_true]
    exact E4 l (λz hz=>h1 z (by simp[hz])) (λz hz=>h2 z (by simp[hz])) h3
   ·rw[h2 x (by simp) hx]
    simp only[wg,hx,if_false]
    split
    ·rename_i hh; simp only[aa] at hh; exact absurd hh (h3 _ _)
    ·rfl
theorem Oc {y:Expr→List PObj→Option (Out×List PObj)} {H:Nat→List PObj}:∀(l:List Expr) (i:Nat),(∀x∈l,∀k,i≤k→k<i+l.length→y x (H k)=some (.val (.bool true),H (k+1)))→x5 y l (H i)=some (.val (.bool true),H (i+l.length))
 | [],i,_=>rfl
 | x :: l, i, h => by
   simp only[x5,h x (by simp) i (ao _) (by simp)]
   rw[Oc l (i+1) (λz hz k h1 h2=>h z (by simp[hz]) k (by omega) (by simp; omega)),bc]
   congr 3; omega
theorem yAt (H0:List PObj) (R:Expr→Out×List PObj):∃y:Expr→List PObj→Option (Out×List PObj),(∀x,y x H0=some (R x))∧∀x h r,y x h=some r→h=H0∧r=R x:=by
 classical
 refine⟨λx h=>if h=H0 then some (R x) else none,λx=>ah rfl,λx h r hr =>?_⟩
 simp only at hr
 split at hr
 ·rename_i he; exact⟨he,(cB hr).symm⟩
 ·simp at hr
theorem xG (n:Nat) (cs:List PV) (off:Nat) (v:PV):wz n false cs off v=if off<cs.length∧v.flat=true then some (cs.set off v) else none:=rfl
section
variable {L:Nat→Option PFunc} {V l:List PV} {g:Nat} {h:List PObj}
@[simp] theorem c16 {n:Nat} {o o':PObj}:(h.set n o).set n o'=h.set n o':=List.set_set ..
theorem Dy {n:Nat} {o:PObj} (hn:h[n]? = some o):h.set n o=h:=by
 obtain⟨cO,he⟩:=aj.1 hn
 rw[← he]; exact List.set_getElem_self cO
end
section
variable {L:Nat→Option PFunc} (hL:∀k f,LS k=some f→L k=some f)
include hL
theorem c4S (kb:Nat) (first captured:List PV) (y:Expr→List PObj→Option (Out×List PObj)) (sR:∀p∈first++captured,cp p=some p) (hb:∀x h r,y x h=some r→(∃b h',r=(.val (.bool b),h'))∨∃v h',r=(.boom v,h')) (e:Expr):EW e→(∀x∈e.list,∀h r,y x h=some r→wm L kb (first++[vX x]++captured) h=some r)→∀(h:List PObj) (r:Out×List PObj),x5 y e.list h=some r→wm L 141 [vX e,.func kb first captured] h=some r:=by
 induction e using Expr.ind with
 | h e ih=>
 intro he hy h r hr
 obtain⟨_,_,dr⟩:=he.self
 rw[Expr.list_eq] at hr
 simp only[x5] at hr
 refine yF (hL 141 _ rfl) rfl ?_
 cases m6:y e h with
 | none=>rw[m6] at hr; simp at hr
 | some q =>
   rw[m6] at hr
   have ju:=hy e (by rw[Expr.list_eq]; simp) h q m6
   simp only[aJ] at ju
   rcases hb e h q m6 with⟨b,h',rfl⟩|⟨v,h',rfl⟩
   ·cases b with
    | false =>
      simp only[aa] at hr
      subst hr
      simp at ju
      simp[Bv,ju]
    | true =>
      simp only at hr
      simp at ju
      simp[Bv,ju]
      suffices H:∀(n i:Nat) (h:List PObj) (x4:PV) (g:Nat),i+n=e.args.length→x5 y ((e.args.drop i).flatMap Expr.list) h=some r→wpL L EQ ⟨[vX e,.func kb first captured,.loc 0 (vX e).cells,.bool false,x4,.list false (e.args.map vX),.int .i64 e.args.length,.int .i64 i],[],g,h⟩ (A5 0 (Bz L (S (R [t 3 T]) Y) (Be L Bv r))) by
       simpa[Bv] using H e.args.length 0 h' .dead 1 (by omega) (by simpa using hr)
      intro n
      induction n with
      | zero =>
        intro i h x4 g hi hr
        have:i=e.args.length:=by omega
        subst this
        rw[aU (ao _)] at hr
        simp only[List.flatMap_nil,x5,aa] at hr
        subst hr
        rw[EQ,zE]
        simp[Bv]
      | succ n ih2 =>
        intro i h x4 g hi hr
        have dG:i<e.args.length:=by omega
        have hw:=wk i (by omega)
        rw[aQ dG,bl,Ob] at hr
        rw[EQ,zE]
        cases hq:x5 y e.args[i].list h with
        | none=>rw[hq] at hr; simp at hr
        | some q =>
          have hc:=ih e.args[i] (ai dG) (he.arg (ai dG)) (λx hx=>hy x (by rw[Expr.list_eq]; exact bx _ (cz.2 ⟨_,ai dG,hx⟩))) h q hq
          rw[hq] at hr
          have jC:(∃b h',q=(.val (.bool b),h'))∨∃v h',q=(.boom v,h'):=by
           have key:∀(l:List Expr) (h:List PObj) (q),x5 y l h=some q→(∃b h',q=(.val (.bool b),h'))∨∃v h',q=(.boom v,h'):=by
            intro l
            induction l with
            | nil=>intro h q hq; simp only[x5,aa] at hq; exact .inl ⟨true,h,hq.symm⟩
            | cons x l ihl =>
              intro h q hq
              simp only[x5] at hq
              split at hq
              ·exact ihl _ _ hq
              ·exact hb _ _ _ hq
           exact key _ _ _ hq
          rcases jC with⟨b,h2,rfl⟩|⟨v,h2,rfl⟩
          ·cases b with
           | false =>
             simp only[aa] at hr
             subst hr
             simp[dG,hc,Bv]
           | true =>
             simp only at hr
             simp[dG,hc,hw]
             have:=ih2 (i+1) h2 (.loc g (vX e.args[i]).cells) (g+1) (by omega) hr
             rw[EQ] at this
             simpa using this
          ·simp only[aa] at hr
           subst hr
           simp[dG,hc,Bv]
   ·simp only[aa] at hr
    subst hr
    simp at ju
    simp[Bv,ju]
theorem DP (e:Expr) (h:List PObj):vU L 81 [vX e] h=some (.func 114 [] [.cptr (vX e).cells],h):=by
 refine wj (hL 81 _ rfl) rfl ?_
 simp[I6]
theorem DO {V l:List PV} {g:Nat} {h:List PObj} {Q:PExit→St→Prop} {x:PX} {kb:Nat} {caps:List PX} {cs:List PV} (e:Expr) (he:EW e) (hx:rd ⟨V,l,g,h⟩ x=some (.func 114 [] [.cptr (vX e).cells])) (hc:rdAll ⟨V,l,g,h⟩ caps=some cs) (dY:∀p∈cs,cp p=some p)
  (y:Expr→List PObj→Option (Out×List PObj)) (hy:∀x∈e.list,∀h' r,y x h'=some r→wm L kb (.ptr h.length 0::(cs++[vX x])) h'=some r) (hb:∀x h r,y x h=some r→(∃b h',r=(.val (.bool b),h'))∨∃v h',r=(.boom v,h'))
  (r:Out×List PObj) (hr:x5 y e.list (h++[.loop true])=some r) (hq:Ac V l g h.length Q r):wpL L (.rangeF x kb caps) ⟨V,l,g,h⟩ Q:=by
 have gO:B1 L 114=true:=by unfold B1; rw[hL 114 _ rfl]; rfl
 have hE:=c4S hL kb (.ptr h.length 0::cs) [] y (by
  intro p hp
  simp only[aW,az] at hp
  rcases hp with rfl|hp
  ·rfl
  ·exact dY p hp) hb e he (λx hx h' r hr=>by have:=hy x hx h' r hr; simpa using this) _ r hr
 have ho:∃r',wm L 114 ([] ++ .func kb (.ptr h.length 0::cs) []::[.cptr (vX e).cells]) (h++[.loop true])=some r'∧Ac V l g h.length Q r':=by
  obtain⟨o,h'⟩:=r
  cases o with
  | val v =>
    refine⟨(.val (.tuple []),h'),?_,hq⟩
    refine yF (hL 114 _ rfl) rfl ?_
    simp[Gn,hE]
  | boom v =>
    refine⟨(.boom v,h'),?_,hq⟩
    refine yF (hL 114 _ rfl) rfl ?_
    simp[Gn,hE]
 obtain⟨r',h1,h2⟩:=ho
 exact b8t hx hc gO h1 h2
theorem c17 (e:Expr) (he:EW e) (hp:e.parts≤1500) (h:List PObj):vU L 148 [vX e] []=some (.int .i64 e.parts,[.cells [.int .i64 e.parts],.gone]):=by
 refine wj (hL 148 _ rfl) rfl ?_
 have hE:=DP hL e [.cells [.int .i64 0]]
 simp[Jr,hE]
 have ep:∀(x:Expr) (c:Nat),c≤1500→wm L 193 [.ptr 1 0,.ptr 0 0,vX x] [.cells [.int .i64 c],.loop true]=some (.val (.bool true),[.cells [.int .i64 (c+1:Nat)],.loop true]):=by
  intro x c hc
  have hw:=wk c (by omega)
  refine Em (as:=[.ptr 0 0,vX x]) (hL 193 _ rfl) rfl rfl rfl ?_
  simp[Jx,hw,xG,wh]
 refine DO hL e he (cs:=[.ptr 0 0]) (by simp) (by simp) (by simp) (λx h=>match h with | [.cells [.int .i64 c],.loop true]=>if 0≤c∧c≤1500 then some (.val (.bool true),[.cells [.int .i64 (c+1)],.loop true]) else none | _=>none) ?_ ?_ (.val (.bool true),[.cells [.int .i64 e.parts],.loop true]) ?_ ?_
 ·intro x _ h' r hr
  split at hr
  ·split at hr
   ·rename_i c hc
    simp only[aa] at hr
    subst hr
    obtain⟨n,rfl⟩:=Int.eq_ofNat_of_zero_le hc.1
    have:=ep x n (by omega)
    simpa using this
   ·simp at hr
  ·simp at hr
 ·intro x h r hr
  split at hr
  ·split at hr
   ·simp only[aa] at hr; exact .inl ⟨true,_,hr.symm⟩
   ·simp at hr
  ·simp at hr
 ·have:=Oc (y:=λx h=>match h with | [.cells [.int .i64 c],.loop true]=>if 0≤c∧c≤1500 then some (.val (.bool true),[.cells [.int .i64 (c+1)],.loop true]) else none | _=>none) (H:=λk=>[.cells [.int .i64 k],.loop true]) e.list 0 (by
   intro x hx k h1 h2
   have hk:k≤1500:=by have:e.list.length=e.parts:=rfl; omega
   have:(0:Int)≤(k:Int)∧(k:Int)≤1500:=by omega
   simp[this])
  have cK:e.list.length=e.parts:=rfl
  rw[cK] at this
  simp only[aR] at this
  simpa using this
 ·simp[Ac]
def CY (f:Expr→Int) (x:Expr):List PObj→Option (Out×List PObj)
 | [.cells [c],.loop true]=>some (if f x=0 then(.val (.bool true),[.cells [c],.loop true]) else(.val (.bool false),[.cells [.int .i64 (f x)],.over none]))
 | _=>none
theorem c8x (f:Expr→Int) (x:Expr) (h:List PObj) (r:Out×List PObj) (hr:CY f x h=some r):(∃b h',r=(.val (.bool b),h'))∨∃v h',r=(.boom v,h'):=by
 have _:=hL
 unfold CY at hr
 split at hr
 ·simp only[aa] at hr
  subst hr
  split
  ·exact .inl ⟨_,_,rfl⟩
  ·exact .inl ⟨_,_,rfl⟩
 ·simp at hr
theorem c18 (f:Expr→Int) (c:PV) (l:List Expr):x5 (CY f) l [.cells [c],.loop true]=some (if wg f l=0 then(.val (.bool true),[.cells [c],.loop true]) else(.val (.bool false),[.cells [.int .i64 (wg f l)],.over none])):=by
 have _:=hL
 refine E4 (R:=λe=>(.val (.bool false),[.cells [.int .i64 e],.over none])) l ?_ ?_ ?_
 ·intro x _ hx; simp[CY,hx]
 ·intro x _ hx; simp[CY,hx]
 ·intro e h'; simp
theorem c0i (e:Expr) (he:EW e) (hp:e.parts≤1500):∃h',vU L 122 [vX e] []=some (.int .i64 (E5 e),h'):=by
 suffices H:∃r,vU L 122 [vX e] []=some r∧r.1 = .int .i64 (E5 e) by
  obtain⟨⟨v,h'⟩,h1,h2⟩:=H
  exact⟨h',by rw[h1]; simp only at h2; rw[h2]⟩
 refine zq (hL 122 _ rfl) rfl ?_
 have h1:=c17 hL e he hp []
 have h2:=c0h hL e hp []
 have hE:=DP hL e [.cells [.int .i64 0]]
 have cQ:=b82 hp
 unfold E5
 rw[cQ]
 by_cases b1:(400:Int)<e.parts
 ·have b2:¬(e.parts:Int)≤400:=by omega
  have b3:400<e.parts:=by omega
  have b4:¬e.parts≤400:=by omega
  simp[EO,h1,b1,b2,b3,b4,need,wd,xG,wh,xi]
 ·have b2:(e.parts:Int)≤400:=by omega
  have b3:¬400<e.parts:=by omega
  have b4:e.parts≤400:=by omega
  by_cases d1:32<e.depth
  ·have d2:¬e.depth≤32:=by omega
   simp[EO,h1,h2,b1,b2,b3,b4,d1,d2,need,wd,xG,wh,xi]
  ·have d2:e.depth≤32:=by omega
   simp[EO,h1,h2,b1,b2,b3,b4,d1,d2,hE]
   have ep:∀(x:Expr) (c:PV),wm L 191 [.ptr 1 0,.ptr 0 0,vX x] [.cells [c],.loop true]=some (if BB x=0 then(.val (.bool true),[.cells [c],.loop true]) else(.val (.bool false),[.cells [.int .i64 (BB x)],.over none])):=by
    intro x c
    have ho:=c8w hL x []
    refine Em (as:=[.ptr 0 0,vX x]) (hL 191 _ rfl) rfl rfl rfl ?_
    by_cases hz:BB x=0
    ·rw[hz] at ho
     simp[GB,ho,hz]
    ·simp[GB,ho,hz,xG]
   refine DO hL e he (cs:=[.ptr 0 0]) (by simp) (by simp) (by simp) (CY BB) ?_ (c8x hL BB) _ (c18 hL BB (.int .i64 0) e.list) ?_
   ·intro x _ h' r hr
    unfold CY at hr
    split at hr
    ·simp only[aa] at hr
     subst hr
     simpa using ep x _
    ·simp at hr
   ·by_cases hf:wg BB e.list=0
    ·simp[hf,Ac,xG,wh,xi]
    ·simp[hf,Ac,wh,xi]
theorem Od (e:Expr) (he:EW e):∃h',vU L 147 [vX e] []=some (.bool (CZ e),h'):=by
 suffices H:∃r,vU L 147 [vX e] []=some r∧r.1 = .bool (CZ e) by
  obtain⟨⟨v,h'⟩,h1,h2⟩:=H
  exact⟨h',by rw[h1]; simp only at h2; rw[h2]⟩
 refine zq (hL 147 _ rfl) rfl ?_
 have hE:=DP hL e [.cells [.bool false]]
 obtain⟨f,hf⟩:∃f:Expr→Int,∀x,f x=if x.kind=5∨x.kind=6∨x.kind=7∨x.kind=10∨x.kind=11 then 1 else 0:=⟨_,λ_=>rfl⟩
 have dx:CZ e=decide (wg f e.list=0):=by
  unfold CZ
  rw[aC,aG,an,ze]
  constructor
  ·intro h x hx
   have:=h x hx
   rw[hf,ae (by simpa using this)]
  ·intro h x hx
   have:=h x hx
   rw[hf] at this
   split at this
   ·simp at this
   ·rename_i hn; simpa using hn
 rw[dx]
 simp[Jq,hE]
 have ep:∀(x:Expr) (c:PV),wm L 192 [.ptr 1 0,.ptr 0 0,vX x] [.cells [c],.loop true]=some (if f x=0 then(.val (.bool true),[.cells [c],.loop true]) else(.val (.bool false),[.cells [.bool false],.over none])):=by
  intro x c
  refine Em (as:=[.ptr 0 0,vX x]) (hL 192 _ rfl) rfl rfl rfl ?_
  rw[hf]
  by_cases k5:x.kind=5
  ·simp[Cl,tf k5,xG]
  by_cases k6:x.kind=6
  ·simp[Cl,tf k5,tf k6,xG]
  by_cases k7:x.kind=7
  ·simp[Cl,tf k5,tf k6,tf k7,xG]
  by_cases k10:x.kind=10
  ·simp[Cl,tf k5,tf k6,tf k7,tf k10,xG]
  by_cases k11:x.kind=11
  ·simp[Cl,tf k5,tf k6,tf k7,tf k10,tf k11,xG]
  simp[Cl,tf k5,tf k6,tf k7,tf k10,tf k11]
 obtain⟨y,hy⟩:∃y:Expr→List PObj→Option (Out×List PObj),∀x h,y x h=match h with
  | [.cells [c],.loop true]=>some (if f x=0 then(.val (.bool true),[.cells [c],.loop true]) else(.val (.bool false),[.cells [.bool false],.over none]))
  | _=>none:=⟨_,λ_ _=>rfl⟩
 have oC:x5 y e.list [.cells [.bool false],.loop true]=some (if wg f e.list=0 then(.val (.bool true),[.cells [.bool false],.loop true]) else(.val (.bool false),[.cells [.bool false],.over none])):=by
  refine E4 (f:=f) (R:=λ_=>(.val (.bool false),[.cells [.bool false],.over none])) e.list ?_ ?_ ?_
  ·intro x _ hx; simp[hy,hx]
  ·intro x _ hx; simp[hy,hx]
  ·intro e h'; simp
 refine DO hL e he (cs:=[.ptr 0 0]) (by simp) (by simp) (by simp) y ?_ ?_ _ oC ?_
 ·intro x _ h' r hr
  rw[hy] at hr
  split at hr
  ·simp only[aa] at hr
   subst hr
   simpa using ep x _
  ·simp at hr
 ·intro x h r hr
  rw[hy] at hr
  split at hr
  ·simp only[aa] at hr
   subst hr
   split
   ·exact .inl ⟨_,_,rfl⟩
   ·exact .inl ⟨_,_,rfl⟩
  ·simp at hr
 ·by_cases hz:wg f e.list=0
  ·simp[hz,Ac,xG,wh,xi]
  ·simp[hz,Ac,wh,xi]
theorem c0j (en:List Enum) (e:Expr) (he:EW e) (o:Bool) (h:List PObj):vU L 123 [.list o (en.map wo),vX e] h=some (.int .i64 (AO en e),h):=by
 refine wj (hL 123 _ rfl) rfl ?_
 obtain⟨ht,_,_⟩:=he.self
 have hs:=GP hL en e.t ht false []
 have hh:=E6 hL en e.t e.v ht false []
 unfold AO
 rcases(by omega:e.kind=1∨e.kind=8∨e.kind=9∨(¬e.kind=1∧¬e.kind=8∧¬e.kind=9)) with hk|hk|hk|⟨h1,h8,h9⟩
 ·have h8:¬e.kind=8:=by omega
  have h9:¬e.kind=9:=by omega
  by_cases hz:xU en e.t=0
  ·have eI:¬0<xU en e.t:=by omega
   simp[Bu,tf hk,tf h8,tf h9,hs,hz,eI,need,wd]
  ·have eI:0<xU en e.t:=by omega
   have eA:(0:Int)<xU en e.t:=by omega
   cases hq:BX en e.t e.v<;>rw[hq] at hh<;>simp[Bu,tf hk,tf h8,tf h9,hs,hh,hz,eI,eA,hq,need,wd]
 ·have h1:¬e.kind=1:=by omega
  have h9:¬e.kind=9:=by omega
  by_cases hz:xU en e.t=0
  ·have eI:¬0<xU en e.t:=by omega
   simp[Bu,tf hk,tf h1,tf h9,hs,hz,eI,need,wd]
  ·have eI:0<xU en e.t:=by omega
   have eA:(0:Int)<xU en e.t:=by omega
   cases hq:BX en e.t e.v<;>rw[hq] at hh<;>simp[Bu,tf hk,tf h1,tf h9,hs,hh,hz,eI,eA,hq,need,wd]
 ·have h1:¬e.kind=1:=by omega
  have h8:¬e.kind=8:=by omega
  by_cases hz:xU en e.t=0
  ·have eI:¬0<xU en e.t:=by omega
   simp[Bu,tf hk,tf h1,tf h8,hs,hz,eI,need,wd]
  ·have eI:0<xU en e.t:=by omega
   by_cases hl:e.args.length=xU en e.t
   ·have mC:((e.args.length:Int)=(xU en e.t:Int))=True:=eq_true (by omega)
    simp[Bu,tf hk,tf h1,tf h8,hs,hz,eI,mC,tf hl,need,wd]
   ·have mC:((e.args.length:Int)=(xU en e.t:Int))=False:=eq_false (by omega)
    simp[Bu,tf hk,tf h1,tf h8,hs,hz,eI,mC,tf hl,need,wd]
 ·simp[Bu,tf h1,tf h8,tf h9,hs]
theorem C0 (en:List Enum) (e:Expr) (he:XW e) (o:Bool):∃h',vU L 94 [.list o (en.map wo),vX e] []=some (.int .i64 (Ax en e),h'):=by
 suffices H:∃r,vU L 94 [.list o (en.map wo),vX e] []=some r∧r.1 = .int .i64 (Ax en e) by
  obtain⟨⟨v,h'⟩,h1,h2⟩:=H
  exact⟨h',by rw[h1]; simp only at h2; rw[h2]⟩
 refine zq (hL 94 _ rfl) rfl ?_
 obtain⟨h',hc⟩:=c0i hL e he.ew he.parts
 have hE:=DP hL e [.cells [.list false (en.map wo)],.cells [.int .i64 0]]
 unfold Ax
 by_cases hz:E5 e=0
 ·rw[hz] at hc ⊢
  rw[yX]
  simp[Gk,hc,hE]
  have ep:∀(x:Expr),EW x→∀(c:PV),wm L 189 [.ptr 2 0,.ptr 0 0,.ptr 1 0,vX x] [.cells [.list false (en.map wo)],.cells [c],.loop true]=some (if AO en x=0 then(.val (.bool true),[.cells [.list false (en.map wo)],.cells [c],.loop true]) else(.val (.bool false),[.cells [.list false (en.map wo)],.cells [.int .i64 (AO en x)],.over none])):=by
   intro x hx c
   have ho:=c0j hL en x hx false []
   refine Em (as:=[.ptr 0 0,.ptr 1 0,vX x]) (hL 189 _ rfl) rfl rfl rfl ?_
   by_cases hz:AO en x=0
   ·rw[hz] at ho
    simp[GA,ho,hz,wh]
   ·simp[GA,ho,hz,xG,wh]
  obtain⟨y,lc,pS⟩:=yAt [.cells [.list false (en.map wo)],.cells [.int .i64 0],.loop true] (λx=>if AO en x=0 then(.val (.bool true),[.cells [.list false (en.map wo)],.cells [.int .i64 0],.loop true]) else(.val (.bool false),[.cells [.list false (en.map wo)],.cells [.int .i64 (AO en x)],.over none]))
  have oC:x5 y e.list [.cells [.list false (en.map wo)],.cells [.int .i64 0],.loop true]=some (if wg (AO en) e.list=0 then(.val (.bool true),[.cells [.list false (en.map wo)],.cells [.int .i64 0],.loop true]) else(.val (.bool false),[.cells [.list false (en.map wo)],.cells [.int .i64 (wg (AO en) e.list)],.over none])):=by
   refine E4 (f:=AO en) (R:=λq=>(.val (.bool false),[.cells [.list false (en.map wo)],.cells [.int .i64 q],.over none])) e.list ?_ ?_ ?_
   ·intro x _ hx; rw[lc,ah hx]
   ·intro x _ hx; rw[lc,ae hx]
   ·intro e h'; simp
  refine DO hL e he.ew (cs:=[.ptr 0 0,.ptr 1 0]) (by simp) (by simp) (by simp) y ?_ ?_ _ oC ?_
  ·intro x hx h' r hr
   obtain⟨rfl,rfl⟩:=pS x h' r hr
   simpa using ep x (he.ew.mem hx) (.int .i64 0)
  ·intro x h r hr
   obtain⟨rfl,rfl⟩:=pS x h r hr
   split
   ·exact .inl ⟨_,_,rfl⟩
   ·exact .inl ⟨_,_,rfl⟩
  ·by_cases hf:wg (AO en) e.list=0
   ·simp[hf,Ac,xG,wh,xi]
   ·simp[hf,Ac,wh,xi]
 ·simp[Gk,hc,hz,wd,xG,wh,xi]
end
def xk (t:Nat) (a b e:Int):PV := .iface t (.agg [.int .i64 a,.int .i64 b,.int .i64 e])
def we (t:Nat) (a b e:Int):Out:=if e=0 then .val (.tuple []) else .boom (xk t a b e)
theorem wK (t:Nat) (a b:Int):we t a b 0 = .val (.tuple []):=rfl
theorem yG {t:Nat} {a b e:Int} (h:e≠0):we t a b e = .boom (xk t a b e):=ae h
def wG (en:List Enum) (a b:Int):PObj := .cells [.list false (en.map wo),.int .i64 a,.int .i64 b]
section
variable {L:Nat→Option PFunc} (hL:∀k f,LS k=some f→L k=some f)
include hL
variable (en:List Enum) (n:Nat) (a b:Int) (h:List PObj) (hn:h[n]? = some (wG en a b))
include hn
theorem BY (e:Int):wm L 49 [.ptr n 0,.bool true,.int .i64 e] h=some (.val (.tuple []),h):=by
 have _:=hn
 refine yF (hL 49 _ rfl) rfl ?_
 simp[Gd]
theorem BC (e:Int):wm L 49 [.ptr n 0,.bool false,.int .i64 e] h=some (.boom (xk 2 a b e),h):=by
 refine yF (hL 49 _ rfl) rfl ?_
 simp[Gd,hn,wG,xk]
theorem E7 (s:Str):wm L 89 [.ptr n 0,.str s] h=some (we 2 a b (zz s),h):=by
 have hi:=NQ hL s []
 have hT:=BY hL en n a b h hn
 have hF:=BC hL en n a b h hn
 refine yF (hL 89 _ rfl) rfl ?_
 unfold zz
 cases hs:Av s<;>rw[hs] at hi<;>simp[I7,hi,hT,hF,we]
theorem JZ (e:Int):wm L 93 [.ptr n 0,.int .i64 e] h=some (we 2 a b e,h):=by
 have hT:=BY hL en n a b h hn
 have hF:=BC hL en n a b h hn
 refine yF (hL 93 _ rfl) rfl ?_
 by_cases he:e=0
 ·subst he; simp[Gj,hT,we]
 ·simp[Gj,hF,he,we]
theorem c4U (u:Enum) (hu:u.tags.length≤1500):wm L 50 [.ptr n 0,wo u] h=some (we 2 a b (C1 u),h):=by
 have hi:=λs=>E7 hL en n a b h hn s
 have hT:=BY hL en n a b h hn
 have hF:=BC hL en n a b h hn
 refine yF (hL 50 _ rfl) rfl ?_
 unfold C1
 by_cases h0:zz u.name=0
 ·by_cases h1:u.tags=[]
  ·simp[DC,hi,h0,h1,hF,need,wd,we]
  ·have j9:0<u.tags.length:=bQ.2 h1
   have fw:(0:Int)<u.tags.length:=by omega
   by_cases h2:u.tags.length≤16
   ·have ka:(u.tags.length:Int)≤16:=by omega
    simp[DC,hi,h0,h1,j9,fw,h2,ka,hT,wK]
    refine Nx u.tags zz (λi (x:PV)=>[(3,x),(6,.int .i64 i)]) .dead ?_ ?_ ?_ rfl
    ·intro i dG cV x ih
     have hw:=wk i (by omega)
     simp[dG,hw,hi,cV,wK]
     simpa using ih _
    ·intro i dG cV hf x
     simp[dG,hi,yG cV,hf]
    ·intro h0 x
     simp[h0,wK]
   ·have ka:¬(u.tags.length:Int)≤16:=by omega
    simp[DC,hi,h0,h1,j9,fw,h2,ka,hT,hF,need,wd,we]
 ·simp[DC,hi,h0,wd,we]
theorem E8 (l:List Decl) (hl:l.length≤1500) (hd:∀d∈l,DW d) (port:Bool) (o:Bool):wm L 90 [.ptr n 0,.list o (l.map wc),.bool port] h=some (we 2 a b (wg (yR en port) l),h):=by
 have hi:=λs=>E7 hL en n a b h hn s
 have hT:=BY hL en n a b h hn
 have hF:=BC hL en n a b h hn
 refine yF (hL 90 _ rfl) rfl ?_
 simp[I8]
 refine zx l (yR en port) (λi (x:(PV×PV×PV×PV×PV)×Nat)=>[(3,x.1.1),(4,x.1.2.1),(8,x.1.2.2.1),(9,x.1.2.2.2.1),(10,x.1.2.2.2.2),(7,.int .i64 i)]) (λ_ x=>x.2) (λ_ _=>h) ((.dead,.dead,.dead,.dead,.dead),0) ?_ ?_ ?_ rfl rfl rfl
 ·intro i dG cV x ih
  have hw:=wk i (by omega)
  have lf:=hd _ (ai dG)
  have dS:=lf.clock
  have hs:=GP hL en l[i].type lf.type false []
  unfold yR at cV
  rw[zp,zp,zp,zp,zX (by decide),zX (by decide),zX (by decide),an,an] at cV
  obtain⟨k1,k2,k3,k4,k5⟩:=cV
  have k2i:(0:Int)<xU en l[i].type:=by omega
  have k4i:(l[i].clock.length:Int)≤4:=by omega
  have eR:(!port||decide (l[i].clock=[]))=true:=k3
  have hE:∀o∈l[i].clock,Ay en o=0:=ze.1 k5
  cases port with
  | false =>
    simp[dG,hi,k1,wK,hn,wG,hs,k2,k2i,k4,k4i,hT]
    refine zx l[i].clock (Ay en) (λj (y:PV×Nat)=>[(10,.int .i64 j),(4,y.1)]) (λ_ y=>y.2) (λ_ _=>h) (x.1.2.1,x.2+1) ?_ ?_ ?_ rfl rfl rfl
    ·intro j hj de y ih2
     have fV:=wk j (by omega)
     have gx:=E6 hL en l[i].clock[j].t l[i].clock[j].tag (lf.on _ (ai hj)) false []
     unfold Ay at de
     rw[zp,zX (by decide),am,an] at de
     obtain⟨q1,q2,q3⟩:=de
     rw[q3] at gx
     simp[hj,hi,q1,wK,tf q2,hn,wG,gx,hT,fV]
     simpa using ih2 (_,_)
    ·intro j hj de _ y
     exact absurd (hE _ (ai hj)) de
    ·intro _ y
     simp[hw]
     simpa using ih ((_,_,_,_,_),_)
  | true =>
    have jv:l[i].clock=[]:=by simpa using eR
    simp[dG,hi,k1,wK,hn,wG,hs,k2,k2i,k4,k4i,hT,tf jv]
    refine zx l[i].clock (Ay en) (λj (y:PV×Nat)=>[(10,.int .i64 j),(4,y.1)]) (λ_ y=>y.2) (λ_ _=>h) (x.1.2.1,x.2+1) ?_ ?_ ?_ rfl rfl rfl
    ·intro j hj de y ih2
     have fV:=wk j (by omega)
     have gx:=E6 hL en l[i].clock[j].t l[i].clock[j].tag (lf.on _ (ai hj)) false []
     unfold Ay at de
     rw[zp,zX (by decide),am,an] at de
     obtain⟨q1,q2,q3⟩:=de
     rw[q3] at gx
     simp[hj,hi,q1,wK,tf q2,hn,wG,gx,hT,fV]
     simpa using ih2 (_,_)
    ·intro j hj de _ y
     exact absurd (hE _ (ai hj)) de
    ·intro _ y
     simp[hw]
     simpa using ih ((_,_,_,_,_),_)
 ·intro i dG cV hf x
  have lf:=hd _ (ai dG)
  have dS:=lf.clock
  have hs:=GP hL en l[i].type lf.type false []
  rw[hf]
  unfold yR at cV ⊢
  by_cases k1:zz l[i].name=0
  ·by_cases k2:0<xU en l[i].type
   ·have k2i:(0:Int)<xU en l[i].type:=by omega
    by_cases k3:port=true∧l[i].clock≠[]
    ·have lg:¬l[i].clock=[]:=k3.2
     have jv:¬(l[i].clock.length:Int)=0:=by
      intro e; exact k3.2 (br.1 (by omega))
     rw[k3.1]
     simp[dG,hi,k1,wK,hn,wG,hs,k2,k2i,hT,hF,lg,jv,need,wd,we]
    ·by_cases k4:l[i].clock.length≤4
     ·have k4i:(l[i].clock.length:Int)≤4:=by omega
      have eR:(!port||decide (l[i].clock=[]))=true:=by
       cases port with
       | false=>rfl
       | true=>simpa using k3
      have hE:wg (Ay en) l[i].clock≠0:=by
       intro e; apply cV
       simp[k1,k2,eR,k4,e]
      have dp:wd (zz l[i].name) (wd (need (decide (0<xU en l[i].type)) 10) (wd (need (!port||decide (l[i].clock=[])) 11) (wd (need (decide (l[i].clock.length≤4)) 3) (wg (Ay en) l[i].clock))))=wg (Ay en) l[i].clock:=by
       simp[k1,k2,eR,k4]
      rw[dp]
      cases port with
      | true =>
        have jv:l[i].clock=[]:=by simpa using eR
        rw[jv] at hE; exact absurd rfl hE
      | false=>
      simp[dG,hi,k1,wK,hn,wG,hs,k2,k2i,k4,k4i,hT]
      refine zx l[i].clock (Ay en) (λj (y:PV×Nat)=>[(10,.int .i64 j),(4,y.1)]) (λ_ y=>y.2) (λ_ _=>h) (x.1.2.1,x.2+1) ?_ ?_ ?_ rfl rfl rfl
      ·intro j hj de y ih2
       have fV:=wk j (by omega)
       have gx:=E6 hL en l[i].clock[j].t l[i].clock[j].tag (lf.on _ (ai hj)) false []
       unfold Ay at de
       rw[zp,zX (by decide),am,an] at de
       obtain⟨q1,q2,q3⟩:=de
       rw[q3] at gx
       simp[hj,hi,q1,wK,tf q2,hn,wG,gx,hT,fV]
       simpa using ih2 (_,_)
      ·intro j hj de jw y
       have gx:=E6 hL en l[i].clock[j].t l[i].clock[j].tag (lf.on _ (ai hj)) false []
       rw[jw]
       unfold Ay
       by_cases q1:zz l[i].clock[j].name=0
       ·by_cases q2:l[i].clock[j].t=2
        ·simp[hj,hi,q1,wK,tf q2,hF,need,wd,we]
        ·cases q3:BX en l[i].clock[j].t l[i].clock[j].tag with
         | true=>exfalso; apply de; simp[Ay,q1,q2,q3]
         | false=>rw[q3] at gx; simp[hj,hi,q1,wK,tf q2,hn,wG,gx,hF,need,wd,we]
       ·simp[hj,hi,yG q1,q1,wd]
      ·intro hz y
       exact absurd hz hE
     ·have k4i:¬(l[i].clock.length:Int)≤4:=by omega
      have lg:¬l[i].clock=[]:=by intro e; rw[e] at k4; simp at k4
      have gG:port=false:=by
       cases port with
       | false=>rfl
       | true=>exact absurd ⟨rfl,lg⟩ k3
      rw[gG]
      simp[dG,hi,k1,wK,hn,wG,hs,k2,k2i,k4,k4i,hT,hF,need,wd,we]
   ·have k2i:¬(0:Int)<xU en l[i].type:=by omega
    simp[dG,hi,k1,wK,hn,wG,hs,k2,k2i,hF,need,wd,we]
  ·simp[dG,hi,yG k1,k1,wd]
 ·intro h0 x
  simp[h0,wK]
end
section
variable {L:Nat→Option PFunc} (hL:∀k f,LS k=some f→L k=some f)
include hL
section
variable (en:List Enum) (n:Nat) (a b:Int) (h:List PObj) (hn:h[n]? = some (wG en a b))
include hn
theorem E9 (q:Eqn) (hq:QW q):wm L 91 [.ptr n 0,ww q] h=some (we 2 a b (Aj en q),h):=by
 have hi:=λs=>E7 hL en n a b h hn s
 have hr:=λe=>JZ hL en n a b h hn e
 have hT:=BY hL en n a b h hn
 have hF:=BC hL en n a b h hn
 obtain⟨h',hx⟩:=C0 hL en q.right hq.right false
 have rH:=hq.left
 refine yF (hL 91 _ rfl) rfl ?_
 unfold Aj
 by_cases h1:q.left=[]
 ·simp[EF,h1,hF,need,wd,we]
 have j9:0<q.left.length:=bQ.2 h1
 have fw:(0:Int)<q.left.length:=by omega
 by_cases h2:q.left.length≤64
 ·have ka:(q.left.length:Int)≤64:=by omega
  simp[EF,h1,j9,fw,h2,ka,hT]
  refine Nx q.left zz (λi (x:PV)=>[(3,x),(6,.int .i64 i)]) .dead ?_ ?_ ?_ rfl
  ·intro i dG cV x ih
   have hw:=wk i (by omega)
   simp[dG,hw,hi,cV,wK]
   simpa using ih _
  ·intro i dG cV hf x
   simp[dG,hi,yG cV,hf,AP cV]
  ·intro h0 x
   rw[h0,yX]
   by_cases h3:Ax en q.right=0
   ·rw[h3] at hx
    by_cases h4:q.left.length=1
    ·have pT:(q.left.length:Int)=1:=by omega
     simp[hn,wG,hx,h3,hr,wK,tf h4,tf pT,hT]
    ·have pT:¬(q.left.length:Int)=1:=by omega
     by_cases h5:q.right.kind=10
     ·simp[hn,wG,hx,h3,hr,wK,tf h4,tf pT,tf h5,hT]
     ·simp[hn,wG,hx,h3,hr,wK,tf h4,tf pT,tf h5,hF,need,we]
   ·simp[hn,wG,hx,hr,yG h3,AP h3]
 ·have ka:¬(q.left.length:Int)≤64:=by omega
  simp[EF,h1,j9,fw,h2,ka,hT,hF,need,wd,we]
theorem GQ (l:List Trn) (hl:l.length≤1500) (ht:∀t∈l,XW t.cond) (m:Nat) (strong:Bool) (o:Bool):wm L 121 [.ptr n 0,.list o (l.map wJ),.int .i64 m,.bool strong] h=some (we 2 a b (wg (C2 en m strong) l),h):=by
 have hr:=λe=>JZ hL en n a b h hn e
 have hT:=BY hL en n a b h hn
 have hF:=BC hL en n a b h hn
 refine yF (hL 121 _ rfl) rfl ?_
 simp[Jk]
 refine zx l (C2 en m strong) (λi (x:PV×Nat)=>[(4,x.1),(7,.int .i64 i)]) (λ_ x=>x.2) (λ_ _=>h) (.dead,0) ?_ ?_ ?_ rfl rfl rfl
 ·intro i dG cV x ih
  have hw:=wk i (by omega)
  have oD:=ht _ (ai dG)
  obtain⟨h',hx⟩:=C0 hL en l[i].cond oD false
  obtain⟨h'',hs⟩:=Od hL l[i].cond oD.ew
  unfold C2 at cV
  rw[zp,zp,zX (by decide),zX (by decide),an] at cV
  obtain⟨⟨k1,k2⟩,k3,k4⟩:=cV
  rw[k3] at hx
  cases strong with
  | false =>
    simp[dG,hw,k1,k2,hn,wG,hx,hr,wK,hT]
    simpa using ih (_,_)
  | true =>
    have k4:CZ l[i].cond=true:=by simpa using k4
    rw[k4] at hs
    simp[dG,hw,k1,k2,hn,wG,hx,hr,wK,hs,hT]
    simpa using ih (_,_)
 ·intro i dG cV hf x
  have oD:=ht _ (ai dG)
  obtain⟨h',hx⟩:=C0 hL en l[i].cond oD false
  obtain⟨h'',hs⟩:=Od hL l[i].cond oD.ew
  rw[hf]
  unfold C2 at cV ⊢
  by_cases k1:0≤l[i].to
  ·by_cases k2:l[i].to<m
   ·by_cases k3:Ax en l[i].cond=0
    ·rw[k3] at hx
     cases strong with
     | false=>exfalso; apply cV; simp[k1,k2,k3]
     | true =>
       cases k4:CZ l[i].cond with
       | true=>exfalso; apply cV; simp[k1,k2,k3,k4]
       | false=>rw[k4] at hs; simp[dG,k1,k2,hn,wG,hx,hr,wK,hs,hT,hF,k3,need,wd,we]
    ·simp[dG,k1,k2,hn,wG,hx,hr,yG k3,hT,need,wd,k3]
   ·simp[dG,k1,k2,hF,need,wd,we]
  ·simp[dG,k1,hF,need,wd,we]
 ·intro h0 x
  simp[h0,wK]
theorem Oe:∀(d:Nat),d≤3→∀au:yU,au.length≤1500→(∀x∈au,SW x)→wm L 92 [.ptr n 0,wq au,.int .i64 (3 - (d:Int))] h=some (we 2 a b (BE en d au),h)
 | 0, _, au, dr, ha => by
   have hF:=BC hL en n a b h hn
   refine yF (hL 92 _ rfl) rfl ?_
   simp[DE,hF,BE,we]
 | d + 1, hd, au, dr, ha => by
   have ih:=Oe d (by omega)
   have hi:=λs=>E7 hL en n a b h hn s
   have hT:=BY hL en n a b h hn
   have hF:=BC hL en n a b h hn
   have rI:(3:Int) - ((d+1:Nat):Int)=2 - (d:Int):=by omega
   rw[rI]
   have cO:2 - (d:Int)<3:=by omega
   have oE:IntKind.i64.wrap (2 - (d:Int)+1)=3 - (d:Int):=by rw[xl]<;>omega
   refine yF (hL 92 _ rfl) rfl ?_
   simp only[BE]
   by_cases h1:au=[]
   ·simp[DE,cO,hT,hF,h1,need,wd,we]
   have j9:0<au.length:=bQ.2 h1
   have fw:(0:Int)<au.length:=by omega
   by_cases h2:au.length≤8
   ·have ka:(au.length:Int)≤8:=by omega
    simp[DE,cO,hT,h1,j9,fw,h2,ka]
    refine zx au (GR en au.length (BE en d)) (λi (x:(PV×PV×PV×PV×PV×PV×PV×PV×PV)×Nat)=>[(4,x.1.1),(5,x.1.2.1),(6,x.1.2.2.1),(9,.int .i64 i),(10,x.1.2.2.2.1),(11,x.1.2.2.2.2.1),(12,x.1.2.2.2.2.2.1),(13,x.1.2.2.2.2.2.2.1),(14,x.1.2.2.2.2.2.2.2.1),(15,x.1.2.2.2.2.2.2.2.2)]) (λ_ x=>x.2) (λ_ _=>h) ((.dead,.dead,.dead,.dead,.dead,.dead,.dead,.dead,.dead),1) ?_ ?_ ?_ rfl rfl rfl
    ·intro i dG cV x ih2
     have hw:=wk i (by omega)
     have hs:=ha _ (ai dG)
     have gl:=E8 hL en n a b h hn au[i].locals hs.locals hs.ls false false
     have gX:=GQ hL en n a b h hn au[i].unl hs.unl hs.us au.length true false
     have lD:=GQ hL en n a b h hn au[i].til hs.til hs.ts au.length false false
     have eg:=hs.eqs
     have ot:=hs.autos
     unfold GR at cV
     rw[zp,zp,zp,zp,zp,zp,zX (by decide),an] at cV
     obtain⟨k0,⟨c1,c2,c3,c4,c5⟩,k1,k2,k3,k4,k5⟩:=cV
     rw[k1] at gl; rw[k4] at gX; rw[k5] at lD
     have c1i:(au[i].locals.length:Int)≤256:=by omega
     have c2i:(au[i].eqs.length:Int)≤256:=by omega
     have c3i:(au[i].autos.length:Int)≤8:=by omega
     have c45:(if au[i].unl.length<au[i].til.length then(au[i].til.length:Int) else(au[i].unl.length:Int))≤4:=by split<;>omega
     have e2:=ze.1 k2
     have e3:=ze.1 k3
     simp[dG,hi,k0,wK,c1,c2,c3,c1i,c2i,c3i,c45,hT,gl]
     refine zx au[i].eqs (Aj en) (λj (y:PV×Nat)=>[(5,y.1),(12,.int .i64 j)]) (λ_ y=>y.2) (λ_ _=>h) (x.1.2.1,x.2+1) ?_ ?_ ?_ rfl rfl rfl
     ·intro j hj de y ih3
      have fV:=wk j (by omega)
      have hc:=E9 hL en n a b h hn au[i].eqs[j] (hs.es _ (ai hj))
      rw[de] at hc
      simp[hj,fV,hc,wK]
      simpa using ih3 (_,_)
     ·intro j hj de _ y
      exact absurd (e2 _ (ai hj)) de
     ·intro _ y
      simp
      refine zx au[i].autos (BE en d) (λj (z:PV×Nat)=>[(6,z.1),(15,.int .i64 j)]) (λ_ z=>z.2) (λ_ _=>h) (x.1.2.2.1,y.2) ?_ ?_ ?_ rfl rfl rfl
      ·intro j hj de z ih3
       have fV:=wk j (by omega)
       have hc:=ih au[i].autos[j] (hs.as _ (ai hj)) (hs.ss _ (ai hj))
       rw[de] at hc
       simp[hj,fV,oE,hc,wK]
       simpa using ih3 (_,_)
      ·intro j hj de _ z
       exact absurd (e3 _ (ai hj)) de
      ·intro _ z
       simp[gX,lD,wK,hw]
       simpa using ih2 ((_,_,_,_,_,_,_,_,_),_)
    ·intro i dG cV hf x
     have hs:=ha _ (ai dG)
     have gl:=E8 hL en n a b h hn au[i].locals hs.locals hs.ls false false
     have gX:=GQ hL en n a b h hn au[i].unl hs.unl hs.us au.length true false
     have lD:=GQ hL en n a b h hn au[i].til hs.til hs.ts au.length false false
     have eg:=hs.eqs
     have ot:=hs.autos
     rw[hf]
     unfold GR at cV ⊢
     by_cases k0:zz au[i].name=0
     ·rw[k0,yX] at cV ⊢
      by_cases c1:au[i].locals.length≤256
      rotate_left
      ·have c1i:¬(au[i].locals.length:Int)≤256:=by omega
       simp[dG,hi,k0,wK,c1,c1i,hF,need,wd,we]
      have c1i:(au[i].locals.length:Int)≤256:=by omega
      by_cases c2:au[i].eqs.length≤256
      rotate_left
      ·have c2i:¬(au[i].eqs.length:Int)≤256:=by omega
       simp[dG,hi,k0,wK,c1,c1i,c2,c2i,hF,need,wd,we]
      have c2i:(au[i].eqs.length:Int)≤256:=by omega
      by_cases c3:au[i].autos.length≤8
      rotate_left
      ·have c3i:¬(au[i].autos.length:Int)≤8:=by omega
       simp[dG,hi,k0,wK,c1,c1i,c2,c2i,c3,c3i,hF,need,wd,we]
      have c3i:(au[i].autos.length:Int)≤8:=by omega
      by_cases c4:au[i].unl.length≤4∧au[i].til.length≤4
      rotate_left
      ·have c45:¬(if au[i].unl.length<au[i].til.length then(au[i].til.length:Int) else(au[i].unl.length:Int))≤4:=by split<;>omega
       have c4n:¬(au[i].unl.length≤4∧au[i].til.length≤4):=c4
       simp[dG,hi,k0,wK,c1,c1i,c2,c2i,c3,c3i,c45,hF,need,wd,we,c4n]
      have c45:(if au[i].unl.length<au[i].til.length then(au[i].til.length:Int) else(au[i].unl.length:Int))≤4:=by split<;>omega
      have kc:need (decide (au[i].locals.length≤256∧au[i].eqs.length≤256∧au[i].autos.length≤8∧au[i].unl.length≤4∧au[i].til.length≤4)) 3=0:=by
       rw[zX (by decide),an]; exact⟨c1,c2,c3,c4⟩
      rw[kc,yX] at cV ⊢
      by_cases k1:wg (yR en false) au[i].locals=0
      rotate_left
      ·simp[dG,hi,k0,wK,c1,c2,c3,c1i,c2i,c3i,c45,hT,gl,yG k1,AP k1]
      rw[k1,yX] at cV ⊢
      rw[k1] at gl
      simp[dG,hi,k0,wK,c1,c2,c3,c1i,c2i,c3i,c45,hT,gl]
      refine zx au[i].eqs (Aj en) (λj (y:PV×Nat)=>[(5,y.1),(12,.int .i64 j)]) (λ_ y=>y.2) (λ_ _=>h) (x.1.2.1,x.2+1) ?_ ?_ ?_ rfl rfl rfl
      ·intro j hj de y ih3
       have fV:=wk j (by omega)
       have hc:=E9 hL en n a b h hn au[i].eqs[j] (hs.es _ (ai hj))
       rw[de] at hc
       simp[hj,fV,hc,wK]
       simpa using ih3 (_,_)
      ·intro j hj de jw y
       have hc:=E9 hL en n a b h hn au[i].eqs[j] (hs.es _ (ai hj))
       rw[jw]
       simp[hj,hc,yG de,AP de]
      ·intro k2 y
       rw[k2,yX] at cV ⊢
       simp
       refine zx au[i].autos (BE en d) (λj (z:PV×Nat)=>[(6,z.1),(15,.int .i64 j)]) (λ_ z=>z.2) (λ_ _=>h) (x.1.2.2.1,y.2) ?_ ?_ ?_ rfl rfl rfl
       ·intro j hj de z ih3
        have fV:=wk j (by omega)
        have hc:=ih au[i].autos[j] (hs.as _ (ai hj)) (hs.ss _ (ai hj))
        rw[de] at hc
        simp[hj,fV,oE,hc,wK]
        simpa using ih3 (_,_)
       ·intro j hj de jw z
        have hc:=ih au[i].autos[j] (hs.as _ (ai hj)) (hs.ss _ (ai hj))
        rw[jw]
        simp[hj,oE,hc,yG de,AP de]
       ·intro k3 z
        rw[k3,yX] at cV ⊢
        by_cases k4:wg (C2 en au.length true) au[i].unl=0
        ·rw[k4,yX] at cV ⊢
         rw[k4] at gX
         simp[gX,lD,wK,yG cV]
        ·simp[gX,yG k4,AP k4]
     ·simp[dG,hi,yG k0,AP k0]
    ·intro h0 x
     simp[h0,wK]
   ·have ka:¬(au.length:Int)≤8:=by omega
    simp[DE,cO,hT,hF,h1,j9,fw,h2,ka,need,wd,we]
end
end
end PI.Sc
set_option maxRecDepth 100000
set_option linter.unusedSimpArgs false
set_option linter.unusedVariables false
namespace PI
section
variable {L:Nat→Option PFunc} {V l:List PV} {g:Nat} {h:List PObj}
def DR (L:Nat→Option PFunc) (f:PFunc) (P:PV×List PObj→Prop) (e:PExit) (st:St):Prop:=∃v h',Be L f (.val v,h') e st∧P (v,h')
@[simp] theorem b5G (f:PFunc) (P:PV×List PObj→Prop):DR L f P .normal ⟨V,l,g,h⟩=∃v,wY ⟨V,l,g,h⟩ f.results=some v∧P (v,wI V f.results h):=by
 simp only[DR,Of,eq_iff_iff]
 constructor
 ·rintro⟨v,h',⟨v',h1,h2⟩,h3⟩
  simp only[ac,Out.val.injEq] at h2
  obtain⟨rfl,rfl⟩:=h2
  exact⟨v,h1,h3⟩
 ·rintro⟨v,h1,h2⟩; exact⟨v,_,⟨v,h1,rfl⟩,h2⟩
@[simp] theorem c8y (f:PFunc) (P:PV×List PObj→Prop):DR L f P .ret ⟨V,l,g,h⟩=∃v,wY ⟨V,l,g,h⟩ f.results=some v∧P (v,wI V f.results h):=b5G (L:=L) f P
@[simp] theorem c4W (f:PFunc) (P:PV×List PObj→Prop) (kd:Nat) (cs:List PV) (p:Option PV):DR L f P (.after kd cs p) ⟨V,l,g,h⟩=(f.code.NR=true∧∃h1 x,xW L kd (p.getD .nilIface::cs) h=some h1∧wY ⟨V,l,g,h1⟩ f.results=some x∧P (x,wI V f.results h1)):=by
 simp only[DR,b9n,eq_iff_iff]
 constructor
 ·rintro⟨v,h',⟨h0,h1,x,h2,h3,h4⟩,h5⟩
  simp only[ac,Out.val.injEq] at h4
  obtain⟨rfl,rfl⟩:=h4
  exact⟨h0,h1,v,h2,h3,h5⟩
 ·rintro⟨h0,h1,x,h2,h3,h5⟩; exact⟨x,_,⟨h0,h1,x,h2,h3,rfl⟩,h5⟩
theorem L6 {k:Nat} {f:PFunc} {args:List PV} {hp:List PObj} {P:PV×List PObj→Prop} (hf:L k=some f) (hl:args.length=f.params)
  (hw:wpL L f.code ⟨args.map dem++List.replicate (f.nv - f.params) .dead,[],0,hp⟩ (DR L f P)) (hs:f.split=false:=by rfl) (fm:f.prim=none:=by rfl) (hr:f.code.isRound=false:=by rfl):∃r,vU L k args hp=some r∧P r:=by
 rw[A0] at hw
 obtain⟨e,st,h1,v,h',h2,h3⟩:=hw
 exact⟨(v,h'),c0Z hf hl (A0.2 ⟨e,st,h1,h2⟩) hs fm hr,h3⟩
def CJ (L:Nat→Option PFunc) (f:PFunc) (P:Out×List PObj→Prop) (e:PExit) (st:St):Prop:=∃r,Be L f r e st∧P r
@[simp] theorem b6Z (f:PFunc) (P:Out×List PObj→Prop):CJ L f P .normal ⟨V,l,g,h⟩=∃v,wY ⟨V,l,g,h⟩ f.results=some v∧P (.val v,wI V f.results h):=by
 simp only[CJ,Of,eq_iff_iff]
 constructor
 ·rintro⟨r,⟨v,h1,rfl⟩,h2⟩; exact⟨v,h1,h2⟩
 ·rintro⟨v,h1,h2⟩; exact⟨_,⟨v,h1,rfl⟩,h2⟩
@[simp] theorem d0p (f:PFunc) (P:Out×List PObj→Prop):CJ L f P .ret ⟨V,l,g,h⟩=∃v,wY ⟨V,l,g,h⟩ f.results=some v∧P (.val v,wI V f.results h):=b6Z (L:=L) f P
@[simp] theorem c8z (f:PFunc) (P:Out×List PObj→Prop) (v:PV):CJ L f P (.boom v) ⟨V,l,g,h⟩=P (.boom v,h):=by
 simp only[CJ,c0Y,eq_iff_iff]
 exact⟨fun⟨r,h1,h2⟩=>h1▸h2,λh2=>⟨_,rfl,h2⟩⟩
theorem Bp {k:Nat} {f:PFunc} {args:List PV} {hp:List PObj} {P:Out×List PObj→Prop} (hf:L k=some f) (hl:args.length=f.params)
  (hw:wpL L f.code ⟨args.map dem++List.replicate (f.nv - f.params) .dead,[],0,hp⟩ (CJ L f P)) (hs:f.split=false:=by rfl) (fm:f.prim=none:=by rfl) (hr:f.code.isRound=false:=by rfl):∃r,wm L k args hp=some r∧P r:=by
 rw[A0] at hw
 obtain⟨e,st,h1,r,h2,h3⟩:=hw
 exact⟨r,yF hf hl (A0.2 ⟨e,st,h1,h2⟩) hs fm hr,h3⟩
end
end PI
namespace PI.Sc
open Go (IntKind BinOp UnOp)
open Short
def xz (t:Nat):Option Bad→Out
 | none => .val (.tuple [])
 | some b => .boom (xk t b.node b.eq b.err)
section
variable {L:Nat→Option PFunc} (hL:∀k f,LS k=some f→L k=some f)
include hL
theorem Og (en:List Enum) (n:Nat) (a b:Int) (h:List PObj) (hn:h[n]? = some (wG en a b)) (i:Nat) (nd:Node) (gf:NW nd):∃k:Int,wm L 51 [.ptr n 0,.int .i64 i,wE nd] h=some (xz 2 (yz en nd i),h.set n (wG en i k)):=by
 suffices H:∃r,wm L 51 [.ptr n 0,.int .i64 i,wE nd] h=some r∧∃k:Int,r=(xz 2 (yz en nd i),h.set n (wG en i k)) by
  obtain⟨r,h1,k,rfl⟩:=H
  exact⟨k,h1⟩
 refine Bp (hL 51 _ rfl) rfl ?_
 have cO:n<h.length:=(aj.1 hn).1
 have ey:∀k:Int,PObj.cells [.list false (en.map wo),.int .i64 i,.int .i64 k]=wG en i k:=λ_=>rfl
 have jo:∀k:Int,(h.set n (wG en i k))[n]? = some (wG en i k):=λk=>by simp[cO]
 have hi:=λs=>E7 hL en n i (-1) (h.set n (wG en i (-1))) (jo _) s
 have hr:=λe=>JZ hL en n i (-1) (h.set n (wG en i (-1))) (jo _) e
 have hT:=BY hL en n i (-1) (h.set n (wG en i (-1))) (jo _)
 have hF:=BC hL en n i (-1) (h.set n (wG en i (-1))) (jo _)
 have oF:=E8 hL en n i (-1) (h.set n (wG en i (-1))) (jo _) nd.ins gf.ins gf.is true false
 have pU:=E8 hL en n i (-1) (h.set n (wG en i (-1))) (jo _) nd.outs gf.outs gf.os true false
 have iI:=E8 hL en n i (-1) (h.set n (wG en i (-1))) (jo _) nd.locals gf.locals gf.ls false false
 have ip:=λ(au:yU) (h1:au.length≤1500) (h2:∀x∈au,SW x)=>Oe hL en n i (-1) (h.set n (wG en i (-1))) (jo _) 3 (by omega) au h1 h2
 have lK:zo en nd≠0→yz en nd i=some ⟨i,-1,zo en nd⟩:=λhh=>by unfold yz; rw[ah hh]
 obtain⟨RES,eh⟩:∃RES,RES=yz en nd i:=⟨_,rfl⟩
 rw[← eh]
 have eC:∀e:Int,zo en nd=e→e≠0→RES=some ⟨i,-1,e⟩:=λe h1 h2=>by rw[eh,lK (by rw[h1]; exact h2),h1]
 simp[IS,hn,wG,wz]
 rw[ey]
 by_cases k0:zz nd.name=0
 rotate_left
 ·have:=eC (zz nd.name) (by unfold zo; exact AP k0) k0
  rw[this]
  simp[hi,yG k0,xz]
  exact⟨-1,rfl⟩
 by_cases c12:nd.ins.length≤64∧nd.outs.length≤64
 rotate_left
 ·have hc:¬(if nd.ins.length<nd.outs.length then(nd.outs.length:Int) else(nd.ins.length:Int))≤64:=by split<;>omega
  have := eC 3 (by unfold zo; rw [k0, yX]; have : ¬ (nd.ins.length ≤ 64 ∧ nd.outs.length ≤ 64 ∧ nd.locals.length ≤ 256 ∧ nd.eqs.length ≤ 256 ∧ nd.autos.length ≤ 8 ∧ nd.assume.length ≤ 8 ∧ nd.ensure.length ≤ 8) := by omega
                   simp only[this,decide_false,Fa]; rfl) (by decide)
  rw[this]
  simp[hi,k0,wK,hc,hF,xz]
  exact⟨-1,rfl⟩
 have m12:(if nd.ins.length<nd.outs.length then(nd.outs.length:Int) else(nd.ins.length:Int))≤64:=by split<;>omega
 by_cases c3:nd.locals.length≤256
 rotate_left
 ·have c3i:¬(nd.locals.length:Int)≤256:=by omega
  have := eC 3 (by unfold zo; rw [k0, yX]; have : ¬ (nd.ins.length ≤ 64 ∧ nd.outs.length ≤ 64 ∧ nd.locals.length ≤ 256 ∧ nd.eqs.length ≤ 256 ∧ nd.autos.length ≤ 8 ∧ nd.assume.length ≤ 8 ∧ nd.ensure.length ≤ 8) := by omega
                   simp only[this,decide_false,Fa]; rfl) (by decide)
  rw[this]
  simp[hi,k0,wK,m12,c3,c3i,hF,xz]
  exact⟨-1,rfl⟩
 have c3i:(nd.locals.length:Int)≤256:=by omega
 by_cases c4:nd.eqs.length≤256
 rotate_left
 ·have c4i:¬(nd.eqs.length:Int)≤256:=by omega
  have := eC 3 (by unfold zo; rw [k0, yX]; have : ¬ (nd.ins.length ≤ 64 ∧ nd.outs.length ≤ 64 ∧ nd.locals.length ≤ 256 ∧ nd.eqs.length ≤ 256 ∧ nd.autos.length ≤ 8 ∧ nd.assume.length ≤ 8 ∧ nd.ensure.length ≤ 8) := by omega
                   simp only[this,decide_false,Fa]; rfl) (by decide)
  rw[this]
  simp[hi,k0,wK,m12,c3,c3i,c4,c4i,hF,xz]
  exact⟨-1,rfl⟩
 have c4i:(nd.eqs.length:Int)≤256:=by omega
 by_cases c5:nd.autos.length≤8
 rotate_left
 ·have c5i:¬(nd.autos.length:Int)≤8:=by omega
  have := eC 3 (by unfold zo; rw [k0, yX]; have : ¬ (nd.ins.length ≤ 64 ∧ nd.outs.length ≤ 64 ∧ nd.locals.length ≤ 256 ∧ nd.eqs.length ≤ 256 ∧ nd.autos.length ≤ 8 ∧ nd.assume.length ≤ 8 ∧ nd.ensure.length ≤ 8) := by omega
                   simp only[this,decide_false,Fa]; rfl) (by decide)
  rw[this]
  simp[hi,k0,wK,m12,c3,c3i,c4,c4i,c5,c5i,hF,xz]
  exact⟨-1,rfl⟩
 have c5i:(nd.autos.length:Int)≤8:=by omega
 by_cases c67:nd.assume.length≤8∧nd.ensure.length≤8
 rotate_left
 ·have m67:¬(if nd.assume.length<nd.ensure.length then(nd.ensure.length:Int) else(nd.assume.length:Int))≤8:=by split<;>omega
  have := eC 3 (by unfold zo; rw [k0, yX]; have : ¬ (nd.ins.length ≤ 64 ∧ nd.outs.length ≤ 64 ∧ nd.locals.length ≤ 256 ∧ nd.eqs.length ≤ 256 ∧ nd.autos.length ≤ 8 ∧ nd.assume.length ≤ 8 ∧ nd.ensure.length ≤ 8) := by omega
                   simp only[this,decide_false,Fa]; rfl) (by decide)
  rw[this]
  simp[hi,k0,wK,m12,c3,c3i,c4,c4i,c5,c5i,m67,hF,xz]
  exact⟨-1,rfl⟩
 have m67:(if nd.assume.length<nd.ensure.length then(nd.ensure.length:Int) else(nd.assume.length:Int))≤8:=by split<;>omega
 have kc:need (decide (nd.ins.length≤64∧nd.outs.length≤64∧nd.locals.length≤256∧nd.eqs.length≤256∧nd.autos.length≤8∧nd.assume.length≤8∧nd.ensure.length≤8)) 3=0:=by
  rw[zX (by decide),an]; omega
 have hH:zo en nd=wd (need (decide (nd.outs≠[])) 8) (wd (wg (yR en true) nd.ins) (wd (wg (yR en true) nd.outs) (wg (yR en false) nd.locals))):=by
  unfold zo; rw[k0,yX,kc,yX]
 by_cases o1:nd.outs=[]
 ·have o1p:¬0<nd.outs.length:=by simp[o1]
  have o1q:¬(0:Int)<nd.outs.length:=by omega
  have:=eC 8 (by rw[hH]; simp[o1,wd]) (by decide)
  rw[this]
  simp[hi,k0,wK,m12,c3,c3i,c4,c4i,c5,c5i,m67,hT,tf o1,o1p,o1q,hF,xz]
  exact⟨-1,rfl⟩
 have o1n:0<nd.outs.length:=bQ.2 o1
 have o1i:(0:Int)<nd.outs.length:=by omega
 have kS:zo en nd=wd (wg (yR en true) nd.ins) (wd (wg (yR en true) nd.outs) (wg (yR en false) nd.locals)):=by
  rw[hH]; simp[o1]
 by_cases z1:wg (yR en true) nd.ins=0
 rotate_left
 ·have:=eC _ (by rw[kS]; exact AP z1) z1
  rw[this]
  simp[hi,k0,wK,m12,c3,c3i,c4,c4i,c5,c5i,m67,hT,o1,o1n,o1i,oF,yG z1,xz]
  exact⟨-1,rfl⟩
 rw[z1,yX] at kS
 rw[z1] at oF
 by_cases z2:wg (yR en true) nd.outs=0
 rotate_left
 ·have:=eC _ (by rw[kS]; exact AP z2) z2
  rw[this]
  simp[hi,k0,wK,m12,c3,c3i,c4,c4i,c5,c5i,m67,hT,o1,o1n,o1i,oF,pU,yG z2,xz]
  exact⟨-1,rfl⟩
 rw[z2,yX] at kS
 rw[z2] at pU
 by_cases z3:wg (yR en false) nd.locals=0
 rotate_left
 ·have:=eC _ kS z3
  rw[this]
  simp[hi,k0,wK,m12,c3,c3i,c4,c4i,c5,c5i,m67,hT,o1,o1n,o1i,oF,pU,iI,yG z3,xz]
  exact⟨-1,rfl⟩
 rw[z3] at iI kS
 have u4:=gf.eqs
 have fO:RES=match zY (Aj en) nd.eqs 0 with
  | some (k,e)=>some ⟨i,k,e⟩
  | none=>if Ak en nd≠0 then some ⟨i,-1,Ak en nd⟩ else none:=by
  rw[eh]; unfold yz; rw[ae (by simpa using kS)]; rfl
 clear eC lK eh
 simp[hi,k0,wK,m12,c3,c3i,c4,c4i,c5,c5i,m67,hT,o1,o1n,o1i,oF,pU,iI]
 refine J0 nd.eqs (λ_ q=>decide (Aj en q=0)) (λj (x:(PV×PV)×Nat)=>[(4,x.1.1),(5,x.1.2),(11,.int .i64 j)]) (λ_ x=>x.2) (λj _=>h.set n (wG en i ((j:Int) - 1))) ((.dead,.dead),1) ?_ ?_ ?_ rfl rfl rfl
 ·intro j hj cV x ih
  have hw:=wk j (by omega)
  rw[an] at cV
  have hc:=E9 hL en n i j (h.set n (wG en i j)) (jo _) nd.eqs[j] (gf.es _ (ai hj))
  rw[cV] at hc
  have ih:=λy=>ih y
  rw[show ((j+1:Nat):Int) - 1=j by omega] at ih
  have lh:=ey j
  simp[hj,cO,wG,xG]
  simp only[lh]
  simp[hc,wK,hw]
  simpa using ih ((_,_),_)
 ·intro j hj cV fo x
  rw[bZ] at cV
  have hc:=E9 hL en n i j (h.set n (wG en i j)) (jo _) nd.eqs[j] (gf.es _ (ai hj))
  have nb:=Oh (f:=Aj en) (j:=0) hj cV (λk hk h1=>by have:=fo k hk h1; simpa using this)
  rw[nb,aR] at fO
  simp only at fO
  rw[fO]
  have lh:=ey j
  simp[hj,cO,wG,xG]
  simp only[lh]
  simp[hc,yG cV,xz]
  exact⟨j,rfl⟩
 ·intro dq x
  have nb:zY (Aj en) nd.eqs 0=none:=GJ.2 (λq hq=>by obtain⟨k,hk,rfl⟩:=bz.1 hq; simpa using dq k hk)
  rw[nb] at fO
  simp only at fO
  have lh:=ey (-1)
  simp[cO,wG,xG]
  simp only[lh]
  have las:=gf.assume
  have lgs:=gf.ensure
  refine zx nd.autos (BE en 3) (λj (y:PV×Nat)=>[(6,y.1),(14,.int .i64 j)]) (λ_ y=>y.2) (λ_ _=>h.set n (wG en i (-1))) (.dead,x.2) ?_ ?_ ?_ rfl rfl rfl
  ·intro j hj cV y ih
   have hw:=wk j (by have:=gf.autos.len; omega)
   have hc:=ip nd.autos[j] (gf.autos.as _ (ai hj)) (gf.autos.ss _ (ai hj))
   rw[cV] at hc
   simp at hc
   simp[hj,hc,wK,hw]
   simpa using ih (_,_)
  ·intro j hj cV hf y
   have hc:=ip nd.autos[j] (gf.autos.as _ (ai hj)) (gf.autos.ss _ (ai hj))
   have ht:Ak en nd=BE en 3 nd.autos[j]:=by unfold Ak; rw[hf]; exact AP cV
   rw[ht,ah cV] at fO
   rw[fO]
   simp at hc
   simp[hj,hc,yG cV,xz]
   exact⟨-1,rfl⟩
  ·intro e1 y
   simp
   refine zx nd.assume (Ax en) (λj (y:PV×Nat)=>[(7,y.1),(17,.int .i64 j)]) (λ_ y=>y.2) (λ_ _=>h.set n (wG en i (-1))) (.dead,y.2) ?_ ?_ ?_ rfl rfl rfl
   ·intro j hj cV z ih
    have hw:=wk j (by omega)
    obtain⟨h',hx⟩:=C0 hL en nd.assume[j] (gf.as _ (ai hj)) false
    rw[cV] at hx
    have eg:wh 1 false [PV.list false (en.map wo),.int .i64 i,.int .i64 (-1)] 0=some (.list false (en.map wo)):=rfl
    simp[hj,cO,hw]
    simp only[wG]
    simp[hx]
    simp only[lh]
    simp[hr,wK,hw]
    simpa using ih (_,_)
   ·intro j hj cV hf z
    obtain⟨h',hx⟩:=C0 hL en nd.assume[j] (gf.as _ (ai hj)) false
    have ht:Ak en nd=Ax en nd.assume[j]:=by unfold Ak; rw[e1,yX,hf]; exact AP cV
    rw[ht,ah cV] at fO
    rw[fO]
    simp[hj,cO]
    simp only[wG]
    simp[hx]
    simp only[lh]
    simp[hr,yG cV,xz]
    exact⟨-1,rfl⟩
   ·intro e2 z
    simp
    refine zx nd.ensure (Ax en) (λj (y:PV×Nat)=>[(8,y.1),(20,.int .i64 j)]) (λ_ y=>y.2) (λ_ _=>h.set n (wG en i (-1))) (.dead,z.2) ?_ ?_ ?_ rfl rfl rfl
    ·intro j hj cV u ih
     have hw:=wk j (by omega)
     obtain⟨h',hx⟩:=C0 hL en nd.ensure[j] (gf.gs _ (ai hj)) false
     rw[cV] at hx
     simp[hj,cO,hw]
     simp only[wG]
     simp[hx]
     simp only[lh]
     simp[hr,wK,hw]
     simpa using ih (_,_)
    ·intro j hj cV hf u
     obtain⟨h',hx⟩:=C0 hL en nd.ensure[j] (gf.gs _ (ai hj)) false
     have ht:Ak en nd=Ax en nd.ensure[j]:=by unfold Ak; rw[e1,yX,e2,yX,hf]
     rw[ht,ah cV] at fO
     rw[fO]
     simp[hj,cO]
     simp only[wG]
     simp[hx]
     simp only[lh]
     simp[hr,yG cV,xz]
     exact⟨-1,rfl⟩
    ·intro e3 u
     have ht:Ak en nd=0:=by unfold Ak; rw[e1,e2,e3]; rfl
     rw[ht] at fO
     simp only[ne_eq,bh,if_false] at fO
     rw[fO]
     simp[xz]
     exact⟨-1,rfl⟩
theorem rec48 (w1 w2 c a b e:Int) (o:PObj):xW L 48 [xk 2 a b e,.ptr 0 0,.ptr 1 0] [.cells [.int .i64 w1,.int .i64 w2],.cells [.int .i64 c],o]=some [.cells [.int .i64 a,.int .i64 b],.cells [.int .i64 e],o]:=by
 unfold xW
 rw[hL 48 _ rfl]
 simp[IR,Aq,xk]
theorem c8A (w1 w2 c:Int) (o:PObj):xW L 48 [.nilIface,.ptr 0 0,.ptr 1 0] [.cells [.int .i64 w1,.int .i64 w2],.cells [.int .i64 c],o]=some [.cells [.int .i64 w1,.int .i64 w2],.cells [.int .i64 c],o]:=by
 unfold xW
 rw[hL 48 _ rfl]
 simp[IR,Aq]
theorem L7 (p:Prog) (hp:PW p):∃h',vU L 23 [wT p] []=some (zS (zH (AJ p)),h'):=by
 suffices H:∃r,vU L 23 [wT p] []=some r∧r.1=zS (zH (AJ p)) by
  obtain⟨⟨v,h'⟩,h1,h2⟩:=H
  exact⟨h',by rw[h1]; simp only at h2; rw[h2]⟩
 refine L6 (hL 23 _ rfl) rfl ?_
 obtain⟨H,hH⟩:∃H:PObj→List PObj,∀o,H o=[.cells [.int .i64 0,.int .i64 0],.cells [.int .i64 0],o]:=⟨_,λ_=>rfl⟩
 have jo:∀o,(H o)[2]? = some o:=λo=>by rw[hH]; rfl
 have hT:=BY hL p.enums 2 (-1) (-1) [.cells [.int .i64 0,.int .i64 0],.cells [.int .i64 0],wG p.enums (-1) (-1)] rfl
 have hF:=BC hL p.enums 2 (-1) (-1) [.cells [.int .i64 0,.int .i64 0],.cells [.int .i64 0],wG p.enums (-1) (-1)] rfl
 have kW:=c4U hL p.enums 2 (-1) (-1) [.cells [.int .i64 0,.int .i64 0],.cells [.int .i64 0],wG p.enums (-1) (-1)] rfl
 have ey:PObj.cells [PV.list false (p.enums.map wo),.int .i64 (-1),.int .i64 (-1)]=wG p.enums (-1) (-1):=rfl
 have l1:=hp.enums
 have l2:=hp.nodes
 have dO:=rec48 hL 0 0 0
 have oG:=c8A hL 0 0 0
 simp[IK]
 rw[L9 (cs:=[.ptr 0 0,.ptr 1 0]) _ _ _ rfl (by simp)]
 unfold AJ
 by_cases c1:p.enums.length≤24
 rotate_left
 ·have c1i:¬(p.enums.length:Int)≤24:=by omega
  simp[ey,c1,c1i,hF,dO,zH,zS,wh]
  rfl
 have c1i:(p.enums.length:Int)≤24:=by omega
 by_cases c2:p.nodes.length≤96
 rotate_left
 ·have c2i:¬(p.nodes.length:Int)≤96:=by omega
  simp[ey,c1,c1i,c2,c2i,hF,dO,zH,zS,wh]
  rfl
 have c2i:(p.nodes.length:Int)≤96:=by omega
 rw[ae (by simp[c1,c2])]
 obtain⟨RES,eh⟩:∃RES,RES=(if wg C1 p.enums≠0 then some ⟨-1,-1,wg C1 p.enums⟩ else zK p.enums p.nodes 0):=⟨_,rfl⟩
 rw[← eh]
 simp[ey,c1,c1i,c2,c2i,hT]
 refine zx p.enums C1 (λi (x:PV×Nat)=>[(5,x.1),(11,.int .i64 i)]) (λ_ x=>x.2) (λ_ _=>[.cells [.int .i64 0,.int .i64 0],.cells [.int .i64 0],wG p.enums (-1) (-1)]) (.dead,1) ?_ ?_ ?_ rfl rfl rfl
 ·intro i hi cV x ih
  have hw:=wk i (by omega)
  have hc:=kW p.enums[i] (hp.tags _ (ai hi))
  rw[cV] at hc
  simp[hi,hw,hc,wK]
  simpa using ih (_,_)
 ·intro i hi cV hf x
  have hc:=kW p.enums[i] (hp.tags _ (ai hi))
  rw[hf,ah cV] at eh
  subst eh
  simp[hi,hc,yG cV,dO,zH,zS,wh]
  rfl
 ·intro e1 x
  rw[e1,ae (by simp)] at eh
  simp
  refine J0 p.nodes (λi nd=>(yz p.enums nd i).isNone) (λi (y:((PV×PV)×Nat)×Int×Int)=>[(6,y.1.1.1),(7,y.1.1.2),(14,.int .i64 i)]) (λ_ y=>y.1.2) (λ_ y=>[.cells [.int .i64 0,.int .i64 0],.cells [.int .i64 0],wG p.enums y.2.1 y.2.2]) (((.dead,.dead),x.2),-1,-1) ?_ ?_ ?_ rfl rfl rfl
  ·intro i hi cV y ih
   have hw:=wk i (by omega)
   obtain⟨k,hc⟩:=Og hL p.enums 2 y.2.1 y.2.2 [.cells [.int .i64 0,.int .i64 0],.cells [.int .i64 0],wG p.enums y.2.1 y.2.2] rfl i p.nodes[i] (hp.ns _ (ai hi))
   rw[Option.isNone_iff_eq_none] at cV
   rw[cV] at hc
   simp[xz] at hc
   simp[hi,hw,hc]
   simpa using ih (((_,_),_),i,k)
  ·intro i hi cV fo y
   obtain⟨k,hc⟩:=Og hL p.enums 2 y.2.1 y.2.2 [.cells [.int .i64 0,.int .i64 0],.cells [.int .i64 0],wG p.enums y.2.1 y.2.2] rfl i p.nodes[i] (hp.ns _ (ai hi))
   obtain⟨b,hb⟩:∃b,yz p.enums p.nodes[i] i=some b:=by
    cases hx:yz p.enums p.nodes[i] i with
    | none=>rw[hx] at cV; simp at cV
    | some b=>exact⟨b,rfl⟩
   have dp:zK p.enums p.nodes 0=some b:=Oi hi (by rw[aR]; exact hb) (λk hk h1=>by have:=fo k hk h1; rw[Option.isNone_iff_eq_none] at this; rw[aR]; exact this)
   rw[hb] at hc
   rw[dp] at eh
   subst eh
   simp[xz] at hc
   simp[hi,hc,dO,zH,zS,wh]
   rfl
  ·intro dq y
   have dp:zK p.enums p.nodes 0=none:=Oj (λk hk=>by have:=dq k hk; rw[Option.isNone_iff_eq_none] at this; rw[aR]; exact this)
   rw[dp] at eh
   subst eh
   simp[wz,oG,zH,Ew,zS,wh]
   rfl
end
end PI.Sc
set_option maxRecDepth 100000
set_option linter.unusedSimpArgs false
set_option linter.unusedVariables false
namespace PI.Sc
open Go (IntKind BinOp UnOp)
open Short
def yP (k:Int×Str):PV := .agg [.int .i64 k.1,.str k.2]
def Fb (x:(Int×Str)×Int):PV×PV:=(yP x.1,.int .i64 x.2)
abbrev xu:=List ((Int×Str)×Int)
def yo (l:xu):List (Int×Str):=l.map (·.1)
def wl (l:xu):PObj := .map (l.map Fb)
def wi (en:List Enum) (ns:List Node) (a b:Int):PObj := .cells [.list false (en.map wo),.list false (ns.map wE),.int .i64 a,.int .i64 b,.map (some 2)]
def xZ (k:Int×Str):xu→Option Int
 | []=>none
 | x::l=>if k=x.1 then some x.2 else xZ k l
theorem CM {k:Int×Str}:∀{l:xu},xZ k l=none↔k∉yo l
 | []=>by simp[xZ,yo]
 | x :: l => by
   have:=CM (k:=k) (l:=l)
   by_cases h:k=x.1<;>simp[xZ,yo,h] at this ⊢<;>exact this
theorem c8C (a b:Int×Str):peq true [.i,.s] (yP a) (yP b)=some (decide (a=b)):=by
 obtain⟨a1,a2⟩:=a
 obtain⟨b1,b2⟩:=b
 simp only[yP,peq,if_true,zA,zZ,ar,ay,aa,b8,ac]
 rw[aC]; simp
theorem Fc (k:Int×Str):∀(l:xu) (i:Nat),∃r,xB true [.i,.s] (yP k) (l.map Fb) i=some r∧r.map (·.2)=(xZ k l).map (PV.int .i64)
 | [],i=>⟨none,by simp[xB,yP],rfl⟩
 | x :: l, i => by
   have he:peq true [.i,.s] (yP k) (Fb x).1=some (decide (k=x.1)):=c8C k x.1
   by_cases hx:k=x.1
   ·subst hx
    refine⟨some (i,.int .i64 x.2),?_,by simp[xZ]⟩
    simp only[aF,xB,he,ar,decide_true,if_true]
    rfl
   ·obtain⟨r,h1,h2⟩:=Fc k l (i+1)
    refine⟨r,?_,by simp[xZ,hx,h2]⟩
    simp only[aF,xB,he,ar,hx,decide_false,aH,if_false,h1]
def bmE (l:List Str):List (PV×PV):=l.map λs=>(.str s,.bool true)
def zn (l:List Str) (x:Str):List Str:=if x∈l then l else l++[x]
theorem FW {l:List Str} {x y:Str}:y∈zn l x↔y∈l∨y=x:=by
 unfold zn; split
 ·rename_i h
  exact⟨.inl,λhh=>hh.elim id λe=>e▸h⟩
 ·simp
theorem Ok (x:Str):∀(l:List Str) (i:Nat),(x∉l→xB false [.s] (.str x) (bmE l) i=some none)∧(x∈l→∃j,xB false [.s] (.str x) (bmE l) i=some (some (i+j,.bool true))∧l[j]? = some x)
 | [],i=>⟨λ_=>rfl,λh=>by simp at h⟩
 | y :: l, i => by
   have he:peq false [.s] (.str x) (.str y)=some (x==y):=rfl
   obtain⟨h1,h2⟩:=Ok x l (i+1)
   constructor
   ·intro h
    simp only[az,not_or] at h
    have hb:(x==y)=false:=by simpa using h.1
    simp only[bmE,aF,xB,he,ar,hb,aH,if_false]
    exact h1 h.2
   ·intro h
    by_cases hx:x=y
    ·subst hx
     exact⟨0,by simp[bmE,xB,he],rfl⟩
    ·have hb:(x==y)=false:=by simpa using hx
     obtain⟨j,h3,h4⟩:=h2 (by simpa[hx] using h)
     refine⟨j+1,?_,by simpa using h4⟩
     simp only[bmE,aF,xB,he,ar,hb,aH,if_false]
     rw[show i+(j+1)=i+1+j by omega]
     exact h3
theorem A4 (x:Str) (l:List Str):∃r,xB false [.s] (.str x) (bmE l) 0=some r∧r.map (·.2)=(if x∈l then some (PV.bool true) else none)∧GT (bmE l) (.str x) (.bool true) r=bmE (zn l x):=by
 obtain⟨h1,h2⟩:=Ok x l 0
 by_cases h:x∈l
 ·obtain⟨j,h3,h4⟩:=h2 h
  refine⟨_,h3,by simp[h],?_⟩
  obtain⟨hj,hx⟩:=aj.1 h4
  simp only[b5U,zn,h,if_true,aR]
  have:(bmE l)[j]'(by simpa[bmE] using hj)=(.str x,.bool true):=by simp[bmE,hx]
  rw[← this,List.set_getElem_self]
 ·exact⟨none,h1 h,by simp[h],by simp[zn,h,bmE]⟩
structure Fr where
 O:List Str
 D:List Str
 I:List Str
 df:List Str
def Kp (b:Nat) (h h':List PObj):Prop:=h.length≤h'.length∧∀n,n<b→h'[n]? = h[n]?
theorem Kp.refl (b:Nat) (h:List PObj):Kp b h h:=⟨ao _,λ_ _=>rfl⟩
theorem Kp.trans {b:Nat} {h h' h'':List PObj} (h1:Kp b h h') (h2:Kp b h' h''):Kp b h h'':=⟨aL h1.1 h2.1,λn hn=>(h2.2 n hn).trans (h1.2 n hn)⟩
theorem Kp.le {b b':Nat} {h h':List PObj} (h1:Kp b h h') (hb:b'≤b):Kp b' h h':=⟨h1.1,λn hn=>h1.2 n (by omega)⟩
theorem Kp.app {b:Nat} {h e:List PObj} (hb:b≤h.length):Kp b h (h++e):=⟨by simp,λn hn=>by rw[al (by omega)]⟩
theorem Kp.set {b n:Nat} {h:List PObj} {o:PObj} (hb:b≤n):Kp b h (h.set n o):=⟨by simp,λk hk=>by rw[ak (by omega)]⟩
def Ol (h:List PObj) (b' b:Nat) (dv:PV) (df:List Str):Prop:=(dv = .list true []∧df=[])∨∃k,b'≤k∧k<b∧dv = .rowp k 1 false df.length∧h[k]? = some (.cells (df.map PV.str))
def Holds (h:List PObj):Nat→PV→List Fr→Prop
 | b,v,[]=>v = .nilptr
 | b, v, f :: fs => ∃ (b' n o d : Nat) (i dv up : PV), v = .ptr n 0 ∧ b' ≤ n ∧ b' ≤ o ∧ b' ≤ d ∧ n < b ∧ o < b ∧ d < b ∧ n ≠ o ∧ n ≠ d ∧ o ≠ d ∧ 4 ≤ b' ∧ h[n]? = some (.cells [up, .map (some o), .map (some d), i, dv]) ∧ h[o]? = some (.map (bmE f.O)) ∧ h[d]? = some (.map (bmE f.D)) ∧
   ((i = .map none∧f.I=[])∨∃m,i = .map (some m)∧b'≤m∧m<b∧m≠n∧m≠o∧m≠d∧h[m]? = some (.map (bmE f.I)))∧Ol h b' b dv f.df∧(∀k s a len,dv = .rowp k s a len→k≠n∧k≠o∧k≠d∧i≠.map (some k))∧Holds h b' up fs
theorem Holds.keep {h h':List PObj}:∀{fs:List Fr} {b:Nat} {v:PV},Holds h b v fs→(∀n,n<b→h'[n]? = h[n]?)→Holds h' b v fs
 | [],b,v,hh,_=>hh
 | f :: fs, b, v, hh, hk => by
   obtain⟨b',n,o,d,i,dv,up,h1,h2,h3,h4,h5,h6,h7,h8,h9,kU,oH,gw,mD,li,ne,oI,oJ,jx⟩:=hh
   refine⟨b',n,o,d,i,dv,up,h1,h2,h3,h4,h5,h6,h7,h8,h9,kU,oH,(hk _ h5).trans gw,(hk _ h6).trans mD,(hk _ h7).trans li,?_,?_,oJ,jx.keep λk dg=>hk k (by omega)⟩
   ·rcases ne with h|⟨m,e1,e2,e3,e4,e5,e6,e7⟩
    ·exact .inl h
    ·exact .inr ⟨m,e1,e2,e3,e4,e5,e6,(hk _ e3).trans e7⟩
   ·rcases oI with h|⟨k,e1,e2,e3,e4⟩
    ·exact .inl h
    ·exact .inr ⟨k,e1,e2,e3,(hk _ e2).trans e4⟩
theorem Holds.up {h:List PObj}:∀{fs:List Fr} {b c:Nat} {v:PV},Holds h b v fs→b≤c→Holds h c v fs
 | [],b,c,v,hh,_=>hh
 | f :: fs, b, c, v, hh, hk => by
   obtain⟨b',n,o,d,i,dv,up,h1,h2,h3,h4,h5,h6,h7,h8,h9,kU,oH,gw,mD,li,ne,oI,oJ,jx⟩:=hh
   refine⟨b',n,o,d,i,dv,up,h1,h2,h3,h4,by omega,by omega,by omega,h8,h9,kU,oH,gw,mD,li,?_,?_,oJ,jx⟩
   ·rcases ne with h|⟨m,e1,e2,e3,e4,e5,e6,e7⟩
    ·exact .inl h
    ·exact .inr ⟨m,e1,e2,by omega,e4,e5,e6,e7⟩
   ·rcases oI with h|⟨k,e1,e2,e3,e4⟩
    ·exact .inl h
    ·exact .inr ⟨k,e1,by omega,e3,e4⟩
theorem Holds.ptr {h:List PObj} {fs:List Fr} {b:Nat} {v:PV} (hv:Holds h b v fs):v = .nilptr∨∃n,v = .ptr n 0:=by
 cases fs with
 | nil=>exact .inl hv
 | cons f fs=>obtain⟨_,n,_,_,_,_,_,e,_⟩:=hv; exact .inr ⟨n,e⟩
theorem Holds.cp {h:List PObj} {fs:List Fr} {b:Nat} {v:PV} (hv:Holds h b v fs):cp v=some v:=by rcases hv.ptr with rfl|⟨n,rfl⟩<;>rfl
theorem Holds.tkv {h:List PObj} {fs:List Fr} {b:Nat} {v:PV} (hv:Holds h b v fs):tkv v=some (v,false):=by rcases hv.ptr with rfl|⟨n,rfl⟩<;>rfl
theorem Holds.dem {h:List PObj} {fs:List Fr} {b:Nat} {v:PV} (hv:Holds h b v fs):dem v=v:=by rcases hv.ptr with rfl|⟨n,rfl⟩<;>rfl
def wZ (fs:List Fr) (x:Str):Bool:=fs.any λf=>decide (x∈f.O)
def yu (fs:List Fr) (x:Str):Bool:=fs.any λf=>decide (x∈f.D)||decide (x∈f.I)
section
variable {L:Nat→Option PFunc} (hL:∀k f,LS k=some f→L k=some f) (en:List Enum) (ns:List Node) (a b:Int)
include hL
section
variable (h:List PObj) (h3:h[3]? = some (wi en ns a b))
include h3
theorem Bq (e:Int):wm L 57 [.ptr 3 0,.bool true,.int .i64 e] h=some (.val (.tuple []),h):=by
 have _:=h3
 refine yF (hL 57 _ rfl) rfl ?_
 simp[Ge]
theorem Br (e:Int):wm L 57 [.ptr 3 0,.bool false,.int .i64 e] h=some (.boom (xk 1 a b e),h):=by
 refine yF (hL 57 _ rfl) rfl ?_
 simp[Ge,h3,wi,xk]
theorem It (l:xu) (h2:h[2]? = some (wl l)) (k:Int×Str) (i:Int) (hk:k∈yo l):wm L 28 [.ptr 3 0,yP k,.int .i64 i] h=some (.boom (xk 1 a b 7),h):=by
 have hm:=Br hL en ns a b h h3 7
 obtain⟨r,h4,h5⟩:=Fc k l 0
 cases r with
 | none =>
   have:xZ k l=none:=by simpa using h5.symm
   exact absurd hk (CM.1 this)
 | some r =>
   obtain⟨j,v⟩:=r
   obtain⟨z,rfl⟩:∃z,v = .int .i64 z:=by
    cases he:xZ k l with
    | none=>rw[he] at h5; simp at h5
    | some z=>rw[he] at h5; exact⟨z,by simpa using h5⟩
   refine yF (hL 28 _ rfl) rfl ?_
   have eO:yP k = .agg [.int .i64 k.1,.str k.2]:=rfl
   rw[eO] at h4 ⊢
   simp[Ga,h4,h3,h2,wi,wl,hm,Cs]
theorem Iu (l:xu) (h2:h[2]? = some (wl l)) (k:Int×Str) (i:Int) (hk:k∉yo l):wm L 28 [.ptr 3 0,yP k,.int .i64 i] h=some (.val (.tuple []),h.set 2 (wl (l++[(k,i)]))):=by
 have hm:=Bq hL en ns a b h h3 7
 obtain⟨r,h4,h5⟩:=Fc k l 0
 rw[CM.2 hk] at h5
 simp only[cq,Option.map_eq_none_iff] at h5
 subst h5
 refine yF (hL 28 _ rfl) rfl ?_
 have eO:yP k = .agg [.int .i64 k.1,.str k.2]:=rfl
 have e3:wl (l++[(k,i)]) = .map (l.map Fb++[(.agg [.int .i64 k.1,.str k.2],.int .i64 i)]):=by simp[wl,Fb,yP]
 rw[e3]
 rw[eO] at h4 ⊢
 simp[Ga,h4,h3,h2,wi,wl,hm,Cs]
end
theorem GU (x:Str):∀(fs:List Fr) (h:List PObj) (b:Nat) (v:PV),Holds h b v fs→vU L 97 [v,.str x] h=some (.bool (wZ fs x),h):=by
 have key:∀(fs:List Fr) (h:List PObj) (b:Nat) (v:PV),Holds h b v fs→wpL L EG ⟨[v,.str x,.bool false],[],0,h⟩ (A5 0 (Bz L (S (R [t 2 F]) Y) (Cr DG.results (.bool (wZ fs x),h)))):=by
  intro fs
  induction fs with
  | nil =>
    intro h b v hv
    have hv:v = .nilptr:=hv
    subst hv
    rw[EG,zE]
    simp[DG,wZ]
  | cons f fs ih =>
    intro h b v hv
    obtain⟨b',n,o,d,i,dv,up,h1,h2,h3,h4,h5,h6,h7,h8,h9,kU,oH,gw,mD,li,ne,oI,oJ,jx⟩:=hv
    subst h1
    obtain⟨r,hr,eY,_⟩:=A4 x f.O
    rw[EG,zE]
    by_cases hx:x∈f.O
    ·simp[hx] at eY
     obtain⟨j,rfl⟩:=eY
     simp[gw,mD,hr,wP,DG,wZ,hx]
    ·simp[hx] at eY
     subst eY
     simp[gw,mD,hr,wP,jx.cp,jx.tkv]
     have:=ih h b' up jx
     rw[EG] at this
     simpa[wZ,hx] using this
 intro fs h b v hv
 refine wj (hL 97 _ rfl) rfl ?_
 simpa[DG,hv.dem] using key fs h b v hv
theorem b81 (x:Str):∀(fs:List Fr) (h:List PObj) (b:Nat) (v:PV),Holds h b v fs→vU L 98 [v,.str x] h=some (.bool (yu fs x),h):=by
 have key:∀(fs:List Fr) (h:List PObj) (b:Nat) (v:PV),Holds h b v fs→wpL L EH ⟨[v,.str x,.bool false],[],0,h⟩ (A5 0 (Bz L (S (R [t 2 F]) Y) (Cr CO.results (.bool (yu fs x),h)))):=by
  intro fs
  induction fs with
  | nil =>
    intro h b v hv
    have hv:v = .nilptr:=hv
    subst hv
    rw[EH,zE]
    simp[CO,yu]
  | cons f fs ih =>
    intro h b v hv
    obtain⟨b',n,o,d,i,dv,up,h1,h2,h3,h4,h5,h6,h7,h8,h9,kU,oH,gw,mD,li,ne,oI,oJ,jx⟩:=hv
    subst h1
    obtain⟨r,hr,eY,_⟩:=A4 x f.D
    have dO:=ih h b' up jx
    rw[EH] at dO
    rw[EH,zE]
    by_cases hx:x∈f.D
    ·simp[hx] at eY
     obtain⟨j,rfl⟩:=eY
     simp[gw,li,hr,wP,CO,yu,hx]
    ·simp[hx] at eY
     subst eY
     rcases ne with⟨rfl,hI⟩|⟨m,rfl,_,_,_,_,_,hm⟩
     ·simp[gw,li,hr,wP,xB,jx.cp,jx.tkv]
      simpa[yu,hx,hI] using dO
     ·obtain⟨r,eU,gJ,_⟩:=A4 x f.I
      by_cases hy:x∈f.I
      ·simp[hy] at gJ
       obtain⟨j,rfl⟩:=gJ
       simp[gw,li,hr,eU,hm,wP,CO,yu,hx,hy]
      ·simp[hy] at gJ
       subst gJ
       simp[gw,li,hr,eU,hm,wP,jx.cp,jx.tkv]
       simpa[yu,hx,hy] using dO
 intro fs h b v hv
 refine wj (hL 98 _ rfl) rfl ?_
 simpa[CO,hv.dem] using key fs h b v hv
end
structure TopAt (h:List PObj) (b b' n o d:Nat) (i dv up:PV) (f:Fr) (fs:List Fr):Prop where
 ln:b'≤n
 lo:b'≤o
 ld:b'≤d
 un:n<b
 uo:o<b
 ud:d<b
 no:n≠o
 nd:n≠d
 od:o≠d
 four:4≤b'
 hn:h[n]? = some (.cells [up,.map (some o),.map (some d),i,dv])
 ho:h[o]? = some (.map (bmE f.O))
 hd:h[d]? = some (.map (bmE f.D))
 hi:(i = .map none∧f.I=[])∨∃m,i = .map (some m)∧b'≤m∧m<b∧m≠n∧m≠o∧m≠d∧h[m]? = some (.map (bmE f.I))
 row:Ol h b' b dv f.df
 rne:∀k s a len,dv = .rowp k s a len→k≠n∧k≠o∧k≠d∧i≠.map (some k)
 hup:Holds h b' up fs
theorem TopAt.holds {h:List PObj} {b b' n o d:Nat} {i dv up:PV} {f:Fr} {fs:List Fr} (t:TopAt h b b' n o d i dv up f fs):Holds h b (.ptr n 0) (f::fs):=
 ⟨b',n,o,d,i,dv,up,rfl,t.ln,t.lo,t.ld,t.un,t.uo,t.ud,t.no,t.nd,t.od,t.four,t.hn,t.ho,t.hd,t.hi,t.row,t.rne,t.hup⟩
section
variable {h h':List PObj} {b b' n o d:Nat} {i dv up:PV} {f:Fr} {fs:List Fr}
theorem TopAt.keep (t:TopAt h b b' n o d i dv up f fs) (hk:∀n,n<b→h'[n]? = h[n]?):TopAt h' b b' n o d i dv up f fs where
 ln:=t.ln
 lo:=t.lo
 ld:=t.ld
 un:=t.un
 uo:=t.uo
 ud:=t.ud
 no:=t.no
 nd:=t.nd
 od:=t.od
 four:=t.four
 hn:=(hk _ t.un).trans t.hn
 ho:=(hk _ t.uo).trans t.ho
 hd:=(hk _ t.ud).trans t.hd
 hi:=by
  rcases t.hi with h|⟨m,e1,e2,e3,e4,e5,e6,e7⟩
  ·exact .inl h
  ·exact .inr ⟨m,e1,e2,e3,e4,e5,e6,(hk _ e3).trans e7⟩
 row:=by
  rcases t.row with h|⟨k,e1,e2,e3,e4⟩
  ·exact .inl h
  ·exact .inr ⟨k,e1,e2,e3,(hk _ e2).trans e4⟩
 rne:=t.rne
 hup:=t.hup.keep λk dg=>hk k (by have:=t.ln; have:=t.un; omega)
theorem TopAt.setO (t:TopAt h b b' n o d i dv up f fs) (O:List Str):TopAt (h.set o (.map (bmE O))) b b' n o d i dv up { f with O:=O } fs where
 ln:=t.ln
 lo:=t.lo
 ld:=t.ld
 un:=t.un
 uo:=t.uo
 ud:=t.ud
 no:=t.no
 nd:=t.nd
 od:=t.od
 four:=t.four
 hn:=by rw[ak (Ne.symm t.no)]; exact t.hn
 ho:=by
  obtain⟨hl,_⟩:=aj.1 t.ho
  rw[a8 hl]
 hd:=by rw[ak t.od]; exact t.hd
 hi:=by
  rcases t.hi with h|⟨m,e1,e2,e3,e4,e5,e6,e7⟩
  ·exact .inl h
  ·exact .inr ⟨m,e1,e2,e3,e4,e5,e6,by rw[ak (Ne.symm e5)]; exact e7⟩
 row:=by
  rcases t.row with h|⟨k,e1,e2,e3,e4⟩
  ·exact .inl h
  ·exact .inr ⟨k,e1,e2,e3,by rw[ak (Ne.symm (t.rne _ _ _ _ e3).2.1)]; exact e4⟩
 rne:=t.rne
 hup:=t.hup.keep λk dg=>ak (by have:=t.lo; omega)
theorem TopAt.setD (t:TopAt h b b' n o d i dv up f fs) (D:List Str):TopAt (h.set d (.map (bmE D))) b b' n o d i dv up { f with D:=D } fs where
 ln:=t.ln
 lo:=t.lo
 ld:=t.ld
 un:=t.un
 uo:=t.uo
 ud:=t.ud
 no:=t.no
 nd:=t.nd
 od:=t.od
 four:=t.four
 hn:=by rw[ak (Ne.symm t.nd)]; exact t.hn
 ho:=by rw[ak (Ne.symm t.od)]; exact t.ho
 hd:=by
  obtain⟨hl,_⟩:=aj.1 t.hd
  rw[a8 hl]
 hi:=by
  rcases t.hi with h|⟨m,e1,e2,e3,e4,e5,e6,e7⟩
  ·exact .inl h
  ·exact .inr ⟨m,e1,e2,e3,e4,e5,e6,by rw[ak (Ne.symm e6)]; exact e7⟩
 row:=by
  rcases t.row with h|⟨k,e1,e2,e3,e4⟩
  ·exact .inl h
  ·exact .inr ⟨k,e1,e2,e3,by rw[ak (Ne.symm (t.rne _ _ _ _ e3).2.2.1)]; exact e4⟩
 rne:=t.rne
 hup:=t.hup.keep λk dg=>ak (by have:=t.ld; omega)
end
def A6 (l:xu) (tags:List Str):Prop:=∀x,((0:Int),x)∈yo l↔x∈tags
def NodesIn (l:xu) (ns:List Node) (k:Nat):Prop:=∀x,match callee (ns.take k) x with
 | none=>∀i:Int,xZ (1,x) l=some i→¬i<k
 | some m=>∃j:Nat,xZ (1,x) l=some (j:Int)∧j<k∧ns[j]? = some m
section
variable {L:Nat→Option PFunc} (hL:∀k f,LS k=some f→L k=some f) (en:List Enum) (ns:List Node) (a b:Int) (ents:xu)
include hL
theorem LZ (tags:List Str) (dR:A6 ents tags) (l:List Decl) (hl:l.length≤4500) (r:Bool) (h:List PObj) (h2:h[2]? = some (wl ents)) (h3:h[3]? = some (wi en ns a b)) (q q' n o d:Nat) (i dv up:PV) (f:Fr) (fs:List Fr) (t:TopAt h q q' n o d i dv up f fs) (vis:List Str) (di:∀x,wZ (f::fs) x=true↔x∈vis):
  ∃h' O,wm L 59 [.ptr 3 0,.ptr n 0,.list r (l.map wc)] h=some (we 1 a b (xq tags l vis).1,h')∧Kp q' h h'∧h'.length=h.length∧TopAt h' q q' n o d i dv up { f with O:=O } fs∧((xq tags l vis).1=0→(∀x,wZ ({ f with O:=O }::fs) x=true↔x∈(xq tags l vis).2)∧∀x,x∈O↔x∈f.O∨x∈vV l):=by
 suffices H:∃res,wm L 59 [.ptr 3 0,.ptr n 0,.list r (l.map wc)] h=some res∧∃h' O,res=(we 1 a b (xq tags l vis).1,h')∧Kp q' h h'∧h'.length=h.length∧TopAt h' q q' n o d i dv up { f with O:=O } fs∧((xq tags l vis).1=0→(∀x,wZ ({ f with O:=O }::fs) x=true↔x∈(xq tags l vis).2)∧∀x,x∈O↔x∈f.O∨x∈vV l) by
  obtain⟨res,e1,h',O,e2,e3⟩:=H
  exact⟨h',O,by rw[e1,e2],e3⟩
 refine Bp (hL 59 _ rfl) rfl ?_
 simp[Gf]
 rw[MD]
 refine wS l.length (λk st=>∃y3 y4 g h' O vis',st=⟨[.ptr 3 0,.ptr n 0,.list false (l.map wc),y3,y4,.list false (l.map wc),.int .i64 l.length,.int .i64 k],[],g,h'⟩∧Kp q' h h'∧h'.length=h.length∧TopAt h' q q' n o d i dv up { f with O:=O } fs∧xq tags l vis=xq tags (l.drop k) vis'∧(∀x,wZ ({ f with O:=O }::fs) x=true↔x∈vis')∧∀x,x∈O↔x∈f.O∨x∈vV (l.take k)) ?_ ?_ ⟨_,_,_,h,f.O,vis,rfl,Kp.refl _ _,rfl,t,rfl,di,λx=>by simp[vV]⟩
 ·rintro k hk st ⟨y3,y4,g,h',O,vis',rfl,cY,cK,ht,da,hv,hO⟩ ih
  have hw:=wk k (by omega)
  have fR:h'[2]? = some (wl ents):=(cY.2 2 (by have:=ht.four; omega)).trans h2
  have eG:h'[3]? = some (wi en ns a b):=(cY.2 3 (by have:=ht.four; omega)).trans h3
  have hT:=Bq hL en ns a b h' eG 7
  have hF:=Br hL en ns a b h' eG 7
  have hs:=GU hL l[k].name _ h' q _ ht.holds
  have jG:=hv l[k].name
  have f0:=dR l[k].name
  rw[aQ hk] at da
  simp only[xq] at da
  obtain⟨z,hz,eA⟩:=Fc (0,l[k].name) ents 0
  simp only[yP] at hz
  have hn:=ht.hn
  have ho:=ht.ho
  cases z with
  | some z =>
    obtain⟨j,v⟩:=z
    obtain⟨u,hu,rfl⟩:∃u,xZ (0,l[k].name) ents=some u∧v = .int .i64 u:=by
     cases he:xZ (0,l[k].name) ents with
     | none=>rw[he] at eA; simp at eA
     | some u=>rw[he] at eA; exact⟨u,rfl,by simpa using eA⟩
    have dn:l[k].name∈tags:=f0.1 (cH λhn=>by rw[CM.2 hn] at hu; simp at hu)
    rw[ah (.inr dn)] at da
    simp[hk,eG,wi,fR,wl,wP,hz,hF]
    refine⟨h',by rw[da]; exact⟨rfl,rfl⟩,cY,cK,O,ht,by rw[da]; simp⟩
  | none =>
    have ed:xZ (0,l[k].name) ents=none:=by simpa using eA.symm
    have rJ:l[k].name∉tags:=λhx=>CM.1 ed (f0.2 hx)
    by_cases hx:l[k].name∈vis'
    ·rw[ah (.inl hx)] at da
     rw[jG.2 hx] at hs
     simp[hk,eG,wi,fR,wl,wP,hz,hs,hF]
     refine⟨h',by rw[da]; exact⟨rfl,rfl⟩,cY,cK,O,ht,by rw[da]; simp⟩
    ·rw[ae (by simp[hx,rJ])] at da
     have kE:wZ ({ f with O:=O }::fs) l[k].name=false:=by
      cases hc:wZ ({ f with O:=O }::fs) l[k].name with
      | false=>rfl
      | true=>exact absurd (jG.1 hc) hx
     rw[kE] at hs
     have fX:vV (l.take (k+1))=vV (l.take k)++[l[k].name]:=by simp only[vV,bR,aq hk,Option.toList,bj,aF,bA]
     obtain⟨r',hr,_,gJ⟩:=A4 l[k].name O
     simp[hk,eG,wi,fR,wl,wP,hz,hs,hT,hn,ho,hr,gJ,hw]
     refine ih _ ⟨_,_,_,_,zn O l[k].name,vis'++[l[k].name],rfl,cY.trans (Kp.set ht.lo),by simp[cK],ht.setO _,da,?_,λx=>by rw[FW,hO,fX,aw,bg,or_assoc]⟩
     ·intro x
      have:=hv x
      simp only[wZ,List.any_cons,bu,an,FW,aw,bg] at this ⊢
      rw[← this]
      constructor
      ·rintro((h1|h1)|h1)
       ·exact .inl (.inl h1)
       ·exact .inr h1
       ·exact .inl (.inr h1)
      ·rintro((h1|h1)|h1)
       ·exact .inl (.inl h1)
       ·exact .inr h1
       ·exact .inl (.inr h1)
 ·rintro st ⟨y3,y4,g,h',O,vis',rfl,cY,cK,ht,da,hv,hO⟩
  rw[aU (ao _)] at da
  simp only[xq] at da
  simp[Gf]
  refine⟨h',by rw[da]; exact⟨rfl,rfl⟩,cY,cK,O,ht,?_⟩
  rw[da]
  intro _
  exact⟨by simpa using hv,by simpa using hO⟩
theorem L1 (l:List Decl) (hl:l.length≤4500) (hd:∀d∈l,DW d) (r:Bool) (h:List PObj) (h3:h[3]? = some (wi en ns a b)) (q:Nat) (v:PV) (fs:List Fr) (hv:Holds h q v fs) (vis:List Str) (di:∀x,wZ fs x=true↔x∈vis):
  wm L 60 [.ptr 3 0,v,.list r (l.map wc)] h=some (we 1 a b (AI vis l),h):=by
 have hT:=Bq hL en ns a b h h3 6
 have hF:=Br hL en ns a b h h3 6
 have hs:=λx=>GU hL x _ h q _ hv
 have kG:=hv.dem
 have hZ:=hv.cp
 have ia:=hv.tkv
 have oK:∀x,wZ fs x=decide (x∈vis):=λx=>by rw[aC,an]; exact di x
 refine yF (hL 60 _ rfl) rfl ?_
 simp[Gg,kG]
 have dx:AI vis l=wg (λd=>wg (λo:On=>need (decide (o.name∈vis)) 6) d.clock) l:=rfl
 rw[dx]
 refine zx l (λd=>wg (λo:On=>need (decide (o.name∈vis)) 6) d.clock) (λi (x:(PV×PV×PV×PV×PV)×Nat)=>[(3,x.1.1),(4,x.1.2.1),(8,x.1.2.2.1),(9,x.1.2.2.2.1),(10,x.1.2.2.2.2),(7,.int .i64 i)]) (λ_ x=>x.2) (λ_ _=>h) ((.dead,.dead,.dead,.dead,.dead),0) ?_ ?_ ?_ rfl rfl rfl
 ·intro i dG cV x ih
  have hw:=wk i (by omega)
  have dS:=(hd _ (ai dG)).clock
  have hE:∀o∈l[i].clock,need (decide (o.name∈vis)) 6=0:=ze.1 cV
  simp[dG]
  refine zx l[i].clock (λo:On=>need (decide (o.name∈vis)) 6) (λj (y:PV×Nat)=>[(10,.int .i64 j),(4,y.1)]) (λ_ y=>y.2) (λ_ _=>h) (x.1.2.1,x.2+1) ?_ ?_ ?_ rfl rfl rfl
  ·intro j hj de y ih2
   have fV:=wk j (by omega)
   rw[zX (by decide),an] at de
   simp[hj,hs,oK,de,hT,fV,hZ,ia]
   simpa using ih2 (_,_)
  ·intro j hj de _ y
   exact absurd (hE _ (ai hj)) de
  ·intro _ y
   simp[hw]
   simpa using ih ((_,_,_,_,_),_)
 ·intro i dG cV hf x
  have dS:=(hd _ (ai dG)).clock
  rw[hf]
  simp[dG]
  refine zx l[i].clock (λo:On=>need (decide (o.name∈vis)) 6) (λj (y:PV×Nat)=>[(10,.int .i64 j),(4,y.1)]) (λ_ y=>y.2) (λ_ _=>h) (x.1.2.1,x.2+1) ?_ ?_ ?_ rfl rfl rfl
  ·intro j hj de y ih2
   have fV:=wk j (by omega)
   rw[zX (by decide),an] at de
   simp[hj,hs,oK,de,hT,fV,hZ,ia]
   simpa using ih2 (_,_)
  ·intro j hj de u5 y
   have fy:¬l[i].clock[j].name∈vis:=by
    intro hm; exact de (by simp[need,hm])
   rw[u5]
   simp[hj,hs,oK,fy,hF,need,we,hZ,ia]
  ·intro h0 y
   exact absurd h0 cV
 ·intro h0 x
  rw[h0]
  simp[Gg,we]
end
section
variable {L:Nat→Option PFunc} (hL:∀k f,LS k=some f→L k=some f) (en:List Enum) (ns:List Node) (a b:Int) (ents:xu)
include hL
theorem c4Y (k:Nat) (hn:NodesIn ents ns k) (s:Place) (eN:s.before=ns.take k) (e:Expr) (outs:Nat) (h:List PObj) (h2:h[2]? = some (wl ents)) (h3:h[3]? = some (wi en ns a b)):
  wm L 124 [.ptr 3 0,.int .i64 k,vX e,.int .i64 outs] h=some (we 1 a b (EY s e outs),h):=by
 have hT:=λz=>Bq hL en ns a b h h3 z
 have hF:=λz=>Br hL en ns a b h h3 z
 obtain⟨z,hz,eA⟩:=Fc (1,e.name) ents 0
 simp only[yP] at hz
 have hc:=hn e.name
 refine yF (hL 124 _ rfl) rfl ?_
 unfold EY
 rw[eN]
 cases kV:callee (ns.take k) e.name with
 | none =>
   rw[kV] at hc
   simp only at hc
   cases z with
   | none =>
     simp[CQ,h3,h2,wi,wl,wP,hz,hF,we]
   | some z =>
     obtain⟨j,v⟩:=z
     obtain⟨u,hu,rfl⟩:∃u,xZ (1,e.name) ents=some u∧v = .int .i64 u:=by
      cases he:xZ (1,e.name) ents with
      | none=>rw[he] at eA; simp at eA
      | some u=>rw[he] at eA; exact⟨u,rfl,by simpa using eA⟩
     have jE:=hc u hu
     simp[CQ,h3,h2,wi,wl,wP,hz,hF,jE,we]
 | some m =>
   rw[kV] at hc
   obtain⟨i,hi,fQ,oL⟩:=hc
   cases z with
   | none=>rw[hi] at eA; simp at eA
   | some z =>
     obtain⟨j,v⟩:=z
     rw[hi] at eA
     have hv:v = .int .i64 i:=by simpa using eA
     subst hv
     have mE:(i:Int)<k:=by omega
     obtain⟨dG,oM⟩:=aj.1 oL
     have jE:(ns.map wE)[i]? = some (wE m):=by simp[oL]
     by_cases c1:(e.args.length:Int)=wrap (m.ins.length+e.v)
     ·have c1':wrap (m.ins.length+e.v)=(e.args.length:Int):=c1.symm
      by_cases c2:m.outs.length=outs
      ·have c2':outs=m.outs.length:=c2.symm
       have c3:(outs:Int)=m.outs.length:=by omega
       have c3':(m.outs.length:Int)=outs:=by omega
       simp[CQ,h3,h2,wi,wl,wP,hz,hT,fQ,mE,dG,oM,oL,tf c1,tf c1',tf c2,tf c3,tf c3',we,need]
      ·have c3:¬(outs:Int)=m.outs.length:=by omega
       have c3':¬(m.outs.length:Int)=outs:=by omega
       simp[CQ,h3,h2,wi,wl,wP,hz,hT,hF,fQ,mE,dG,oM,oL,tf c1,tf c1',tf c2,tf c3,tf c3',we,need]
     ·have c1':¬wrap (m.ins.length+e.v)=(e.args.length:Int):=λh=>c1 h.symm
      simp[CQ,h3,h2,wi,wl,wP,hz,hT,hF,fQ,mE,dG,oM,oL,tf c1,tf c1',we,need]
def xg (h:List PObj) (k:Nat) (v:PV) (outs:Nat) (lp:Bool):List PObj:=h++[.cells [.ptr 3 0],.cells [.int .i64 k],.cells [v],.cells [.int .i64 outs],.loop lp]
omit hL in
theorem J1 (h:List PObj) (k:Nat) (v:PV) (outs:Nat) (lp:Bool) {n:Nat} (hn:n<h.length):(xg h k v outs lp)[n]? = h[n]? := by unfold xg; rw[al hn]
theorem Om (k:Nat) (hn:NodesIn ents ns k) (s:Place) (eN:s.before=ns.take k) (x:Expr) (outs:Nat) (h:List PObj) (h2:h[2]? = some (wl ents)) (h3:h[3]? = some (wi en ns a b)) (q:Nat) (hq:q≤h.length) (v:PV) (fs:List Fr) (hv:Holds h q v fs) (di:∀x,wZ fs x=true↔x∈s.vis):
  wm L 190 [.ptr (h.length+4) 0,.ptr h.length 0,.ptr (h.length+1) 0,.ptr (h.length+2) 0,.ptr (h.length+3) 0,vX x] (xg h k v outs true)=some (if yV s outs x=0 then(.val (.bool true),xg h k v 1 true) else(.boom (xk 1 a b (yV s outs x)),xg h k v outs false)):=by
 have oN:3<h.length:=(aj.1 h3).1
 have g2:(xg h k v outs false)[2]? = some (wl ents):=by rw[J1 _ _ _ _ _ (by omega)]; exact h2
 have g3:(xg h k v outs false)[3]? = some (wi en ns a b):=by rw[J1 _ _ _ _ _ oN]; exact h3
 have hT:=λz=>Bq hL en ns a b (xg h k v outs false) g3 z
 have hF:=λz=>Br hL en ns a b (xg h k v outs false) g3 z
 have hs:=GU hL x.name _ (xg h k v outs false) q _ (hv.keep λn hn=>J1 _ _ _ _ _ (by omega))
 have hc:=c4Y hL en ns a b ents k hn s eN x outs (xg h k v outs false) g2 g3
 have hZ:=hv.cp
 have ia:=hv.tkv
 have kG:=hv.dem
 have oK:∀x,wZ fs x=decide (x∈s.vis):=λx=>by rw[aC,an]; exact di x
 rw[oK] at hs
 simp only[xg] at hT hF hs hc ⊢
 refine Em (as:=[.ptr h.length 0,.ptr (h.length+1) 0,.ptr (h.length+2) 0,.ptr (h.length+3) 0,vX x]) (hL 190 _ rfl) rfl rfl (by simp) ?_
 unfold yV
 by_cases hk:x.kind=2∨x.kind=8∨x.kind=9
 ·rw[ah hk]
  by_cases hm:x.name∈s.vis
  ·simp[hm] at hs
   rcases hk with k2|k2|k2<;>simp[CU,k2,wh,xG,hZ,ia,hs,hT,hm]
  ·simp[hm] at hs
   rcases hk with k2|k2|k2<;>simp[CU,k2,wh,xG,hZ,ia,hs,hF,hm,need]
 ·rw[ae hk]
  simp only[not_or] at hk
  obtain⟨k2,k8,k9⟩:=hk
  by_cases k10:x.kind=10
  ·rw[ah k10]
   by_cases hz:EY s x outs=0
   ·rw[hz] at hc
    simp[we] at hc
    simp[CU,tf k10,tf k2,tf k8,tf k9,wh,xG,hZ,ia,hc,hz,we]
   ·simp[we,hz] at hc
    simp[CU,tf k10,tf k2,tf k8,tf k9,wh,xG,hZ,ia,hc,hz,we]
  ·rw[ae k10]
   simp[CU,tf k2,tf k8,tf k9,tf k10,wh,xG,hZ,ia]
end
section
variable {L:Nat→Option PFunc} (hL:∀k f,LS k=some f→L k=some f) (en:List Enum) (ns:List Node) (a b:Int) (ents:xu)
include hL
theorem J2 (k:Nat) (hn:NodesIn ents ns k) (s:Place) (eN:s.before=ns.take k) (e:Expr) (he:EW e) (outs:Nat) (h:List PObj) (h2:h[2]? = some (wl ents)) (h3:h[3]? = some (wi en ns a b)) (q:Nat) (hq:q≤h.length) (v:PV) (fs:List Fr) (hv:Holds h q v fs) (di:∀x,wZ fs x=true↔x∈s.vis):
  ∃h',wm L 99 [.ptr 3 0,.int .i64 k,v,vX e,.int .i64 outs] h=some (we 1 a b (wR s e outs),h')∧Kp h.length h h':=by
 suffices H:∃res,wm L 99 [.ptr 3 0,.int .i64 k,v,vX e,.int .i64 outs] h=some res∧∃h',res=(we 1 a b (wR s e outs),h')∧Kp h.length h h' by
  obtain⟨res,e1,h',e2,e3⟩:=H
  exact⟨h',by rw[e1,e2],e3⟩
 have hZ:=hv.cp
 have ia:=hv.tkv
 have kG:=hv.dem
 have nY:v.cells=[v]:=by rcases hv.ptr with rfl|⟨n,rfl⟩<;>rfl
 obtain⟨h0,pV⟩:∃h0,h0=h++[.cells [.ptr 3 0],.cells [.int .i64 k],.cells [v],.cells [.int .i64 outs]]:=⟨_,rfl⟩
 have iU:h0.length=h.length+4:=by rw[pV]; simp
 have hE:=DP hL e h0
 have gN:=λx=>Om hL en ns a b ents k hn s eN x outs h h2 h3 q hq v fs hv di
 have fO:=λx=>Om hL en ns a b ents k hn s eN x 1 h h2 h3 q hq v fs hv di
 have hl:h0++[.loop true]=xg h k v outs true:=by rw[pV]; simp[xg]
 obtain⟨y,pS,s3,hy⟩:∃y:Expr→List PObj→Option (Out×List PObj),(∀x,y x (xg h k v outs true)=some (if yV s outs x=0 then(.val (.bool true),xg h k v 1 true) else(.boom (xk 1 a b (yV s outs x)),xg h k v outs false)))∧(∀x,y x (xg h k v 1 true)=some (if yV s 1 x=0 then(.val (.bool true),xg h k v 1 true) else(.boom (xk 1 a b (yV s 1 x)),xg h k v 1 false))) ∧
   ∀x h' r,y x h'=some r→∃o:Nat,h'=xg h k v o true∧(o=outs∨o=1)∧r=(if yV s o x=0 then(.val (.bool true),xg h k v 1 true) else(.boom (xk 1 a b (yV s o x)),xg h k v o false)):=by
  classical
  refine⟨λx h'=>if h'=xg h k v outs true then some (if yV s outs x=0 then(.val (.bool true),xg h k v 1 true) else(.boom (xk 1 a b (yV s outs x)),xg h k v outs false)) else if h'=xg h k v 1 true then some (if yV s 1 x=0 then(.val (.bool true),xg h k v 1 true) else(.boom (xk 1 a b (yV s 1 x)),xg h k v 1 false)) else none,λx=>ah rfl,λx =>?_,λx h' r hr =>?_⟩
  ·simp only
   by_cases ho:outs=1
   ·subst ho; simp
   ·have:¬xg h k v 1 true=xg h k v outs true:=by
     unfold xg
     rw[List.append_cancel_left_eq]
     simp; omega
    rw[ae this]; simp
  ·simp only at hr
   split at hr
   ·rename_i e1; exact⟨outs,e1,.inl rfl,(cB hr).symm⟩
   ·split at hr
    ·rename_i e1; exact⟨1,e1,.inr rfl,(cB hr).symm⟩
    ·simp at hr
 refine Bp (hL 99 _ rfl) rfl ?_
 have c1:∀n o,(PV.ptr n o).cells=[.ptr n o]:=λ_ _=>rfl
 have c2:∀x,(PV.int .i64 x).cells=[.int .i64 x]:=λ_=>rfl
 have u6:vU L 81 [vX e] (h++[.cells [.ptr 3 0],.cells [.int .i64 k],.cells [v],.cells [.int .i64 outs]])=some (.func 114 [] [.cptr (vX e).cells],h++[.cells [.ptr 3 0],.cells [.int .i64 k],.cells [v],.cells [.int .i64 outs]]):=by rw[← pV]; exact hE
 simp[EI,nY,kG,hZ,ia,c1,c2,u6]
 rw[← pV]
 have cM:x5 y e.list (h0++[.loop true])=some (if wR s e outs=0 then(.val (.bool true),xg h k v 1 true) else(.boom (xk 1 a b (wR s e outs)),xg h k v (if yV s outs e=0 then 1 else outs) false)):=by
  rw[hl,Expr.list_eq]
  simp only[x5,pS]
  unfold wR
  by_cases h1:yV s outs e=0
  ·simp only[h1,if_true,wd]
   exact E4 (f:=yV s 1) (R:=λz=>(.boom (xk 1 a b z),xg h k v 1 false)) _ (λx _ hx=>by rw[s3,ah hx]) (λx _ hx=>by rw[s3,ae hx]) (λz h'=>by simp)
  ·simp[h1,wd]
 refine DO hL e he (cs:=[.ptr h.length 0,.ptr (h.length+1) 0,.ptr (h.length+2) 0,.ptr (h.length+3) 0]) (by simp) (by simp) (by simp[cp]) y ?_ ?_ _ cM ?_
 ·intro x _ h' r hr
  obtain⟨o,rfl,ho,rfl⟩:=hy x h' r hr
  rw[iU]
  rcases ho with rfl|rfl
  ·exact gN x
  ·exact fO x
 ·intro x h' r hr
  obtain⟨o,rfl,ho,rfl⟩:=hy x h' r hr
  split
  ·exact .inl ⟨_,_,rfl⟩
  ·exact .inr ⟨_,_,rfl⟩
 ·by_cases hz:wR s e outs=0
  ·rw[ah hz,iU]
   simp[Ac,xg,EI,hz,we]
   exact Kp.app (ao _)
  ·rw[ae hz,iU]
   simp[Ac,xg,EI,hz,we]
   exact Kp.app (ao _)
theorem Oo (k:Nat) (hn:NodesIn ents ns k) (s:Place) (eN:s.before=ns.take k) (l:List Trn) (hl:l.length≤1500) (hw:∀x∈l,XW x.cond) (r:Bool) (h:List PObj) (h2:h[2]? = some (wl ents)) (h3:h[3]? = some (wi en ns a b)) (q:Nat) (hq:q≤h.length) (v:PV) (fs:List Fr) (hv:Holds h q v fs) (di:∀x,wZ fs x=true↔x∈s.vis):
  ∃h',wm L 126 [.ptr 3 0,.int .i64 k,v,.list r (l.map wJ)] h=some (we 1 a b (Ah s l),h')∧Kp h.length h h':=by
 suffices H:∃res,wm L 126 [.ptr 3 0,.int .i64 k,v,.list r (l.map wJ)] h=some res∧∃h',res=(we 1 a b (Ah s l),h')∧Kp h.length h h' by
  obtain⟨res,e1,h',e2,e3⟩:=H
  exact⟨h',by rw[e1,e2],e3⟩
 have hZ:=hv.cp
 have ia:=hv.tkv
 have kG:=hv.dem
 refine Bp (hL 126 _ rfl) rfl ?_
 simp[Gr,kG]
 rw[MS]
 refine wS l.length (λj st=>∃y4 g h',st=⟨[.ptr 3 0,.int .i64 k,v,.list false (l.map wJ),y4,.list false (l.map wJ),.int .i64 l.length,.int .i64 j],[],g,h'⟩∧Kp h.length h h'∧Ah s l=Ah s (l.drop j)) ?_ ?_ ⟨_,_,h,rfl,Kp.refl _ _,rfl⟩
 ·rintro j hj st ⟨y4,g,h',rfl,cY,da⟩ ih
  have iX:=wk j (by omega)
  have oN:3<h.length:=(aj.1 h3).1
  have fR:h'[2]? = some (wl ents):=(cY.2 2 (by omega)).trans h2
  have eG:h'[3]? = some (wi en ns a b):=(cY.2 3 oN).trans h3
  obtain⟨h'',hx,eZ⟩:=J2 hL en ns a b ents k hn s eN l[j].cond (hw _ (ai hj)).ew 1 h' fR eG q (aL hq cY.1) v fs (hv.keep λn hn=>cY.2 n (by omega)) di
  have fp:Kp h.length h h'':=cY.trans (eZ.le cY.1)
  rw[aQ hj] at da
  have gT:Ah s (l[j]::l.drop (j+1))=if wR s l[j].cond 1=0 then Ah s (l.drop (j+1)) else wR s l[j].cond 1:=rfl
  rw[gT] at da
  by_cases hz:wR s l[j].cond 1=0
  ·rw[ah hz] at da
   rw[hz] at hx
   simp[we] at hx
   simp[hj,hZ,ia,hx,iX]
   exact ih _ ⟨_,_,_,rfl,fp,da⟩
  ·rw[ae hz] at da
   simp[we,hz] at hx
   simp[hj,hZ,ia,hx]
   exact⟨h'',by simp[da,we,hz],fp⟩
 ·rintro st ⟨y4,g,h',rfl,cY,da⟩
  rw[aU (ao _)] at da
  have:Ah s l=0:=da
  simp[Gr]
  exact⟨h',by simp[this,we],cY⟩
end
section
variable {h h':List PObj} {b b' n o d:Nat} {i dv up:PV} {f:Fr} {fs:List Fr}
theorem Fr.same {f:Fr} (h:f.D=f.df):({ f with D:=f.df,df:=f.df }:Fr)=f:=by cases f; simp at h ⊢; exact h.symm
theorem TopAt.upTo (t:TopAt h b b' n o d i dv up f fs) {c:Nat} (hc:b≤c):TopAt h c b' n o d i dv up f fs where
 ln:=t.ln
 lo:=t.lo
 ld:=t.ld
 un:=aN t.un hc
 uo:=aN t.uo hc
 ud:=aN t.ud hc
 no:=t.no
 nd:=t.nd
 od:=t.od
 four:=t.four
 hn:=t.hn
 ho:=t.ho
 hd:=t.hd
 hi:=by
  rcases t.hi with h|⟨m,e1,e2,e3,e4,e5,e6,e7⟩
  ·exact .inl h
  ·exact .inr ⟨m,e1,e2,aN e3 hc,e4,e5,e6,e7⟩
 row:=by
  rcases t.row with h|⟨k,e1,e2,e3,e4⟩
  ·exact .inl h
  ·exact .inr ⟨k,e1,aN e2 hc,e3,e4⟩
 rne:=t.rne
 hup:=t.hup
theorem TopAt.push (t:TopAt h h.length b' n o d i dv up f fs) (df:List Str) (h1:List PObj) (u7:h1.length=h.length) (hk:∀k,k<b'→h1[k]? = h[k]?) (ez:∀k,b'≤k→(∀s a len,dv≠.rowp k s a len)→k≠n→h1[k]? = h[k]?):
  TopAt ((h1++[PObj.cells (df.map PV.str)]).set n (.cells [up,.map (some o),.map (some d),i,.rowp h.length 1 false df.length])) (h.length+1) b' n o d i (.rowp h.length 1 false df.length) up { f with df:=df } fs:=by
 have gX:=t.un
 have pL:=t.ln
 have key:∀k,k<h.length→k≠n→(h1[k]? = h[k]?)→((h1++[PObj.cells (df.map PV.str)]).set n (.cells [up,.map (some o),.map (some d),i,.rowp h.length 1 false df.length]))[k]? = h[k]? := by
  intro k kL oq hh
  rw[ak (Ne.symm oq),al (by omega)]
  exact hh
 refine⟨t.ln,t.lo,t.ld,by omega,by have:=t.uo; omega,by have:=t.ud; omega,t.no,t.nd,t.od,t.four,?_,?_,?_,?_,?_,?_,?_⟩
 ·rw[a8 (by simp; omega)]
 ·rw[key o t.uo (Ne.symm t.no) (ez o t.lo (λs a len e=>(t.rne _ _ _ _ e).2.1 rfl) (Ne.symm t.no))]
  exact t.ho
 ·rw[key d t.ud (Ne.symm t.nd) (ez d t.ld (λs a len e=>(t.rne _ _ _ _ e).2.2.1 rfl) (Ne.symm t.nd))]
  exact t.hd
 ·rcases t.hi with h|⟨m,e1,e2,e3,e4,e5,e6,e7⟩
  ·exact .inl h
  ·refine .inr ⟨m,e1,e2,by omega,e4,e5,e6,?_⟩
   rw[key m e3 e4 (ez m e2 (λs a len e=>(t.rne _ _ _ _ e).2.2.2 e1) e4)]
   exact e7
 ·refine .inr ⟨h.length,by omega,by omega,rfl,?_⟩
  rw[ak (by omega),← u7]
  simp
 ·intro k s a len e
  simp only[PV.rowp.injEq] at e
  obtain⟨rfl,_⟩:=e
  have:=t.uo
  have:=t.ud
  refine⟨by omega,by omega,by omega,?_⟩
  rcases t.hi with⟨h1,_⟩|⟨m,e1,e2,e3,_⟩
  ·rw[h1]; simp
  ·rw[e1]; simp; omega
 ·refine t.hup.keep λk dg =>?_
  rw[key k (by omega) (by omega) (hk k dg)]
end
section
variable {L:Nat→Option PFunc} (hL:∀k f,LS k=some f→L k=some f) (en:List Enum) (ns:List Node) (a b:Int) (ents:xu)
include hL
theorem c4Z (k:Nat) (s:Place) (l:List Str) (sT:l.length≤1500) (h:List PObj) (h2:h[2]? = some (wl ents)) (h3:h[3]? = some (wi en ns a b)) (q' n o d:Nat) (i dv up:PV) (f:Fr) (fs:List Fr) (t:TopAt h h.length q' n o d i dv up f fs) (di:∀x,wZ (f::fs) x=true↔x∈s.vis)
  (d0:List Str) (hD:f.D=f.df) (dn:∀x,(x∈f.I∨yu fs x=true)↔(x∈s.inputs∨x∈d0)) (iI:f.df.length+l.length≤1000000) (V4 V5 V6:PV) {Q:PExit→St→Prop}
  (ok:(Au s l (d0++f.df)).1=0→∀h' dv' df' y5 y8,Kp q' h h'→(Au s l (d0++f.df)).2=d0++df'→TopAt h' h'.length q' n o d i dv' up { f with D:=df',df:=df' } fs→Q (.exit 0) ⟨[.ptr 3 0,.int .i64 k,.ptr n 0,V4,V5,y5,.list false (l.map PV.str),.int .i64 l.length,y8],[],1,h'⟩)
  (no:(Au s l (d0++f.df)).1≠0→∀h' y5 y8,Kp q' h h'→Q (.boom (xk 1 a b (Au s l (d0++f.df)).1)) ⟨[.ptr 3 0,.int .i64 k,.ptr n 0,V4,V5,y5,.list false (l.map PV.str),.int .i64 l.length,y8],[],1,h'⟩):
  wpL L IX ⟨[.ptr 3 0,.int .i64 k,.ptr n 0,V4,V5,V6,.list false (l.map PV.str),.int .i64 l.length,.int .i64 0],[],1,h⟩ Q:=by
 rw[IX]
 refine wS l.length (λj st=>∃y5 h' dv' df',st=⟨[.ptr 3 0,.int .i64 k,.ptr n 0,V4,V5,y5,.list false (l.map PV.str),.int .i64 l.length,.int .i64 j],[],1,h'⟩∧Kp q' h h'∧TopAt h' h'.length q' n o d i dv' up { f with D:=df',df:=df' } fs∧Au s l (d0++f.df)=Au s (l.drop j) (d0++df')∧df'.length=f.df.length+j) ?_ ?_ ⟨_,h,dv,f.df,rfl,Kp.refl _ _,by rw[Fr.same hD]; exact t,rfl,rfl⟩
 ·rintro j hj st ⟨y5,h',dv',df',rfl,cY,ht,da,cK⟩ ih
  have hw:=wk j (by omega)
  have fR:h'[2]? = some (wl ents):=(cY.2 2 (by have:=ht.four; omega)).trans h2
  have eG:h'[3]? = some (wi en ns a b):=(cY.2 3 (by have:=ht.four; omega)).trans h3
  have hT:=λz=>Bq hL en ns a b h' eG z
  have hF:=λz=>Br hL en ns a b h' eG z
  have hs:=GU hL l[j] _ h' _ _ ht.holds
  have d9:=b81 hL l[j] _ h' _ _ ht.holds
  have jG:wZ ({ f with D:=df',df:=df' }::fs) l[j]=decide (l[j]∈s.vis):=by
   rw[aC,an,← di]; rfl
  have gE:yu ({ f with D:=df',df:=df' }::fs) l[j]=decide (l[j]∈s.inputs∨l[j]∈d0++df'):=by
   rw[aC,an]
   have:=dn l[j]
   simp only[yu,List.any_cons,bu,an,aw] at this ⊢
   constructor
   ·rintro((h1|h1)|h1)
    ·exact .inr (.inr h1)
    ·rcases this.1 (.inl h1) with h2|h2
     ·exact .inl h2
     ·exact .inr (.inl h2)
    ·rcases this.1 (.inr h1) with h2|h2
     ·exact .inl h2
     ·exact .inr (.inl h2)
   ·rintro(h1|h1|h1)
    ·rcases this.2 (.inl h1) with h2|h2
     ·exact .inl (.inr h2)
     ·exact .inr h2
    ·rcases this.2 (.inr h1) with h2|h2
     ·exact .inl (.inr h2)
     ·exact .inr h2
    ·exact .inl (.inl h1)
  rw[jG] at hs
  rw[gE] at d9
  have hn:=ht.hn
  have hd:=ht.hd
  rw[aQ hj] at da
  simp only[Au] at da
  by_cases hv:l[j]∈s.vis
  ·rw[ae (not_not_intro hv)] at da
   by_cases oO:l[j]∈s.inputs∨l[j]∈d0++df'
   ·rw[ah oO] at da
    rw[decide_eq_true oO] at d9
    rw[decide_eq_true hv] at hs
    simp[hj,hs,d9,hT,hF]
    have:=no (by rw[da]; simp) h' (.str l[j]) (.int .i64 j) cY
    rw[da] at this
    exact this
   ·rw[ae oO] at da
    rw[decide_eq_false oO] at d9
    rw[decide_eq_true hv] at hs
    obtain⟨r',hr,_,gJ⟩:=A4 l[j] df'
    have fL:zn df' l[j]=df'++[l[j]]:=by
     unfold zn; rw[ae]; intro hm; exact oO (.inr (cg _ hm))
    rw[fL] at gJ
    have ib:=ht.setD (df'++[l[j]])
    have ke:(h'.set d (PObj.map (bmE (df'++[l[j]])))).length=h'.length:=by simp
    have kg:Kp q' h (h'.set d (PObj.map (bmE (df'++[l[j]])))):=cY.trans (Kp.set ht.ld)
    obtain⟨h4,e4⟩:∃h4,h'.set d (PObj.map (bmE (df'++[l[j]])))=h4:=⟨_,rfl⟩
    rw[e4] at ib ke kg
    rw[← ke] at ib
    have n4:=ib.hn
    have gX:=ib.un
    have pL:=ib.ln
    rcases ib.row with⟨rfl,fW⟩|⟨kr,gn,ez,rfl,im⟩
    ·simp only at fW
     subst fW
     obtain⟨h5,e5⟩:∃h5,h4.set n (.cells [up,.map (some o),.map (some d),i,.list false []])=h5:=⟨_,rfl⟩
     have gK:h5.length=h4.length:=by rw[← e5]; simp
     have n5:(h5++[PObj.cells [.str l[j]]])[n]? = some (.cells [up,.map (some o),.map (some d),i,.list false []]):=by
      rw[al (by omega),← e5,a8 gX]
     have kH:=ib.push [l[j]] h5 gK (λc hc=>by rw[← e5,ak (by omega)]) (λc _ _ lg=>by rw[← e5,ak (Ne.symm lg)])
     simp only[aF,bA,bc,bO] at kH
     simp only[be] at e4 gJ
     simp[hj,hs,d9,hT,hF,hn,hd,hr,gJ,hw,wP,e4,n4,e5,n5,Ae,wL,xG]
     rw[gK]
     refine ih _ ⟨_,_,.rowp h4.length 1 false 1,[l[j]],rfl,?_,?_,?_,?_⟩
     ·refine Kp.trans kg ⟨by simp[gK],λc hc =>?_⟩
      rw[ak (by omega),al (by have:=ib.four; omega),← e5,ak (by omega)]
     ·have:((h5++[PObj.cells [.str l[j]]]).set n (.cells [up,.map (some o),.map (some d),i,.rowp h4.length 1 false 1])).length=h4.length+1:=by simp[gK]
      rw[this]
      exact kH
     ·rw[da]; simp
     ·simp at cK ⊢; omega
    ·obtain⟨h5,e5⟩:∃h5,h4.set kr .gone=h5:=⟨_,rfl⟩
     have gK:h5.length=h4.length:=by rw[← e5]; simp
     have nf:=(ib.rne _ _ _ _ rfl).1
     have n5:(h5++[PObj.cells (df'.map PV.str++[.str l[j]])])[n]? = some (.cells [up,.map (some o),.map (some d),i,.rowp kr 1 false df'.length]):=by
      rw[al (by omega),← e5,ak nf]; exact n4
     have kH:=ib.push (df'++[l[j]]) h5 gK (λc hc=>by rw[← e5,ak (by omega)]) (λc hc fy lg=>by
      have:kr≠c:=by
       intro rK
       exact absurd rfl (fy 1 false df'.length |> λh=>by subst rK; exact h)
      rw[← e5,ak this])
     simp only[bj,aF,bA,ax,bc,bO] at kH
     simp only at im
     have eH:df'.length≤2147483647:=by omega
     have dB:(df'.map PV.str).take df'.length=df'.map PV.str:=bP (by simp)
     have kz:(dem∘PV.str)=PV.str:=rfl
     have rL:List.map PV.str (df'.take df'.length)=List.map PV.str df':=by rw[aB]
     simp[hj,hs,d9,hT,hF,hn,hd,hr,gJ,hw,wP,e4,n4,Ae,im,eH,dB,kz,rL,wL,xG,e5,n5]
     refine ih _ ⟨_,_,.rowp h4.length 1 false (df'.length+1),df'++[l[j]],rfl,?_,?_,?_,?_⟩
     ·refine Kp.trans kg ⟨by simp[gK],λc hc =>?_⟩
      rw[ak (by omega),al (by have:=ib.four; omega),← e5,ak (by omega)]
     ·have:((h5++[PObj.cells (df'.map PV.str++[.str l[j]])]).set n (.cells [up,.map (some o),.map (some d),i,.rowp h4.length 1 false (df'.length+1)])).length=h4.length+1:=by simp[gK]
      rw[this]
      exact kH
     ·rw[da]; simp
     ·simp at cK ⊢; omega
  ·rw[ah hv] at da
   rw[decide_eq_false hv] at hs
   simp[hj,hs,hF]
   have:=no (by rw[da]; simp) h' (.str l[j]) (.int .i64 j) cY
   rw[da] at this
   exact this
 ·rintro st ⟨y5,h',dv',df',rfl,cY,ht,da,cK⟩
  rw[aU (ao _)] at da
  simp
  exact ok (by rw[da]; rfl) h' dv' df' y5 _ cY (by rw[da]; rfl) ht
theorem LX (k:Nat) (dj:NodesIn ents ns k) (s:Place) (eN:s.before=ns.take k) (x:Eqn) (hx:QW x) (h:List PObj) (h2:h[2]? = some (wl ents)) (h3:h[3]? = some (wi en ns a b)) (q' n o d:Nat) (i dv up:PV) (f:Fr) (fs:List Fr) (t:TopAt h h.length q' n o d i dv up f fs) (di:∀x,wZ (f::fs) x=true↔x∈s.vis)
  (d0:List Str) (hD:f.D=f.df) (dn:∀x,(x∈f.I∨yu fs x=true)↔(x∈s.inputs∨x∈d0)) (iI:f.df.length+x.left.length≤1000000):
  ∃h',wm L 61 [.ptr 3 0,.int .i64 k,.ptr n 0,ww x] h=some (we 1 a b (ym s x (d0++f.df)).1,h')∧Kp q' h h'∧((ym s x (d0++f.df)).1=0→∃dv' df',(ym s x (d0++f.df)).2=d0++df'∧TopAt h' h'.length q' n o d i dv' up { f with D:=df',df:=df' } fs):=by
 suffices H:∃res,wm L 61 [.ptr 3 0,.int .i64 k,.ptr n 0,ww x] h=some res∧∃h',res=(we 1 a b (ym s x (d0++f.df)).1,h')∧Kp q' h h'∧((ym s x (d0++f.df)).1=0→∃dv' df',(ym s x (d0++f.df)).2=d0++df'∧TopAt h' h'.length q' n o d i dv' up { f with D:=df',df:=df' } fs) by
  obtain⟨res,e1,h',e2,e3⟩:=H
  exact⟨h',by rw[e1,e2],e3⟩
 refine Bp (hL 61 _ rfl) rfl ?_
 simp[DD]
 refine c4Z hL en ns a b ents k s x.left hx.left h h2 h3 q' n o d i dv up f fs t di d0 hD dn iI _ _ _ ?_ ?_
 ·intro hz h' dv' df' y5 y8 cY d9 ht
  have fR:h'[2]? = some (wl ents):=(cY.2 2 (by have:=ht.four; omega)).trans h2
  have eG:h'[3]? = some (wi en ns a b):=(cY.2 3 (by have:=ht.four; omega)).trans h3
  obtain⟨h'',m9,eZ⟩:=J2 hL en ns a b ents k dj s eN x.right hx.right.ew x.left.length h' fR eG h'.length (ao _) _ _ ht.holds di
  have he:ym s x (d0++f.df)=(wR s x.right x.left.length,d0++df'):=by
   unfold ym xY
   rw[ah hz,d9]
  have lu:q'≤h'.length:=aL ht.ln (Nat.le_of_lt ht.un)
  by_cases eA:wR s x.right x.left.length=0
  ·rw[eA] at m9
   simp[we] at m9
   simp[m9,DD]
   refine⟨h'',by rw[he]; simp[eA,we],cY.trans (eZ.le lu),λ_=>⟨dv',df',by rw[he],(ht.keep eZ.2).upTo eZ.1⟩⟩
  ·simp[we,eA] at m9
   simp[m9,DD]
   refine⟨h'',by rw[he]; simp[eA,we],cY.trans (eZ.le lu),λh0 =>?_⟩
   rw[he] at h0
   exact absurd h0 eA
 ·intro hz h' y5 y8 cY
  have he:ym s x (d0++f.df)=((Au s x.left (d0++f.df)).1,[]):=by
   unfold ym
   exact zF hz _
  simp[DD]
  refine⟨h',by rw[he]; simp[we,hz],cY,λh0 =>?_⟩
  rw[he] at h0
  exact absurd h0 hz
end
def yW {α:Type} (P:α→Bool) (l:List α):Int:=match l.findIdx? P with
 | none => -1
 | some i=>i
theorem Cn {α:Type} {P:α→Bool} {l:List α} {j:Nat} (hj:j<l.length) (hp:P l[j]=true) (hn:∀i (hi:i<l.length),i<j→P l[i]=false):yW P l=j:=by
 have:l.findIdx? P=some j:=by
  rw[cI]
  exact⟨hj,hp,λi hi=>by simpa using hn i (by omega) hi⟩
 simp[yW,this]
theorem Co {α:Type} {P:α→Bool} {l:List α} (hn:∀i (hi:i<l.length),P l[i]=false):yW P l = -1:=by
 have:l.findIdx? P=none:=by
  rw[List.findIdx?_eq_none_iff]
  intro x hx
  obtain⟨i,hi,rfl⟩:=bz.1 hx
  exact hn i hi
 simp[yW,this]
theorem DN {α:Type} (P:α→Bool) (l:List α):decide (0≤yW P l)=l.any P:=by
 unfold yW
 cases h:l.findIdx? P with
 | none =>
   rw[List.findIdx?_eq_none_iff] at h
   symm
   simp only[show ¬(0:Int)≤-1 by decide,decide_false]
   rw[List.any_eq_false]
   intro x hx; simp[h x hx]
 | some i =>
   have:=cI.1 h
   obtain⟨h1,h2,_⟩:=this
   simp only[show (0:Int)≤(i:Int) by omega,decide_true]
   symm
   rw[cC]
   exact⟨_,ai h1,h2⟩
def d1L (h:List PObj) (v:PV) (l:List Str):Prop:=(∃o,v = .list o (l.map PV.str))∨∃k,v = .rowp k 1 false l.length∧h[k]? = some (.cells (l.map PV.str))
section
variable {L:Nat→Option PFunc} (hL:∀k f,LS k=some f→L k=some f)
include hL
theorem J3 (l:List Str) (hl:l.length≤2000000000) (v:PV) (h:List PObj) (hv:d1L h v l) (k:Nat) (cs:List PV) (P:Str→Bool) (cW:∀x∈l,vU L k [.str x,.cptr cs] h=some (.bool (P x),h)):vU L 151 [v,.func k [] [.cptr cs]] h=some (.int .i64 (yW P l),h):=by
 refine wj (hL 151 _ rfl) rfl ?_
 rcases hv with⟨o,rfl⟩|⟨n,rfl,hn⟩
 ·simp[DI]
  rw[Jt]
  refine wS l.length (λj st=>∃y3,st=⟨[.list false (l.map PV.str),.func k [] [.cptr cs],.int .i64 0,y3,.int .i64 l.length,.int .i64 j],[],0,h⟩∧∀i (hi:i<l.length),i<j→P l[i]=false) ?_ ?_ ⟨_,rfl,λi _ hi=>by omega⟩
  ·rintro j hj st ⟨y3,rfl,hn⟩ ih
   have hw:=wk j (by omega)
   have hc:=cW l[j] (ai hj)
   cases hp:P l[j] with
   | true =>
     rw[hp] at hc
     simp[hj,hc,hw,Cn hj hp hn]
   | false =>
     rw[hp] at hc
     simp[hj,hc,hw]
     refine ih _ ⟨_,rfl,λi hi kD =>?_⟩
     by_cases he:i=j
     ·subst he; exact hp
     ·exact hn i hi (by omega)
  ·rintro st ⟨y3,rfl,hn⟩
   simp[DI,Co (λi hi=>hn i hi hi)]
 ·simp[DI]
  rw[Jt]
  refine wS l.length (λj st=>∃y3,st=⟨[.rowp n 1 false l.length,.func k [] [.cptr cs],.int .i64 0,y3,.int .i64 l.length,.int .i64 j],[],0,h⟩∧∀i (hi:i<l.length),i<j→P l[i]=false) ?_ ?_ ⟨_,rfl,λi _ hi=>by omega⟩
  ·rintro j hj st ⟨y3,rfl,iY⟩ ih
   have hw:=wk j (by omega)
   have hc:=cW l[j] (ai hj)
   cases hp:P l[j] with
   | true =>
     rw[hp] at hc
     simp[hj,hc,hw,hn,Cn hj hp iY]
   | false =>
     rw[hp] at hc
     simp[hj,hc,hw,hn]
     refine ih _ ⟨_,rfl,λi hi kD =>?_⟩
     by_cases he:i=j
     ·subst he; exact hp
     ·exact iY i hi (by omega)
  ·rintro st ⟨y3,rfl,iY⟩
   simp[DI,Co (λi hi=>iY i hi hi)]
theorem c40 (l:List Str) (hl:l.length≤2000000000) (o:Bool) (h:List PObj) (k:Nat) (cs:List PV) (P:Str→Bool) (cW:∀x∈l,vU L k [.str x,.cptr cs] h=some (.bool (P x),h)):vU L 129 [.list o (l.map .str),.func k [] [.cptr cs]] h=some (.bool (l.any P),h):=by
 have hi:=J3 hL l hl _ h (.inl ⟨false,rfl⟩) k cs P cW
 refine wj (hL 129 _ rfl) rfl ?_
 simp[Jl,hi,← DN]
theorem c41 (l:List Str) (hl:l.length≤2000000000) (o:Bool) (s:Str) (h:List PObj):vU L 110 [.list o (l.map .str),.str s] h=some (.bool (decide (s∈l)),h):=by
 obtain⟨P,hP⟩:∃P:Str→Bool,∀x,P x=decide (x=s):=⟨_,λ_=>rfl⟩
 have hi:vU L 139 [.list false (l.map .str),.str s] h=some (.int .i64 (yW P l),h):=by
  refine wj (hL 139 _ rfl) rfl ?_
  simp[Ck]
  rw[Gt]
  refine wS l.length (λj st=>∃y3,st=⟨[.list false (l.map PV.str),.str s,.int .i64 0,y3,.int .i64 l.length,.int .i64 j],[],0,h⟩∧∀i (hi:i<l.length),i<j→P l[i]=false) ?_ ?_ ⟨_,rfl,λi _ hi=>by omega⟩
  ·rintro j hj st ⟨y3,rfl,hn⟩ ih
   have hw:=wk j (by omega)
   by_cases hp:l[j]=s
   ·have ek:s=l[j]:=hp.symm
    have iZ:P l[j]=true:=by rw[hP]; simpa using hp
    simp[hj,hw,tf hp,tf ek,Cn hj iZ hn]
   ·have ek:¬s=l[j]:=λe=>hp e.symm
    have iZ:P l[j]=false:=by rw[hP]; simpa using hp
    simp[hj,hw,tf hp,tf ek]
    refine ih _ ⟨_,rfl,λi hi kD =>?_⟩
    by_cases he:i=j
    ·subst he; exact iZ
    ·exact hn i hi (by omega)
  ·rintro st ⟨y3,rfl,hn⟩
   simp[Ck,Co (λi hi=>hn i hi hi)]
 have ha:decide (s∈l)=l.any P:=by
  rw[aC,an,cC]
  constructor
  ·intro hm; exact⟨s,hm,by rw[hP]; simp⟩
  ·rintro⟨x,hm,hx⟩; rw[hP] at hx; simp at hx; subst hx; exact hm
 rw[ha]
 refine wj (hL 110 _ rfl) rfl ?_
 simp[EJ,hi,← DN]
theorem Oq (l m:List Str) (hl:l.length≤2000000000) (hm:m.length≤2000000000) (o1 o2:Bool) (h:List PObj):vU L 103 [.list o1 (l.map .str),.list o2 (m.map .str)] h=some (.bool (decide (l.length=m.length)&&l.all λx=>decide (x∈m)),h):=by
 have hc:∀x∈l,vU L 130 [.str x,.cptr [.list false (m.map PV.str)]] []=some (.bool (!decide (x∈m)),[]):=by
  intro x _
  have:=c41 hL m hm false x []
  refine wj (hL 130 _ rfl) rfl ?_
  simp[Jm,this]
 have ha:=c40 hL l hl false [] 130 [.list false (m.map PV.str)] (λx => !decide (x∈m)) hc
 refine wj (hL 103 _ rfl) rfl ?_
 have dq:(l.all λx=>decide (x∈m)) = !(l.any λx => !decide (x∈m)):=by simp[List.all_eq_not_any_not]
 rw[dq]
 by_cases cK:l.length=m.length
 ·have hi:(l.length:Int)=m.length:=by omega
  simp[Gl,tf hi,ha,tf cK]
 ·have hi:¬(l.length:Int)=m.length:=by omega
  simp[Gl,tf hi,tf cK]
end
section
variable {L:Nat→Option PFunc} (hL:∀k f,LS k=some f→L k=some f)
include hL
theorem c0n (l:List State) (hl:l.length≤2000000000) (o:Bool) (h:List PObj) (x:State):vU L 100 [.list o (l.map wF),.func 101 [] [.cptr (wF x).cells]] h=some (.bool (l.any λs=>decide (s.name=x.name)),h):=by
 obtain⟨P,hP⟩:∃P:State→Bool,∀s,P s=decide (s.name=x.name):=⟨_,λ_=>rfl⟩
 have cW:∀s:State,vU L 101 [wF s,.cptr (wF x).cells] h=some (.bool (P s),h):=by
  intro s
  rw[hP]
  refine wj (hL 101 _ rfl) rfl ?_
  simp[Jc]
 simp only[JB] at cW
 have hi:vU L 125 [.list false (l.map wF),.func 101 [] [.cptr (wF x).cells]] h=some (.int .i64 (yW P l),h):=by
  refine wj (hL 125 _ rfl) rfl ?_
  simp[Gq]
  rw[MQ]
  refine wS l.length (λj st=>∃y3,st=⟨[.list false (l.map wF),.func 101 [] [.cptr [.str x.name,.list false (x.locals.map wc),.list false (x.eqs.map ww),.list false (x.autos.map wq),.list false (x.unl.map wJ),.list false (x.til.map wJ)]],.int .i64 0,y3,.int .i64 l.length,.int .i64 j],[],0,h⟩∧∀i (hi:i<l.length),i<j→P l[i]=false) ?_ ?_ ⟨_,rfl,λi _ hi=>by omega⟩
  ·rintro j hj st ⟨y3,rfl,hn⟩ ih
   have hw:=wk j (by omega)
   have hc:=cW l[j]
   cases hp:P l[j] with
   | true =>
     rw[hp] at hc
     simp[hj,hc,hw,Cn hj hp hn]
   | false =>
     rw[hp] at hc
     simp[hj,hc,hw]
     refine ih _ ⟨_,rfl,λi hi kD =>?_⟩
     by_cases he:i=j
     ·subst he; exact hp
     ·exact hn i hi (by omega)
  ·rintro st ⟨y3,rfl,hn⟩
   simp[Gq,Co (λi hi=>hn i hi hi)]
 have ha:(l.any λs=>decide (s.name=x.name))=l.any P:=by
  congr 1; funext s; exact(hP s).symm
 rw[ha]
 simp only[JB] at hi
 refine wj (hL 100 _ rfl) rfl ?_
 simp[Jb,hi,← DN]
theorem b4d (o:Bool) (k:Nat) (cs:List PV) (h:List PObj):vU L 127 [.list o [],.func k [] [.cptr cs]] h=some (.list false [],h):=by
 have hi:=J3 hL [] (by simp) (.list false []) h (.inl ⟨false,rfl⟩) k cs (λ_=>false) (by simp)
 refine wj (hL 127 _ rfl) rfl ?_
 simp[yW] at hi
 simp[EP,hi]
theorem c0o (l:List Str) (hl:l.length≤2000000000) (h:List PObj) (kr:Nat) (hk:h[kr]? = some (.cells (l.map PV.str))) (k:Nat) (cs:List PV) (P:Str→Bool) (cW:∀o,∀x∈l,vU L k [.str x,.cptr cs] (h.set kr o)=some (.bool (P x),h.set kr o)):vU L 127 [.rowp kr 1 false l.length,.func k [] [.cptr cs]] h=some (.rowp kr 1 false (l.filter λx => !P x).length,h.set kr (.cells ((l.filter λx => !P x).map PV.str))):=by
 have ic:h.set kr (.cells (l.map PV.str))=h:=Dy hk
 have kh:kr<h.length:=(aj.1 hk).1
 have hi:=J3 hL l hl (.rowp kr 1 false l.length) h (.inr ⟨kr,rfl,hk⟩) k cs P (λx hx=>by have:=cW (.cells (l.map PV.str)) x hx; rwa [ic] at this)
 refine wj (hL 127 _ rfl) rfl ?_
 cases hf:l.findIdx? P with
 | none =>
   have fy:l.filter (λx => !P x)=l:=by
    rw[List.findIdx?_eq_none_iff] at hf
    rw[List.filter_eq_self]
    intro x hx; simp[hf x hx]
   simp[yW,hf] at hi
   simp[EP,hi,fy,ic]
 | some i0 =>
   obtain⟨dG,u9,dn⟩:=cI.1 hf
   simp[yW,hf] at hi
   have lI:=wk i0 (by omega)
   have oP:(l.take (i0+1)).filter (λx => !P x)=l.take i0:=by
    rw[bR,aq dG]
    simp only[Option.toList,List.filter_append,List.filter_cons,u9,Bool.not_true,aH,if_false,List.filter_nil,aW]
    rw[List.filter_eq_self]
    intro x hx
    obtain⟨j,hj,rfl⟩:=bz.1 hx
    simp only[bB] at hj
    rw[List.getElem_take]
    have:=dn j (by omega)
    simpa using this
   have c9:¬(i0:Int) = -1:=by omega
   simp[EP,hi,lI,c9]
   rw[MT]
   refine wS (l.length - (i0+1)) (λj st=>∃y5 mid,st=⟨[.rowp kr 1 false l.length,.func k [] [.cptr cs],.list true [],.int .i64 ((l.take (i0+1+j)).filter λx => !P x).length,.int .i64 (i0+1+j:Nat),y5],[],0,h.set kr (.cells (((l.take (i0+1+j)).filter (λx => !P x)++mid++l.drop (i0+1+j)).map PV.str))⟩∧((l.take (i0+1+j)).filter λx => !P x).length+mid.length=i0+1+j) ?_ ?_ ⟨.dead,[l[i0]],?_,?_⟩
   ·rintro j hj st ⟨y5,mid,rfl,hm⟩ ih
    obtain⟨J,hJ⟩:∃J,J=i0+1+j:=⟨_,rfl⟩
    have mF:J<l.length:=by omega
    rw[← hJ] at hm ⊢
    have va:i0+1+(j+1)=J+1:=by omega
    rw[va] at ih
    have hw:=wk J (by omega)
    obtain⟨F,hF⟩:∃F,F=(l.take J).filter λx => !P x:=⟨_,rfl⟩
    rw[← hF] at hm ⊢
    have vb:=wk F.length (by omega)
    have kM:(l.take (J+1)).filter (λx => !P x)=F++if P l[J] then[] else[l[J]]:=by
     rw[bR,aq mF,List.filter_append,← hF]
     simp only[Option.toList,List.filter_cons,List.filter_nil]
     cases P l[J]<;>simp
    rw[kM] at ih
    have wU:(F++mid++l.drop J)[J]? = some l[J]:=by
     rw[ap (by simp; omega)]
     simp[hm,aT,aq mF]
    have hc:=cW (.cells ((F++mid++l.drop J).map PV.str)) l[J] (ai mF)
    have hcell:(h.set kr (.cells ((F++mid++l.drop J).map PV.str)))[kr]? = some (.cells ((F++mid++l.drop J).map PV.str)):=by rw[a8 kh]
    obtain⟨C,hC⟩:∃C,C=F++mid++l.drop J:=⟨_,rfl⟩
    rw[← hC] at wU hc hcell ⊢
    obtain⟨h1,e1⟩:∃h1,h.set kr (.cells (C.map PV.str))=h1:=⟨_,rfl⟩
    rw[e1] at hc hcell ⊢
    have s4:J<C.length:=(aj.1 wU).1
    have s5:C[J]=l[J]:=(aj.1 wU).2
    have hFJ:F.length≤J:=by omega
    cases hp:P l[J] with
    | true =>
      rw[hp] at hc ih
      simp only[if_true,aW] at ih
      simp[mF,hcell,wU,hc,hw,s4,s5]
      have m5:C=F++(mid++[l[J]])++l.drop (J+1):=by rw[hC,aQ mF]; simp
      have:=ih ⟨[.rowp kr 1 false l.length,.func k [] [.cptr cs],.list true [],.int .i64 F.length,.int .i64 (J+1:Nat),.str l[J]],[],0,h1⟩ ⟨_,mid++[l[J]],by rw[← e1,m5],by simp; omega⟩
      simpa using this
    | false =>
      rw[hp] at hc ih
      simp only[aH,if_false] at ih
      have mo:F.length<l.length:=by omega
      have vd:F.length<C.length:=by omega
      have wA:∃mid',C.set F.length l[J]=F++[l[J]]++mid'++l.drop (J+1)∧(F++[l[J]]).length+mid'.length=J+1:=by
       rw[hC,aQ mF]
       generalize l.drop (J+1)=R
       generalize l[J]=x
       cases mid with
       | nil=>exact⟨[],by simp,by simp at hm ⊢; omega⟩
       | cons m0 ms=>exact⟨ms++[x],by simp,by simp at hm ⊢; omega⟩
      obtain⟨mid',d7,nL⟩:=wA
      have dL:h1.set kr (.cells ((C.map PV.str).set F.length (.str l[J])))=h.set kr (.cells ((F++[l[J]]++mid'++l.drop (J+1)).map PV.str)):=by rw[← e1,List.set_set,← d7,List.map_set]
      simp[mF,hcell,wU,hc,hw,s4,s5,vb,mo,vd,xG,dL]
      have:=ih ⟨[.rowp kr 1 false l.length,.func k [] [.cptr cs],.list true [],.int .i64 (F++[l[J]]).length,.int .i64 (J+1:Nat),.str l[J]],[],0,h.set kr (.cells ((F++[l[J]]++mid'++l.drop (J+1)).map PV.str))⟩ ⟨_,mid',rfl,nL⟩
      simpa using this
   ·rintro st ⟨y5,mid,rfl,hm⟩
    have hJ:i0+1+(l.length - (i0+1))=l.length:=by omega
    rw[hJ] at hm ⊢
    rw[aB] at hm ⊢
    rw[List.drop_length]
    obtain⟨F,hF⟩:∃F,F=l.filter λx => !P x:=⟨_,rfl⟩
    rw[← hF] at hm ⊢
    have mo:F.length≤l.length:=by omega
    have fZ:((F++mid).map PV.str).take F.length=F.map PV.str:=by rw[bj,List.take_append_of_le_length (by simp),bP (by simp)]
    rw[bj] at fZ
    by_cases rM:F=[]
    ·subst rM
     simp[kh]
    ·have hF1:¬F.length=0:=λe=>rM (br.1 e)
     have iy:cp (.rows kr 1 false F.length (l.length - F.length))=some (.rows kr 1 false F.length (l.length - F.length)):=rfl
     simp[kh,mo,rM,fZ,iy]
   ·rw[bo,oP]
    have:(l.take i0).length=i0:=by simp; omega
    have em:l.take i0++[l[i0]]++l.drop (i0+1)=l:=by
     rw[aJ,List.singleton_append,List.getElem_cons_drop,bM]
    rw[this,em,ic]
    simp
   ·rw[bo,oP]
    simp; omega
end
end PI.Sc
