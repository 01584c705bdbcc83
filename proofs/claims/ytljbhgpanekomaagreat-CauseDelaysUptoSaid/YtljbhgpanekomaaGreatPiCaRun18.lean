import Derived.Test.YtljbhgpanekomaaGreatPiCaSpec
set_option maxRecDepth 100000
set_option linter.unusedSimpArgs false
set_option linter.unusedVariables false
set_option linter.unusedSectionVars false
namespace PI.Sc
open Go (IntKind BinOp UnOp)
open Short
def yM (y:Expr→List PObj→Option (Out×List PObj)):List Expr→List PObj→Option (Out×List PObj)
 | [],h=>some (.val (.bool true),h)
 | x :: xs, h => match y x h with
   | some (.val (.bool true),h')=>yM y xs h'
   | r=>r
theorem OE (y:Expr→List PObj→Option (Out×List PObj)):∀(a b:List Expr) (h:List PObj),yM y (a++b) h=match yM y a h with
  | some (.val (.bool true),h')=>yM y b h'
  | r=>r
 | [],b,h=>rfl
 | x :: a, b, h => by
   simp only[aL,yM]
   split
   ·exact OE y a b _
   ·rename_i cZ
    split
    ·rename_i h1; exact absurd h1 (cZ _)
    ·rfl
theorem FH {y:Expr→List PObj→Option (Out×List PObj)} {f:Expr→Int} {R:Int→Out×List PObj} {h:List PObj}:∀(l:List Expr),(∀x∈l,f x=0→y x h=some (.val (.bool true),h))→(∀x∈l,f x≠0→y x h=some (R (f x)))→(∀e h',R e≠(.val (.bool true),h'))→yM y l h=some (if wr f l=0 then(.val (.bool true),h) else R (wr f l))
 | [],_,_,_=>by simp[yM,wr]
 | x :: l, h1, h2, h3 => by
   simp only[yM]
   by_cases hx:f x=0
   ·rw[h1 x (by simp) hx]
    simp only[wr,hx,if_true]
    exact FH l (λz hz=>h1 z (by simp[hz])) (λz hz=>h2 z (by simp[hz])) h3
   ·rw[h2 x (by simp) hx]
    simp only[wr,hx,if_false]
    split
    ·rename_i hh; simp only[aa] at hh; exact absurd hh (h3 _ _)
    ·rfl
theorem OF {y:Expr→List PObj→Option (Out×List PObj)} {H:Nat→List PObj}:∀(l:List Expr) (i:Nat),(∀x∈l,∀k,i≤k→k<i+l.length→y x (H k)=some (.val (.bool true),H (k+1)))→yM y l (H i)=some (.val (.bool true),H (i+l.length))
 | [],i,_=>rfl
 | x :: l, i, h => by
   simp only[yM,h x (by simp) i (ao _) (by simp)]
   rw[OF l (i+1) (λz hz k h1 h2=>h z (by simp[hz]) k (by omega) (by simp; omega)),aI]
   congr 3; omega
theorem yAt (H0:List PObj) (R:Expr→Out×List PObj):∃y:Expr→List PObj→Option (Out×List PObj),(∀x,y x H0=some (R x))∧∀x h r,y x h=some r→h=H0∧r=R x:=by
 classical
 refine⟨λx h=>if h=H0 then some (R x) else none,λx=>ah rfl,λx h r hr =>?_⟩
 simp only at hr
 split at hr
 ·rename_i he; exact⟨he,(Option.some.inj hr).symm⟩
 ·simp at hr
theorem yi (n:Nat) (cs:List PV) (off:Nat) (v:PV):wO n false cs off v=if off<cs.length∧v.flat=true then some (cs.set off v) else none:=rfl
section
variable {L:Nat→Option PFunc} {V l:List PV} {g:Nat} {h:List PObj}
@[simp] theorem d2S {n:Nat} {o o':PObj}:(h.set n o).set n o'=h.set n o':=List.set_set ..
theorem Cl {n:Nat} {o:PObj} (hn:h[n]? = some o):h.set n o=h:=by
 obtain⟨cS,he⟩:=ai.1 hn
 rw[← he]; exact List.set_getElem_self cS
end
section
variable {L:Nat→Option PFunc} (hL:∀k f,LS k=some f→L k=some f)
include hL
theorem c6W (kb:Nat) (first captured:List PV) (y:Expr→List PObj→Option (Out×List PObj)) (hfr:∀p∈first++captured,cp p=some p) (hb:∀x h r,y x h=some r→(∃b h',r=(.val (.bool b),h'))∨∃v h',r=(.boom v,h')) (e:Expr):EW e→(∀x∈e.list,∀h r,y x h=some r→wK L kb (first++[wl x]++captured) h=some r)→∀(h:List PObj) (r:Out×List PObj),yM y e.list h=some r→wK L 141 [wl e,.func kb first captured] h=some r:=by
 induction e using Expr.ind with
 | h e ih=>
 intro he hy h r hr
 obtain⟨_,_,dH⟩:=he.self
 rw[Expr.list_eq] at hr
 simp only[yM] at hr
 refine zn (hL 141 _ rfl) rfl ?_
 cases pP:y e h with
 | none=>rw[pP] at hr; simp at hr
 | some q =>
   rw[pP] at hr
   have jv:=hy e (by rw[Expr.list_eq]; simp) h q pP
   simp only[aJ] at jv
   rcases hb e h q pP with⟨b,h',rfl⟩|⟨v,h',rfl⟩
   ·cases b with
    | false =>
      simp only[aa] at hr
      subst hr
      simp at jv
      simp[BZ,jv]
    | true =>
      simp only at hr
      simp at jv
      simp[BZ,jv]
      suffices H:∀(n i:Nat) (h:List PObj) (x4:PV) (g:Nat),i+n=e.args.length→yM y ((e.args.drop i).flatMap Expr.list) h=some r→wpL L Fi ⟨[wl e,.func kb first captured,.loc 0 (wl e).cells,.bool false,x4,.list false (e.args.map wl),.int .i64 e.args.length,.int .i64 i],[],g,h⟩ (BQ 0 (Ct L (S (R [t 3 T]) Y) (BB L BZ r))) by
       simpa[BZ] using H e.args.length 0 h' .dead 1 (by omega) (by simpa using hr)
      intro n
      induction n with
      | zero =>
        intro i h x4 g hi hr
        have:i=e.args.length:=by omega
        subst this
        rw[bj (ao _)] at hr
        simp only[List.flatMap_nil,yM,aa] at hr
        subst hr
        rw[Fi,Bf]
        simp[BZ]
      | succ n ih2 =>
        intro i h x4 g hi hr
        have dL:i<e.args.length:=by omega
        have hw:=wF i (by omega)
        rw[aZ dL,aG,OE] at hr
        rw[Fi,Bf]
        cases hq:yM y e.args[i].list h with
        | none=>rw[hq] at hr; simp at hr
        | some q =>
          have hc:=ih e.args[i] (aj dL) (he.arg (aj dL)) (λx hx=>hy x (by rw[Expr.list_eq]; exact bx _ (bM.2 ⟨_,aj dL,hx⟩))) h q hq
          rw[hq] at hr
          have jJ:(∃b h',q=(.val (.bool b),h'))∨∃v h',q=(.boom v,h'):=by
           have key:∀(l:List Expr) (h:List PObj) (q),yM y l h=some q→(∃b h',q=(.val (.bool b),h'))∨∃v h',q=(.boom v,h'):=by
            intro l
            induction l with
            | nil=>intro h q hq; simp only[yM,aa] at hq; exact .inl ⟨true,h,hq.symm⟩
            | cons x l ihl =>
              intro h q hq
              simp only[yM] at hq
              split at hq
              ·exact ihl _ _ hq
              ·exact hb _ _ _ hq
           exact key _ _ _ hq
          rcases jJ with⟨b,h2,rfl⟩|⟨v,h2,rfl⟩
          ·cases b with
           | false =>
             simp only[aa] at hr
             subst hr
             simp[dL,hc,BZ]
           | true =>
             simp only at hr
             simp[dL,hc,hw]
             have:=ih2 (i+1) h2 (.loc g (wl e.args[i]).cells) (g+1) (by omega) hr
             rw[Fi] at this
             simpa using this
          ·simp only[aa] at hr
           subst hr
           simp[dL,hc,BZ]
   ·simp only[aa] at hr
    subst hr
    simp at jv
    simp[BZ,jv]
theorem FJ (e:Expr) (h:List PObj):wj L 81 [wl e] h=some (.func 114 [] [.cptr (wl e).cells],h):=by
 refine wD (hL 81 _ rfl) rfl ?_
 simp[Je]
theorem FK {V l:List PV} {g:Nat} {h:List PObj} {Q:PExit→St→Prop} {x:PX} {kb:Nat} {caps:List PX} {cs:List PV} (e:Expr) (he:EW e) (hx:rd ⟨V,l,g,h⟩ x=some (.func 114 [] [.cptr (wl e).cells])) (hc:rdAll ⟨V,l,g,h⟩ caps=some cs) (dW:∀p∈cs,cp p=some p)
  (y:Expr→List PObj→Option (Out×List PObj)) (hy:∀x∈e.list,∀h' r,y x h'=some r→wK L kb (.ptr h.length 0::(cs++[wl x])) h'=some r) (hb:∀x h r,y x h=some r→(∃b h',r=(.val (.bool b),h'))∨∃v h',r=(.boom v,h'))
  (r:Out×List PObj) (hr:yM y e.list (h++[.loop true])=some r) (hq:A3 V l g h.length Q r):wpL L (.rangeF x kb caps) ⟨V,l,g,h⟩ Q:=by
 have ik:CG L 114=true:=by unfold CG; rw[hL 114 _ rfl]; rfl
 have hE:=c6W hL kb (.ptr h.length 0::cs) [] y (by
  intro p hp
  simp only[bh,aC] at hp
  rcases hp with rfl|hp
  ·rfl
  ·exact dW p hp) hb e he (λx hx h' r hr=>by have:=hy x hx h' r hr; simpa using this) _ r hr
 have ho:∃r',wK L 114 ([] ++ .func kb (.ptr h.length 0::cs) []::[.cptr (wl e).cells]) (h++[.loop true])=some r'∧A3 V l g h.length Q r':=by
  obtain⟨o,h'⟩:=r
  cases o with
  | val v =>
    refine⟨(.val (.tuple []),h'),?_,hq⟩
    refine zn (hL 114 _ rfl) rfl ?_
    simp[GU,hE]
  | boom v =>
    refine⟨(.boom v,h'),?_,hq⟩
    refine zn (hL 114 _ rfl) rfl ?_
    simp[GU,hE]
 obtain⟨r',h1,h2⟩:=ho
 exact c0S hx hc ik h1 h2
theorem c4a (e:Expr) (he:EW e) (hp:e.parts≤1100000) (h:List PObj):wj L 148 [wl e] []=some (.int .i64 e.parts,[.cells [.int .i64 e.parts],.gone]):=by
 refine wD (hL 148 _ rfl) rfl ?_
 have hE:=FJ hL e [.cells [.int .i64 0]]
 simp[Jw,hE]
 have eC:∀(x:Expr) (c:Nat),c≤1100000→wK L 193 [.ptr 1 0,.ptr 0 0,wl x] [.cells [.int .i64 c],.loop true]=some (.val (.bool true),[.cells [.int .i64 (c+1:Nat)],.loop true]):=by
  intro x c hc
  have hw:=wF c (by omega)
  refine FL (as:=[.ptr 0 0,wl x]) (hL 193 _ rfl) rfl rfl rfl ?_
  simp[JC,hw,yi,wq]
 refine FK hL e he (cs:=[.ptr 0 0]) (by simp) (by simp) (by simp) (λx h=>match h with | [.cells [.int .i64 c],.loop true]=>if 0≤c∧c≤1100000 then some (.val (.bool true),[.cells [.int .i64 (c+1)],.loop true]) else none | _=>none) ?_ ?_ (.val (.bool true),[.cells [.int .i64 e.parts],.loop true]) ?_ ?_
 ·intro x _ h' r hr
  split at hr
  ·split at hr
   ·rename_i c hc
    simp only[aa] at hr
    subst hr
    obtain⟨n,rfl⟩:=Int.eq_ofNat_of_zero_le hc.1
    have:=eC x n (by omega)
    simpa using this
   ·simp at hr
  ·simp at hr
 ·intro x h r hr
  split at hr
  ·split at hr
   ·simp only[aa] at hr; exact .inl ⟨true,_,hr.symm⟩
   ·simp at hr
  ·simp at hr
 ·have:=OF (y:=λx h=>match h with | [.cells [.int .i64 c],.loop true]=>if 0≤c∧c≤1100000 then some (.val (.bool true),[.cells [.int .i64 (c+1)],.loop true]) else none | _=>none) (H:=λk=>[.cells [.int .i64 k],.loop true]) e.list 0 (by
   intro x hx k h1 h2
   have hk:k≤1100000:=by have:e.list.length=e.parts:=rfl; omega
   have:(0:Int)≤(k:Int)∧(k:Int)≤1100000:=by omega
   simp[this])
  have cO:e.list.length=e.parts:=rfl
  rw[cO] at this
  simp only[aM] at this
  simpa using this
 ·simp[A3]
def Dt (f:Expr→Int) (x:Expr):List PObj→Option (Out×List PObj)
 | [.cells [c],.loop true]=>some (if f x=0 then(.val (.bool true),[.cells [c],.loop true]) else(.val (.bool false),[.cells [.int .i64 (f x)],.over none]))
 | _=>none
theorem d0R (f:Expr→Int) (x:Expr) (h:List PObj) (r:Out×List PObj) (hr:Dt f x h=some r):(∃b h',r=(.val (.bool b),h'))∨∃v h',r=(.boom v,h'):=by
 have _:=hL
 unfold Dt at hr
 split at hr
 ·simp only[aa] at hr
  subst hr
  split
  ·exact .inl ⟨_,_,rfl⟩
  ·exact .inl ⟨_,_,rfl⟩
 ·simp at hr
theorem c4b (f:Expr→Int) (c:PV) (l:List Expr):yM (Dt f) l [.cells [c],.loop true]=some (if wr f l=0 then(.val (.bool true),[.cells [c],.loop true]) else(.val (.bool false),[.cells [.int .i64 (wr f l)],.over none])):=by
 have _:=hL
 refine FH (R:=λe=>(.val (.bool false),[.cells [.int .i64 e],.over none])) l ?_ ?_ ?_
 ·intro x _ hx; simp[Dt,hx]
 ·intro x _ hx; simp[Dt,hx]
 ·intro e h'; simp
theorem c1N (e:Expr) (he:EW e) (hp:e.parts≤1100000):∃h',wj L 122 [wl e] []=some (.int .i64 (Cr e),h'):=by
 suffices H:∃r,wj L 122 [wl e] []=some r∧r.1 = .int .i64 (Cr e) by
  obtain⟨⟨v,h'⟩,h1,h2⟩:=H
  exact⟨h',by rw[h1]; simp only at h2; rw[h2]⟩
 refine Be (hL 122 _ rfl) rfl ?_
 have h1:=c4a hL e he hp []
 have h2:=c1M hL e hp []
 have hE:=FJ hL e [.cells [.int .i64 0]]
 have cV:=Oh hp
 unfold Cr
 rw[cV]
 by_cases b1:(400:Int)<e.parts
 ·have b2:¬(e.parts:Int)≤400:=by omega
  have b3:400<e.parts:=by omega
  have b4:¬e.parts≤400:=by omega
  simp[Fg,h1,b1,b2,b3,b4,need,wu,yi,wq,xR]
 ·have b2:(e.parts:Int)≤400:=by omega
  have b3:¬400<e.parts:=by omega
  have b4:e.parts≤400:=by omega
  by_cases d1:32<e.depth
  ·have d2:¬e.depth≤32:=by omega
   simp[Fg,h1,h2,b1,b2,b3,b4,d1,d2,need,wu,yi,wq,xR]
  ·have d2:e.depth≤32:=by omega
   simp[Fg,h1,h2,b1,b2,b3,b4,d1,d2,hE]
   have eC:∀(x:Expr) (c:PV),wK L 191 [.ptr 1 0,.ptr 0 0,wl x] [.cells [c],.loop true]=some (if AC x=0 then(.val (.bool true),[.cells [c],.loop true]) else(.val (.bool false),[.cells [.int .i64 (AC x)],.over none])):=by
    intro x c
    have ho:=d0Q hL x []
    refine FL (as:=[.ptr 0 0,wl x]) (hL 191 _ rfl) rfl rfl rfl ?_
    by_cases hz:AC x=0
    ·rw[hz] at ho
     simp[Hd,ho,hz]
    ·simp[Hd,ho,hz,yi]
   refine FK hL e he (cs:=[.ptr 0 0]) (by simp) (by simp) (by simp) (Dt AC) ?_ (d0R hL AC) _ (c4b hL AC (.int .i64 0) e.list) ?_
   ·intro x _ h' r hr
    unfold Dt at hr
    split at hr
    ·simp only[aa] at hr
     subst hr
     simpa using eC x _
    ·simp at hr
   ·by_cases hf:wr AC e.list=0
    ·simp[hf,A3,yi,wq,xR]
    ·simp[hf,A3,wq,xR]
theorem OG (e:Expr) (he:EW e):∃h',wj L 147 [wl e] []=some (.bool (Du e),h'):=by
 suffices H:∃r,wj L 147 [wl e] []=some r∧r.1 = .bool (Du e) by
  obtain⟨⟨v,h'⟩,h1,h2⟩:=H
  exact⟨h',by rw[h1]; simp only at h2; rw[h2]⟩
 refine Be (hL 147 _ rfl) rfl ?_
 have hE:=FJ hL e [.cells [.bool false]]
 obtain⟨f,hf⟩:∃f:Expr→Int,∀x,f x=if x.kind=5∨x.kind=6∨x.kind=7∨x.kind=10∨x.kind=11 then 1 else 0:=⟨_,λ_=>rfl⟩
 have dC:Du e=decide (wr f e.list=0):=by
  unfold Du
  rw[aS,aK,aw,yS]
  constructor
  ·intro h x hx
   have:=h x hx
   rw[hf,af (by simpa using this)]
  ·intro h x hx
   have:=h x hx
   rw[hf] at this
   split at this
   ·simp at this
   ·rename_i hn; simpa using hn
 rw[dC]
 simp[Jv,hE]
 have eC:∀(x:Expr) (c:PV),wK L 192 [.ptr 1 0,.ptr 0 0,wl x] [.cells [c],.loop true]=some (if f x=0 then(.val (.bool true),[.cells [c],.loop true]) else(.val (.bool false),[.cells [.bool false],.over none])):=by
  intro x c
  refine FL (as:=[.ptr 0 0,wl x]) (hL 192 _ rfl) rfl rfl rfl ?_
  rw[hf]
  by_cases k5:x.kind=5
  ·simp[CO,tf k5,yi]
  by_cases k6:x.kind=6
  ·simp[CO,tf k5,tf k6,yi]
  by_cases k7:x.kind=7
  ·simp[CO,tf k5,tf k6,tf k7,yi]
  by_cases k10:x.kind=10
  ·simp[CO,tf k5,tf k6,tf k7,tf k10,yi]
  by_cases k11:x.kind=11
  ·simp[CO,tf k5,tf k6,tf k7,tf k10,tf k11,yi]
  simp[CO,tf k5,tf k6,tf k7,tf k10,tf k11]
 obtain⟨y,hy⟩:∃y:Expr→List PObj→Option (Out×List PObj),∀x h,y x h=match h with
  | [.cells [c],.loop true]=>some (if f x=0 then(.val (.bool true),[.cells [c],.loop true]) else(.val (.bool false),[.cells [.bool false],.over none]))
  | _=>none:=⟨_,λ_ _=>rfl⟩
 have oe:yM y e.list [.cells [.bool false],.loop true]=some (if wr f e.list=0 then(.val (.bool true),[.cells [.bool false],.loop true]) else(.val (.bool false),[.cells [.bool false],.over none])):=by
  refine FH (f:=f) (R:=λ_=>(.val (.bool false),[.cells [.bool false],.over none])) e.list ?_ ?_ ?_
  ·intro x _ hx; simp[hy,hx]
  ·intro x _ hx; simp[hy,hx]
  ·intro e h'; simp
 refine FK hL e he (cs:=[.ptr 0 0]) (by simp) (by simp) (by simp) y ?_ ?_ _ oe ?_
 ·intro x _ h' r hr
  rw[hy] at hr
  split at hr
  ·simp only[aa] at hr
   subst hr
   simpa using eC x _
  ·simp at hr
 ·intro x h r hr
  rw[hy] at hr
  split at hr
  ·simp only[aa] at hr
   subst hr
   split
   ·exact .inl ⟨_,_,rfl⟩
   ·exact .inl ⟨_,_,rfl⟩
  ·simp at hr
 ·by_cases hz:wr f e.list=0
  ·simp[hz,A3,yi,wq,xR]
  ·simp[hz,A3,wq,xR]
theorem c1O (en:List Enum) (e:Expr) (he:EW e) (o:Bool) (h:List PObj):wj L 123 [.list o (en.map wA),wl e] h=some (.int .i64 (Af en e),h):=by
 refine wD (hL 123 _ rfl) rfl ?_
 obtain⟨ht,_,_⟩:=he.self
 have hs:=Ht hL en e.t ht false []
 have hh:=FM hL en e.t e.v ht false []
 unfold Af
 rcases(by omega:e.kind=1∨e.kind=8∨e.kind=9∨(¬e.kind=1∧¬e.kind=8∧¬e.kind=9)) with hk|hk|hk|⟨h1,h8,h9⟩
 ·have h8:¬e.kind=8:=by omega
  have h9:¬e.kind=9:=by omega
  by_cases hz:yj en e.t=0
  ·have eX:¬0<yj en e.t:=by omega
   simp[BY,tf hk,tf h8,tf h9,hs,hz,eX,need,wu]
  ·have eX:0<yj en e.t:=by omega
   have eH:(0:Int)<yj en e.t:=by omega
   cases hq:Cu en e.t e.v<;>rw[hq] at hh<;>simp[BY,tf hk,tf h8,tf h9,hs,hh,hz,eX,eH,hq,need,wu]
 ·have h1:¬e.kind=1:=by omega
  have h9:¬e.kind=9:=by omega
  by_cases hz:yj en e.t=0
  ·have eX:¬0<yj en e.t:=by omega
   simp[BY,tf hk,tf h1,tf h9,hs,hz,eX,need,wu]
  ·have eX:0<yj en e.t:=by omega
   have eH:(0:Int)<yj en e.t:=by omega
   cases hq:Cu en e.t e.v<;>rw[hq] at hh<;>simp[BY,tf hk,tf h1,tf h9,hs,hh,hz,eX,eH,hq,need,wu]
 ·have h1:¬e.kind=1:=by omega
  have h8:¬e.kind=8:=by omega
  by_cases hz:yj en e.t=0
  ·have eX:¬0<yj en e.t:=by omega
   simp[BY,tf hk,tf h1,tf h8,hs,hz,eX,need,wu]
  ·have eX:0<yj en e.t:=by omega
   by_cases hl:e.args.length=yj en e.t
   ·have nX:((e.args.length:Int)=(yj en e.t:Int))=True:=eq_true (by omega)
    simp[BY,tf hk,tf h1,tf h8,hs,hz,eX,nX,tf hl,need,wu]
   ·have nX:((e.args.length:Int)=(yj en e.t:Int))=False:=eq_false (by omega)
    simp[BY,tf hk,tf h1,tf h8,hs,hz,eX,nX,tf hl,need,wu]
 ·simp[BY,tf h1,tf h8,tf h9,hs]
theorem Dv (en:List Enum) (e:Expr) (he:XW e) (o:Bool):∃h',wj L 94 [.list o (en.map wA),wl e] []=some (.int .i64 (Ae en e),h'):=by
 suffices H:∃r,wj L 94 [.list o (en.map wA),wl e] []=some r∧r.1 = .int .i64 (Ae en e) by
  obtain⟨⟨v,h'⟩,h1,h2⟩:=H
  exact⟨h',by rw[h1]; simp only at h2; rw[h2]⟩
 refine Be (hL 94 _ rfl) rfl ?_
 obtain⟨h',hc⟩:=c1N hL e he.ew he.parts
 have hE:=FJ hL e [.cells [.list false (en.map wA)],.cells [.int .i64 0]]
 unfold Ae
 by_cases hz:Cr e=0
 ·rw[hz] at hc ⊢
  rw[zF]
  simp[GR,hc,hE]
  have eC:∀(x:Expr),EW x→∀(c:PV),wK L 189 [.ptr 2 0,.ptr 0 0,.ptr 1 0,wl x] [.cells [.list false (en.map wA)],.cells [c],.loop true]=some (if Af en x=0 then(.val (.bool true),[.cells [.list false (en.map wA)],.cells [c],.loop true]) else(.val (.bool false),[.cells [.list false (en.map wA)],.cells [.int .i64 (Af en x)],.over none])):=by
   intro x hx c
   have ho:=c1O hL en x hx false []
   refine FL (as:=[.ptr 0 0,.ptr 1 0,wl x]) (hL 189 _ rfl) rfl rfl rfl ?_
   by_cases hz:Af en x=0
   ·rw[hz] at ho
    simp[Hc,ho,hz,wq]
   ·simp[Hc,ho,hz,yi,wq]
  obtain⟨y,lg,pQ⟩:=yAt [.cells [.list false (en.map wA)],.cells [.int .i64 0],.loop true] (λx=>if Af en x=0 then(.val (.bool true),[.cells [.list false (en.map wA)],.cells [.int .i64 0],.loop true]) else(.val (.bool false),[.cells [.list false (en.map wA)],.cells [.int .i64 (Af en x)],.over none]))
  have oe:yM y e.list [.cells [.list false (en.map wA)],.cells [.int .i64 0],.loop true]=some (if wr (Af en) e.list=0 then(.val (.bool true),[.cells [.list false (en.map wA)],.cells [.int .i64 0],.loop true]) else(.val (.bool false),[.cells [.list false (en.map wA)],.cells [.int .i64 (wr (Af en) e.list)],.over none])):=by
   refine FH (f:=Af en) (R:=λq=>(.val (.bool false),[.cells [.list false (en.map wA)],.cells [.int .i64 q],.over none])) e.list ?_ ?_ ?_
   ·intro x _ hx; rw[lg,ah hx]
   ·intro x _ hx; rw[lg,af hx]
   ·intro e h'; simp
  refine FK hL e he.ew (cs:=[.ptr 0 0,.ptr 1 0]) (by simp) (by simp) (by simp) y ?_ ?_ _ oe ?_
  ·intro x hx h' r hr
   obtain⟨rfl,rfl⟩:=pQ x h' r hr
   simpa using eC x (he.ew.mem hx) (.int .i64 0)
  ·intro x h r hr
   obtain⟨rfl,rfl⟩:=pQ x h r hr
   split
   ·exact .inl ⟨_,_,rfl⟩
   ·exact .inl ⟨_,_,rfl⟩
  ·by_cases hf:wr (Af en) e.list=0
   ·simp[hf,A3,yi,wq,xR]
   ·simp[hf,A3,wq,xR]
 ·simp[GR,hc,hz,wu,yi,wq,xR]
end
def xx (t:Nat) (a b e:Int):PV := .iface t (.agg [.int .i64 a,.int .i64 b,.int .i64 e])
def wv (t:Nat) (a b e:Int):Out:=if e=0 then .val (.tuple []) else .boom (xx t a b e)
theorem wZ (t:Nat) (a b:Int):wv t a b 0 = .val (.tuple []):=rfl
theorem zo {t:Nat} {a b e:Int} (h:e≠0):wv t a b e = .boom (xx t a b e):=af h
def wT (en:List Enum) (a b:Int):PObj := .cells [.list false (en.map wA),.int .i64 a,.int .i64 b]
section
variable {L:Nat→Option PFunc} (hL:∀k f,LS k=some f→L k=some f)
include hL
variable (en:List Enum) (n:Nat) (a b:Int) (h:List PObj) (hn:h[n]? = some (wT en a b))
include hn
theorem Cv (e:Int):wK L 49 [.ptr n 0,.bool true,.int .i64 e] h=some (.val (.tuple []),h):=by
 have _:=hn
 refine zn (hL 49 _ rfl) rfl ?_
 simp[GM]
theorem B5 (e:Int):wK L 49 [.ptr n 0,.bool false,.int .i64 e] h=some (.boom (xx 2 a b e),h):=by
 refine zn (hL 49 _ rfl) rfl ?_
 simp[GM,hn,wT,xx]
theorem FN (s:Str):wK L 89 [.ptr n 0,.str s] h=some (wv 2 a b (zZ s),h):=by
 have hi:=Oq hL s []
 have hT:=Cv hL en n a b h hn
 have hF:=B5 hL en n a b h hn
 refine zn (hL 89 _ rfl) rfl ?_
 unfold zZ
 cases hs:zY s<;>rw[hs] at hi<;>simp[Jf,hi,hT,hF,wv]
theorem Kr (e:Int):wK L 93 [.ptr n 0,.int .i64 e] h=some (wv 2 a b e,h):=by
 have hT:=Cv hL en n a b h hn
 have hF:=B5 hL en n a b h hn
 refine zn (hL 93 _ rfl) rfl ?_
 by_cases he:e=0
 ·subst he; simp[GQ,hT,wv]
 ·simp[GQ,hF,he,wv]
theorem c6Y (u:Enum) (hu:u.tags.length≤1100000):wK L 50 [.ptr n 0,wA u] h=some (wv 2 a b (Dw u),h):=by
 have hi:=λs=>FN hL en n a b h hn s
 have hT:=Cv hL en n a b h hn
 have hF:=B5 hL en n a b h hn
 refine zn (hL 50 _ rfl) rfl ?_
 unfold Dw
 by_cases h0:zZ u.name=0
 ·by_cases h1:u.tags=[]
  ·simp[DT,hi,h0,h1,hF,need,wu,wv]
  ·have jU:0<u.tags.length:=b7.2 h1
   have lL:(0:Int)<u.tags.length:=by omega
   by_cases h2:u.tags.length≤16
   ·have jV:(u.tags.length:Int)≤16:=by omega
    simp[DT,hi,h0,h1,jU,lL,h2,jV,hT,wZ]
    refine Oa u.tags zZ (λi (x:PV)=>[(3,x),(6,.int .i64 i)]) .dead ?_ ?_ ?_ rfl
    ·intro i dL dc x ih
     have hw:=wF i (by omega)
     simp[dL,hw,hi,dc,wZ]
     simpa using ih _
    ·intro i dL dc hf x
     simp[dL,hi,zo dc,hf]
    ·intro h0 x
     simp[h0,wZ]
   ·have jV:¬(u.tags.length:Int)≤16:=by omega
    simp[DT,hi,h0,h1,jU,lL,h2,jV,hT,hF,need,wu,wv]
 ·simp[DT,hi,h0,wu,wv]
theorem FO (l:List Decl) (hl:l.length≤1100000) (hd:∀d∈l,DW d) (port:Bool) (o:Bool):wK L 90 [.ptr n 0,.list o (l.map wo),.bool port] h=some (wv 2 a b (wr (yT en port) l),h):=by
 have hi:=λs=>FN hL en n a b h hn s
 have hT:=Cv hL en n a b h hn
 have hF:=B5 hL en n a b h hn
 refine zn (hL 90 _ rfl) rfl ?_
 simp[Jg]
 refine zX l (yT en port) (λi (x:(PV×PV×PV×PV×PV)×Nat)=>[(3,x.1.1),(4,x.1.2.1),(8,x.1.2.2.1),(9,x.1.2.2.2.1),(10,x.1.2.2.2.2),(7,.int .i64 i)]) (λ_ x=>x.2) (λ_ _=>h) ((.dead,.dead,.dead,.dead,.dead),0) ?_ ?_ ?_ rfl rfl rfl
 ·intro i dL dc x ih
  have hw:=wF i (by omega)
  have lh:=hd _ (aj dL)
  have dt:=lh.clock
  have hs:=Ht hL en l[i].type lh.type false []
  unfold yT at dc
  rw[yy,yy,yy,yy,AA (by decide),AA (by decide),AA (by decide),aw,aw] at dc
  obtain⟨k1,k2,k3,k4,k5⟩:=dc
  have k2i:(0:Int)<yj en l[i].type:=by omega
  have k4i:(l[i].clock.length:Int)≤4:=by omega
  have fg:(!port||decide (l[i].clock=[]))=true:=k3
  have hE:∀o∈l[i].clock,A4 en o=0:=yS.1 k5
  cases port with
  | false =>
    simp[dL,hi,k1,wZ,hn,wT,hs,k2,k2i,k4,k4i,hT]
    refine zX l[i].clock (A4 en) (λj (y:PV×Nat)=>[(10,.int .i64 j),(4,y.1)]) (λ_ y=>y.2) (λ_ _=>h) (x.1.2.1,x.2+1) ?_ ?_ ?_ rfl rfl rfl
    ·intro j hj dm y ih2
     have gM:=wF j (by omega)
     have gN:=FM hL en l[i].clock[j].t l[i].clock[j].tag (lh.on _ (aj hj)) false []
     unfold A4 at dm
     rw[yy,AA (by decide),ak,aw] at dm
     obtain⟨q1,q2,q3⟩:=dm
     rw[q3] at gN
     simp[hj,hi,q1,wZ,tf q2,hn,wT,gN,hT,gM]
     simpa using ih2 (_,_)
    ·intro j hj dm _ y
     exact absurd (hE _ (aj hj)) dm
    ·intro _ y
     simp[hw]
     simpa using ih ((_,_,_,_,_),_)
  | true =>
    have jw:l[i].clock=[]:=by simpa using fg
    simp[dL,hi,k1,wZ,hn,wT,hs,k2,k2i,k4,k4i,hT,tf jw]
    refine zX l[i].clock (A4 en) (λj (y:PV×Nat)=>[(10,.int .i64 j),(4,y.1)]) (λ_ y=>y.2) (λ_ _=>h) (x.1.2.1,x.2+1) ?_ ?_ ?_ rfl rfl rfl
    ·intro j hj dm y ih2
     have gM:=wF j (by omega)
     have gN:=FM hL en l[i].clock[j].t l[i].clock[j].tag (lh.on _ (aj hj)) false []
     unfold A4 at dm
     rw[yy,AA (by decide),ak,aw] at dm
     obtain⟨q1,q2,q3⟩:=dm
     rw[q3] at gN
     simp[hj,hi,q1,wZ,tf q2,hn,wT,gN,hT,gM]
     simpa using ih2 (_,_)
    ·intro j hj dm _ y
     exact absurd (hE _ (aj hj)) dm
    ·intro _ y
     simp[hw]
     simpa using ih ((_,_,_,_,_),_)
 ·intro i dL dc hf x
  have lh:=hd _ (aj dL)
  have dt:=lh.clock
  have hs:=Ht hL en l[i].type lh.type false []
  rw[hf]
  unfold yT at dc ⊢
  by_cases k1:zZ l[i].name=0
  ·by_cases k2:0<yj en l[i].type
   ·have k2i:(0:Int)<yj en l[i].type:=by omega
    by_cases k3:port=true∧l[i].clock≠[]
    ·have li:¬l[i].clock=[]:=k3.2
     have jw:¬(l[i].clock.length:Int)=0:=by
      intro e; exact k3.2 (bu.1 (by omega))
     rw[k3.1]
     simp[dL,hi,k1,wZ,hn,wT,hs,k2,k2i,hT,hF,li,jw,need,wu,wv]
    ·by_cases k4:l[i].clock.length≤4
     ·have k4i:(l[i].clock.length:Int)≤4:=by omega
      have fg:(!port||decide (l[i].clock=[]))=true:=by
       cases port with
       | false=>rfl
       | true=>simpa using k3
      have hE:wr (A4 en) l[i].clock≠0:=by
       intro e; apply dc
       simp[k1,k2,fg,k4,e]
      have dN:wu (zZ l[i].name) (wu (need (decide (0<yj en l[i].type)) 10) (wu (need (!port||decide (l[i].clock=[])) 11) (wu (need (decide (l[i].clock.length≤4)) 3) (wr (A4 en) l[i].clock))))=wr (A4 en) l[i].clock:=by
       simp[k1,k2,fg,k4]
      rw[dN]
      cases port with
      | true =>
        have jw:l[i].clock=[]:=by simpa using fg
        rw[jw] at hE; exact absurd rfl hE
      | false=>
      simp[dL,hi,k1,wZ,hn,wT,hs,k2,k2i,k4,k4i,hT]
      refine zX l[i].clock (A4 en) (λj (y:PV×Nat)=>[(10,.int .i64 j),(4,y.1)]) (λ_ y=>y.2) (λ_ _=>h) (x.1.2.1,x.2+1) ?_ ?_ ?_ rfl rfl rfl
      ·intro j hj dm y ih2
       have gM:=wF j (by omega)
       have gN:=FM hL en l[i].clock[j].t l[i].clock[j].tag (lh.on _ (aj hj)) false []
       unfold A4 at dm
       rw[yy,AA (by decide),ak,aw] at dm
       obtain⟨q1,q2,q3⟩:=dm
       rw[q3] at gN
       simp[hj,hi,q1,wZ,tf q2,hn,wT,gN,hT,gM]
       simpa using ih2 (_,_)
      ·intro j hj dm iL y
       have gN:=FM hL en l[i].clock[j].t l[i].clock[j].tag (lh.on _ (aj hj)) false []
       rw[iL]
       unfold A4
       by_cases q1:zZ l[i].clock[j].name=0
       ·by_cases q2:l[i].clock[j].t=2
        ·simp[hj,hi,q1,wZ,tf q2,hF,need,wu,wv]
        ·cases q3:Cu en l[i].clock[j].t l[i].clock[j].tag with
         | true=>exfalso; apply dm; simp[A4,q1,q2,q3]
         | false=>rw[q3] at gN; simp[hj,hi,q1,wZ,tf q2,hn,wT,gN,hF,need,wu,wv]
       ·simp[hj,hi,zo q1,q1,wu]
      ·intro hz y
       exact absurd hz hE
     ·have k4i:¬(l[i].clock.length:Int)≤4:=by omega
      have li:¬l[i].clock=[]:=by intro e; rw[e] at k4; simp at k4
      have gZ:port=false:=by
       cases port with
       | false=>rfl
       | true=>exact absurd ⟨rfl,li⟩ k3
      rw[gZ]
      simp[dL,hi,k1,wZ,hn,wT,hs,k2,k2i,k4,k4i,hT,hF,need,wu,wv]
   ·have k2i:¬(0:Int)<yj en l[i].type:=by omega
    simp[dL,hi,k1,wZ,hn,wT,hs,k2,k2i,hF,need,wu,wv]
  ·simp[dL,hi,zo k1,k1,wu]
 ·intro h0 x
  simp[h0,wZ]
end
section
variable {L:Nat→Option PFunc} (hL:∀k f,LS k=some f→L k=some f)
include hL
section
variable (en:List Enum) (n:Nat) (a b:Int) (h:List PObj) (hn:h[n]? = some (wT en a b))
include hn
theorem FP (q:Eqn) (hq:QW q):wK L 91 [.ptr n 0,wX q] h=some (wv 2 a b (zm en q),h):=by
 have hi:=λs=>FN hL en n a b h hn s
 have hr:=λe=>Kr hL en n a b h hn e
 have hT:=Cv hL en n a b h hn
 have hF:=B5 hL en n a b h hn
 obtain⟨h',hx⟩:=Dv hL en q.right hq.right false
 have qV:=hq.left
 refine zn (hL 91 _ rfl) rfl ?_
 unfold zm
 by_cases h1:q.left=[]
 ·simp[E9,h1,hF,need,wu,wv]
 have jU:0<q.left.length:=b7.2 h1
 have lL:(0:Int)<q.left.length:=by omega
 by_cases h2:q.left.length≤64
 ·have jV:(q.left.length:Int)≤64:=by omega
  simp[E9,h1,jU,lL,h2,jV,hT]
  refine Oa q.left zZ (λi (x:PV)=>[(3,x),(6,.int .i64 i)]) .dead ?_ ?_ ?_ rfl
  ·intro i dL dc x ih
   have hw:=wF i (by omega)
   simp[dL,hw,hi,dc,wZ]
   simpa using ih _
  ·intro i dL dc hf x
   simp[dL,hi,zo dc,hf,Bj dc]
  ·intro h0 x
   rw[h0,zF]
   by_cases h3:Ae en q.right=0
   ·rw[h3] at hx
    by_cases h4:q.left.length=1
    ·have pR:(q.left.length:Int)=1:=by omega
     simp[hn,wT,hx,h3,hr,wZ,tf h4,tf pR,hT]
    ·have pR:¬(q.left.length:Int)=1:=by omega
     by_cases h5:q.right.kind=10
     ·simp[hn,wT,hx,h3,hr,wZ,tf h4,tf pR,tf h5,hT]
     ·simp[hn,wT,hx,h3,hr,wZ,tf h4,tf pR,tf h5,hF,need,wv]
   ·simp[hn,wT,hx,hr,zo h3,Bj h3]
 ·have jV:¬(q.left.length:Int)≤64:=by omega
  simp[E9,h1,jU,lL,h2,jV,hT,hF,need,wu,wv]
theorem Hu (l:List Trn) (hl:l.length≤1100000) (ht:∀t∈l,XW t.cond) (m:Nat) (strong:Bool) (o:Bool):wK L 121 [.ptr n 0,.list o (l.map xn),.int .i64 m,.bool strong] h=some (wv 2 a b (wr (Dx en m strong) l),h):=by
 have hr:=λe=>Kr hL en n a b h hn e
 have hT:=Cv hL en n a b h hn
 have hF:=B5 hL en n a b h hn
 refine zn (hL 121 _ rfl) rfl ?_
 simp[Jp]
 refine zX l (Dx en m strong) (λi (x:PV×Nat)=>[(4,x.1),(7,.int .i64 i)]) (λ_ x=>x.2) (λ_ _=>h) (.dead,0) ?_ ?_ ?_ rfl rfl rfl
 ·intro i dL dc x ih
  have hw:=wF i (by omega)
  have oh:=ht _ (aj dL)
  obtain⟨h',hx⟩:=Dv hL en l[i].cond oh false
  obtain⟨h'',hs⟩:=OG hL l[i].cond oh.ew
  unfold Dx at dc
  rw[yy,yy,AA (by decide),AA (by decide),aw] at dc
  obtain⟨⟨k1,k2⟩,k3,k4⟩:=dc
  rw[k3] at hx
  cases strong with
  | false =>
    simp[dL,hw,k1,k2,hn,wT,hx,hr,wZ,hT]
    simpa using ih (_,_)
  | true =>
    have k4:Du l[i].cond=true:=by simpa using k4
    rw[k4] at hs
    simp[dL,hw,k1,k2,hn,wT,hx,hr,wZ,hs,hT]
    simpa using ih (_,_)
 ·intro i dL dc hf x
  have oh:=ht _ (aj dL)
  obtain⟨h',hx⟩:=Dv hL en l[i].cond oh false
  obtain⟨h'',hs⟩:=OG hL l[i].cond oh.ew
  rw[hf]
  unfold Dx at dc ⊢
  by_cases k1:0≤l[i].to
  ·by_cases k2:l[i].to<m
   ·by_cases k3:Ae en l[i].cond=0
    ·rw[k3] at hx
     cases strong with
     | false=>exfalso; apply dc; simp[k1,k2,k3]
     | true =>
       cases k4:Du l[i].cond with
       | true=>exfalso; apply dc; simp[k1,k2,k3,k4]
       | false=>rw[k4] at hs; simp[dL,k1,k2,hn,wT,hx,hr,wZ,hs,hT,hF,k3,need,wu,wv]
    ·simp[dL,k1,k2,hn,wT,hx,hr,zo k3,hT,need,wu,k3]
   ·simp[dL,k1,k2,hF,need,wu,wv]
  ·simp[dL,k1,hF,need,wu,wv]
 ·intro h0 x
  simp[h0,wZ]
theorem OH:∀(d:Nat),d≤3→∀au:zB,au.length≤1100000→(∀x∈au,SW x)→wK L 92 [.ptr n 0,wY au,.int .i64 (3 - (d:Int))] h=some (wv 2 a b (B7 en d au),h)
 | 0, _, au, dH, ha => by
   have hF:=B5 hL en n a b h hn
   refine zn (hL 92 _ rfl) rfl ?_
   simp[DV,hF,B7,wv]
 | d + 1, hd, au, dH, ha => by
   have ih:=OH d (by omega)
   have hi:=λs=>FN hL en n a b h hn s
   have hT:=Cv hL en n a b h hn
   have hF:=B5 hL en n a b h hn
   have qW:(3:Int) - ((d+1:Nat):Int)=2 - (d:Int):=by omega
   rw[qW]
   have cS:2 - (d:Int)<3:=by omega
   have oi:IntKind.i64.wrap (2 - (d:Int)+1)=3 - (d:Int):=by rw[CP]<;>omega
   refine zn (hL 92 _ rfl) rfl ?_
   simp only[B7]
   by_cases h1:au=[]
   ·simp[DV,cS,hT,hF,h1,need,wu,wv]
   have jU:0<au.length:=b7.2 h1
   have lL:(0:Int)<au.length:=by omega
   by_cases h2:au.length≤8
   ·have jV:(au.length:Int)≤8:=by omega
    simp[DV,cS,hT,h1,jU,lL,h2,jV]
    refine zX au (Hv en au.length (B7 en d)) (λi (x:(PV×PV×PV×PV×PV×PV×PV×PV×PV)×Nat)=>[(4,x.1.1),(5,x.1.2.1),(6,x.1.2.2.1),(9,.int .i64 i),(10,x.1.2.2.2.1),(11,x.1.2.2.2.2.1),(12,x.1.2.2.2.2.2.1),(13,x.1.2.2.2.2.2.2.1),(14,x.1.2.2.2.2.2.2.2.1),(15,x.1.2.2.2.2.2.2.2.2)]) (λ_ x=>x.2) (λ_ _=>h) ((.dead,.dead,.dead,.dead,.dead,.dead,.dead,.dead,.dead),1) ?_ ?_ ?_ rfl rfl rfl
    ·intro i dL dc x ih2
     have hw:=wF i (by omega)
     have hs:=ha _ (aj dL)
     have gG:=FO hL en n a b h hn au[i].locals hs.locals hs.ls false false
     have gy:=Hu hL en n a b h hn au[i].unl hs.unl hs.us au.length true false
     have kN:=Hu hL en n a b h hn au[i].til hs.til hs.ts au.length false false
     have ez:=hs.eqs
     have pM:=hs.autos
     unfold Hv at dc
     rw[yy,yy,yy,yy,yy,yy,AA (by decide),aw] at dc
     obtain⟨k0,⟨c1,c2,c3,c4,c5⟩,k1,k2,k3,k4,k5⟩:=dc
     rw[k1] at gG; rw[k4] at gy; rw[k5] at kN
     have c1i:(au[i].locals.length:Int)≤256:=by omega
     have c2i:(au[i].eqs.length:Int)≤256:=by omega
     have c3i:(au[i].autos.length:Int)≤8:=by omega
     have c45:(if au[i].unl.length<au[i].til.length then(au[i].til.length:Int) else(au[i].unl.length:Int))≤4:=by split<;>omega
     have e2:=yS.1 k2
     have e3:=yS.1 k3
     simp[dL,hi,k0,wZ,c1,c2,c3,c1i,c2i,c3i,c45,hT,gG]
     refine zX au[i].eqs (zm en) (λj (y:PV×Nat)=>[(5,y.1),(12,.int .i64 j)]) (λ_ y=>y.2) (λ_ _=>h) (x.1.2.1,x.2+1) ?_ ?_ ?_ rfl rfl rfl
     ·intro j hj dm y ih3
      have gM:=wF j (by omega)
      have hc:=FP hL en n a b h hn au[i].eqs[j] (hs.es _ (aj hj))
      rw[dm] at hc
      simp[hj,gM,hc,wZ]
      simpa using ih3 (_,_)
     ·intro j hj dm _ y
      exact absurd (e2 _ (aj hj)) dm
     ·intro _ y
      simp
      refine zX au[i].autos (B7 en d) (λj (z:PV×Nat)=>[(6,z.1),(15,.int .i64 j)]) (λ_ z=>z.2) (λ_ _=>h) (x.1.2.2.1,y.2) ?_ ?_ ?_ rfl rfl rfl
      ·intro j hj dm z ih3
       have gM:=wF j (by omega)
       have hc:=ih au[i].autos[j] (hs.as _ (aj hj)) (hs.ss _ (aj hj))
       rw[dm] at hc
       simp[hj,gM,oi,hc,wZ]
       simpa using ih3 (_,_)
      ·intro j hj dm _ z
       exact absurd (e3 _ (aj hj)) dm
      ·intro _ z
       simp[gy,kN,wZ,hw]
       simpa using ih2 ((_,_,_,_,_,_,_,_,_),_)
    ·intro i dL dc hf x
     have hs:=ha _ (aj dL)
     have gG:=FO hL en n a b h hn au[i].locals hs.locals hs.ls false false
     have gy:=Hu hL en n a b h hn au[i].unl hs.unl hs.us au.length true false
     have kN:=Hu hL en n a b h hn au[i].til hs.til hs.ts au.length false false
     have ez:=hs.eqs
     have pM:=hs.autos
     rw[hf]
     unfold Hv at dc ⊢
     by_cases k0:zZ au[i].name=0
     ·rw[k0,zF] at dc ⊢
      by_cases c1:au[i].locals.length≤256
      rotate_left
      ·have c1i:¬(au[i].locals.length:Int)≤256:=by omega
       simp[dL,hi,k0,wZ,c1,c1i,hF,need,wu,wv]
      have c1i:(au[i].locals.length:Int)≤256:=by omega
      by_cases c2:au[i].eqs.length≤256
      rotate_left
      ·have c2i:¬(au[i].eqs.length:Int)≤256:=by omega
       simp[dL,hi,k0,wZ,c1,c1i,c2,c2i,hF,need,wu,wv]
      have c2i:(au[i].eqs.length:Int)≤256:=by omega
      by_cases c3:au[i].autos.length≤8
      rotate_left
      ·have c3i:¬(au[i].autos.length:Int)≤8:=by omega
       simp[dL,hi,k0,wZ,c1,c1i,c2,c2i,c3,c3i,hF,need,wu,wv]
      have c3i:(au[i].autos.length:Int)≤8:=by omega
      by_cases c4:au[i].unl.length≤4∧au[i].til.length≤4
      rotate_left
      ·have c45:¬(if au[i].unl.length<au[i].til.length then(au[i].til.length:Int) else(au[i].unl.length:Int))≤4:=by split<;>omega
       have c4n:¬(au[i].unl.length≤4∧au[i].til.length≤4):=c4
       simp[dL,hi,k0,wZ,c1,c1i,c2,c2i,c3,c3i,c45,hF,need,wu,wv,c4n]
      have c45:(if au[i].unl.length<au[i].til.length then(au[i].til.length:Int) else(au[i].unl.length:Int))≤4:=by split<;>omega
      have jW:need (decide (au[i].locals.length≤256∧au[i].eqs.length≤256∧au[i].autos.length≤8∧au[i].unl.length≤4∧au[i].til.length≤4)) 3=0:=by
       rw[AA (by decide),aw]; exact⟨c1,c2,c3,c4⟩
      rw[jW,zF] at dc ⊢
      by_cases k1:wr (yT en false) au[i].locals=0
      rotate_left
      ·simp[dL,hi,k0,wZ,c1,c2,c3,c1i,c2i,c3i,c45,hT,gG,zo k1,Bj k1]
      rw[k1,zF] at dc ⊢
      rw[k1] at gG
      simp[dL,hi,k0,wZ,c1,c2,c3,c1i,c2i,c3i,c45,hT,gG]
      refine zX au[i].eqs (zm en) (λj (y:PV×Nat)=>[(5,y.1),(12,.int .i64 j)]) (λ_ y=>y.2) (λ_ _=>h) (x.1.2.1,x.2+1) ?_ ?_ ?_ rfl rfl rfl
      ·intro j hj dm y ih3
       have gM:=wF j (by omega)
       have hc:=FP hL en n a b h hn au[i].eqs[j] (hs.es _ (aj hj))
       rw[dm] at hc
       simp[hj,gM,hc,wZ]
       simpa using ih3 (_,_)
      ·intro j hj dm iL y
       have hc:=FP hL en n a b h hn au[i].eqs[j] (hs.es _ (aj hj))
       rw[iL]
       simp[hj,hc,zo dm,Bj dm]
      ·intro k2 y
       rw[k2,zF] at dc ⊢
       simp
       refine zX au[i].autos (B7 en d) (λj (z:PV×Nat)=>[(6,z.1),(15,.int .i64 j)]) (λ_ z=>z.2) (λ_ _=>h) (x.1.2.2.1,y.2) ?_ ?_ ?_ rfl rfl rfl
       ·intro j hj dm z ih3
        have gM:=wF j (by omega)
        have hc:=ih au[i].autos[j] (hs.as _ (aj hj)) (hs.ss _ (aj hj))
        rw[dm] at hc
        simp[hj,gM,oi,hc,wZ]
        simpa using ih3 (_,_)
       ·intro j hj dm iL z
        have hc:=ih au[i].autos[j] (hs.as _ (aj hj)) (hs.ss _ (aj hj))
        rw[iL]
        simp[hj,oi,hc,zo dm,Bj dm]
       ·intro k3 z
        rw[k3,zF] at dc ⊢
        by_cases k4:wr (Dx en au.length true) au[i].unl=0
        ·rw[k4,zF] at dc ⊢
         rw[k4] at gy
         simp[gy,kN,wZ,zo dc]
        ·simp[gy,zo k4,Bj k4]
     ·simp[dL,hi,zo k0,Bj k0]
    ·intro h0 x
     simp[h0,wZ]
   ·have jV:¬(au.length:Int)≤8:=by omega
    simp[DV,cS,hT,hF,h1,jU,lL,h2,jV,need,wu,wv]
end
end
end PI.Sc
set_option maxRecDepth 100000
set_option linter.unusedSimpArgs false
set_option linter.unusedVariables false
namespace PI
section
variable {L:Nat→Option PFunc} {V l:List PV} {g:Nat} {h:List PObj}
def Ee (L:Nat→Option PFunc) (f:PFunc) (P:PV×List PObj→Prop) (e:PExit) (st:St):Prop:=∃v h',BB L f (.val v,h') e st∧P (v,h')
@[simp] theorem b6J (f:PFunc) (P:PV×List PObj→Prop):Ee L f P .normal ⟨V,l,g,h⟩=∃v,xG ⟨V,l,g,h⟩ f.results=some v∧P (v,w5 V f.results h):=by
 simp only[Ee,OI,eq_iff_iff]
 constructor
 ·rintro⟨v,h',⟨v',h1,h2⟩,h3⟩
  simp only[ac,Out.val.injEq] at h2
  obtain⟨rfl,rfl⟩:=h2
  exact⟨v,h1,h3⟩
 ·rintro⟨v,h1,h2⟩; exact⟨v,_,⟨v,h1,rfl⟩,h2⟩
@[simp] theorem d0S (f:PFunc) (P:PV×List PObj→Prop):Ee L f P .ret ⟨V,l,g,h⟩=∃v,xG ⟨V,l,g,h⟩ f.results=some v∧P (v,w5 V f.results h):=b6J (L:=L) f P
@[simp] theorem c60 (f:PFunc) (P:PV×List PObj→Prop) (kd:Nat) (cs:List PV) (p:Option PV):Ee L f P (.after kd cs p) ⟨V,l,g,h⟩=(f.code.NR=true∧∃h1 x,yt L kd (p.getD .nilIface::cs) h=some h1∧xG ⟨V,l,g,h1⟩ f.results=some x∧P (x,w5 V f.results h1)):=by
 simp only[Ee,c1m,eq_iff_iff]
 constructor
 ·rintro⟨v,h',⟨h0,h1,x,h2,h3,h4⟩,h5⟩
  simp only[ac,Out.val.injEq] at h4
  obtain⟨rfl,rfl⟩:=h4
  exact⟨h0,h1,v,h2,h3,h5⟩
 ·rintro⟨h0,h1,x,h2,h3,h5⟩; exact⟨x,_,⟨h0,h1,x,h2,h3,rfl⟩,h5⟩
theorem Mq {k:Nat} {f:PFunc} {args:List PV} {hp:List PObj} {P:PV×List PObj→Prop} (hf:L k=some f) (hl:args.length=f.params)
  (hw:wpL L f.code ⟨args.map dem++List.replicate (f.nv - f.params) .dead,[],0,hp⟩ (Ee L f P)) (hs:f.split=false:=by rfl) (fE:f.prim=none:=by rfl) (hr:f.code.isRound=false:=by rfl):∃r,wj L k args hp=some r∧P r:=by
 rw[B8] at hw
 obtain⟨e,st,h1,v,h',h2,h3⟩:=hw
 exact⟨(v,h'),c3b hf hl (B8.2 ⟨e,st,h1,h2⟩) hs fE hr,h3⟩
def De (L:Nat→Option PFunc) (f:PFunc) (P:Out×List PObj→Prop) (e:PExit) (st:St):Prop:=∃r,BB L f r e st∧P r
@[simp] theorem b8n (f:PFunc) (P:Out×List PObj→Prop):De L f P .normal ⟨V,l,g,h⟩=∃v,xG ⟨V,l,g,h⟩ f.results=some v∧P (.val v,w5 V f.results h):=by
 simp only[De,OI,eq_iff_iff]
 constructor
 ·rintro⟨r,⟨v,h1,rfl⟩,h2⟩; exact⟨v,h1,h2⟩
 ·rintro⟨v,h1,h2⟩; exact⟨_,⟨v,h1,rfl⟩,h2⟩
@[simp] theorem d2U (f:PFunc) (P:Out×List PObj→Prop):De L f P .ret ⟨V,l,g,h⟩=∃v,xG ⟨V,l,g,h⟩ f.results=some v∧P (.val v,w5 V f.results h):=b8n (L:=L) f P
@[simp] theorem d0T (f:PFunc) (P:Out×List PObj→Prop) (v:PV):De L f P (.boom v) ⟨V,l,g,h⟩=P (.boom v,h):=by
 simp only[De,c3a,eq_iff_iff]
 exact⟨fun⟨r,h1,h2⟩=>h1▸h2,λh2=>⟨_,rfl,h2⟩⟩
theorem BR {k:Nat} {f:PFunc} {args:List PV} {hp:List PObj} {P:Out×List PObj→Prop} (hf:L k=some f) (hl:args.length=f.params)
  (hw:wpL L f.code ⟨args.map dem++List.replicate (f.nv - f.params) .dead,[],0,hp⟩ (De L f P)) (hs:f.split=false:=by rfl) (fE:f.prim=none:=by rfl) (hr:f.code.isRound=false:=by rfl):∃r,wK L k args hp=some r∧P r:=by
 rw[B8] at hw
 obtain⟨e,st,h1,r,h2,h3⟩:=hw
 exact⟨r,zn hf hl (B8.2 ⟨e,st,h1,h2⟩) hs fE hr,h3⟩
end
end PI
namespace PI.Sc
open Go (IntKind BinOp UnOp)
open Short
def xK (t:Nat):Option Bad→Out
 | none => .val (.tuple [])
 | some b => .boom (xx t b.node b.eq b.err)
section
variable {L:Nat→Option PFunc} (hL:∀k f,LS k=some f→L k=some f)
include hL
theorem OJ (en:List Enum) (n:Nat) (a b:Int) (h:List PObj) (hn:h[n]? = some (wT en a b)) (i:Nat) (nd:Node) (gA:NW nd):∃k:Int,wK L 51 [.ptr n 0,.int .i64 i,wE nd] h=some (xK 2 (yr en nd i),h.set n (wT en i k)):=by
 suffices H:∃r,wK L 51 [.ptr n 0,.int .i64 i,wE nd] h=some r∧∃k:Int,r=(xK 2 (yr en nd i),h.set n (wT en i k)) by
  obtain⟨r,h1,k,rfl⟩:=H
  exact⟨k,h1⟩
 refine BR (hL 51 _ rfl) rfl ?_
 have cS:n<h.length:=(ai.1 hn).1
 have eG:∀k:Int,PObj.cells [.list false (en.map wA),.int .i64 i,.int .i64 k]=wT en i k:=λ_=>rfl
 have jx:∀k:Int,(h.set n (wT en i k))[n]? = some (wT en i k):=λk=>by simp[cS]
 have hi:=λs=>FN hL en n i (-1) (h.set n (wT en i (-1))) (jx _) s
 have hr:=λe=>Kr hL en n i (-1) (h.set n (wT en i (-1))) (jx _) e
 have hT:=Cv hL en n i (-1) (h.set n (wT en i (-1))) (jx _)
 have hF:=B5 hL en n i (-1) (h.set n (wT en i (-1))) (jx _)
 have oj:=FO hL en n i (-1) (h.set n (wT en i (-1))) (jx _) nd.ins gA.ins gA.is true false
 have pS:=FO hL en n i (-1) (h.set n (wT en i (-1))) (jx _) nd.outs gA.outs gA.os true false
 have i9:=FO hL en n i (-1) (h.set n (wT en i (-1))) (jx _) nd.locals gA.locals gA.ls false false
 have iD:=λ(au:zB) (h1:au.length≤1100000) (h2:∀x∈au,SW x)=>OH hL en n i (-1) (h.set n (wT en i (-1))) (jx _) 3 (by omega) au h1 h2
 have lM:yx en nd≠0→yr en nd i=some ⟨i,-1,yx en nd⟩:=λhh=>by unfold yr; rw[ah hh]
 obtain⟨RES,et⟩:∃RES,RES=yr en nd i:=⟨_,rfl⟩
 rw[← et]
 have eQ:∀e:Int,yx en nd=e→e≠0→RES=some ⟨i,-1,e⟩:=λe h1 h2=>by rw[et,lM (by rw[h1]; exact h2),h1]
 simp[I6,hn,wT,wO]
 rw[eG]
 by_cases k0:zZ nd.name=0
 rotate_left
 ·have:=eQ (zZ nd.name) (by unfold yx; exact Bj k0) k0
  rw[this]
  simp[hi,zo k0,xK]
  exact⟨-1,rfl⟩
 by_cases c12:nd.ins.length≤64∧nd.outs.length≤64
 rotate_left
 ·have hc:¬(if nd.ins.length<nd.outs.length then(nd.outs.length:Int) else(nd.ins.length:Int))≤64:=by split<;>omega
  have := eQ 3 (by unfold yx; rw [k0, zF]; have : ¬ (nd.ins.length ≤ 64 ∧ nd.outs.length ≤ 64 ∧ nd.locals.length ≤ 256 ∧ nd.eqs.length ≤ 256 ∧ nd.autos.length ≤ 8 ∧ nd.assume.length ≤ 8 ∧ nd.ensure.length ≤ 8) := by omega
                   simp only[this,decide_false,FQ]; rfl) (by decide)
  rw[this]
  simp[hi,k0,wZ,hc,hF,xK]
  exact⟨-1,rfl⟩
 have m12:(if nd.ins.length<nd.outs.length then(nd.outs.length:Int) else(nd.ins.length:Int))≤64:=by split<;>omega
 by_cases c3:nd.locals.length≤256
 rotate_left
 ·have c3i:¬(nd.locals.length:Int)≤256:=by omega
  have := eQ 3 (by unfold yx; rw [k0, zF]; have : ¬ (nd.ins.length ≤ 64 ∧ nd.outs.length ≤ 64 ∧ nd.locals.length ≤ 256 ∧ nd.eqs.length ≤ 256 ∧ nd.autos.length ≤ 8 ∧ nd.assume.length ≤ 8 ∧ nd.ensure.length ≤ 8) := by omega
                   simp only[this,decide_false,FQ]; rfl) (by decide)
  rw[this]
  simp[hi,k0,wZ,m12,c3,c3i,hF,xK]
  exact⟨-1,rfl⟩
 have c3i:(nd.locals.length:Int)≤256:=by omega
 by_cases c4:nd.eqs.length≤256
 rotate_left
 ·have c4i:¬(nd.eqs.length:Int)≤256:=by omega
  have := eQ 3 (by unfold yx; rw [k0, zF]; have : ¬ (nd.ins.length ≤ 64 ∧ nd.outs.length ≤ 64 ∧ nd.locals.length ≤ 256 ∧ nd.eqs.length ≤ 256 ∧ nd.autos.length ≤ 8 ∧ nd.assume.length ≤ 8 ∧ nd.ensure.length ≤ 8) := by omega
                   simp only[this,decide_false,FQ]; rfl) (by decide)
  rw[this]
  simp[hi,k0,wZ,m12,c3,c3i,c4,c4i,hF,xK]
  exact⟨-1,rfl⟩
 have c4i:(nd.eqs.length:Int)≤256:=by omega
 by_cases c5:nd.autos.length≤8
 rotate_left
 ·have c5i:¬(nd.autos.length:Int)≤8:=by omega
  have := eQ 3 (by unfold yx; rw [k0, zF]; have : ¬ (nd.ins.length ≤ 64 ∧ nd.outs.length ≤ 64 ∧ nd.locals.length ≤ 256 ∧ nd.eqs.length ≤ 256 ∧ nd.autos.length ≤ 8 ∧ nd.assume.length ≤ 8 ∧ nd.ensure.length ≤ 8) := by omega
                   simp only[this,decide_false,FQ]; rfl) (by decide)
  rw[this]
  simp[hi,k0,wZ,m12,c3,c3i,c4,c4i,c5,c5i,hF,xK]
  exact⟨-1,rfl⟩
 have c5i:(nd.autos.length:Int)≤8:=by omega
 by_cases c67:nd.assume.length≤8∧nd.ensure.length≤8
 rotate_left
 ·have m67:¬(if nd.assume.length<nd.ensure.length then(nd.ensure.length:Int) else(nd.assume.length:Int))≤8:=by split<;>omega
  have := eQ 3 (by unfold yx; rw [k0, zF]; have : ¬ (nd.ins.length ≤ 64 ∧ nd.outs.length ≤ 64 ∧ nd.locals.length ≤ 256 ∧ nd.eqs.length ≤ 256 ∧ nd.autos.length ≤ 8 ∧ nd.assume.length ≤ 8 ∧ nd.ensure.length ≤ 8) := by omega
                   simp only[this,decide_false,FQ]; rfl) (by decide)
  rw[this]
  simp[hi,k0,wZ,m12,c3,c3i,c4,c4i,c5,c5i,m67,hF,xK]
  exact⟨-1,rfl⟩
 have m67:(if nd.assume.length<nd.ensure.length then(nd.ensure.length:Int) else(nd.assume.length:Int))≤8:=by split<;>omega
 have jW:need (decide (nd.ins.length≤64∧nd.outs.length≤64∧nd.locals.length≤256∧nd.eqs.length≤256∧nd.autos.length≤8∧nd.assume.length≤8∧nd.ensure.length≤8)) 3=0:=by
  rw[AA (by decide),aw]; omega
 have hH:yx en nd=wu (need (decide (nd.outs≠[])) 8) (wu (wr (yT en true) nd.ins) (wu (wr (yT en true) nd.outs) (wr (yT en false) nd.locals))):=by
  unfold yx; rw[k0,zF,jW,zF]
 by_cases o1:nd.outs=[]
 ·have o1p:¬0<nd.outs.length:=by simp[o1]
  have o1q:¬(0:Int)<nd.outs.length:=by omega
  have:=eQ 8 (by rw[hH]; simp[o1,wu]) (by decide)
  rw[this]
  simp[hi,k0,wZ,m12,c3,c3i,c4,c4i,c5,c5i,m67,hT,tf o1,o1p,o1q,hF,xK]
  exact⟨-1,rfl⟩
 have o1n:0<nd.outs.length:=b7.2 o1
 have o1i:(0:Int)<nd.outs.length:=by omega
 have kV:yx en nd=wu (wr (yT en true) nd.ins) (wu (wr (yT en true) nd.outs) (wr (yT en false) nd.locals)):=by
  rw[hH]; simp[o1]
 by_cases z1:wr (yT en true) nd.ins=0
 rotate_left
 ·have:=eQ _ (by rw[kV]; exact Bj z1) z1
  rw[this]
  simp[hi,k0,wZ,m12,c3,c3i,c4,c4i,c5,c5i,m67,hT,o1,o1n,o1i,oj,zo z1,xK]
  exact⟨-1,rfl⟩
 rw[z1,zF] at kV
 rw[z1] at oj
 by_cases z2:wr (yT en true) nd.outs=0
 rotate_left
 ·have:=eQ _ (by rw[kV]; exact Bj z2) z2
  rw[this]
  simp[hi,k0,wZ,m12,c3,c3i,c4,c4i,c5,c5i,m67,hT,o1,o1n,o1i,oj,pS,zo z2,xK]
  exact⟨-1,rfl⟩
 rw[z2,zF] at kV
 rw[z2] at pS
 by_cases z3:wr (yT en false) nd.locals=0
 rotate_left
 ·have:=eQ _ kV z3
  rw[this]
  simp[hi,k0,wZ,m12,c3,c3i,c4,c4i,c5,c5i,m67,hT,o1,o1n,o1i,oj,pS,i9,zo z3,xK]
  exact⟨-1,rfl⟩
 rw[z3] at i9 kV
 have uJ:=gA.eqs
 have gh:RES=match zh (zm en) nd.eqs 0 with
  | some (k,e)=>some ⟨i,k,e⟩
  | none=>if An en nd≠0 then some ⟨i,-1,An en nd⟩ else none:=by
  rw[et]; unfold yr; rw[af (by simpa using kV)]; rfl
 clear eQ lM et
 simp[hi,k0,wZ,m12,c3,c3i,c4,c4i,c5,c5i,m67,hT,o1,o1n,o1i,oj,pS,i9]
 refine Ks nd.eqs (λ_ q=>decide (zm en q=0)) (λj (x:(PV×PV)×Nat)=>[(4,x.1.1),(5,x.1.2),(11,.int .i64 j)]) (λ_ x=>x.2) (λj _=>h.set n (wT en i ((j:Int) - 1))) ((.dead,.dead),1) ?_ ?_ ?_ rfl rfl rfl
 ·intro j hj dc x ih
  have hw:=wF j (by omega)
  rw[aw] at dc
  have hc:=FP hL en n i j (h.set n (wT en i j)) (jx _) nd.eqs[j] (gA.es _ (aj hj))
  rw[dc] at hc
  have ih:=λy=>ih y
  rw[show ((j+1:Nat):Int) - 1=j by omega] at ih
  have lj:=eG j
  simp[hj,cS,wT,yi]
  simp only[lj]
  simp[hc,wZ,hw]
  simpa using ih ((_,_),_)
 ·intro j hj dc fP x
  rw[cq] at dc
  have hc:=FP hL en n i j (h.set n (wT en i j)) (jx _) nd.eqs[j] (gA.es _ (aj hj))
  have nq:=OL (f:=zm en) (j:=0) hj dc (λk hk h1=>by have:=fP k hk h1; simpa using this)
  rw[nq,aM] at gh
  simp only at gh
  rw[gh]
  have lj:=eG j
  simp[hj,cS,wT,yi]
  simp only[lj]
  simp[hc,zo dc,xK]
  exact⟨j,rfl⟩
 ·intro dJ x
  have nq:zh (zm en) nd.eqs 0=none:=Ho.2 (λq hq=>by obtain⟨k,hk,rfl⟩:=bR.1 hq; simpa using dJ k hk)
  rw[nq] at gh
  simp only at gh
  have lj:=eG (-1)
  simp[cS,wT,yi]
  simp only[lj]
  have las:=gA.assume
  have lgs:=gA.ensure
  refine zX nd.autos (B7 en 3) (λj (y:PV×Nat)=>[(6,y.1),(14,.int .i64 j)]) (λ_ y=>y.2) (λ_ _=>h.set n (wT en i (-1))) (.dead,x.2) ?_ ?_ ?_ rfl rfl rfl
  ·intro j hj dc y ih
   have hw:=wF j (by have:=gA.autos.len; omega)
   have hc:=iD nd.autos[j] (gA.autos.as _ (aj hj)) (gA.autos.ss _ (aj hj))
   rw[dc] at hc
   simp at hc
   simp[hj,hc,wZ,hw]
   simpa using ih (_,_)
  ·intro j hj dc hf y
   have hc:=iD nd.autos[j] (gA.autos.as _ (aj hj)) (gA.autos.ss _ (aj hj))
   have ht:An en nd=B7 en 3 nd.autos[j]:=by unfold An; rw[hf]; exact Bj dc
   rw[ht,ah dc] at gh
   rw[gh]
   simp at hc
   simp[hj,hc,zo dc,xK]
   exact⟨-1,rfl⟩
  ·intro e1 y
   simp
   refine zX nd.assume (Ae en) (λj (y:PV×Nat)=>[(7,y.1),(17,.int .i64 j)]) (λ_ y=>y.2) (λ_ _=>h.set n (wT en i (-1))) (.dead,y.2) ?_ ?_ ?_ rfl rfl rfl
   ·intro j hj dc z ih
    have hw:=wF j (by omega)
    obtain⟨h',hx⟩:=Dv hL en nd.assume[j] (gA.as _ (aj hj)) false
    rw[dc] at hx
    have ez:wq 1 false [PV.list false (en.map wA),.int .i64 i,.int .i64 (-1)] 0=some (.list false (en.map wA)):=rfl
    simp[hj,cS,hw]
    simp only[wT]
    simp[hx]
    simp only[lj]
    simp[hr,wZ,hw]
    simpa using ih (_,_)
   ·intro j hj dc hf z
    obtain⟨h',hx⟩:=Dv hL en nd.assume[j] (gA.as _ (aj hj)) false
    have ht:An en nd=Ae en nd.assume[j]:=by unfold An; rw[e1,zF,hf]; exact Bj dc
    rw[ht,ah dc] at gh
    rw[gh]
    simp[hj,cS]
    simp only[wT]
    simp[hx]
    simp only[lj]
    simp[hr,zo dc,xK]
    exact⟨-1,rfl⟩
   ·intro e2 z
    simp
    refine zX nd.ensure (Ae en) (λj (y:PV×Nat)=>[(8,y.1),(20,.int .i64 j)]) (λ_ y=>y.2) (λ_ _=>h.set n (wT en i (-1))) (.dead,z.2) ?_ ?_ ?_ rfl rfl rfl
    ·intro j hj dc u ih
     have hw:=wF j (by omega)
     obtain⟨h',hx⟩:=Dv hL en nd.ensure[j] (gA.gs _ (aj hj)) false
     rw[dc] at hx
     simp[hj,cS,hw]
     simp only[wT]
     simp[hx]
     simp only[lj]
     simp[hr,wZ,hw]
     simpa using ih (_,_)
    ·intro j hj dc hf u
     obtain⟨h',hx⟩:=Dv hL en nd.ensure[j] (gA.gs _ (aj hj)) false
     have ht:An en nd=Ae en nd.ensure[j]:=by unfold An; rw[e1,zF,e2,zF,hf]
     rw[ht,ah dc] at gh
     rw[gh]
     simp[hj,cS]
     simp only[wT]
     simp[hx]
     simp only[lj]
     simp[hr,zo dc,xK]
     exact⟨-1,rfl⟩
    ·intro e3 u
     have ht:An en nd=0:=by unfold An; rw[e1,e2,e3]; rfl
     rw[ht] at gh
     simp only[ne_eq,bA,if_false] at gh
     rw[gh]
     simp[xK]
     exact⟨-1,rfl⟩
theorem rec48 (w1 w2 c a b e:Int) (o:PObj):yt L 48 [xx 2 a b e,.ptr 0 0,.ptr 1 0] [.cells [.int .i64 w1,.int .i64 w2],.cells [.int .i64 c],o]=some [.cells [.int .i64 a,.int .i64 b],.cells [.int .i64 e],o]:=by
 unfold yt
 rw[hL 48 _ rfl]
 simp[I5,AZ,xx]
theorem d0U (w1 w2 c:Int) (o:PObj):yt L 48 [.nilIface,.ptr 0 0,.ptr 1 0] [.cells [.int .i64 w1,.int .i64 w2],.cells [.int .i64 c],o]=some [.cells [.int .i64 w1,.int .i64 w2],.cells [.int .i64 c],o]:=by
 unfold yt
 rw[hL 48 _ rfl]
 simp[I5,AZ]
theorem c4c (p:Prog) (hp:PW p):∃h',wj L 23 [xw p] []=some (ze (zQ (zM p)),h'):=by
 suffices H:∃r,wj L 23 [xw p] []=some r∧r.1=ze (zQ (zM p)) by
  obtain⟨⟨v,h'⟩,h1,h2⟩:=H
  exact⟨h',by rw[h1]; simp only at h2; rw[h2]⟩
 refine Mq (hL 23 _ rfl) rfl ?_
 obtain⟨H,hH⟩:∃H:PObj→List PObj,∀o,H o=[.cells [.int .i64 0,.int .i64 0],.cells [.int .i64 0],o]:=⟨_,λ_=>rfl⟩
 have jx:∀o,(H o)[2]? = some o:=λo=>by rw[hH]; rfl
 have hT:=Cv hL p.enums 2 (-1) (-1) [.cells [.int .i64 0,.int .i64 0],.cells [.int .i64 0],wT p.enums (-1) (-1)] rfl
 have hF:=B5 hL p.enums 2 (-1) (-1) [.cells [.int .i64 0,.int .i64 0],.cells [.int .i64 0],wT p.enums (-1) (-1)] rfl
 have jP:=c6Y hL p.enums 2 (-1) (-1) [.cells [.int .i64 0,.int .i64 0],.cells [.int .i64 0],wT p.enums (-1) (-1)] rfl
 have eG:PObj.cells [PV.list false (p.enums.map wA),.int .i64 (-1),.int .i64 (-1)]=wT p.enums (-1) (-1):=rfl
 have l1:=hp.enums
 have l2:=hp.nodes
 have ef:=rec48 hL 0 0 0
 have ol:=d0U hL 0 0 0
 simp[I4]
 rw[Mr (cs:=[.ptr 0 0,.ptr 1 0]) _ _ _ rfl (by simp)]
 unfold zM
 by_cases c1:p.enums.length≤24
 rotate_left
 ·have c1i:¬(p.enums.length:Int)≤24:=by omega
  simp[eG,c1,c1i,hF,ef,zQ,ze,wq]
  rfl
 have c1i:(p.enums.length:Int)≤24:=by omega
 by_cases c2:p.nodes.length≤96
 rotate_left
 ·have c2i:¬(p.nodes.length:Int)≤96:=by omega
  simp[eG,c1,c1i,c2,c2i,hF,ef,zQ,ze,wq]
  rfl
 have c2i:(p.nodes.length:Int)≤96:=by omega
 rw[af (by simp[c1,c2])]
 obtain⟨RES,et⟩:∃RES,RES=(if wr Dw p.enums≠0 then some ⟨-1,-1,wr Dw p.enums⟩ else zg p.enums p.nodes 0):=⟨_,rfl⟩
 rw[← et]
 simp[eG,c1,c1i,c2,c2i,hT]
 refine zX p.enums Dw (λi (x:PV×Nat)=>[(5,x.1),(11,.int .i64 i)]) (λ_ x=>x.2) (λ_ _=>[.cells [.int .i64 0,.int .i64 0],.cells [.int .i64 0],wT p.enums (-1) (-1)]) (.dead,1) ?_ ?_ ?_ rfl rfl rfl
 ·intro i hi dc x ih
  have hw:=wF i (by omega)
  have hc:=jP p.enums[i] (hp.tags _ (aj hi))
  rw[dc] at hc
  simp[hi,hw,hc,wZ]
  simpa using ih (_,_)
 ·intro i hi dc hf x
  have hc:=jP p.enums[i] (hp.tags _ (aj hi))
  rw[hf,ah dc] at et
  subst et
  simp[hi,hc,zo dc,ef,zQ,ze,wq]
  rfl
 ·intro e1 x
  rw[e1,af (by simp)] at et
  simp
  refine Ks p.nodes (λi nd=>(yr p.enums nd i).isNone) (λi (y:((PV×PV)×Nat)×Int×Int)=>[(6,y.1.1.1),(7,y.1.1.2),(14,.int .i64 i)]) (λ_ y=>y.1.2) (λ_ y=>[.cells [.int .i64 0,.int .i64 0],.cells [.int .i64 0],wT p.enums y.2.1 y.2.2]) (((.dead,.dead),x.2),-1,-1) ?_ ?_ ?_ rfl rfl rfl
  ·intro i hi dc y ih
   have hw:=wF i (by omega)
   obtain⟨k,hc⟩:=OJ hL p.enums 2 y.2.1 y.2.2 [.cells [.int .i64 0,.int .i64 0],.cells [.int .i64 0],wT p.enums y.2.1 y.2.2] rfl i p.nodes[i] (hp.ns _ (aj hi))
   rw[Option.isNone_iff_eq_none] at dc
   rw[dc] at hc
   simp[xK] at hc
   simp[hi,hw,hc]
   simpa using ih (((_,_),_),i,k)
  ·intro i hi dc fP y
   obtain⟨k,hc⟩:=OJ hL p.enums 2 y.2.1 y.2.2 [.cells [.int .i64 0,.int .i64 0],.cells [.int .i64 0],wT p.enums y.2.1 y.2.2] rfl i p.nodes[i] (hp.ns _ (aj hi))
   obtain⟨b,hb⟩:∃b,yr p.enums p.nodes[i] i=some b:=by
    cases hx:yr p.enums p.nodes[i] i with
    | none=>rw[hx] at dc; simp at dc
    | some b=>exact⟨b,rfl⟩
   have dN:zg p.enums p.nodes 0=some b:=OM hi (by rw[aM]; exact hb) (λk hk h1=>by have:=fP k hk h1; rw[Option.isNone_iff_eq_none] at this; rw[aM]; exact this)
   rw[hb] at hc
   rw[dN] at et
   subst et
   simp[xK] at hc
   simp[hi,hc,ef,zQ,ze,wq]
   rfl
  ·intro dJ y
   have dN:zg p.enums p.nodes 0=none:=ON (λk hk=>by have:=dJ k hk; rw[Option.isNone_iff_eq_none] at this; rw[aM]; exact this)
   rw[dN] at et
   subst et
   simp[wO,ol,zQ,Ck,ze,wq]
   rfl
end
end PI.Sc
set_option maxRecDepth 100000
set_option linter.unusedSimpArgs false
set_option linter.unusedVariables false
namespace PI.Sc
open Go (IntKind BinOp UnOp)
open Short
def zy (k:Int×Str):PV := .agg [.int .i64 k.1,.str k.2]
def FR (x:(Int×Str)×Int):PV×PV:=(zy x.1,.int .i64 x.2)
abbrev xJ:=List ((Int×Str)×Int)
def yR (l:xJ):List (Int×Str):=l.map (·.1)
def wC (l:xJ):PObj := .map (l.map FR)
def ww (en:List Enum) (ns:List Node) (a b:Int):PObj := .cells [.list false (en.map wA),.list false (ns.map wE),.int .i64 a,.int .i64 b,.map (some 2)]
def yw (k:Int×Str):xJ→Option Int
 | []=>none
 | x::l=>if k=x.1 then some x.2 else yw k l
theorem Dh {k:Int×Str}:∀{l:xJ},yw k l=none↔k∉yR l
 | []=>by simp[yw,yR]
 | x :: l => by
   have:=Dh (k:=k) (l:=l)
   by_cases h:k=x.1<;>simp[yw,yR,h] at this ⊢<;>exact this
theorem d0W (a b:Int×Str):peq true [.i,.s] (zy a) (zy b)=some (decide (a=b)):=by
 obtain⟨a1,a2⟩:=a
 obtain⟨b1,b2⟩:=b
 simp only[zy,peq,if_true,yO,zi,an,aB,aa,bQ,ac]
 rw[aS]; simp
theorem FS (k:Int×Str):∀(l:xJ) (i:Nat),∃r,xo true [.i,.s] (zy k) (l.map FR) i=some r∧r.map (·.2)=(yw k l).map (PV.int .i64)
 | [],i=>⟨none,by simp[xo,zy],rfl⟩
 | x :: l, i => by
   have he:peq true [.i,.s] (zy k) (FR x).1=some (decide (k=x.1)):=d0W k x.1
   by_cases hx:k=x.1
   ·subst hx
    refine⟨some (i,.int .i64 x.2),?_,by simp[yw]⟩
    simp only[ax,xo,he,an,decide_true,if_true]
    rfl
   ·obtain⟨r,h1,h2⟩:=FS k l (i+1)
    refine⟨r,?_,by simp[yw,hx,h2]⟩
    simp only[ax,xo,he,an,hx,decide_false,aH,if_false,h1]
def bmE (l:List Str):List (PV×PV):=l.map λs=>(.str s,.bool true)
def AY (l:List Str) (x:Str):List Str:=if x∈l then l else l++[x]
theorem Gz {l:List Str} {x y:Str}:y∈AY l x↔y∈l∨y=x:=by
 unfold AY; split
 ·rename_i h
  exact⟨.inl,λhh=>hh.elim id λe=>e▸h⟩
 ·simp
theorem OO (x:Str):∀(l:List Str) (i:Nat),(x∉l→xo false [.s] (.str x) (bmE l) i=some none)∧(x∈l→∃j,xo false [.s] (.str x) (bmE l) i=some (some (i+j,.bool true))∧l[j]? = some x)
 | [],i=>⟨λ_=>rfl,λh=>by simp at h⟩
 | y :: l, i => by
   have he:peq false [.s] (.str x) (.str y)=some (x==y):=rfl
   obtain⟨h1,h2⟩:=OO x l (i+1)
   constructor
   ·intro h
    simp only[aC,not_or] at h
    have hb:(x==y)=false:=by simpa using h.1
    simp only[bmE,ax,xo,he,an,hb,aH,if_false]
    exact h1 h.2
   ·intro h
    by_cases hx:x=y
    ·subst hx
     exact⟨0,by simp[bmE,xo,he],rfl⟩
    ·have hb:(x==y)=false:=by simpa using hx
     obtain⟨j,h3,h4⟩:=h2 (by simpa[hx] using h)
     refine⟨j+1,?_,by simpa using h4⟩
     simp only[bmE,ax,xo,he,an,hb,aH,if_false]
     rw[show i+(j+1)=i+1+j by omega]
     exact h3
theorem Bs (x:Str) (l:List Str):∃r,xo false [.s] (.str x) (bmE l) 0=some r∧r.map (·.2)=(if x∈l then some (PV.bool true) else none)∧Cq (bmE l) (.str x) (.bool true) r=bmE (AY l x):=by
 obtain⟨h1,h2⟩:=OO x l 0
 by_cases h:x∈l
 ·obtain⟨j,h3,h4⟩:=h2 h
  refine⟨_,h3,by simp[h],?_⟩
  obtain⟨hj,hx⟩:=ai.1 h4
  simp only[b7u,AY,h,if_true,aM]
  have:(bmE l)[j]'(by simpa[bmE] using hj)=(.str x,.bool true):=by simp[bmE,hx]
  rw[← this,List.set_getElem_self]
 ·exact⟨none,h1 h,by simp[h],by simp[AY,h,bmE]⟩
structure Fr where
 O:List Str
 D:List Str
 I:List Str
 df:List Str
def Kp (b:Nat) (h h':List PObj):Prop:=h.length≤h'.length∧∀n,n<b→h'[n]? = h[n]?
theorem Kp.refl (b:Nat) (h:List PObj):Kp b h h:=⟨ao _,λ_ _=>rfl⟩
theorem Kp.trans {b:Nat} {h h' h'':List PObj} (h1:Kp b h h') (h2:Kp b h' h''):Kp b h h'':=⟨aR h1.1 h2.1,λn hn=>(h2.2 n hn).trans (h1.2 n hn)⟩
theorem Kp.le {b b':Nat} {h h':List PObj} (h1:Kp b h h') (hb:b'≤b):Kp b' h h':=⟨h1.1,λn hn=>h1.2 n (by omega)⟩
theorem Kp.app {b:Nat} {h e:List PObj} (hb:b≤h.length):Kp b h (h++e):=⟨by simp,λn hn=>by rw[am (by omega)]⟩
theorem Kp.set {b n:Nat} {h:List PObj} {o:PObj} (hb:b≤n):Kp b h (h.set n o):=⟨by simp,λk hk=>by rw[aq (by omega)]⟩
def OP (h:List PObj) (b' b:Nat) (dv:PV) (df:List Str):Prop:=(dv = .list true []∧df=[])∨∃k,b'≤k∧k<b∧dv = .rowp k 1 false df.length∧h[k]? = some (.cells (df.map PV.str))
def Holds (h:List PObj):Nat→PV→List Fr→Prop
 | b,v,[]=>v = .nilptr
 | b, v, f :: fs => ∃ (b' n o d : Nat) (i dv up : PV), v = .ptr n 0 ∧ b' ≤ n ∧ b' ≤ o ∧ b' ≤ d ∧ n < b ∧ o < b ∧ d < b ∧ n ≠ o ∧ n ≠ d ∧ o ≠ d ∧ 4 ≤ b' ∧ h[n]? = some (.cells [up, .map (some o), .map (some d), i, dv]) ∧ h[o]? = some (.map (bmE f.O)) ∧ h[d]? = some (.map (bmE f.D)) ∧
   ((i = .map none∧f.I=[])∨∃m,i = .map (some m)∧b'≤m∧m<b∧m≠n∧m≠o∧m≠d∧h[m]? = some (.map (bmE f.I)))∧OP h b' b dv f.df∧(∀k s a len,dv = .rowp k s a len→k≠n∧k≠o∧k≠d∧i≠.map (some k))∧Holds h b' up fs
theorem Holds.keep {h h':List PObj}:∀{fs:List Fr} {b:Nat} {v:PV},Holds h b v fs→(∀n,n<b→h'[n]? = h[n]?)→Holds h' b v fs
 | [],b,v,hh,_=>hh
 | f :: fs, b, v, hh, hk => by
   obtain⟨b',n,o,d,i,dv,up,h1,h2,h3,h4,h5,h6,h7,h8,h9,kX,om,gL,mA,lk,nu,oo,oq,jy⟩:=hh
   refine⟨b',n,o,d,i,dv,up,h1,h2,h3,h4,h5,h6,h7,h8,h9,kX,om,(hk _ h5).trans gL,(hk _ h6).trans mA,(hk _ h7).trans lk,?_,?_,oq,jy.keep λk dh=>hk k (by omega)⟩
   ·rcases nu with h|⟨m,e1,e2,e3,e4,e5,e6,e7⟩
    ·exact .inl h
    ·exact .inr ⟨m,e1,e2,e3,e4,e5,e6,(hk _ e3).trans e7⟩
   ·rcases oo with h|⟨k,e1,e2,e3,e4⟩
    ·exact .inl h
    ·exact .inr ⟨k,e1,e2,e3,(hk _ e2).trans e4⟩
theorem Holds.up {h:List PObj}:∀{fs:List Fr} {b c:Nat} {v:PV},Holds h b v fs→b≤c→Holds h c v fs
 | [],b,c,v,hh,_=>hh
 | f :: fs, b, c, v, hh, hk => by
   obtain⟨b',n,o,d,i,dv,up,h1,h2,h3,h4,h5,h6,h7,h8,h9,kX,om,gL,mA,lk,nu,oo,oq,jy⟩:=hh
   refine⟨b',n,o,d,i,dv,up,h1,h2,h3,h4,by omega,by omega,by omega,h8,h9,kX,om,gL,mA,lk,?_,?_,oq,jy⟩
   ·rcases nu with h|⟨m,e1,e2,e3,e4,e5,e6,e7⟩
    ·exact .inl h
    ·exact .inr ⟨m,e1,e2,by omega,e4,e5,e6,e7⟩
   ·rcases oo with h|⟨k,e1,e2,e3,e4⟩
    ·exact .inl h
    ·exact .inr ⟨k,e1,by omega,e3,e4⟩
theorem Holds.ptr {h:List PObj} {fs:List Fr} {b:Nat} {v:PV} (hv:Holds h b v fs):v = .nilptr∨∃n,v = .ptr n 0:=by
 cases fs with
 | nil=>exact .inl hv
 | cons f fs=>obtain⟨_,n,_,_,_,_,_,e,_⟩:=hv; exact .inr ⟨n,e⟩
theorem Holds.cp {h:List PObj} {fs:List Fr} {b:Nat} {v:PV} (hv:Holds h b v fs):cp v=some v:=by rcases hv.ptr with rfl|⟨n,rfl⟩<;>rfl
theorem Holds.tkv {h:List PObj} {fs:List Fr} {b:Nat} {v:PV} (hv:Holds h b v fs):tkv v=some (v,false):=by rcases hv.ptr with rfl|⟨n,rfl⟩<;>rfl
theorem Holds.dem {h:List PObj} {fs:List Fr} {b:Nat} {v:PV} (hv:Holds h b v fs):dem v=v:=by rcases hv.ptr with rfl|⟨n,rfl⟩<;>rfl
def xg (fs:List Fr) (x:Str):Bool:=fs.any λf=>decide (x∈f.O)
def zc (fs:List Fr) (x:Str):Bool:=fs.any λf=>decide (x∈f.D)||decide (x∈f.I)
section
variable {L:Nat→Option PFunc} (hL:∀k f,LS k=some f→L k=some f) (en:List Enum) (ns:List Node) (a b:Int)
include hL
section
variable (h:List PObj) (h3:h[3]? = some (ww en ns a b))
include h3
theorem BS (e:Int):wK L 57 [.ptr 3 0,.bool true,.int .i64 e] h=some (.val (.tuple []),h):=by
 have _:=h3
 refine zn (hL 57 _ rfl) rfl ?_
 simp[GN]
theorem BT (e:Int):wK L 57 [.ptr 3 0,.bool false,.int .i64 e] h=some (.boom (xx 1 a b e),h):=by
 refine zn (hL 57 _ rfl) rfl ?_
 simp[GN,h3,ww,xx]
theorem IQ (l:xJ) (h2:h[2]? = some (wC l)) (k:Int×Str) (i:Int) (hk:k∈yR l):wK L 28 [.ptr 3 0,zy k,.int .i64 i] h=some (.boom (xx 1 a b 7),h):=by
 have hm:=BT hL en ns a b h h3 7
 obtain⟨r,h4,h5⟩:=FS k l 0
 cases r with
 | none =>
   have:yw k l=none:=by simpa using h5.symm
   exact absurd hk (Dh.1 this)
 | some r =>
   obtain⟨j,v⟩:=r
   obtain⟨z,rfl⟩:∃z,v = .int .i64 z:=by
    cases he:yw k l with
    | none=>rw[he] at h5; simp at h5
    | some z=>rw[he] at h5; exact⟨z,by simpa using h5⟩
   refine zn (hL 28 _ rfl) rfl ?_
   have eZ:zy k = .agg [.int .i64 k.1,.str k.2]:=rfl
   rw[eZ] at h4 ⊢
   simp[GJ,h4,h3,h2,ww,wC,hm,CW]
theorem IR (l:xJ) (h2:h[2]? = some (wC l)) (k:Int×Str) (i:Int) (hk:k∉yR l):wK L 28 [.ptr 3 0,zy k,.int .i64 i] h=some (.val (.tuple []),h.set 2 (wC (l++[(k,i)]))):=by
 have hm:=BS hL en ns a b h h3 7
 obtain⟨r,h4,h5⟩:=FS k l 0
 rw[Dh.2 hk] at h5
 simp only[cd,Option.map_eq_none_iff] at h5
 subst h5
 refine zn (hL 28 _ rfl) rfl ?_
 have eZ:zy k = .agg [.int .i64 k.1,.str k.2]:=rfl
 have e3:wC (l++[(k,i)]) = .map (l.map FR++[(.agg [.int .i64 k.1,.str k.2],.int .i64 i)]):=by simp[wC,FR,zy]
 rw[e3]
 rw[eZ] at h4 ⊢
 simp[GJ,h4,h3,h2,ww,wC,hm,CW]
end
theorem Hw (x:Str):∀(fs:List Fr) (h:List PObj) (b:Nat) (v:PV),Holds h b v fs→wj L 97 [v,.str x] h=some (.bool (xg fs x),h):=by
 have key:∀(fs:List Fr) (h:List PObj) (b:Nat) (v:PV),Holds h b v fs→wpL L Fa ⟨[v,.str x,.bool false],[],0,h⟩ (BQ 0 (Ct L (S (R [t 2 F]) Y) (Cs DX.results (.bool (xg fs x),h)))):=by
  intro fs
  induction fs with
  | nil =>
    intro h b v hv
    have hv:v = .nilptr:=hv
    subst hv
    rw[Fa,Bf]
    simp[DX,xg]
  | cons f fs ih =>
    intro h b v hv
    obtain⟨b',n,o,d,i,dv,up,h1,h2,h3,h4,h5,h6,h7,h8,h9,kX,om,gL,mA,lk,nu,oo,oq,jy⟩:=hv
    subst h1
    obtain⟨r,hr,eY,_⟩:=Bs x f.O
    rw[Fa,Bf]
    by_cases hx:x∈f.O
    ·simp[hx] at eY
     obtain⟨j,rfl⟩:=eY
     simp[gL,mA,hr,w8,DX,xg,hx]
    ·simp[hx] at eY
     subst eY
     simp[gL,mA,hr,w8,jy.cp,jy.tkv]
     have:=ih h b' up jy
     rw[Fa] at this
     simpa[xg,hx] using this
 intro fs h b v hv
 refine wD (hL 97 _ rfl) rfl ?_
 simpa[DX,hv.dem] using key fs h b v hv
theorem c0u (x:Str):∀(fs:List Fr) (h:List PObj) (b:Nat) (v:PV),Holds h b v fs→wj L 98 [v,.str x] h=some (.bool (zc fs x),h):=by
 have key:∀(fs:List Fr) (h:List PObj) (b:Nat) (v:PV),Holds h b v fs→wpL L Fb ⟨[v,.str x,.bool false],[],0,h⟩ (BQ 0 (Ct L (S (R [t 2 F]) Y) (Cs Di.results (.bool (zc fs x),h)))):=by
  intro fs
  induction fs with
  | nil =>
    intro h b v hv
    have hv:v = .nilptr:=hv
    subst hv
    rw[Fb,Bf]
    simp[Di,zc]
  | cons f fs ih =>
    intro h b v hv
    obtain⟨b',n,o,d,i,dv,up,h1,h2,h3,h4,h5,h6,h7,h8,h9,kX,om,gL,mA,lk,nu,oo,oq,jy⟩:=hv
    subst h1
    obtain⟨r,hr,eY,_⟩:=Bs x f.D
    have ef:=ih h b' up jy
    rw[Fb] at ef
    rw[Fb,Bf]
    by_cases hx:x∈f.D
    ·simp[hx] at eY
     obtain⟨j,rfl⟩:=eY
     simp[gL,lk,hr,w8,Di,zc,hx]
    ·simp[hx] at eY
     subst eY
     rcases nu with⟨rfl,hI⟩|⟨m,rfl,_,_,_,_,_,hm⟩
     ·simp[gL,lk,hr,w8,xo,jy.cp,jy.tkv]
      simpa[zc,hx,hI] using ef
     ·obtain⟨r,fo,gU,_⟩:=Bs x f.I
      by_cases hy:x∈f.I
      ·simp[hy] at gU
       obtain⟨j,rfl⟩:=gU
       simp[gL,lk,hr,fo,hm,w8,Di,zc,hx,hy]
      ·simp[hy] at gU
       subst gU
       simp[gL,lk,hr,fo,hm,w8,jy.cp,jy.tkv]
       simpa[zc,hx,hy] using ef
 intro fs h b v hv
 refine wD (hL 98 _ rfl) rfl ?_
 simpa[Di,hv.dem] using key fs h b v hv
end
structure TopAt (h:List PObj) (b b' n o d:Nat) (i dv up:PV) (f:Fr) (fs:List Fr):Prop where
 ln:b'≤n
 lo:b'≤o
 ld:b'≤d
 un:n<b
 uo:o<b
 ud:d<b
 no:n≠o
 nd:n≠d
 od:o≠d
 four:4≤b'
 hn:h[n]? = some (.cells [up,.map (some o),.map (some d),i,dv])
 ho:h[o]? = some (.map (bmE f.O))
 hd:h[d]? = some (.map (bmE f.D))
 hi:(i = .map none∧f.I=[])∨∃m,i = .map (some m)∧b'≤m∧m<b∧m≠n∧m≠o∧m≠d∧h[m]? = some (.map (bmE f.I))
 row:OP h b' b dv f.df
 rne:∀k s a len,dv = .rowp k s a len→k≠n∧k≠o∧k≠d∧i≠.map (some k)
 hup:Holds h b' up fs
theorem TopAt.holds {h:List PObj} {b b' n o d:Nat} {i dv up:PV} {f:Fr} {fs:List Fr} (t:TopAt h b b' n o d i dv up f fs):Holds h b (.ptr n 0) (f::fs):=
 ⟨b',n,o,d,i,dv,up,rfl,t.ln,t.lo,t.ld,t.un,t.uo,t.ud,t.no,t.nd,t.od,t.four,t.hn,t.ho,t.hd,t.hi,t.row,t.rne,t.hup⟩
section
variable {h h':List PObj} {b b' n o d:Nat} {i dv up:PV} {f:Fr} {fs:List Fr}
theorem TopAt.keep (t:TopAt h b b' n o d i dv up f fs) (hk:∀n,n<b→h'[n]? = h[n]?):TopAt h' b b' n o d i dv up f fs where
 ln:=t.ln
 lo:=t.lo
 ld:=t.ld
 un:=t.un
 uo:=t.uo
 ud:=t.ud
 no:=t.no
 nd:=t.nd
 od:=t.od
 four:=t.four
 hn:=(hk _ t.un).trans t.hn
 ho:=(hk _ t.uo).trans t.ho
 hd:=(hk _ t.ud).trans t.hd
 hi:=by
  rcases t.hi with h|⟨m,e1,e2,e3,e4,e5,e6,e7⟩
  ·exact .inl h
  ·exact .inr ⟨m,e1,e2,e3,e4,e5,e6,(hk _ e3).trans e7⟩
 row:=by
  rcases t.row with h|⟨k,e1,e2,e3,e4⟩
  ·exact .inl h
  ·exact .inr ⟨k,e1,e2,e3,(hk _ e2).trans e4⟩
 rne:=t.rne
 hup:=t.hup.keep λk dh=>hk k (by have:=t.ln; have:=t.un; omega)
theorem TopAt.setO (t:TopAt h b b' n o d i dv up f fs) (O:List Str):TopAt (h.set o (.map (bmE O))) b b' n o d i dv up { f with O:=O } fs where
 ln:=t.ln
 lo:=t.lo
 ld:=t.ld
 un:=t.un
 uo:=t.uo
 ud:=t.ud
 no:=t.no
 nd:=t.nd
 od:=t.od
 four:=t.four
 hn:=by rw[aq (Ne.symm t.no)]; exact t.hn
 ho:=by
  obtain⟨hl,_⟩:=ai.1 t.ho
  rw[a8 hl]
 hd:=by rw[aq t.od]; exact t.hd
 hi:=by
  rcases t.hi with h|⟨m,e1,e2,e3,e4,e5,e6,e7⟩
  ·exact .inl h
  ·exact .inr ⟨m,e1,e2,e3,e4,e5,e6,by rw[aq (Ne.symm e5)]; exact e7⟩
 row:=by
  rcases t.row with h|⟨k,e1,e2,e3,e4⟩
  ·exact .inl h
  ·exact .inr ⟨k,e1,e2,e3,by rw[aq (Ne.symm (t.rne _ _ _ _ e3).2.1)]; exact e4⟩
 rne:=t.rne
 hup:=t.hup.keep λk dh=>aq (by have:=t.lo; omega)
theorem TopAt.setD (t:TopAt h b b' n o d i dv up f fs) (D:List Str):TopAt (h.set d (.map (bmE D))) b b' n o d i dv up { f with D:=D } fs where
 ln:=t.ln
 lo:=t.lo
 ld:=t.ld
 un:=t.un
 uo:=t.uo
 ud:=t.ud
 no:=t.no
 nd:=t.nd
 od:=t.od
 four:=t.four
 hn:=by rw[aq (Ne.symm t.nd)]; exact t.hn
 ho:=by rw[aq (Ne.symm t.od)]; exact t.ho
 hd:=by
  obtain⟨hl,_⟩:=ai.1 t.hd
  rw[a8 hl]
 hi:=by
  rcases t.hi with h|⟨m,e1,e2,e3,e4,e5,e6,e7⟩
  ·exact .inl h
  ·exact .inr ⟨m,e1,e2,e3,e4,e5,e6,by rw[aq (Ne.symm e6)]; exact e7⟩
 row:=by
  rcases t.row with h|⟨k,e1,e2,e3,e4⟩
  ·exact .inl h
  ·exact .inr ⟨k,e1,e2,e3,by rw[aq (Ne.symm (t.rne _ _ _ _ e3).2.2.1)]; exact e4⟩
 rne:=t.rne
 hup:=t.hup.keep λk dh=>aq (by have:=t.ld; omega)
end
def Bt (l:xJ) (tags:List Str):Prop:=∀x,((0:Int),x)∈yR l↔x∈tags
def NodesIn (l:xJ) (ns:List Node) (k:Nat):Prop:=∀x,match callee (ns.take k) x with
 | none=>∀i:Int,yw (1,x) l=some i→¬i<k
 | some m=>∃j:Nat,yw (1,x) l=some (j:Int)∧j<k∧ns[j]? = some m
section
variable {L:Nat→Option PFunc} (hL:∀k f,LS k=some f→L k=some f) (en:List Enum) (ns:List Node) (a b:Int) (ents:xJ)
include hL
theorem Mi (tags:List Str) (d3:Bt ents tags) (l:List Decl) (hl:l.length≤3300000) (r:Bool) (h:List PObj) (h2:h[2]? = some (wC ents)) (h3:h[3]? = some (ww en ns a b)) (q q' n o d:Nat) (i dv up:PV) (f:Fr) (fs:List Fr) (t:TopAt h q q' n o d i dv up f fs) (vis:List Str) (dn:∀x,xg (f::fs) x=true↔x∈vis):
  ∃h' O,wK L 59 [.ptr 3 0,.ptr n 0,.list r (l.map wo)] h=some (wv 1 a b (xj tags l vis).1,h')∧Kp q' h h'∧h'.length=h.length∧TopAt h' q q' n o d i dv up { f with O:=O } fs∧((xj tags l vis).1=0→(∀x,xg ({ f with O:=O }::fs) x=true↔x∈(xj tags l vis).2)∧∀x,x∈O↔x∈f.O∨x∈wk l):=by
 suffices H:∃res,wK L 59 [.ptr 3 0,.ptr n 0,.list r (l.map wo)] h=some res∧∃h' O,res=(wv 1 a b (xj tags l vis).1,h')∧Kp q' h h'∧h'.length=h.length∧TopAt h' q q' n o d i dv up { f with O:=O } fs∧((xj tags l vis).1=0→(∀x,xg ({ f with O:=O }::fs) x=true↔x∈(xj tags l vis).2)∧∀x,x∈O↔x∈f.O∨x∈wk l) by
  obtain⟨res,e1,h',O,e2,e3⟩:=H
  exact⟨h',O,by rw[e1,e2],e3⟩
 refine BR (hL 59 _ rfl) rfl ?_
 simp[GO]
 rw[MC]
 refine xc l.length (λk st=>∃y3 y4 g h' O vis',st=⟨[.ptr 3 0,.ptr n 0,.list false (l.map wo),y3,y4,.list false (l.map wo),.int .i64 l.length,.int .i64 k],[],g,h'⟩∧Kp q' h h'∧h'.length=h.length∧TopAt h' q q' n o d i dv up { f with O:=O } fs∧xj tags l vis=xj tags (l.drop k) vis'∧(∀x,xg ({ f with O:=O }::fs) x=true↔x∈vis')∧∀x,x∈O↔x∈f.O∨x∈wk (l.take k)) ?_ ?_ ⟨_,_,_,h,f.O,vis,rfl,Kp.refl _ _,rfl,t,rfl,dn,λx=>by simp[wk]⟩
 ·rintro k hk st ⟨y3,y4,g,h',O,vis',rfl,dg,cO,ht,di,hv,hO⟩ ih
  have hw:=wF k (by omega)
  have fl:h'[2]? = some (wC ents):=(dg.2 2 (by have:=ht.four; omega)).trans h2
  have eU:h'[3]? = some (ww en ns a b):=(dg.2 3 (by have:=ht.four; omega)).trans h3
  have hT:=BS hL en ns a b h' eU 7
  have hF:=BT hL en ns a b h' eU 7
  have hs:=Hw hL l[k].name _ h' q _ ht.holds
  have jI:=hv l[k].name
  have gq:=d3 l[k].name
  rw[aZ hk] at di
  simp only[xj] at di
  obtain⟨z,hz,eH⟩:=FS (0,l[k].name) ents 0
  simp only[zy] at hz
  have hn:=ht.hn
  have ho:=ht.ho
  cases z with
  | some z =>
    obtain⟨j,v⟩:=z
    obtain⟨u,hu,rfl⟩:∃u,yw (0,l[k].name) ents=some u∧v = .int .i64 u:=by
     cases he:yw (0,l[k].name) ents with
     | none=>rw[he] at eH; simp at eH
     | some u=>rw[he] at eH; exact⟨u,rfl,by simpa using eH⟩
    have dI:l[k].name∈tags:=gq.1 (cG λhn=>by rw[Dh.2 hn] at hu; simp at hu)
    rw[ah (.inr dI)] at di
    simp[hk,eU,ww,fl,wC,w8,hz,hF]
    refine⟨h',by rw[di]; exact⟨rfl,rfl⟩,dg,cO,O,ht,by rw[di]; simp⟩
  | none =>
    have ek:yw (0,l[k].name) ents=none:=by simpa using eH.symm
    have qX:l[k].name∉tags:=λhx=>Dh.1 ek (gq.2 hx)
    by_cases hx:l[k].name∈vis'
    ·rw[ah (.inl hx)] at di
     rw[jI.2 hx] at hs
     simp[hk,eU,ww,fl,wC,w8,hz,hs,hF]
     refine⟨h',by rw[di]; exact⟨rfl,rfl⟩,dg,cO,O,ht,by rw[di]; simp⟩
    ·rw[af (by simp[hx,qX])] at di
     have uK:xg ({ f with O:=O }::fs) l[k].name=false:=by
      cases hc:xg ({ f with O:=O }::fs) l[k].name with
      | false=>rfl
      | true=>exact absurd (jI.1 hc) hx
     rw[uK] at hs
     have gk:wk (l.take (k+1))=wk (l.take k)++[l[k].name]:=by simp only[wk,bl,al hk,Option.toList,aU,ax,ba]
     obtain⟨r',hr,_,gU⟩:=Bs l[k].name O
     simp[hk,eU,ww,fl,wC,w8,hz,hs,hT,hn,ho,hr,gU,hw]
     refine ih _ ⟨_,_,_,_,AY O l[k].name,vis'++[l[k].name],rfl,dg.trans (Kp.set ht.lo),by simp[cO],ht.setO _,di,?_,λx=>by rw[Gz,hO,gk,ay,bF,or_assoc]⟩
     ·intro x
      have:=hv x
      simp only[xg,List.any_cons,bH,aw,Gz,ay,bF] at this ⊢
      rw[← this]
      constructor
      ·rintro((h1|h1)|h1)
       ·exact .inl (.inl h1)
       ·exact .inr h1
       ·exact .inl (.inr h1)
      ·rintro((h1|h1)|h1)
       ·exact .inl (.inl h1)
       ·exact .inr h1
       ·exact .inl (.inr h1)
 ·rintro st ⟨y3,y4,g,h',O,vis',rfl,dg,cO,ht,di,hv,hO⟩
  rw[bj (ao _)] at di
  simp only[xj] at di
  simp[GO]
  refine⟨h',by rw[di]; exact⟨rfl,rfl⟩,dg,cO,O,ht,?_⟩
  rw[di]
  intro _
  exact⟨by simpa using hv,by simpa using hO⟩
theorem Mj (l:List Decl) (hl:l.length≤3300000) (hd:∀d∈l,DW d) (r:Bool) (h:List PObj) (h3:h[3]? = some (ww en ns a b)) (q:Nat) (v:PV) (fs:List Fr) (hv:Holds h q v fs) (vis:List Str) (dn:∀x,xg fs x=true↔x∈vis):
  wK L 60 [.ptr 3 0,v,.list r (l.map wo)] h=some (wv 1 a b (Bg vis l),h):=by
 have hT:=BS hL en ns a b h h3 6
 have hF:=BT hL en ns a b h h3 6
 have hs:=λx=>Hw hL x _ h q _ hv
 have kO:=hv.dem
 have il:=hv.cp
 have im:=hv.tkv
 have ot:∀x,xg fs x=decide (x∈vis):=λx=>by rw[aS,aw]; exact dn x
 refine zn (hL 60 _ rfl) rfl ?_
 simp[GP,kO]
 have dC:Bg vis l=wr (λd=>wr (λo:On=>need (decide (o.name∈vis)) 6) d.clock) l:=rfl
 rw[dC]
 refine zX l (λd=>wr (λo:On=>need (decide (o.name∈vis)) 6) d.clock) (λi (x:(PV×PV×PV×PV×PV)×Nat)=>[(3,x.1.1),(4,x.1.2.1),(8,x.1.2.2.1),(9,x.1.2.2.2.1),(10,x.1.2.2.2.2),(7,.int .i64 i)]) (λ_ x=>x.2) (λ_ _=>h) ((.dead,.dead,.dead,.dead,.dead),0) ?_ ?_ ?_ rfl rfl rfl
 ·intro i dL dc x ih
  have hw:=wF i (by omega)
  have dt:=(hd _ (aj dL)).clock
  have hE:∀o∈l[i].clock,need (decide (o.name∈vis)) 6=0:=yS.1 dc
  simp[dL]
  refine zX l[i].clock (λo:On=>need (decide (o.name∈vis)) 6) (λj (y:PV×Nat)=>[(10,.int .i64 j),(4,y.1)]) (λ_ y=>y.2) (λ_ _=>h) (x.1.2.1,x.2+1) ?_ ?_ ?_ rfl rfl rfl
  ·intro j hj dm y ih2
   have gM:=wF j (by omega)
   rw[AA (by decide),aw] at dm
   simp[hj,hs,ot,dm,hT,gM,il,im]
   simpa using ih2 (_,_)
  ·intro j hj dm _ y
   exact absurd (hE _ (aj hj)) dm
  ·intro _ y
   simp[hw]
   simpa using ih ((_,_,_,_,_),_)
 ·intro i dL dc hf x
  have dt:=(hd _ (aj dL)).clock
  rw[hf]
  simp[dL]
  refine zX l[i].clock (λo:On=>need (decide (o.name∈vis)) 6) (λj (y:PV×Nat)=>[(10,.int .i64 j),(4,y.1)]) (λ_ y=>y.2) (λ_ _=>h) (x.1.2.1,x.2+1) ?_ ?_ ?_ rfl rfl rfl
  ·intro j hj dm y ih2
   have gM:=wF j (by omega)
   rw[AA (by decide),aw] at dm
   simp[hj,hs,ot,dm,hT,gM,il,im]
   simpa using ih2 (_,_)
  ·intro j hj dm uL y
   have fQ:¬l[i].clock[j].name∈vis:=by
    intro hm; exact dm (by simp[need,hm])
   rw[uL]
   simp[hj,hs,ot,fQ,hF,need,wv,il,im]
  ·intro h0 y
   exact absurd h0 dc
 ·intro h0 x
  rw[h0]
  simp[GP,wv]
end
section
variable {L:Nat→Option PFunc} (hL:∀k f,LS k=some f→L k=some f) (en:List Enum) (ns:List Node) (a b:Int) (ents:xJ)
include hL
theorem c62 (k:Nat) (hn:NodesIn ents ns k) (s:Place) (eK:s.before=ns.take k) (e:Expr) (outs:Nat) (h:List PObj) (h2:h[2]? = some (wC ents)) (h3:h[3]? = some (ww en ns a b)):
  wK L 124 [.ptr 3 0,.int .i64 k,wl e,.int .i64 outs] h=some (wv 1 a b (CX s e outs),h):=by
 have hT:=λz=>BS hL en ns a b h h3 z
 have hF:=λz=>BT hL en ns a b h h3 z
 obtain⟨z,hz,eH⟩:=FS (1,e.name) ents 0
 simp only[zy] at hz
 have hc:=hn e.name
 refine zn (hL 124 _ rfl) rfl ?_
 unfold CX
 rw[eK]
 cases kY:callee (ns.take k) e.name with
 | none =>
   rw[kY] at hc
   simp only at hc
   cases z with
   | none =>
     simp[Dk,h3,h2,ww,wC,w8,hz,hF,wv]
   | some z =>
     obtain⟨j,v⟩:=z
     obtain⟨u,hu,rfl⟩:∃u,yw (1,e.name) ents=some u∧v = .int .i64 u:=by
      cases he:yw (1,e.name) ents with
      | none=>rw[he] at eH; simp at eH
      | some u=>rw[he] at eH; exact⟨u,rfl,by simpa using eH⟩
     have gI:=hc u hu
     simp[Dk,h3,h2,ww,wC,w8,hz,hF,gI,wv]
 | some m =>
   rw[kY] at hc
   obtain⟨i,hi,fT,ou⟩:=hc
   cases z with
   | none=>rw[hi] at eH; simp at eH
   | some z =>
     obtain⟨j,v⟩:=z
     rw[hi] at eH
     have hv:v = .int .i64 i:=by simpa using eH
     subst hv
     have mB:(i:Int)<k:=by omega
     obtain⟨dL,ov⟩:=ai.1 ou
     have gI:(ns.map wE)[i]? = some (wE m):=by simp[ou]
     by_cases c1:(e.args.length:Int)=wrap (m.ins.length+e.v)
     ·have c1':wrap (m.ins.length+e.v)=(e.args.length:Int):=c1.symm
      by_cases c2:m.outs.length=outs
      ·have c2':outs=m.outs.length:=c2.symm
       have c3:(outs:Int)=m.outs.length:=by omega
       have c3':(m.outs.length:Int)=outs:=by omega
       simp[Dk,h3,h2,ww,wC,w8,hz,hT,fT,mB,dL,ov,ou,tf c1,tf c1',tf c2,tf c3,tf c3',wv,need]
      ·have c3:¬(outs:Int)=m.outs.length:=by omega
       have c3':¬(m.outs.length:Int)=outs:=by omega
       simp[Dk,h3,h2,ww,wC,w8,hz,hT,hF,fT,mB,dL,ov,ou,tf c1,tf c1',tf c2,tf c3,tf c3',wv,need]
     ·have c1':¬wrap (m.ins.length+e.v)=(e.args.length:Int):=λh=>c1 h.symm
      simp[Dk,h3,h2,ww,wC,w8,hz,hT,hF,fT,mB,dL,ov,ou,tf c1,tf c1',wv,need]
def xu (h:List PObj) (k:Nat) (v:PV) (outs:Nat) (lp:Bool):List PObj:=h++[.cells [.ptr 3 0],.cells [.int .i64 k],.cells [v],.cells [.int .i64 outs],.loop lp]
omit hL in
theorem Kt (h:List PObj) (k:Nat) (v:PV) (outs:Nat) (lp:Bool) {n:Nat} (hn:n<h.length):(xu h k v outs lp)[n]? = h[n]? := by unfold xu; rw[am hn]
theorem OQ (k:Nat) (hn:NodesIn ents ns k) (s:Place) (eK:s.before=ns.take k) (x:Expr) (outs:Nat) (h:List PObj) (h2:h[2]? = some (wC ents)) (h3:h[3]? = some (ww en ns a b)) (q:Nat) (hq:q≤h.length) (v:PV) (fs:List Fr) (hv:Holds h q v fs) (dn:∀x,xg fs x=true↔x∈s.vis):
  wK L 190 [.ptr (h.length+4) 0,.ptr h.length 0,.ptr (h.length+1) 0,.ptr (h.length+2) 0,.ptr (h.length+3) 0,wl x] (xu h k v outs true)=some (if oneN s outs x=0 then(.val (.bool true),xu h k v 1 true) else(.boom (xx 1 a b (oneN s outs x)),xu h k v outs false)):=by
 have nn:3<h.length:=(ai.1 h3).1
 have g2:(xu h k v outs false)[2]? = some (wC ents):=by rw[Kt _ _ _ _ _ (by omega)]; exact h2
 have g3:(xu h k v outs false)[3]? = some (ww en ns a b):=by rw[Kt _ _ _ _ _ nn]; exact h3
 have hT:=λz=>BS hL en ns a b (xu h k v outs false) g3 z
 have hF:=λz=>BT hL en ns a b (xu h k v outs false) g3 z
 have hs:=Hw hL x.name _ (xu h k v outs false) q _ (hv.keep λn hn=>Kt _ _ _ _ _ (by omega))
 have hc:=c62 hL en ns a b ents k hn s eK x outs (xu h k v outs false) g2 g3
 have il:=hv.cp
 have im:=hv.tkv
 have kO:=hv.dem
 have ot:∀x,xg fs x=decide (x∈s.vis):=λx=>by rw[aS,aw]; exact dn x
 rw[ot] at hs
 simp only[xu] at hT hF hs hc ⊢
 refine FL (as:=[.ptr h.length 0,.ptr (h.length+1) 0,.ptr (h.length+2) 0,.ptr (h.length+3) 0,wl x]) (hL 190 _ rfl) rfl rfl (by simp) ?_
 unfold oneN
 by_cases hk:x.kind=2∨x.kind=8∨x.kind=9
 ·rw[ah hk]
  by_cases hm:x.name∈s.vis
  ·simp[hm] at hs
   rcases hk with k2|k2|k2<;>simp[Dl,k2,wq,yi,il,im,hs,hT,hm]
  ·simp[hm] at hs
   rcases hk with k2|k2|k2<;>simp[Dl,k2,wq,yi,il,im,hs,hF,hm,need]
 ·rw[af hk]
  simp only[not_or] at hk
  obtain⟨k2,k8,k9⟩:=hk
  by_cases k10:x.kind=10
  ·rw[ah k10]
   by_cases hz:CX s x outs=0
   ·rw[hz] at hc
    simp[wv] at hc
    simp[Dl,tf k10,tf k2,tf k8,tf k9,wq,yi,il,im,hc,hz,wv]
   ·simp[wv,hz] at hc
    simp[Dl,tf k10,tf k2,tf k8,tf k9,wq,yi,il,im,hc,hz,wv]
  ·rw[af k10]
   simp[Dl,tf k2,tf k8,tf k9,tf k10,wq,yi,il,im]
end
section
variable {L:Nat→Option PFunc} (hL:∀k f,LS k=some f→L k=some f) (en:List Enum) (ns:List Node) (a b:Int) (ents:xJ)
include hL
theorem Ku (k:Nat) (hn:NodesIn ents ns k) (s:Place) (eK:s.before=ns.take k) (e:Expr) (he:EW e) (outs:Nat) (h:List PObj) (h2:h[2]? = some (wC ents)) (h3:h[3]? = some (ww en ns a b)) (q:Nat) (hq:q≤h.length) (v:PV) (fs:List Fr) (hv:Holds h q v fs) (dn:∀x,xg fs x=true↔x∈s.vis):
  ∃h',wK L 99 [.ptr 3 0,.int .i64 k,v,wl e,.int .i64 outs] h=some (wv 1 a b (w7 s e outs),h')∧Kp h.length h h':=by
 suffices H:∃res,wK L 99 [.ptr 3 0,.int .i64 k,v,wl e,.int .i64 outs] h=some res∧∃h',res=(wv 1 a b (w7 s e outs),h')∧Kp h.length h h' by
  obtain⟨res,e1,h',e2,e3⟩:=H
  exact⟨h',by rw[e1,e2],e3⟩
 have il:=hv.cp
 have im:=hv.tkv
 have kO:=hv.dem
 have mf:v.cells=[v]:=by rcases hv.ptr with rfl|⟨n,rfl⟩<;>rfl
 obtain⟨h0,pT⟩:∃h0,h0=h++[.cells [.ptr 3 0],.cells [.int .i64 k],.cells [v],.cells [.int .i64 outs]]:=⟨_,rfl⟩
 have jb:h0.length=h.length+4:=by rw[pT]; simp
 have hE:=FJ hL e h0
 have io:=λx=>OQ hL en ns a b ents k hn s eK x outs h h2 h3 q hq v fs hv dn
 have gh:=λx=>OQ hL en ns a b ents k hn s eK x 1 h h2 h3 q hq v fs hv dn
 have hl:h0++[.loop true]=xu h k v outs true:=by rw[pT]; simp[xu]
 obtain⟨y,pQ,sY,hy⟩:∃y:Expr→List PObj→Option (Out×List PObj),(∀x,y x (xu h k v outs true)=some (if oneN s outs x=0 then(.val (.bool true),xu h k v 1 true) else(.boom (xx 1 a b (oneN s outs x)),xu h k v outs false)))∧(∀x,y x (xu h k v 1 true)=some (if oneN s 1 x=0 then(.val (.bool true),xu h k v 1 true) else(.boom (xx 1 a b (oneN s 1 x)),xu h k v 1 false))) ∧
   ∀x h' r,y x h'=some r→∃o:Nat,h'=xu h k v o true∧(o=outs∨o=1)∧r=(if oneN s o x=0 then(.val (.bool true),xu h k v 1 true) else(.boom (xx 1 a b (oneN s o x)),xu h k v o false)):=by
  classical
  refine⟨λx h'=>if h'=xu h k v outs true then some (if oneN s outs x=0 then(.val (.bool true),xu h k v 1 true) else(.boom (xx 1 a b (oneN s outs x)),xu h k v outs false)) else if h'=xu h k v 1 true then some (if oneN s 1 x=0 then(.val (.bool true),xu h k v 1 true) else(.boom (xx 1 a b (oneN s 1 x)),xu h k v 1 false)) else none,λx=>ah rfl,λx =>?_,λx h' r hr =>?_⟩
  ·simp only
   by_cases ho:outs=1
   ·subst ho; simp
   ·have:¬xu h k v 1 true=xu h k v outs true:=by
     unfold xu
     rw[List.append_cancel_left_eq]
     simp; omega
    rw[af this]; simp
  ·simp only at hr
   split at hr
   ·rename_i e1; exact⟨outs,e1,.inl rfl,(Option.some.inj hr).symm⟩
   ·split at hr
    ·rename_i e1; exact⟨1,e1,.inr rfl,(Option.some.inj hr).symm⟩
    ·simp at hr
 refine BR (hL 99 _ rfl) rfl ?_
 have c1:∀n o,(PV.ptr n o).cells=[.ptr n o]:=λ_ _=>rfl
 have c2:∀x,(PV.int .i64 x).cells=[.int .i64 x]:=λ_=>rfl
 have uM:wj L 81 [wl e] (h++[.cells [.ptr 3 0],.cells [.int .i64 k],.cells [v],.cells [.int .i64 outs]])=some (.func 114 [] [.cptr (wl e).cells],h++[.cells [.ptr 3 0],.cells [.int .i64 k],.cells [v],.cells [.int .i64 outs]]):=by rw[← pT]; exact hE
 simp[Fc,mf,kO,il,im,c1,c2,uM]
 rw[← pT]
 have cQ:yM y e.list (h0++[.loop true])=some (if w7 s e outs=0 then(.val (.bool true),xu h k v 1 true) else(.boom (xx 1 a b (w7 s e outs)),xu h k v (if oneN s outs e=0 then 1 else outs) false)):=by
  rw[hl,Expr.list_eq]
  simp only[yM,pQ]
  unfold w7
  by_cases h1:oneN s outs e=0
  ·simp only[h1,if_true,wu]
   exact FH (f:=oneN s 1) (R:=λz=>(.boom (xx 1 a b z),xu h k v 1 false)) _ (λx _ hx=>by rw[sY,ah hx]) (λx _ hx=>by rw[sY,af hx]) (λz h'=>by simp)
  ·simp[h1,wu]
 refine FK hL e he (cs:=[.ptr h.length 0,.ptr (h.length+1) 0,.ptr (h.length+2) 0,.ptr (h.length+3) 0]) (by simp) (by simp) (by simp[cp]) y ?_ ?_ _ cQ ?_
 ·intro x _ h' r hr
  obtain⟨o,rfl,ho,rfl⟩:=hy x h' r hr
  rw[jb]
  rcases ho with rfl|rfl
  ·exact io x
  ·exact gh x
 ·intro x h' r hr
  obtain⟨o,rfl,ho,rfl⟩:=hy x h' r hr
  split
  ·exact .inl ⟨_,_,rfl⟩
  ·exact .inr ⟨_,_,rfl⟩
 ·by_cases hz:w7 s e outs=0
  ·rw[ah hz,jb]
   simp[A3,xu,Fc,hz,wv]
   exact Kp.app (ao _)
  ·rw[af hz,jb]
   simp[A3,xu,Fc,hz,wv]
   exact Kp.app (ao _)
theorem OR (k:Nat) (hn:NodesIn ents ns k) (s:Place) (eK:s.before=ns.take k) (l:List Trn) (hl:l.length≤1100000) (hw:∀x∈l,XW x.cond) (r:Bool) (h:List PObj) (h2:h[2]? = some (wC ents)) (h3:h[3]? = some (ww en ns a b)) (q:Nat) (hq:q≤h.length) (v:PV) (fs:List Fr) (hv:Holds h q v fs) (dn:∀x,xg fs x=true↔x∈s.vis):
  ∃h',wK L 126 [.ptr 3 0,.int .i64 k,v,.list r (l.map xn)] h=some (wv 1 a b (A5 s l),h')∧Kp h.length h h':=by
 suffices H:∃res,wK L 126 [.ptr 3 0,.int .i64 k,v,.list r (l.map xn)] h=some res∧∃h',res=(wv 1 a b (A5 s l),h')∧Kp h.length h h' by
  obtain⟨res,e1,h',e2,e3⟩:=H
  exact⟨h',by rw[e1,e2],e3⟩
 have il:=hv.cp
 have im:=hv.tkv
 have kO:=hv.dem
 refine BR (hL 126 _ rfl) rfl ?_
 simp[GX,kO]
 rw[MG]
 refine xc l.length (λj st=>∃y4 g h',st=⟨[.ptr 3 0,.int .i64 k,v,.list false (l.map xn),y4,.list false (l.map xn),.int .i64 l.length,.int .i64 j],[],g,h'⟩∧Kp h.length h h'∧A5 s l=A5 s (l.drop j)) ?_ ?_ ⟨_,_,h,rfl,Kp.refl _ _,rfl⟩
 ·rintro j hj st ⟨y4,g,h',rfl,dg,di⟩ ih
  have nW:=wF j (by omega)
  have nn:3<h.length:=(ai.1 h3).1
  have fl:h'[2]? = some (wC ents):=(dg.2 2 (by omega)).trans h2
  have eU:h'[3]? = some (ww en ns a b):=(dg.2 3 nn).trans h3
  obtain⟨h'',hx,fk⟩:=Ku hL en ns a b ents k hn s eK l[j].cond (hw _ (aj hj)).ew 1 h' fl eU q (aR hq dg.1) v fs (hv.keep λn hn=>dg.2 n (by omega)) dn
  have fI:Kp h.length h h'':=dg.trans (fk.le dg.1)
  rw[aZ hj] at di
  have gV:A5 s (l[j]::l.drop (j+1))=if w7 s l[j].cond 1=0 then A5 s (l.drop (j+1)) else w7 s l[j].cond 1:=rfl
  rw[gV] at di
  by_cases hz:w7 s l[j].cond 1=0
  ·rw[ah hz] at di
   rw[hz] at hx
   simp[wv] at hx
   simp[hj,il,im,hx,nW]
   exact ih _ ⟨_,_,_,rfl,fI,di⟩
  ·rw[af hz] at di
   simp[wv,hz] at hx
   simp[hj,il,im,hx]
   exact⟨h'',by simp[di,wv,hz],fI⟩
 ·rintro st ⟨y4,g,h',rfl,dg,di⟩
  rw[bj (ao _)] at di
  have:A5 s l=0:=di
  simp[GX]
  exact⟨h',by simp[this,wv],dg⟩
end
section
variable {h h':List PObj} {b b' n o d:Nat} {i dv up:PV} {f:Fr} {fs:List Fr}
theorem Fr.same {f:Fr} (h:f.D=f.df):({ f with D:=f.df,df:=f.df }:Fr)=f:=by cases f; simp at h ⊢; exact h.symm
theorem TopAt.upTo (t:TopAt h b b' n o d i dv up f fs) {c:Nat} (hc:b≤c):TopAt h c b' n o d i dv up f fs where
 ln:=t.ln
 lo:=t.lo
 ld:=t.ld
 un:=aN t.un hc
 uo:=aN t.uo hc
 ud:=aN t.ud hc
 no:=t.no
 nd:=t.nd
 od:=t.od
 four:=t.four
 hn:=t.hn
 ho:=t.ho
 hd:=t.hd
 hi:=by
  rcases t.hi with h|⟨m,e1,e2,e3,e4,e5,e6,e7⟩
  ·exact .inl h
  ·exact .inr ⟨m,e1,e2,aN e3 hc,e4,e5,e6,e7⟩
 row:=by
  rcases t.row with h|⟨k,e1,e2,e3,e4⟩
  ·exact .inl h
  ·exact .inr ⟨k,e1,aN e2 hc,e3,e4⟩
 rne:=t.rne
 hup:=t.hup
theorem TopAt.push (t:TopAt h h.length b' n o d i dv up f fs) (df:List Str) (h1:List PObj) (uN:h1.length=h.length) (hk:∀k,k<b'→h1[k]? = h[k]?) (ey:∀k,b'≤k→(∀s a len,dv≠.rowp k s a len)→k≠n→h1[k]? = h[k]?):
  TopAt ((h1++[PObj.cells (df.map PV.str)]).set n (.cells [up,.map (some o),.map (some d),i,.rowp h.length 1 false df.length])) (h.length+1) b' n o d i (.rowp h.length 1 false df.length) up { f with df:=df } fs:=by
 have gy:=t.un
 have m9:=t.ln
 have key:∀k,k<h.length→k≠n→(h1[k]? = h[k]?)→((h1++[PObj.cells (df.map PV.str)]).set n (.cells [up,.map (some o),.map (some d),i,.rowp h.length 1 false df.length]))[k]? = h[k]? := by
  intro k eW pU hh
  rw[aq (Ne.symm pU),am (by omega)]
  exact hh
 refine⟨t.ln,t.lo,t.ld,by omega,by have:=t.uo; omega,by have:=t.ud; omega,t.no,t.nd,t.od,t.four,?_,?_,?_,?_,?_,?_,?_⟩
 ·rw[a8 (by simp; omega)]
 ·rw[key o t.uo (Ne.symm t.no) (ey o t.lo (λs a len e=>(t.rne _ _ _ _ e).2.1 rfl) (Ne.symm t.no))]
  exact t.ho
 ·rw[key d t.ud (Ne.symm t.nd) (ey d t.ld (λs a len e=>(t.rne _ _ _ _ e).2.2.1 rfl) (Ne.symm t.nd))]
  exact t.hd
 ·rcases t.hi with h|⟨m,e1,e2,e3,e4,e5,e6,e7⟩
  ·exact .inl h
  ·refine .inr ⟨m,e1,e2,by omega,e4,e5,e6,?_⟩
   rw[key m e3 e4 (ey m e2 (λs a len e=>(t.rne _ _ _ _ e).2.2.2 e1) e4)]
   exact e7
 ·refine .inr ⟨h.length,by omega,by omega,rfl,?_⟩
  rw[aq (by omega),← uN]
  simp
 ·intro k s a len e
  simp only[PV.rowp.injEq] at e
  obtain⟨rfl,_⟩:=e
  have:=t.uo
  have:=t.ud
  refine⟨by omega,by omega,by omega,?_⟩
  rcases t.hi with⟨h1,_⟩|⟨m,e1,e2,e3,_⟩
  ·rw[h1]; simp
  ·rw[e1]; simp; omega
 ·refine t.hup.keep λk dh =>?_
  rw[key k (by omega) (by omega) (hk k dh)]
end
section
variable {L:Nat→Option PFunc} (hL:∀k f,LS k=some f→L k=some f) (en:List Enum) (ns:List Node) (a b:Int) (ents:xJ)
include hL
theorem c63 (k:Nat) (s:Place) (l:List Str) (qL:l.length≤1100000) (h:List PObj) (h2:h[2]? = some (wC ents)) (h3:h[3]? = some (ww en ns a b)) (q' n o d:Nat) (i dv up:PV) (f:Fr) (fs:List Fr) (t:TopAt h h.length q' n o d i dv up f fs) (dn:∀x,xg (f::fs) x=true↔x∈s.vis)
  (d0:List Str) (hD:f.D=f.df) (dI:∀x,(x∈f.I∨zc fs x=true)↔(x∈s.inputs∨x∈d0)) (i9:f.df.length+l.length≤4000000) (V4 V5 V6:PV) {Q:PExit→St→Prop}
  (ok:(Ad s l (d0++f.df)).1=0→∀h' dv' df' y5 y8,Kp q' h h'→(Ad s l (d0++f.df)).2=d0++df'→TopAt h' h'.length q' n o d i dv' up { f with D:=df',df:=df' } fs→Q (.exit 0) ⟨[.ptr 3 0,.int .i64 k,.ptr n 0,V4,V5,y5,.list false (l.map PV.str),.int .i64 l.length,y8],[],1,h'⟩)
  (no:(Ad s l (d0++f.df)).1≠0→∀h' y5 y8,Kp q' h h'→Q (.boom (xx 1 a b (Ad s l (d0++f.df)).1)) ⟨[.ptr 3 0,.int .i64 k,.ptr n 0,V4,V5,y5,.list false (l.map PV.str),.int .i64 l.length,y8],[],1,h'⟩):
  wpL L I9 ⟨[.ptr 3 0,.int .i64 k,.ptr n 0,V4,V5,V6,.list false (l.map PV.str),.int .i64 l.length,.int .i64 0],[],1,h⟩ Q:=by
 rw[I9]
 refine xc l.length (λj st=>∃y5 h' dv' df',st=⟨[.ptr 3 0,.int .i64 k,.ptr n 0,V4,V5,y5,.list false (l.map PV.str),.int .i64 l.length,.int .i64 j],[],1,h'⟩∧Kp q' h h'∧TopAt h' h'.length q' n o d i dv' up { f with D:=df',df:=df' } fs∧Ad s l (d0++f.df)=Ad s (l.drop j) (d0++df')∧df'.length=f.df.length+j) ?_ ?_ ⟨_,h,dv,f.df,rfl,Kp.refl _ _,by rw[Fr.same hD]; exact t,rfl,rfl⟩
 ·rintro j hj st ⟨y5,h',dv',df',rfl,dg,ht,di,cO⟩ ih
  have hw:=wF j (by omega)
  have fl:h'[2]? = some (wC ents):=(dg.2 2 (by have:=ht.four; omega)).trans h2
  have eU:h'[3]? = some (ww en ns a b):=(dg.2 3 (by have:=ht.four; omega)).trans h3
  have hT:=λz=>BS hL en ns a b h' eU z
  have hF:=λz=>BT hL en ns a b h' eU z
  have hs:=Hw hL l[j] _ h' _ _ ht.holds
  have eV:=c0u hL l[j] _ h' _ _ ht.holds
  have jI:xg ({ f with D:=df',df:=df' }::fs) l[j]=decide (l[j]∈s.vis):=by
   rw[aS,aw,← dn]; rfl
  have gY:zc ({ f with D:=df',df:=df' }::fs) l[j]=decide (l[j]∈s.inputs∨l[j]∈d0++df'):=by
   rw[aS,aw]
   have:=dI l[j]
   simp only[zc,List.any_cons,bH,aw,ay] at this ⊢
   constructor
   ·rintro((h1|h1)|h1)
    ·exact .inr (.inr h1)
    ·rcases this.1 (.inl h1) with h2|h2
     ·exact .inl h2
     ·exact .inr (.inl h2)
    ·rcases this.1 (.inr h1) with h2|h2
     ·exact .inl h2
     ·exact .inr (.inl h2)
   ·rintro(h1|h1|h1)
    ·rcases this.2 (.inl h1) with h2|h2
     ·exact .inl (.inr h2)
     ·exact .inr h2
    ·rcases this.2 (.inr h1) with h2|h2
     ·exact .inl (.inr h2)
     ·exact .inr h2
    ·exact .inl (.inl h1)
  rw[jI] at hs
  rw[gY] at eV
  have hn:=ht.hn
  have hd:=ht.hd
  rw[aZ hj] at di
  simp only[Ad] at di
  by_cases hv:l[j]∈s.vis
  ·rw[af (not_not_intro hv)] at di
   by_cases oz:l[j]∈s.inputs∨l[j]∈d0++df'
   ·rw[ah oz] at di
    rw[decide_eq_true oz] at eV
    rw[decide_eq_true hv] at hs
    simp[hj,hs,eV,hT,hF]
    have:=no (by rw[di]; simp) h' (.str l[j]) (.int .i64 j) dg
    rw[di] at this
    exact this
   ·rw[af oz] at di
    rw[decide_eq_false oz] at eV
    rw[decide_eq_true hv] at hs
    obtain⟨r',hr,_,gU⟩:=Bs l[j] df'
    have f0:AY df' l[j]=df'++[l[j]]:=by
     unfold AY; rw[af]; intro hm; exact oz (.inr (b6 _ hm))
    rw[f0] at gU
    have ip:=ht.setD (df'++[l[j]])
    have jX:(h'.set d (PObj.map (bmE (df'++[l[j]])))).length=h'.length:=by simp
    have jY:Kp q' h (h'.set d (PObj.map (bmE (df'++[l[j]])))):=dg.trans (Kp.set ht.ld)
    obtain⟨h4,e4⟩:∃h4,h'.set d (PObj.map (bmE (df'++[l[j]])))=h4:=⟨_,rfl⟩
    rw[e4] at ip jX jY
    rw[← jX] at ip
    have n4:=ip.hn
    have gy:=ip.un
    have m9:=ip.ln
    rcases ip.row with⟨rfl,gt⟩|⟨kr,fX,ey,rfl,gE⟩
    ·simp only at gt
     subst gt
     obtain⟨h5,e5⟩:∃h5,h4.set n (.cells [up,.map (some o),.map (some d),i,.list false []])=h5:=⟨_,rfl⟩
     have hU:h5.length=h4.length:=by rw[← e5]; simp
     have n5:(h5++[PObj.cells [.str l[j]]])[n]? = some (.cells [up,.map (some o),.map (some d),i,.list false []]):=by
      rw[am (by omega),← e5,a8 gy]
     have kP:=ip.push [l[j]] h5 hU (λc hc=>by rw[← e5,aq (by omega)]) (λc _ _ li=>by rw[← e5,aq (Ne.symm li)])
     simp only[ax,ba,aI,bB] at kP
     simp only[aY] at e4 gU
     simp[hj,hs,eV,hT,hF,hn,hd,hr,gU,hw,w8,e4,n4,e5,n5,AL,w6,yi]
     rw[hU]
     refine ih _ ⟨_,_,.rowp h4.length 1 false 1,[l[j]],rfl,?_,?_,?_,?_⟩
     ·refine Kp.trans jY ⟨by simp[hU],λc hc =>?_⟩
      rw[aq (by omega),am (by have:=ip.four; omega),← e5,aq (by omega)]
     ·have:((h5++[PObj.cells [.str l[j]]]).set n (.cells [up,.map (some o),.map (some d),i,.rowp h4.length 1 false 1])).length=h4.length+1:=by simp[hU]
      rw[this]
      exact kP
     ·rw[di]; simp
     ·simp at cO ⊢; omega
    ·obtain⟨h5,e5⟩:∃h5,h4.set kr .gone=h5:=⟨_,rfl⟩
     have hU:h5.length=h4.length:=by rw[← e5]; simp
     have nx:=(ip.rne _ _ _ _ rfl).1
     have n5:(h5++[PObj.cells (df'.map PV.str++[.str l[j]])])[n]? = some (.cells [up,.map (some o),.map (some d),i,.rowp kr 1 false df'.length]):=by
      rw[am (by omega),← e5,aq nx]; exact n4
     have kP:=ip.push (df'++[l[j]]) h5 hU (λc hc=>by rw[← e5,aq (by omega)]) (λc hc fQ li=>by
      have:kr≠c:=by
       intro jd
       exact absurd rfl (fQ 1 false df'.length |> λh=>by subst jd; exact h)
      rw[← e5,aq this])
     simp only[aU,ax,ba,ap,aI,bB] at kP
     simp only at gE
     have fe:df'.length≤2147483647:=by omega
     have dO:(df'.map PV.str).take df'.length=df'.map PV.str:=bW (by simp)
     have kQ:(dem∘PV.str)=PV.str:=rfl
     have qY:List.map PV.str (df'.take df'.length)=List.map PV.str df':=by rw[aP]
     simp[hj,hs,eV,hT,hF,hn,hd,hr,gU,hw,w8,e4,n4,AL,gE,fe,dO,kQ,qY,w6,yi,e5,n5]
     refine ih _ ⟨_,_,.rowp h4.length 1 false (df'.length+1),df'++[l[j]],rfl,?_,?_,?_,?_⟩
     ·refine Kp.trans jY ⟨by simp[hU],λc hc =>?_⟩
      rw[aq (by omega),am (by have:=ip.four; omega),← e5,aq (by omega)]
     ·have:((h5++[PObj.cells (df'.map PV.str++[.str l[j]])]).set n (.cells [up,.map (some o),.map (some d),i,.rowp h4.length 1 false (df'.length+1)])).length=h4.length+1:=by simp[hU]
      rw[this]
      exact kP
     ·rw[di]; simp
     ·simp at cO ⊢; omega
  ·rw[ah hv] at di
   rw[decide_eq_false hv] at hs
   simp[hj,hs,hF]
   have:=no (by rw[di]; simp) h' (.str l[j]) (.int .i64 j) dg
   rw[di] at this
   exact this
 ·rintro st ⟨y5,h',dv',df',rfl,dg,ht,di,cO⟩
  rw[bj (ao _)] at di
  simp
  exact ok (by rw[di]; rfl) h' dv' df' y5 _ dg (by rw[di]; rfl) ht
theorem Mf (k:Nat) (dr:NodesIn ents ns k) (s:Place) (eK:s.before=ns.take k) (x:Eqn) (hx:QW x) (h:List PObj) (h2:h[2]? = some (wC ents)) (h3:h[3]? = some (ww en ns a b)) (q' n o d:Nat) (i dv up:PV) (f:Fr) (fs:List Fr) (t:TopAt h h.length q' n o d i dv up f fs) (dn:∀x,xg (f::fs) x=true↔x∈s.vis)
  (d0:List Str) (hD:f.D=f.df) (dI:∀x,(x∈f.I∨zc fs x=true)↔(x∈s.inputs∨x∈d0)) (i9:f.df.length+x.left.length≤4000000):
  ∃h',wK L 61 [.ptr 3 0,.int .i64 k,.ptr n 0,wX x] h=some (wv 1 a b (x5 s x (d0++f.df)).1,h')∧Kp q' h h'∧((x5 s x (d0++f.df)).1=0→∃dv' df',(x5 s x (d0++f.df)).2=d0++df'∧TopAt h' h'.length q' n o d i dv' up { f with D:=df',df:=df' } fs):=by
 suffices H:∃res,wK L 61 [.ptr 3 0,.int .i64 k,.ptr n 0,wX x] h=some res∧∃h',res=(wv 1 a b (x5 s x (d0++f.df)).1,h')∧Kp q' h h'∧((x5 s x (d0++f.df)).1=0→∃dv' df',(x5 s x (d0++f.df)).2=d0++df'∧TopAt h' h'.length q' n o d i dv' up { f with D:=df',df:=df' } fs) by
  obtain⟨res,e1,h',e2,e3⟩:=H
  exact⟨h',by rw[e1,e2],e3⟩
 refine BR (hL 61 _ rfl) rfl ?_
 simp[DU]
 refine c63 hL en ns a b ents k s x.left hx.left h h2 h3 q' n o d i dv up f fs t dn d0 hD dI i9 _ _ _ ?_ ?_
 ·intro hz h' dv' df' y5 y8 dg eV ht
  have fl:h'[2]? = some (wC ents):=(dg.2 2 (by have:=ht.four; omega)).trans h2
  have eU:h'[3]? = some (ww en ns a b):=(dg.2 3 (by have:=ht.four; omega)).trans h3
  obtain⟨h'',mC,fk⟩:=Ku hL en ns a b ents k dr s eK x.right hx.right.ew x.left.length h' fl eU h'.length (ao _) _ _ ht.holds dn
  have he:x5 s x (d0++f.df)=(w7 s x.right x.left.length,d0++df'):=by
   unfold x5 yd
   rw[ah hz,eV]
  have lN:q'≤h'.length:=aR ht.ln (Nat.le_of_lt ht.un)
  by_cases eH:w7 s x.right x.left.length=0
  ·rw[eH] at mC
   simp[wv] at mC
   simp[mC,DU]
   refine⟨h'',by rw[he]; simp[eH,wv],dg.trans (fk.le lN),λ_=>⟨dv',df',by rw[he],(ht.keep fk.2).upTo fk.1⟩⟩
  ·simp[wv,eH] at mC
   simp[mC,DU]
   refine⟨h'',by rw[he]; simp[eH,wv],dg.trans (fk.le lN),λh0 =>?_⟩
   rw[he] at h0
   exact absurd h0 eH
 ·intro hz h' y5 y8 dg
  have he:x5 s x (d0++f.df)=((Ad s x.left (d0++f.df)).1,[]):=by
   unfold x5
   exact Ak hz _
  simp[DU]
  refine⟨h',by rw[he]; simp[wv,hz],dg,λh0 =>?_⟩
  rw[he] at h0
  exact absurd h0 hz
end
def A0 {α:Type} (P:α→Bool) (l:List α):Int:=match l.findIdx? P with
 | none => -1
 | some i=>i
theorem Fx {α:Type} {P:α→Bool} {l:List α} {j:Nat} (hj:j<l.length) (hp:P l[j]=true) (hn:∀i (hi:i<l.length),i<j→P l[i]=false):A0 P l=j:=by
 have:l.findIdx? P=some j:=by
  rw[List.findIdx?_eq_some_iff_getElem]
  exact⟨hj,hp,λi hi=>by simpa using hn i (by omega) hi⟩
 simp[A0,this]
theorem Fy {α:Type} {P:α→Bool} {l:List α} (hn:∀i (hi:i<l.length),P l[i]=false):A0 P l = -1:=by
 have:l.findIdx? P=none:=by
  rw[List.findIdx?_eq_none_iff]
  intro x hx
  obtain⟨i,hi,rfl⟩:=bR.1 hx
  exact hn i hi
 simp[A0,this]
theorem Hi {α:Type} (P:α→Bool) (l:List α):decide (0≤A0 P l)=l.any P:=by
 unfold A0
 cases h:l.findIdx? P with
 | none =>
   rw[List.findIdx?_eq_none_iff] at h
   symm
   simp only[show ¬(0:Int)≤-1 by decide,decide_false]
   rw[List.any_eq_false]
   intro x hx; simp[h x hx]
 | some i =>
   have:=List.findIdx?_eq_some_iff_getElem.1 h
   obtain⟨h1,h2,_⟩:=this
   simp only[show (0:Int)≤(i:Int) by omega,decide_true]
   symm
   rw[List.any_eq_true]
   exact⟨_,aj h1,h2⟩
def d4n (h:List PObj) (v:PV) (l:List Str):Prop:=(∃o,v = .list o (l.map PV.str))∨∃k,v = .rowp k 1 false l.length∧h[k]? = some (.cells (l.map PV.str))
section
variable {L:Nat→Option PFunc} (hL:∀k f,LS k=some f→L k=some f)
include hL
theorem Kv (l:List Str) (hl:l.length≤2000000000) (v:PV) (h:List PObj) (hv:d4n h v l) (k:Nat) (cs:List PV) (P:Str→Bool) (de:∀x∈l,wj L k [.str x,.cptr cs] h=some (.bool (P x),h)):wj L 151 [v,.func k [] [.cptr cs]] h=some (.int .i64 (A0 P l),h):=by
 refine wD (hL 151 _ rfl) rfl ?_
 rcases hv with⟨o,rfl⟩|⟨n,rfl,hn⟩
 ·simp[DZ]
  rw[Jy]
  refine xc l.length (λj st=>∃y3,st=⟨[.list false (l.map PV.str),.func k [] [.cptr cs],.int .i64 0,y3,.int .i64 l.length,.int .i64 j],[],0,h⟩∧∀i (hi:i<l.length),i<j→P l[i]=false) ?_ ?_ ⟨_,rfl,λi _ hi=>by omega⟩
  ·rintro j hj st ⟨y3,rfl,hn⟩ ih
   have hw:=wF j (by omega)
   have hc:=de l[j] (aj hj)
   cases hp:P l[j] with
   | true =>
     rw[hp] at hc
     simp[hj,hc,hw,Fx hj hp hn]
   | false =>
     rw[hp] at hc
     simp[hj,hc,hw]
     refine ih _ ⟨_,rfl,λi hi mo =>?_⟩
     by_cases he:i=j
     ·subst he; exact hp
     ·exact hn i hi (by omega)
  ·rintro st ⟨y3,rfl,hn⟩
   simp[DZ,Fy (λi hi=>hn i hi hi)]
 ·simp[DZ]
  rw[Jy]
  refine xc l.length (λj st=>∃y3,st=⟨[.rowp n 1 false l.length,.func k [] [.cptr cs],.int .i64 0,y3,.int .i64 l.length,.int .i64 j],[],0,h⟩∧∀i (hi:i<l.length),i<j→P l[i]=false) ?_ ?_ ⟨_,rfl,λi _ hi=>by omega⟩
  ·rintro j hj st ⟨y3,rfl,pV⟩ ih
   have hw:=wF j (by omega)
   have hc:=de l[j] (aj hj)
   cases hp:P l[j] with
   | true =>
     rw[hp] at hc
     simp[hj,hc,hw,hn,Fx hj hp pV]
   | false =>
     rw[hp] at hc
     simp[hj,hc,hw,hn]
     refine ih _ ⟨_,rfl,λi hi mo =>?_⟩
     by_cases he:i=j
     ·subst he; exact hp
     ·exact pV i hi (by omega)
  ·rintro st ⟨y3,rfl,pV⟩
   simp[DZ,Fy (λi hi=>pV i hi hi)]
theorem c64 (l:List Str) (hl:l.length≤2000000000) (o:Bool) (h:List PObj) (k:Nat) (cs:List PV) (P:Str→Bool) (de:∀x∈l,wj L k [.str x,.cptr cs] h=some (.bool (P x),h)):wj L 129 [.list o (l.map .str),.func k [] [.cptr cs]] h=some (.bool (l.any P),h):=by
 have hi:=Kv hL l hl _ h (.inl ⟨false,rfl⟩) k cs P de
 refine wD (hL 129 _ rfl) rfl ?_
 simp[Jq,hi,← Hi]
theorem NI (l:List Str) (hl:l.length≤2000000000) (o:Bool) (s:Str) (h:List PObj):wj L 110 [.list o (l.map .str),.str s] h=some (.bool (decide (s∈l)),h):=by
 obtain⟨P,hP⟩:∃P:Str→Bool,∀x,P x=decide (x=s):=⟨_,λ_=>rfl⟩
 have hi:wj L 139 [.list false (l.map .str),.str s] h=some (.int .i64 (A0 P l),h):=by
  refine wD (hL 139 _ rfl) rfl ?_
  simp[GZ]
  rw[MI]
  refine xc l.length (λj st=>∃y3,st=⟨[.list false (l.map PV.str),.str s,.int .i64 0,y3,.int .i64 l.length,.int .i64 j],[],0,h⟩∧∀i (hi:i<l.length),i<j→P l[i]=false) ?_ ?_ ⟨_,rfl,λi _ hi=>by omega⟩
  ·rintro j hj st ⟨y3,rfl,hn⟩ ih
   have hw:=wF j (by omega)
   by_cases hp:l[j]=s
   ·have eM:s=l[j]:=hp.symm
    have qZ:P l[j]=true:=by rw[hP]; simpa using hp
    simp[hj,hw,tf hp,tf eM,Fx hj qZ hn]
   ·have eM:¬s=l[j]:=λe=>hp e.symm
    have qZ:P l[j]=false:=by rw[hP]; simpa using hp
    simp[hj,hw,tf hp,tf eM]
    refine ih _ ⟨_,rfl,λi hi mo =>?_⟩
    by_cases he:i=j
    ·subst he; exact qZ
    ·exact hn i hi (by omega)
  ·rintro st ⟨y3,rfl,hn⟩
   simp[GZ,Fy (λi hi=>hn i hi hi)]
 have ha:decide (s∈l)=l.any P:=by
  rw[aS,aw,List.any_eq_true]
  constructor
  ·intro hm; exact⟨s,hm,by rw[hP]; simp⟩
  ·rintro⟨x,hm,hx⟩; rw[hP] at hx; simp at hx; subst hx; exact hm
 rw[ha]
 refine wD (hL 110 _ rfl) rfl ?_
 simp[Jo,hi,← Hi]
theorem OS (l m:List Str) (hl:l.length≤2000000000) (hm:m.length≤2000000000) (o1 o2:Bool) (h:List PObj):wj L 103 [.list o1 (l.map .str),.list o2 (m.map .str)] h=some (.bool (decide (l.length=m.length)&&l.all λx=>decide (x∈m)),h):=by
 have hc:∀x∈l,wj L 130 [.str x,.cptr [.list false (m.map PV.str)]] []=some (.bool (!decide (x∈m)),[]):=by
  intro x _
  have:=NI hL m hm false x []
  refine wD (hL 130 _ rfl) rfl ?_
  simp[Jr,this]
 have ha:=c64 hL l hl false [] 130 [.list false (m.map PV.str)] (λx => !decide (x∈m)) hc
 refine wD (hL 103 _ rfl) rfl ?_
 have dJ:(l.all λx=>decide (x∈m)) = !(l.any λx => !decide (x∈m)):=by simp[List.all_eq_not_any_not]
 rw[dJ]
 by_cases cO:l.length=m.length
 ·have hi:(l.length:Int)=m.length:=by omega
  simp[GT,tf hi,ha,tf cO]
 ·have hi:¬(l.length:Int)=m.length:=by omega
  simp[GT,tf hi,tf cO]
end
section
variable {L:Nat→Option PFunc} (hL:∀k f,LS k=some f→L k=some f)
include hL
theorem b8c (e:Expr) (h:List PObj):wj L 242 [wl e] h=some (.bool (isVar e.kind),h):=by
 refine wD (hL 242 _ rfl) rfl ?_
 by_cases h2:e.kind=2
 ·simp[D2,isVar,h2]
 ·by_cases h8:e.kind=8
  ·simp[D2,isVar,h8]
  ·by_cases h9:e.kind=9
   ·simp[D2,isVar,h9]
   ·simp[D2,isVar,h2,h8,h9]
theorem c0h (e:Expr) (hp:e.parts≤1100000) (ih:∀x∈e.args,∀(l:List Str),l.length+x.parts≤2200000→wj L 231 (Ah (some 0) [.list true (l.map .str),wl x,.bool true]) []=some (.list true ((yV l x).map .str),[]))
  (l:List Str) (hl:l.length+wx Expr.parts e.args≤2200000) (g:Nat) (y5 y6:PV) {Q:PExit→St→Prop}
  (hk:∀y5 y6 y9 g',Q (.exit 0) ⟨[.list true ((AO e.kind 0 l e.args).map .str),wl e,.bool true,.loc 0 [.int .i64 e.kind,.int .i64 e.op,.int .i64 e.t,.int .i64 e.v,.str e.name,.list false (e.args.map wl)],.list true [],y5,y6,.list false (e.args.map wl),.int .i64 e.args.length,y9],[],g',[]⟩):
  wpL L JZ ⟨[.list true (l.map .str),wl e,.bool true,.loc 0 [.int .i64 e.kind,.int .i64 e.op,.int .i64 e.t,.int .i64 e.v,.str e.name,.list false (e.args.map wl)],.list true [],y5,y6,.list false (e.args.map wl),.int .i64 e.args.length,.int .i64 0],[],g,[]⟩ Q:=by
 rw[JZ]
 have dH:=J6 e
 refine xc e.args.length (λj st=>∃z y5 y6 g',st=⟨[.list true (z.map PV.str),wl e,.bool true,.loc 0 [.int .i64 e.kind,.int .i64 e.op,.int .i64 e.t,.int .i64 e.v,.str e.name,.list false (e.args.map wl)],.list true [],y5,y6,.list false (e.args.map wl),.int .i64 e.args.length,.int .i64 j],[],g',[]⟩∧AO e.kind j z (e.args.drop j)=AO e.kind 0 l e.args∧z.length≤l.length+wx Expr.parts (e.args.take j)) ?_ ?_ ⟨l,y5,y6,g,rfl,by simp,by simp[wx]⟩
 ·rintro j hj st ⟨z,y5,y6,g',rfl,h1,h2⟩ ih2
  have hw:=wF j (by omega)
  have h3:=c0B Expr.parts hj
  have h4:=c4o Expr.parts e.args (j+1)
  have hc:=ih e.args[j] (aj hj) z (by omega)
  rw[aZ hj,AO] at h1
  by_cases h5:e.kind=5
  ·have hd:Bw e.kind j=true:=by simp[Bw,h5]
   rw[ah hd] at h1
   have dh:=λy5 y6 y9 g'=>hk y5 y6 y9 g'
   rw[← h1] at dh
   have n7:¬e.kind=7:=by omega
   simp[hj,tf h5,n7,hw]
   simpa using dh _ _ _ _
  ·by_cases h7:e.kind=7
   ·by_cases h0:0<j
    ·have hd:Bw e.kind j=true:=by simp[Bw,h7,h0]
     rw[ah hd] at h1
     have dh:=λy5 y6 y9 g'=>hk y5 y6 y9 g'
     rw[← h1] at dh
     simp[hj,tf h7,h5,h0,hw]
     simpa using dh _ _ _ _
    ·have hd:Bw e.kind j=false:=by simp[Bw,h7]; omega
     rw[hd] at h1
     have ih3:=ih2
     simp[hj,tf h7,h5,h0,hw,hc]
     refine ih2 _ ⟨yV z e.args[j],_,_,_,rfl,by simpa using h1,?_⟩
     have:=Fw z e.args[j]
     have e0:e.args[j].list.length=e.args[j].parts:=rfl
     omega
   ·have hd:Bw e.kind j=false:=by simp[Bw,h5,h7]
    rw[hd] at h1
    simp[hj,h5,h7,hw,hc]
    refine ih2 _ ⟨yV z e.args[j],_,_,_,rfl,by simpa using h1,?_⟩
    have:=Fw z e.args[j]
    have e0:e.args[j].list.length=e.args[j].parts:=rfl
    omega
 ·rintro st ⟨z,y5,y6,g',rfl,h1,h2⟩
  simp only[List.drop_length,AO] at h1
  rw[← h1] at hk
  simp
  simpa using hk _ _ _ _
theorem c3N (e:Expr):e.parts≤1100000→∀(l:List Str),l.length+e.parts≤2200000→wj L 231 (Ah (some 0) [.list true (l.map .str),wl e,.bool true]) []=some (.list true ((yV l e).map .str),[]):=by
 induction e using Expr.ind with
 | h e ih=>
 intro hp l hl
 have hv:=b8c hL e []
 have hh:=NI hL l (by omega) false e.name []
 have hi:=c7j l e
 have hpe:=parts_eq e
 have eu:l.length+1≤2147483648:=by omega
 have mg:=λ(l':List Str) (h':l'.length≤l.length+1) => @c0h L hL e hp (λx hx l h=>ih x hx (by have:=J7 hx; omega) l h) l' (by omega)
 refine c3c (hL 231 _ rfl) rfl ?_
 by_cases nT:isVar e.kind=true
 ·by_cases hm:e.name∈l
  ·have e1:Bx l e.kind e.name=l:=by simp[Bx,hm]
   rw[e1] at hi
   simp[Fu,Bd,hv,hh,nT,hm]
   have hx:=mg l (by omega)
   refine hx _ _ _ ?_
   intro y5 y6 y9 g'
   simp[hi]
  ·have e1:Bx l e.kind e.name=l++[e.name]:=by simp[Bx,hm,nT]
   rw[e1] at hi
   simp[Fu,Bd,hv,hh,nT,hm,eu]
   have hx:=mg (l++[e.name]) (by simp)
   simp only[aU,ax,ba] at hx
   refine hx _ _ _ ?_
   intro y5 y6 y9 g'
   simp[hi]
 ·have e1:Bx l e.kind e.name=l:=by simp[Bx,nT]
  rw[e1] at hi
  simp[Fu,Bd,hv,hh,nT]
  have hx:=mg l (by omega)
  refine hx _ _ _ ?_
  intro y5 y6 y9 g'
  simp[hi]
theorem c0i (e:Expr) (hp:e.parts≤1100000):wj L 217 [wl e] []=some (.list true ((yV [] e).map .str),[]):=by
 have hc:=c3N hL e hp [] (by simp; omega)
 refine wD (hL 217 _ rfl) rfl ?_
 simp at hc
 simp[JX,hc]
end
end PI.Sc
