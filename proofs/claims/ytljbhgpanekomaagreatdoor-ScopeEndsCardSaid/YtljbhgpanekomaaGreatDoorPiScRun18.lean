import Derived.Test.YtljbhgpanekomaaGreatDoorPiScLaw1
set_option maxRecDepth 100000
set_option linter.unusedSimpArgs false
set_option linter.unusedVariables false
set_option linter.unusedSectionVars false
namespace PI.Sc
open Go (IntKind BinOp UnOp)
open Short
def a1I (y:Expr→List PObj→Option (Out×List PObj)):List Expr→List PObj→Option (Out×List PObj)
 | [],h=>some (.val (.bool true),h)
 | x :: xs, h => match y x h with
   | some (.val (.bool true),h')=>a1I y xs h'
   | r=>r
theorem b1Q (y:Expr→List PObj→Option (Out×List PObj)):∀(a b:List Expr) (h:List PObj),a1I y (a++b) h=match a1I y a h with
  | some (.val (.bool true),h')=>a1I y b h'
  | r=>r
 | [],b,h=>rfl
 | x :: a, b, h => by
   simp only[List.cons_append,a1I]
   split
   ·exact b1Q y a b _
   ·rename_i hne
    split
    ·rename_i h1; exact absurd h1 (hne _)
    ·rfl
theorem a32 {y:Expr→List PObj→Option (Out×List PObj)} {f:Expr→Int} {R:Int→Out×List PObj} {h:List PObj}:∀(l:List Expr),(∀x∈l,f x=0→y x h=some (.val (.bool true),h))→(∀x∈l,f x≠0→y x h=some (R (f x)))→(∀e h',R e≠(.val (.bool true),h'))→a1I y l h=some (if a0d f l=0 then(.val (.bool true),h) else R (a0d f l))
 | [],_,_,_=>by simp[a1I,a0d]
 | x :: l, h1, h2, h3 => by
   simp only[a1I]
   by_cases hx:f x=0
   ·rw[h1 x (by simp) hx]
    simp only[a0d,hx,if_true]
    exact a32 l (λz hz=>h1 z (by simp[hz])) (λz hz=>h2 z (by simp[hz])) h3
   ·rw[h2 x (by simp) hx]
    simp only[a0d,hx,if_false]
    split
    ·rename_i hh; simp only[Option.some.injEq] at hh; exact absurd hh (h3 _ _)
    ·rfl
theorem b1R {y:Expr→List PObj→Option (Out×List PObj)} {H:Nat→List PObj}:∀(l:List Expr) (i:Nat),(∀x∈l,∀k,i≤k→k<i+l.length→y x (H k)=some (.val (.bool true),H (k+1)))→a1I y l (H i)=some (.val (.bool true),H (i+l.length))
 | [],i,_=>rfl
 | x :: l, i, h => by
   simp only[a1I,h x (by simp) i (Nat.le_refl _) (by simp)]
   rw[b1R l (i+1) (λz hz k h1 h2=>h z (by simp[hz]) k (by omega) (by simp; omega)),List.length_cons]
   congr 3; omega
theorem yAt (H0:List PObj) (R:Expr→Out×List PObj):∃y:Expr→List PObj→Option (Out×List PObj),(∀x,y x H0=some (R x))∧∀x h r,y x h=some r→h=H0∧r=R x:=by
 classical
 refine⟨λx h=>if h=H0 then some (R x) else none,λx=>if_pos rfl,λx h r hr =>?_⟩
 simp only at hr
 split at hr
 ·rename_i he; exact⟨he,(Option.some.inj hr).symm⟩
 ·simp at hr
theorem a0y (n:Nat) (cs:List PV) (off:Nat) (v:PV):a0g n false cs off v=if off<cs.length∧v.flat=true then some (cs.set off v) else none:=rfl
section
variable {L:Nat→Option PFunc} {V l:List PV} {g:Nat} {h:List PObj}
@[simp] theorem c9a {n:Nat} {o o':PObj}:(h.set n o).set n o'=h.set n o':=List.set_set ..
theorem a87 {n:Nat} {o:PObj} (hn:h[n]? = some o):h.set n o=h:=by
 obtain⟨hlt,he⟩:=List.getElem?_eq_some_iff.1 hn
 rw[← he]; exact List.set_getElem_self hlt
end
section
variable {L:Nat→Option PFunc} (hL:∀k f,LS k=some f→L k=some f)
include hL
theorem c3F (kb:Nat) (first captured:List PV) (y:Expr→List PObj→Option (Out×List PObj)) (hfr:∀p∈first++captured,cp p=some p) (hb:∀x h r,y x h=some r→(∃b h',r=(.val (.bool b),h'))∨∃v h',r=(.boom v,h')) (e:Expr):EW e→(∀x∈e.list,∀h r,y x h=some r→a3b L kb (first++[a0u x]++captured) h=some r)→∀(h:List PObj) (r:Out×List PObj),a1I y e.list h=some r→a3b L 141 [a0u e,.func kb first captured] h=some r:=by
 induction e using Expr.ind with
 | h e ih=>
 intro he hy h r hr
 obtain⟨_,_,hal⟩:=he.self
 rw[Expr.list_eq] at hr
 simp only[a1I] at hr
 refine a2b (hL 141 _ rfl) rfl ?_
 cases hye:y e h with
 | none=>rw[hye] at hr; simp at hr
 | some q =>
   rw[hye] at hr
   have hyo:=hy e (by rw[Expr.list_eq]; simp) h q hye
   simp only[List.append_assoc] at hyo
   rcases hb e h q hye with⟨b,h',rfl⟩|⟨v,h',rfl⟩
   ·cases b with
    | false =>
      simp only[Option.some.injEq] at hr
      subst hr
      simp at hyo
      simp[a16,hyo]
    | true =>
      simp only at hr
      simp at hyo
      simp[a16,hyo]
      suffices H:∀(n i:Nat) (h:List PObj) (x4:PV) (g:Nat),i+n=e.args.length→a1I y ((e.args.drop i).flatMap Expr.list) h=some r→wpL L a3l ⟨[a0u e,.func kb first captured,.loc 0 (a0u e).cells,.bool false,x4,.list false (e.args.map a0u),.int .i64 e.args.length,.int .i64 i],[],g,h⟩ (a7J 0 (c0o L (S (R [t 3 T]) Y) (b92 L a16 r))) by
       simpa[a16] using H e.args.length 0 h' .dead 1 (by omega) (by simpa using hr)
      intro n
      induction n with
      | zero =>
        intro i h x4 g hi hr
        have:i=e.args.length:=by omega
        subst this
        rw[List.drop_eq_nil_of_le (Nat.le_refl _)] at hr
        simp only[List.flatMap_nil,a1I,Option.some.injEq] at hr
        subst hr
        rw[a3l,a2M]
        simp[a16]
      | succ n ih2 =>
        intro i h x4 g hi hr
        have hil:i<e.args.length:=by omega
        have hw:=a0c i (by omega)
        rw[List.drop_eq_getElem_cons hil,List.flatMap_cons,b1Q] at hr
        rw[a3l,a2M]
        cases hq:a1I y e.args[i].list h with
        | none=>rw[hq] at hr; simp at hr
        | some q =>
          have hc:=ih e.args[i] (List.getElem_mem hil) (he.arg (List.getElem_mem hil)) (λx hx=>hy x (by rw[Expr.list_eq]; exact List.mem_cons_of_mem _ (List.mem_flatMap.2 ⟨_,List.getElem_mem hil,hx⟩))) h q hq
          rw[hq] at hr
          have hqs:(∃b h',q=(.val (.bool b),h'))∨∃v h',q=(.boom v,h'):=by
           have key:∀(l:List Expr) (h:List PObj) (q),a1I y l h=some q→(∃b h',q=(.val (.bool b),h'))∨∃v h',q=(.boom v,h'):=by
            intro l
            induction l with
            | nil=>intro h q hq; simp only[a1I,Option.some.injEq] at hq; exact .inl ⟨true,h,hq.symm⟩
            | cons x l ihl =>
              intro h q hq
              simp only[a1I] at hq
              split at hq
              ·exact ihl _ _ hq
              ·exact hb _ _ _ hq
           exact key _ _ _ hq
          rcases hqs with⟨b,h2,rfl⟩|⟨v,h2,rfl⟩
          ·cases b with
           | false =>
             simp only[Option.some.injEq] at hr
             subst hr
             simp[hil,hc,a16]
           | true =>
             simp only at hr
             simp[hil,hc,hw]
             have:=ih2 (i+1) h2 (.loc g (a0u e.args[i]).cells) (g+1) (by omega) hr
             rw[a3l] at this
             simpa using this
          ·simp only[Option.some.injEq] at hr
           subst hr
           simp[hil,hc,a16]
   ·simp only[Option.some.injEq] at hr
    subst hr
    simp at hyo
    simp[a16,hyo]
theorem b1S (e:Expr) (h:List PObj):a0o L 81 [a0u e] h=some (.func 114 [] [.cptr (a0u e).cells],h):=by
 refine a0i (hL 81 _ rfl) rfl ?_
 simp[a8u]
theorem a88 {V l:List PV} {g:Nat} {h:List PObj} {Q:PExit→St→Prop} {x:PX} {kb:Nat} {caps:List PX} {cs:List PV} (e:Expr) (he:EW e) (hx:rd ⟨V,l,g,h⟩ x=some (.func 114 [] [.cptr (a0u e).cells])) (hc:rdAll ⟨V,l,g,h⟩ caps=some cs) (hcs:∀p∈cs,cp p=some p)
  (y:Expr→List PObj→Option (Out×List PObj)) (hy:∀x∈e.list,∀h' r,y x h'=some r→a3b L kb (.ptr h.length 0::(cs++[a0u x])) h'=some r) (hb:∀x h r,y x h=some r→(∃b h',r=(.val (.bool b),h'))∨∃v h',r=(.boom v,h'))
  (r:Out×List PObj) (hr:a1I y e.list (h++[.loop true])=some r) (hq:a9C V l g h.length Q r):wpL L (.rangeF x kb caps) ⟨V,l,g,h⟩ Q:=by
 have hnr:a7a L 114=true:=by unfold a7a; rw[hL 114 _ rfl]; rfl
 have hE:=c3F hL kb (.ptr h.length 0::cs) [] y (by
  intro p hp
  simp only[List.append_nil,List.mem_cons] at hp
  rcases hp with rfl|hp
  ·rfl
  ·exact hcs p hp) hb e he (λx hx h' r hr=>by have:=hy x hx h' r hr; simpa using this) _ r hr
 have ho:∃r',a3b L 114 ([] ++ .func kb (.ptr h.length 0::cs) []::[.cptr (a0u e).cells]) (h++[.loop true])=some r'∧a9C V l g h.length Q r':=by
  obtain⟨o,h'⟩:=r
  cases o with
  | val v =>
    refine⟨(.val (.tuple []),h'),?_,hq⟩
    refine a2b (hL 114 _ rfl) rfl ?_
    simp[a48,hE]
  | boom v =>
    refine⟨(.boom v,h'),?_,hq⟩
    refine a2b (hL 114 _ rfl) rfl ?_
    simp[a48,hE]
 obtain⟨r',h1,h2⟩:=ho
 exact b7B hx hc hnr h1 h2
theorem c0Z (e:Expr) (he:EW e) (hp:e.parts≤1500) (h:List PObj):a0o L 148 [a0u e] []=some (.int .i64 e.parts,[.cells [.int .i64 e.parts],.gone]):=by
 refine a0i (hL 148 _ rfl) rfl ?_
 have hE:=b1S hL e [.cells [.int .i64 0]]
 simp[a8v,hE]
 have hround:∀(x:Expr) (c:Nat),c≤1500→a3b L 193 [.ptr 1 0,.ptr 0 0,a0u x] [.cells [.int .i64 c],.loop true]=some (.val (.bool true),[.cells [.int .i64 (c+1:Nat)],.loop true]):=by
  intro x c hc
  have hw:=a0c c (by omega)
  refine a6d (as:=[.ptr 0 0,a0u x]) (hL 193 _ rfl) rfl rfl rfl ?_
  simp[a6K,hw,a0y,a0a]
 refine a88 hL e he (cs:=[.ptr 0 0]) (by simp) (by simp) (by simp) (λx h=>match h with | [.cells [.int .i64 c],.loop true]=>if 0≤c∧c≤1500 then some (.val (.bool true),[.cells [.int .i64 (c+1)],.loop true]) else none | _=>none) ?_ ?_ (.val (.bool true),[.cells [.int .i64 e.parts],.loop true]) ?_ ?_
 ·intro x _ h' r hr
  split at hr
  ·split at hr
   ·rename_i c hc
    simp only[Option.some.injEq] at hr
    subst hr
    obtain⟨n,rfl⟩:=Int.eq_ofNat_of_zero_le hc.1
    have:=hround x n (by omega)
    simpa using this
   ·simp at hr
  ·simp at hr
 ·intro x h r hr
  split at hr
  ·split at hr
   ·simp only[Option.some.injEq] at hr; exact .inl ⟨true,_,hr.symm⟩
   ·simp at hr
  ·simp at hr
 ·have:=b1R (y:=λx h=>match h with | [.cells [.int .i64 c],.loop true]=>if 0≤c∧c≤1500 then some (.val (.bool true),[.cells [.int .i64 (c+1)],.loop true]) else none | _=>none) (H:=λk=>[.cells [.int .i64 k],.loop true]) e.list 0 (by
   intro x hx k h1 h2
   have hk:k≤1500:=by have:e.list.length=e.parts:=rfl; omega
   have:(0:Int)≤(k:Int)∧(k:Int)≤1500:=by omega
   simp[this])
  have hlen:e.list.length=e.parts:=rfl
  rw[hlen] at this
  simp only[Nat.zero_add] at this
  simpa using this
 ·simp[a9C]
def c3G (f:Expr→Int) (x:Expr):List PObj→Option (Out×List PObj)
 | [.cells [c],.loop true]=>some (if f x=0 then(.val (.bool true),[.cells [c],.loop true]) else(.val (.bool false),[.cells [.int .i64 (f x)],.over none]))
 | _=>none
theorem c7k (f:Expr→Int) (x:Expr) (h:List PObj) (r:Out×List PObj) (hr:c3G f x h=some r):(∃b h',r=(.val (.bool b),h'))∨∃v h',r=(.boom v,h'):=by
 have _:=hL
 unfold c3G at hr
 split at hr
 ·simp only[Option.some.injEq] at hr
  subst hr
  split
  ·exact .inl ⟨_,_,rfl⟩
  ·exact .inl ⟨_,_,rfl⟩
 ·simp at hr
theorem c00 (f:Expr→Int) (c:PV) (l:List Expr):a1I (c3G f) l [.cells [c],.loop true]=some (if a0d f l=0 then(.val (.bool true),[.cells [c],.loop true]) else(.val (.bool false),[.cells [.int .i64 (a0d f l)],.over none])):=by
 have _:=hL
 refine a32 (R:=λe=>(.val (.bool false),[.cells [.int .i64 e],.over none])) l ?_ ?_ ?_
 ·intro x _ hx; simp[c3G,hx]
 ·intro x _ hx; simp[c3G,hx]
 ·intro e h'; simp
theorem b9l (e:Expr) (he:EW e) (hp:e.parts≤1500):∃h',a0o L 122 [a0u e] []=some (.int .i64 (b5a e),h'):=by
 suffices H:∃r,a0o L 122 [a0u e] []=some r∧r.1 = .int .i64 (b5a e) by
  obtain⟨⟨v,h'⟩,h1,h2⟩:=H
  exact⟨h',by rw[h1]; simp only at h2; rw[h2]⟩
 refine a2Y (hL 122 _ rfl) rfl ?_
 have h1:=c0Z hL e he hp []
 have h2:=b9k hL e hp []
 have hE:=b1S hL e [.cells [.int .i64 0]]
 have hsz:=b74 hp
 unfold b5a
 rw[hsz]
 by_cases b1:(400:Int)<e.parts
 ·have b2:¬(e.parts:Int)≤400:=by omega
  have b3:400<e.parts:=by omega
  have b4:¬e.parts≤400:=by omega
  simp[a4H,h1,b1,b2,b3,b4,need,a0x,a0y,a0a,b3e]
 ·have b2:(e.parts:Int)≤400:=by omega
  have b3:¬400<e.parts:=by omega
  have b4:e.parts≤400:=by omega
  by_cases d1:32<e.depth
  ·have d2:¬e.depth≤32:=by omega
   simp[a4H,h1,h2,b1,b2,b3,b4,d1,d2,need,a0x,a0y,a0a,b3e]
  ·have d2:e.depth≤32:=by omega
   simp[a4H,h1,h2,b1,b2,b3,b4,d1,d2,hE]
   have hround:∀(x:Expr) (c:PV),a3b L 191 [.ptr 1 0,.ptr 0 0,a0u x] [.cells [c],.loop true]=some (if a8l x=0 then(.val (.bool true),[.cells [c],.loop true]) else(.val (.bool false),[.cells [.int .i64 (a8l x)],.over none])):=by
    intro x c
    have ho:=c7j hL x []
    refine a6d (as:=[.ptr 0 0,a0u x]) (hL 191 _ rfl) rfl rfl rfl ?_
    by_cases hz:a8l x=0
    ·rw[hz] at ho
     simp[a4t,ho,hz]
    ·simp[a4t,ho,hz,a0y]
   refine a88 hL e he (cs:=[.ptr 0 0]) (by simp) (by simp) (by simp) (c3G a8l) ?_ (c7k hL a8l) _ (c00 hL a8l (.int .i64 0) e.list) ?_
   ·intro x _ h' r hr
    unfold c3G at hr
    split at hr
    ·simp only[Option.some.injEq] at hr
     subst hr
     simpa using hround x _
    ·simp at hr
   ·by_cases hf:a0d a8l e.list=0
    ·simp[hf,a9C,a0y,a0a,b3e]
    ·simp[hf,a9C,a0a,b3e]
theorem b0r (e:Expr) (he:EW e):∃h',a0o L 147 [a0u e] []=some (.bool (a5B e),h'):=by
 suffices H:∃r,a0o L 147 [a0u e] []=some r∧r.1 = .bool (a5B e) by
  obtain⟨⟨v,h'⟩,h1,h2⟩:=H
  exact⟨h',by rw[h1]; simp only at h2; rw[h2]⟩
 refine a2Y (hL 147 _ rfl) rfl ?_
 have hE:=b1S hL e [.cells [.bool false]]
 obtain⟨f,hf⟩:∃f:Expr→Int,∀x,f x=if x.kind=5∨x.kind=6∨x.kind=7∨x.kind=10∨x.kind=11 then 1 else 0:=⟨_,λ_=>rfl⟩
 have hst:a5B e=decide (a0d f e.list=0):=by
  unfold a5B
  rw[Bool.eq_iff_iff,List.all_eq_true,decide_eq_true_eq,a0J]
  constructor
  ·intro h x hx
   have:=h x hx
   rw[hf,if_neg (by simpa using this)]
  ·intro h x hx
   have:=h x hx
   rw[hf] at this
   split at this
   ·simp at this
   ·rename_i hn; simpa using hn
 rw[hst]
 simp[a4U,hE]
 have hround:∀(x:Expr) (c:PV),a3b L 192 [.ptr 1 0,.ptr 0 0,a0u x] [.cells [c],.loop true]=some (if f x=0 then(.val (.bool true),[.cells [c],.loop true]) else(.val (.bool false),[.cells [.bool false],.over none])):=by
  intro x c
  refine a6d (as:=[.ptr 0 0,a0u x]) (hL 192 _ rfl) rfl rfl rfl ?_
  rw[hf]
  by_cases k5:x.kind=5
  ·simp[a0Z,tf k5,a0y]
  by_cases k6:x.kind=6
  ·simp[a0Z,tf k5,tf k6,a0y]
  by_cases k7:x.kind=7
  ·simp[a0Z,tf k5,tf k6,tf k7,a0y]
  by_cases k10:x.kind=10
  ·simp[a0Z,tf k5,tf k6,tf k7,tf k10,a0y]
  by_cases k11:x.kind=11
  ·simp[a0Z,tf k5,tf k6,tf k7,tf k10,tf k11,a0y]
  simp[a0Z,tf k5,tf k6,tf k7,tf k10,tf k11]
 obtain⟨y,hy⟩:∃y:Expr→List PObj→Option (Out×List PObj),∀x h,y x h=match h with
  | [.cells [c],.loop true]=>some (if f x=0 then(.val (.bool true),[.cells [c],.loop true]) else(.val (.bool false),[.cells [.bool false],.over none]))
  | _=>none:=⟨_,λ_ _=>rfl⟩
 have hyr:a1I y e.list [.cells [.bool false],.loop true]=some (if a0d f e.list=0 then(.val (.bool true),[.cells [.bool false],.loop true]) else(.val (.bool false),[.cells [.bool false],.over none])):=by
  refine a32 (f:=f) (R:=λ_=>(.val (.bool false),[.cells [.bool false],.over none])) e.list ?_ ?_ ?_
  ·intro x _ hx; simp[hy,hx]
  ·intro x _ hx; simp[hy,hx]
  ·intro e h'; simp
 refine a88 hL e he (cs:=[.ptr 0 0]) (by simp) (by simp) (by simp) y ?_ ?_ _ hyr ?_
 ·intro x _ h' r hr
  rw[hy] at hr
  split at hr
  ·simp only[Option.some.injEq] at hr
   subst hr
   simpa using hround x _
  ·simp at hr
 ·intro x h r hr
  rw[hy] at hr
  split at hr
  ·simp only[Option.some.injEq] at hr
   subst hr
   split
   ·exact .inl ⟨_,_,rfl⟩
   ·exact .inl ⟨_,_,rfl⟩
  ·simp at hr
 ·by_cases hz:a0d f e.list=0
  ·simp[hz,a9C,a0y,a0a,b3e]
  ·simp[hz,a9C,a0a,b3e]
theorem b9m (en:List Enum) (e:Expr) (he:EW e) (o:Bool) (h:List PObj):a0o L 123 [.list o (en.map a0U),a0u e] h=some (.int .i64 (a2F en e),h):=by
 refine a0i (hL 123 _ rfl) rfl ?_
 obtain⟨ht,_,_⟩:=he.self
 have hs:=a7O hL en e.t ht false []
 have hh:=a7D hL en e.t e.v ht false []
 unfold a2F
 rcases(by omega:e.kind=1∨e.kind=8∨e.kind=9∨(¬e.kind=1∧¬e.kind=8∧¬e.kind=9)) with hk|hk|hk|⟨h1,h8,h9⟩
 ·have h8:¬e.kind=8:=by omega
  have h9:¬e.kind=9:=by omega
  by_cases hz:a2d en e.t=0
  ·have hz1:¬0<a2d en e.t:=by omega
   simp[a1f,tf hk,tf h8,tf h9,hs,hz,hz1,need,a0x]
  ·have hz1:0<a2d en e.t:=by omega
   have hz2:(0:Int)<a2d en e.t:=by omega
   cases hq:b3D en e.t e.v<;>rw[hq] at hh<;>simp[a1f,tf hk,tf h8,tf h9,hs,hh,hz,hz1,hz2,hq,need,a0x]
 ·have h1:¬e.kind=1:=by omega
  have h9:¬e.kind=9:=by omega
  by_cases hz:a2d en e.t=0
  ·have hz1:¬0<a2d en e.t:=by omega
   simp[a1f,tf hk,tf h1,tf h9,hs,hz,hz1,need,a0x]
  ·have hz1:0<a2d en e.t:=by omega
   have hz2:(0:Int)<a2d en e.t:=by omega
   cases hq:b3D en e.t e.v<;>rw[hq] at hh<;>simp[a1f,tf hk,tf h1,tf h9,hs,hh,hz,hz1,hz2,hq,need,a0x]
 ·have h1:¬e.kind=1:=by omega
  have h8:¬e.kind=8:=by omega
  by_cases hz:a2d en e.t=0
  ·have hz1:¬0<a2d en e.t:=by omega
   simp[a1f,tf hk,tf h1,tf h8,hs,hz,hz1,need,a0x]
  ·have hz1:0<a2d en e.t:=by omega
   by_cases hl:e.args.length=a2d en e.t
   ·have hli:((e.args.length:Int)=(a2d en e.t:Int))=True:=eq_true (by omega)
    simp[a1f,tf hk,tf h1,tf h8,hs,hz,hz1,hli,tf hl,need,a0x]
   ·have hli:((e.args.length:Int)=(a2d en e.t:Int))=False:=eq_false (by omega)
    simp[a1f,tf hk,tf h1,tf h8,hs,hz,hz1,hli,tf hl,need,a0x]
 ·simp[a1f,tf h1,tf h8,tf h9,hs]
theorem a5z (en:List Enum) (e:Expr) (he:XW e) (o:Bool):∃h',a0o L 94 [.list o (en.map a0U),a0u e] []=some (.int .i64 (a4n en e),h'):=by
 suffices H:∃r,a0o L 94 [.list o (en.map a0U),a0u e] []=some r∧r.1 = .int .i64 (a4n en e) by
  obtain⟨⟨v,h'⟩,h1,h2⟩:=H
  exact⟨h',by rw[h1]; simp only at h2; rw[h2]⟩
 refine a2Y (hL 94 _ rfl) rfl ?_
 obtain⟨h',hc⟩:=b9l hL e he.ew he.parts
 have hE:=b1S hL e [.cells [.list false (en.map a0U)],.cells [.int .i64 0]]
 unfold a4n
 by_cases hz:b5a e=0
 ·rw[hz] at hc ⊢
  rw[a0P]
  simp[a5K,hc,hE]
  have hround:∀(x:Expr),EW x→∀(c:PV),a3b L 189 [.ptr 2 0,.ptr 0 0,.ptr 1 0,a0u x] [.cells [.list false (en.map a0U)],.cells [c],.loop true]=some (if a2F en x=0 then(.val (.bool true),[.cells [.list false (en.map a0U)],.cells [c],.loop true]) else(.val (.bool false),[.cells [.list false (en.map a0U)],.cells [.int .i64 (a2F en x)],.over none])):=by
   intro x hx c
   have ho:=b9m hL en x hx false []
   refine a6d (as:=[.ptr 0 0,.ptr 1 0,a0u x]) (hL 189 _ rfl) rfl rfl rfl ?_
   by_cases hz:a2F en x=0
   ·rw[hz] at ho
    simp[a4s,ho,hz,a0a]
   ·simp[a4s,ho,hz,a0y,a0a]
  obtain⟨y,hy0,hy1⟩:=yAt [.cells [.list false (en.map a0U)],.cells [.int .i64 0],.loop true] (λx=>if a2F en x=0 then(.val (.bool true),[.cells [.list false (en.map a0U)],.cells [.int .i64 0],.loop true]) else(.val (.bool false),[.cells [.list false (en.map a0U)],.cells [.int .i64 (a2F en x)],.over none]))
  have hyr:a1I y e.list [.cells [.list false (en.map a0U)],.cells [.int .i64 0],.loop true]=some (if a0d (a2F en) e.list=0 then(.val (.bool true),[.cells [.list false (en.map a0U)],.cells [.int .i64 0],.loop true]) else(.val (.bool false),[.cells [.list false (en.map a0U)],.cells [.int .i64 (a0d (a2F en) e.list)],.over none])):=by
   refine a32 (f:=a2F en) (R:=λq=>(.val (.bool false),[.cells [.list false (en.map a0U)],.cells [.int .i64 q],.over none])) e.list ?_ ?_ ?_
   ·intro x _ hx; rw[hy0,if_pos hx]
   ·intro x _ hx; rw[hy0,if_neg hx]
   ·intro e h'; simp
  refine a88 hL e he.ew (cs:=[.ptr 0 0,.ptr 1 0]) (by simp) (by simp) (by simp) y ?_ ?_ _ hyr ?_
  ·intro x hx h' r hr
   obtain⟨rfl,rfl⟩:=hy1 x h' r hr
   simpa using hround x (he.ew.mem hx) (.int .i64 0)
  ·intro x h r hr
   obtain⟨rfl,rfl⟩:=hy1 x h r hr
   split
   ·exact .inl ⟨_,_,rfl⟩
   ·exact .inl ⟨_,_,rfl⟩
  ·by_cases hf:a0d (a2F en) e.list=0
   ·simp[hf,a9C,a0y,a0a,b3e]
   ·simp[hf,a9C,a0a,b3e]
 ·simp[a5K,hc,hz,a0x,a0y,a0a,b3e]
end
def a7C (t:Nat) (a b e:Int):PV := .iface t (.agg [.int .i64 a,.int .i64 b,.int .i64 e])
def a0z (t:Nat) (a b e:Int):Out:=if e=0 then .val (.tuple []) else .boom (a7C t a b e)
theorem a0e (t:Nat) (a b:Int):a0z t a b 0 = .val (.tuple []):=rfl
theorem a1u {t:Nat} {a b e:Int} (h:e≠0):a0z t a b e = .boom (a7C t a b e):=if_neg h
def a0m (en:List Enum) (a b:Int):PObj := .cells [.list false (en.map a0U),.int .i64 a,.int .i64 b]
section
variable {L:Nat→Option PFunc} (hL:∀k f,LS k=some f→L k=some f)
include hL
variable (en:List Enum) (n:Nat) (a b:Int) (h:List PObj) (hn:h[n]? = some (a0m en a b))
include hn
theorem a5a (e:Int):a3b L 49 [.ptr n 0,.bool true,.int .i64 e] h=some (.val (.tuple []),h):=by
 have _:=hn
 refine a2b (hL 49 _ rfl) rfl ?_
 simp[a23]
theorem a4v (e:Int):a3b L 49 [.ptr n 0,.bool false,.int .i64 e] h=some (.boom (a7C 2 a b e),h):=by
 refine a2b (hL 49 _ rfl) rfl ?_
 simp[a23,hn,a0m,a7C]
theorem a89 (s:Str):a3b L 89 [.ptr n 0,.str s] h=some (a0z 2 a b (a67 s),h):=by
 have hi:=b40 hL s []
 have hT:=a5a hL en n a b h hn
 have hF:=a4v hL en n a b h hn
 refine a2b (hL 89 _ rfl) rfl ?_
 unfold a67
 cases hs:a9X s<;>rw[hs] at hi<;>simp[a3U,hi,hT,hF,a0z]
theorem b3v (e:Int):a3b L 93 [.ptr n 0,.int .i64 e] h=some (a0z 2 a b e,h):=by
 have hT:=a5a hL en n a b h hn
 have hF:=a4v hL en n a b h hn
 refine a2b (hL 93 _ rfl) rfl ?_
 by_cases he:e=0
 ·subst he; simp[a2K,hT,a0z]
 ·simp[a2K,hF,he,a0z]
theorem c3H (u:Enum) (hu:u.tags.length≤1500):a3b L 50 [.ptr n 0,a0U u] h=some (a0z 2 a b (a8z u),h):=by
 have hi:=λs=>a89 hL en n a b h hn s
 have hT:=a5a hL en n a b h hn
 have hF:=a4v hL en n a b h hn
 refine a2b (hL 50 _ rfl) rfl ?_
 unfold a8z
 by_cases h0:a67 u.name=0
 ·by_cases h1:u.tags=[]
  ·simp[a1M,hi,h0,h1,hF,need,a0x,a0z]
  ·have h1n:0<u.tags.length:=List.length_pos_iff.2 h1
   have h1i:(0:Int)<u.tags.length:=by omega
   by_cases h2:u.tags.length≤16
   ·have h2i:(u.tags.length:Int)≤16:=by omega
    simp[a1M,hi,h0,h1,h1n,h1i,h2,h2i,hT,a0e]
    refine b1K u.tags a67 (λi (x:PV)=>[(3,x),(6,.int .i64 i)]) .dead ?_ ?_ ?_ rfl
    ·intro i hil hok x ih
     have hw:=a0c i (by omega)
     simp[hil,hw,hi,hok,a0e]
     simpa using ih _
    ·intro i hil hok hf x
     simp[hil,hi,a1u hok,hf]
    ·intro h0 x
     simp[h0,a0e]
   ·have h2i:¬(u.tags.length:Int)≤16:=by omega
    simp[a1M,hi,h0,h1,h1n,h1i,h2,h2i,hT,hF,need,a0x,a0z]
 ·simp[a1M,hi,h0,a0x,a0z]
theorem a9a (l:List Decl) (hl:l.length≤1500) (hd:∀d∈l,DW d) (port:Bool) (o:Bool):a3b L 90 [.ptr n 0,.list o (l.map a0B),.bool port] h=some (a0z 2 a b (a0d (a2q en port) l),h):=by
 have hi:=λs=>a89 hL en n a b h hn s
 have hT:=a5a hL en n a b h hn
 have hF:=a4v hL en n a b h hn
 refine a2b (hL 90 _ rfl) rfl ?_
 simp[a3V]
 refine a02 l (a2q en port) (λi (x:(PV×PV×PV×PV×PV)×Nat)=>[(3,x.1.1),(4,x.1.2.1),(8,x.1.2.2.1),(9,x.1.2.2.2.1),(10,x.1.2.2.2.2),(7,.int .i64 i)]) (λ_ x=>x.2) (λ_ _=>h) ((.dead,.dead,.dead,.dead,.dead),0) ?_ ?_ ?_ rfl rfl rfl
 ·intro i hil hok x ih
  have hw:=a0c i (by omega)
  have hdw:=hd _ (List.getElem_mem hil)
  have hcl:=hdw.clock
  have hs:=a7O hL en l[i].type hdw.type false []
  unfold a2q at hok
  rw[a0C,a0C,a0C,a0C,a1Q (by decide),a1Q (by decide),a1Q (by decide),decide_eq_true_eq,decide_eq_true_eq] at hok
  obtain⟨k1,k2,k3,k4,k5⟩:=hok
  have k2i:(0:Int)<a2d en l[i].type:=by omega
  have k4i:(l[i].clock.length:Int)≤4:=by omega
  have hport:(!port||decide (l[i].clock=[]))=true:=k3
  have hE:∀o∈l[i].clock,a9Y en o=0:=a0J.1 k5
  cases port with
  | false =>
    simp[hil,hi,k1,a0e,hn,a0m,hs,k2,k2i,k4,k4i,hT]
    refine a02 l[i].clock (a9Y en) (λj (y:PV×Nat)=>[(10,.int .i64 j),(4,y.1)]) (λ_ y=>y.2) (λ_ _=>h) (x.1.2.1,x.2+1) ?_ ?_ ?_ rfl rfl rfl
    ·intro j hj hok2 y ih2
     have hw':=a0c j (by omega)
     have hh2:=a7D hL en l[i].clock[j].t l[i].clock[j].tag (hdw.on _ (List.getElem_mem hj)) false []
     unfold a9Y at hok2
     rw[a0C,a1Q (by decide),Bool.and_eq_true,decide_eq_true_eq] at hok2
     obtain⟨q1,q2,q3⟩:=hok2
     rw[q3] at hh2
     simp[hj,hi,q1,a0e,tf q2,hn,a0m,hh2,hT,hw']
     simpa using ih2 (_,_)
    ·intro j hj hok2 _ y
     exact absurd (hE _ (List.getElem_mem hj)) hok2
    ·intro _ y
     simp[hw]
     simpa using ih ((_,_,_,_,_),_)
  | true =>
    have hcl0:l[i].clock=[]:=by simpa using hport
    simp[hil,hi,k1,a0e,hn,a0m,hs,k2,k2i,k4,k4i,hT,tf hcl0]
    refine a02 l[i].clock (a9Y en) (λj (y:PV×Nat)=>[(10,.int .i64 j),(4,y.1)]) (λ_ y=>y.2) (λ_ _=>h) (x.1.2.1,x.2+1) ?_ ?_ ?_ rfl rfl rfl
    ·intro j hj hok2 y ih2
     have hw':=a0c j (by omega)
     have hh2:=a7D hL en l[i].clock[j].t l[i].clock[j].tag (hdw.on _ (List.getElem_mem hj)) false []
     unfold a9Y at hok2
     rw[a0C,a1Q (by decide),Bool.and_eq_true,decide_eq_true_eq] at hok2
     obtain⟨q1,q2,q3⟩:=hok2
     rw[q3] at hh2
     simp[hj,hi,q1,a0e,tf q2,hn,a0m,hh2,hT,hw']
     simpa using ih2 (_,_)
    ·intro j hj hok2 _ y
     exact absurd (hE _ (List.getElem_mem hj)) hok2
    ·intro _ y
     simp[hw]
     simpa using ih ((_,_,_,_,_),_)
 ·intro i hil hok hf x
  have hdw:=hd _ (List.getElem_mem hil)
  have hcl:=hdw.clock
  have hs:=a7O hL en l[i].type hdw.type false []
  rw[hf]
  unfold a2q at hok ⊢
  by_cases k1:a67 l[i].name=0
  ·by_cases k2:0<a2d en l[i].type
   ·have k2i:(0:Int)<a2d en l[i].type:=by omega
    by_cases k3:port=true∧l[i].clock≠[]
    ·have hcn:¬l[i].clock=[]:=k3.2
     have hcl0:¬(l[i].clock.length:Int)=0:=by
      intro e; exact k3.2 (List.length_eq_zero_iff.1 (by omega))
     rw[k3.1]
     simp[hil,hi,k1,a0e,hn,a0m,hs,k2,k2i,hT,hF,hcn,hcl0,need,a0x,a0z]
    ·by_cases k4:l[i].clock.length≤4
     ·have k4i:(l[i].clock.length:Int)≤4:=by omega
      have hport:(!port||decide (l[i].clock=[]))=true:=by
       cases port with
       | false=>rfl
       | true=>simpa using k3
      have hE:a0d (a9Y en) l[i].clock≠0:=by
       intro e; apply hok
       simp[k1,k2,hport,k4,e]
      have hres:a0x (a67 l[i].name) (a0x (need (decide (0<a2d en l[i].type)) 10) (a0x (need (!port||decide (l[i].clock=[])) 11) (a0x (need (decide (l[i].clock.length≤4)) 3) (a0d (a9Y en) l[i].clock))))=a0d (a9Y en) l[i].clock:=by
       simp[k1,k2,hport,k4]
      rw[hres]
      cases port with
      | true =>
        have hcl0:l[i].clock=[]:=by simpa using hport
        rw[hcl0] at hE; exact absurd rfl hE
      | false=>
      simp[hil,hi,k1,a0e,hn,a0m,hs,k2,k2i,k4,k4i,hT]
      refine a02 l[i].clock (a9Y en) (λj (y:PV×Nat)=>[(10,.int .i64 j),(4,y.1)]) (λ_ y=>y.2) (λ_ _=>h) (x.1.2.1,x.2+1) ?_ ?_ ?_ rfl rfl rfl
      ·intro j hj hok2 y ih2
       have hw':=a0c j (by omega)
       have hh2:=a7D hL en l[i].clock[j].t l[i].clock[j].tag (hdw.on _ (List.getElem_mem hj)) false []
       unfold a9Y at hok2
       rw[a0C,a1Q (by decide),Bool.and_eq_true,decide_eq_true_eq] at hok2
       obtain⟨q1,q2,q3⟩:=hok2
       rw[q3] at hh2
       simp[hj,hi,q1,a0e,tf q2,hn,a0m,hh2,hT,hw']
       simpa using ih2 (_,_)
      ·intro j hj hok2 hf2 y
       have hh2:=a7D hL en l[i].clock[j].t l[i].clock[j].tag (hdw.on _ (List.getElem_mem hj)) false []
       rw[hf2]
       unfold a9Y
       by_cases q1:a67 l[i].clock[j].name=0
       ·by_cases q2:l[i].clock[j].t=2
        ·simp[hj,hi,q1,a0e,tf q2,hF,need,a0x,a0z]
        ·cases q3:b3D en l[i].clock[j].t l[i].clock[j].tag with
         | true=>exfalso; apply hok2; simp[a9Y,q1,q2,q3]
         | false=>rw[q3] at hh2; simp[hj,hi,q1,a0e,tf q2,hn,a0m,hh2,hF,need,a0x,a0z]
       ·simp[hj,hi,a1u q1,q1,a0x]
      ·intro hz y
       exact absurd hz hE
     ·have k4i:¬(l[i].clock.length:Int)≤4:=by omega
      have hcn:¬l[i].clock=[]:=by intro e; rw[e] at k4; simp at k4
      have hpf:port=false:=by
       cases port with
       | false=>rfl
       | true=>exact absurd ⟨rfl,hcn⟩ k3
      rw[hpf]
      simp[hil,hi,k1,a0e,hn,a0m,hs,k2,k2i,k4,k4i,hT,hF,need,a0x,a0z]
   ·have k2i:¬(0:Int)<a2d en l[i].type:=by omega
    simp[hil,hi,k1,a0e,hn,a0m,hs,k2,k2i,hF,need,a0x,a0z]
  ·simp[hil,hi,a1u k1,k1,a0x]
 ·intro h0 x
  simp[h0,a0e]
end
section
variable {L:Nat→Option PFunc} (hL:∀k f,LS k=some f→L k=some f)
include hL
section
variable (en:List Enum) (n:Nat) (a b:Int) (h:List PObj) (hn:h[n]? = some (a0m en a b))
include hn
theorem b42 (q:Eqn) (hq:QW q):a3b L 91 [.ptr n 0,a5E q] h=some (a0z 2 a b (a5O en q),h):=by
 have hi:=λs=>a89 hL en n a b h hn s
 have hr:=λe=>b3v hL en n a b h hn e
 have hT:=a5a hL en n a b h hn
 have hF:=a4v hL en n a b h hn
 obtain⟨h',hx⟩:=a5z hL en q.right hq.right false
 have hlq:=hq.left
 refine a2b (hL 91 _ rfl) rfl ?_
 unfold a5O
 by_cases h1:q.left=[]
 ·simp[a1x,h1,hF,need,a0x,a0z]
 have h1n:0<q.left.length:=List.length_pos_iff.2 h1
 have h1i:(0:Int)<q.left.length:=by omega
 by_cases h2:q.left.length≤64
 ·have h2i:(q.left.length:Int)≤64:=by omega
  simp[a1x,h1,h1n,h1i,h2,h2i,hT]
  refine b1K q.left a67 (λi (x:PV)=>[(3,x),(6,.int .i64 i)]) .dead ?_ ?_ ?_ rfl
  ·intro i hil hok x ih
   have hw:=a0c i (by omega)
   simp[hil,hw,hi,hok,a0e]
   simpa using ih _
  ·intro i hil hok hf x
   simp[hil,hi,a1u hok,hf,a3t hok]
  ·intro h0 x
   rw[h0,a0P]
   by_cases h3:a4n en q.right=0
   ·rw[h3] at hx
    by_cases h4:q.left.length=1
    ·have h4i:(q.left.length:Int)=1:=by omega
     simp[hn,a0m,hx,h3,hr,a0e,tf h4,tf h4i,hT]
    ·have h4i:¬(q.left.length:Int)=1:=by omega
     by_cases h5:q.right.kind=10
     ·simp[hn,a0m,hx,h3,hr,a0e,tf h4,tf h4i,tf h5,hT]
     ·simp[hn,a0m,hx,h3,hr,a0e,tf h4,tf h4i,tf h5,hF,need,a0z]
   ·simp[hn,a0m,hx,hr,a1u h3,a3t h3]
 ·have h2i:¬(q.left.length:Int)≤64:=by omega
  simp[a1x,h1,h1n,h1i,h2,h2i,hT,hF,need,a0x,a0z]
theorem b0W (l:List Trn) (hl:l.length≤1500) (ht:∀t∈l,XW t.cond) (m:Nat) (strong:Bool) (o:Bool):a3b L 121 [.ptr n 0,.list o (l.map a6W),.int .i64 m,.bool strong] h=some (a0z 2 a b (a0d (b10 en m strong) l),h):=by
 have hr:=λe=>b3v hL en n a b h hn e
 have hT:=a5a hL en n a b h hn
 have hF:=a4v hL en n a b h hn
 refine a2b (hL 121 _ rfl) rfl ?_
 simp[a2n]
 refine a02 l (b10 en m strong) (λi (x:PV×Nat)=>[(4,x.1),(7,.int .i64 i)]) (λ_ x=>x.2) (λ_ _=>h) (.dead,0) ?_ ?_ ?_ rfl rfl rfl
 ·intro i hil hok x ih
  have hw:=a0c i (by omega)
  have hxw:=ht _ (List.getElem_mem hil)
  obtain⟨h',hx⟩:=a5z hL en l[i].cond hxw false
  obtain⟨h'',hs⟩:=b0r hL l[i].cond hxw.ew
  unfold b10 at hok
  rw[a0C,a0C,a1Q (by decide),a1Q (by decide),decide_eq_true_eq] at hok
  obtain⟨⟨k1,k2⟩,k3,k4⟩:=hok
  rw[k3] at hx
  cases strong with
  | false =>
    simp[hil,hw,k1,k2,hn,a0m,hx,hr,a0e,hT]
    simpa using ih (_,_)
  | true =>
    have k4:a5B l[i].cond=true:=by simpa using k4
    rw[k4] at hs
    simp[hil,hw,k1,k2,hn,a0m,hx,hr,a0e,hs,hT]
    simpa using ih (_,_)
 ·intro i hil hok hf x
  have hxw:=ht _ (List.getElem_mem hil)
  obtain⟨h',hx⟩:=a5z hL en l[i].cond hxw false
  obtain⟨h'',hs⟩:=b0r hL l[i].cond hxw.ew
  rw[hf]
  unfold b10 at hok ⊢
  by_cases k1:0≤l[i].to
  ·by_cases k2:l[i].to<m
   ·by_cases k3:a4n en l[i].cond=0
    ·rw[k3] at hx
     cases strong with
     | false=>exfalso; apply hok; simp[k1,k2,k3]
     | true =>
       cases k4:a5B l[i].cond with
       | true=>exfalso; apply hok; simp[k1,k2,k3,k4]
       | false=>rw[k4] at hs; simp[hil,k1,k2,hn,a0m,hx,hr,a0e,hs,hT,hF,k3,need,a0x,a0z]
    ·simp[hil,k1,k2,hn,a0m,hx,hr,a1u k3,hT,need,a0x,k3]
   ·simp[hil,k1,k2,hF,need,a0x,a0z]
  ·simp[hil,k1,hF,need,a0x,a0z]
 ·intro h0 x
  simp[h0,a0e]
theorem b9n:∀(d:Nat),d≤3→∀au:b2K,au.length≤1500→(∀x∈au,SW x)→a3b L 92 [.ptr n 0,a1H au,.int .i64 (3 - (d:Int))] h=some (a0z 2 a b (a5Y en d au),h)
 | 0, _, au, hal, ha => by
   have hF:=a4v hL en n a b h hn
   refine a2b (hL 92 _ rfl) rfl ?_
   simp[a1N,hF,a5Y,a0z]
 | d + 1, hd, au, hal, ha => by
   have ih:=b9n d (by omega)
   have hi:=λs=>a89 hL en n a b h hn s
   have hT:=a5a hL en n a b h hn
   have hF:=a4v hL en n a b h hn
   have hdep:(3:Int) - ((d+1:Nat):Int)=2 - (d:Int):=by omega
   rw[hdep]
   have hlt:2 - (d:Int)<3:=by omega
   have hwd:IntKind.i64.wrap (2 - (d:Int)+1)=3 - (d:Int):=by rw[a0E]<;>omega
   refine a2b (hL 92 _ rfl) rfl ?_
   simp only[a5Y]
   by_cases h1:au=[]
   ·simp[a1N,hlt,hT,hF,h1,need,a0x,a0z]
   have h1n:0<au.length:=List.length_pos_iff.2 h1
   have h1i:(0:Int)<au.length:=by omega
   by_cases h2:au.length≤8
   ·have h2i:(au.length:Int)≤8:=by omega
    simp[a1N,hlt,hT,h1,h1n,h1i,h2,h2i]
    refine a02 au (b0Y en au.length (a5Y en d)) (λi (x:(PV×PV×PV×PV×PV×PV×PV×PV×PV)×Nat)=>[(4,x.1.1),(5,x.1.2.1),(6,x.1.2.2.1),(9,.int .i64 i),(10,x.1.2.2.2.1),(11,x.1.2.2.2.2.1),(12,x.1.2.2.2.2.2.1),(13,x.1.2.2.2.2.2.2.1),(14,x.1.2.2.2.2.2.2.2.1),(15,x.1.2.2.2.2.2.2.2.2)]) (λ_ x=>x.2) (λ_ _=>h) ((.dead,.dead,.dead,.dead,.dead,.dead,.dead,.dead,.dead),1) ?_ ?_ ?_ rfl rfl rfl
    ·intro i hil hok x ih2
     have hw:=a0c i (by omega)
     have hs:=ha _ (List.getElem_mem hil)
     have hdc:=a9a hL en n a b h hn au[i].locals hs.locals hs.ls false false
     have hun:=b0W hL en n a b h hn au[i].unl hs.unl hs.us au.length true false
     have hti:=b0W hL en n a b h hn au[i].til hs.til hs.ts au.length false false
     have hle:=hs.eqs
     have hla:=hs.autos
     unfold b0Y at hok
     rw[a0C,a0C,a0C,a0C,a0C,a0C,a1Q (by decide),decide_eq_true_eq] at hok
     obtain⟨k0,⟨c1,c2,c3,c4,c5⟩,k1,k2,k3,k4,k5⟩:=hok
     rw[k1] at hdc; rw[k4] at hun; rw[k5] at hti
     have c1i:(au[i].locals.length:Int)≤256:=by omega
     have c2i:(au[i].eqs.length:Int)≤256:=by omega
     have c3i:(au[i].autos.length:Int)≤8:=by omega
     have c45:(if au[i].unl.length<au[i].til.length then(au[i].til.length:Int) else(au[i].unl.length:Int))≤4:=by split<;>omega
     have e2:=a0J.1 k2
     have e3:=a0J.1 k3
     simp[hil,hi,k0,a0e,c1,c2,c3,c1i,c2i,c3i,c45,hT,hdc]
     refine a02 au[i].eqs (a5O en) (λj (y:PV×Nat)=>[(5,y.1),(12,.int .i64 j)]) (λ_ y=>y.2) (λ_ _=>h) (x.1.2.1,x.2+1) ?_ ?_ ?_ rfl rfl rfl
     ·intro j hj hok2 y ih3
      have hw':=a0c j (by omega)
      have hc:=b42 hL en n a b h hn au[i].eqs[j] (hs.es _ (List.getElem_mem hj))
      rw[hok2] at hc
      simp[hj,hw',hc,a0e]
      simpa using ih3 (_,_)
     ·intro j hj hok2 _ y
      exact absurd (e2 _ (List.getElem_mem hj)) hok2
     ·intro _ y
      simp
      refine a02 au[i].autos (a5Y en d) (λj (z:PV×Nat)=>[(6,z.1),(15,.int .i64 j)]) (λ_ z=>z.2) (λ_ _=>h) (x.1.2.2.1,y.2) ?_ ?_ ?_ rfl rfl rfl
      ·intro j hj hok2 z ih3
       have hw':=a0c j (by omega)
       have hc:=ih au[i].autos[j] (hs.as _ (List.getElem_mem hj)) (hs.ss _ (List.getElem_mem hj))
       rw[hok2] at hc
       simp[hj,hw',hwd,hc,a0e]
       simpa using ih3 (_,_)
      ·intro j hj hok2 _ z
       exact absurd (e3 _ (List.getElem_mem hj)) hok2
      ·intro _ z
       simp[hun,hti,a0e,hw]
       simpa using ih2 ((_,_,_,_,_,_,_,_,_),_)
    ·intro i hil hok hf x
     have hs:=ha _ (List.getElem_mem hil)
     have hdc:=a9a hL en n a b h hn au[i].locals hs.locals hs.ls false false
     have hun:=b0W hL en n a b h hn au[i].unl hs.unl hs.us au.length true false
     have hti:=b0W hL en n a b h hn au[i].til hs.til hs.ts au.length false false
     have hle:=hs.eqs
     have hla:=hs.autos
     rw[hf]
     unfold b0Y at hok ⊢
     by_cases k0:a67 au[i].name=0
     ·rw[k0,a0P] at hok ⊢
      by_cases c1:au[i].locals.length≤256
      rotate_left
      ·have c1i:¬(au[i].locals.length:Int)≤256:=by omega
       simp[hil,hi,k0,a0e,c1,c1i,hF,need,a0x,a0z]
      have c1i:(au[i].locals.length:Int)≤256:=by omega
      by_cases c2:au[i].eqs.length≤256
      rotate_left
      ·have c2i:¬(au[i].eqs.length:Int)≤256:=by omega
       simp[hil,hi,k0,a0e,c1,c1i,c2,c2i,hF,need,a0x,a0z]
      have c2i:(au[i].eqs.length:Int)≤256:=by omega
      by_cases c3:au[i].autos.length≤8
      rotate_left
      ·have c3i:¬(au[i].autos.length:Int)≤8:=by omega
       simp[hil,hi,k0,a0e,c1,c1i,c2,c2i,c3,c3i,hF,need,a0x,a0z]
      have c3i:(au[i].autos.length:Int)≤8:=by omega
      by_cases c4:au[i].unl.length≤4∧au[i].til.length≤4
      rotate_left
      ·have c45:¬(if au[i].unl.length<au[i].til.length then(au[i].til.length:Int) else(au[i].unl.length:Int))≤4:=by split<;>omega
       have c4n:¬(au[i].unl.length≤4∧au[i].til.length≤4):=c4
       simp[hil,hi,k0,a0e,c1,c1i,c2,c2i,c3,c3i,c45,hF,need,a0x,a0z,c4n]
      have c45:(if au[i].unl.length<au[i].til.length then(au[i].til.length:Int) else(au[i].unl.length:Int))≤4:=by split<;>omega
      have hneed:need (decide (au[i].locals.length≤256∧au[i].eqs.length≤256∧au[i].autos.length≤8∧au[i].unl.length≤4∧au[i].til.length≤4)) 3=0:=by
       rw[a1Q (by decide),decide_eq_true_eq]; exact⟨c1,c2,c3,c4⟩
      rw[hneed,a0P] at hok ⊢
      by_cases k1:a0d (a2q en false) au[i].locals=0
      rotate_left
      ·simp[hil,hi,k0,a0e,c1,c2,c3,c1i,c2i,c3i,c45,hT,hdc,a1u k1,a3t k1]
      rw[k1,a0P] at hok ⊢
      rw[k1] at hdc
      simp[hil,hi,k0,a0e,c1,c2,c3,c1i,c2i,c3i,c45,hT,hdc]
      refine a02 au[i].eqs (a5O en) (λj (y:PV×Nat)=>[(5,y.1),(12,.int .i64 j)]) (λ_ y=>y.2) (λ_ _=>h) (x.1.2.1,x.2+1) ?_ ?_ ?_ rfl rfl rfl
      ·intro j hj hok2 y ih3
       have hw':=a0c j (by omega)
       have hc:=b42 hL en n a b h hn au[i].eqs[j] (hs.es _ (List.getElem_mem hj))
       rw[hok2] at hc
       simp[hj,hw',hc,a0e]
       simpa using ih3 (_,_)
      ·intro j hj hok2 hf2 y
       have hc:=b42 hL en n a b h hn au[i].eqs[j] (hs.es _ (List.getElem_mem hj))
       rw[hf2]
       simp[hj,hc,a1u hok2,a3t hok2]
      ·intro k2 y
       rw[k2,a0P] at hok ⊢
       simp
       refine a02 au[i].autos (a5Y en d) (λj (z:PV×Nat)=>[(6,z.1),(15,.int .i64 j)]) (λ_ z=>z.2) (λ_ _=>h) (x.1.2.2.1,y.2) ?_ ?_ ?_ rfl rfl rfl
       ·intro j hj hok2 z ih3
        have hw':=a0c j (by omega)
        have hc:=ih au[i].autos[j] (hs.as _ (List.getElem_mem hj)) (hs.ss _ (List.getElem_mem hj))
        rw[hok2] at hc
        simp[hj,hw',hwd,hc,a0e]
        simpa using ih3 (_,_)
       ·intro j hj hok2 hf2 z
        have hc:=ih au[i].autos[j] (hs.as _ (List.getElem_mem hj)) (hs.ss _ (List.getElem_mem hj))
        rw[hf2]
        simp[hj,hwd,hc,a1u hok2,a3t hok2]
       ·intro k3 z
        rw[k3,a0P] at hok ⊢
        by_cases k4:a0d (b10 en au.length true) au[i].unl=0
        ·rw[k4,a0P] at hok ⊢
         rw[k4] at hun
         simp[hun,hti,a0e,a1u hok]
        ·simp[hun,a1u k4,a3t k4]
     ·simp[hil,hi,a1u k0,a3t k0]
    ·intro h0 x
     simp[h0,a0e]
   ·have h2i:¬(au.length:Int)≤8:=by omega
    simp[a1N,hlt,hT,hF,h1,h1n,h1i,h2,h2i,need,a0x,a0z]
end
end
end PI.Sc
set_option maxRecDepth 100000
set_option linter.unusedSimpArgs false
set_option linter.unusedVariables false
namespace PI
section
variable {L:Nat→Option PFunc} {V l:List PV} {g:Nat} {h:List PObj}
def b71 (L:Nat→Option PFunc) (f:PFunc) (P:PV×List PObj→Prop) (e:PExit) (st:St):Prop:=∃v h',b92 L f (.val v,h') e st∧P (v,h')
@[simp] theorem b43 (f:PFunc) (P:PV×List PObj→Prop):b71 L f P .normal ⟨V,l,g,h⟩=∃v,a0Y ⟨V,l,g,h⟩ f.results=some v∧P (v,a0w V f.results h):=by
 simp only[b71,b2i,eq_iff_iff]
 constructor
 ·rintro⟨v,h',⟨v',h1,h2⟩,h3⟩
  simp only[Prod.mk.injEq,Out.val.injEq] at h2
  obtain⟨rfl,rfl⟩:=h2
  exact⟨v,h1,h3⟩
 ·rintro⟨v,h1,h2⟩; exact⟨v,_,⟨v,h1,rfl⟩,h2⟩
@[simp] theorem c7l (f:PFunc) (P:PV×List PObj→Prop):b71 L f P .ret ⟨V,l,g,h⟩=∃v,a0Y ⟨V,l,g,h⟩ f.results=some v∧P (v,a0w V f.results h):=b43 (L:=L) f P
@[simp] theorem c3J (f:PFunc) (P:PV×List PObj→Prop) (kd:Nat) (cs:List PV) (p:Option PV):b71 L f P (.after kd cs p) ⟨V,l,g,h⟩=(f.code.NR=true∧∃h1 x,a4A L kd (p.getD .nilIface::cs) h=some h1∧a0Y ⟨V,l,g,h1⟩ f.results=some x∧P (x,a0w V f.results h1)):=by
 simp only[b71,b8r,eq_iff_iff]
 constructor
 ·rintro⟨v,h',⟨h0,h1,x,h2,h3,h4⟩,h5⟩
  simp only[Prod.mk.injEq,Out.val.injEq] at h4
  obtain⟨rfl,rfl⟩:=h4
  exact⟨h0,h1,v,h2,h3,h5⟩
 ·rintro⟨h0,h1,x,h2,h3,h5⟩; exact⟨x,_,⟨h0,h1,x,h2,h3,rfl⟩,h5⟩
theorem b2X {k:Nat} {f:PFunc} {args:List PV} {hp:List PObj} {P:PV×List PObj→Prop} (hf:L k=some f) (hl:args.length=f.params)
  (hw:wpL L f.code ⟨args.map dem++List.replicate (f.nv - f.params) .dead,[],0,hp⟩ (b71 L f P)) (hs:f.split=false:=by rfl) (hpr:f.prim=none:=by rfl) (hr:f.code.isRound=false:=by rfl):∃r,a0o L k args hp=some r∧P r:=by
 rw[a6R] at hw
 obtain⟨e,st,h1,v,h',h2,h3⟩:=hw
 exact⟨(v,h'),b94 hf hl (a6R.2 ⟨e,st,h1,h2⟩) hs hpr hr,h3⟩
def c3K (L:Nat→Option PFunc) (f:PFunc) (P:Out×List PObj→Prop) (e:PExit) (st:St):Prop:=∃r,b92 L f r e st∧P r
@[simp] theorem b6f (f:PFunc) (P:Out×List PObj→Prop):c3K L f P .normal ⟨V,l,g,h⟩=∃v,a0Y ⟨V,l,g,h⟩ f.results=some v∧P (.val v,a0w V f.results h):=by
 simp only[c3K,b2i,eq_iff_iff]
 constructor
 ·rintro⟨r,⟨v,h1,rfl⟩,h2⟩; exact⟨v,h1,h2⟩
 ·rintro⟨v,h1,h2⟩; exact⟨_,⟨v,h1,rfl⟩,h2⟩
@[simp] theorem c9c (f:PFunc) (P:Out×List PObj→Prop):c3K L f P .ret ⟨V,l,g,h⟩=∃v,a0Y ⟨V,l,g,h⟩ f.results=some v∧P (.val v,a0w V f.results h):=b6f (L:=L) f P
@[simp] theorem c7m (f:PFunc) (P:Out×List PObj→Prop) (v:PV):c3K L f P (.boom v) ⟨V,l,g,h⟩=P (.boom v,h):=by
 simp only[c3K,b93,eq_iff_iff]
 exact⟨fun⟨r,h1,h2⟩=>h1▸h2,λh2=>⟨_,rfl,h2⟩⟩
theorem a4w {k:Nat} {f:PFunc} {args:List PV} {hp:List PObj} {P:Out×List PObj→Prop} (hf:L k=some f) (hl:args.length=f.params)
  (hw:wpL L f.code ⟨args.map dem++List.replicate (f.nv - f.params) .dead,[],0,hp⟩ (c3K L f P)) (hs:f.split=false:=by rfl) (hpr:f.prim=none:=by rfl) (hr:f.code.isRound=false:=by rfl):∃r,a3b L k args hp=some r∧P r:=by
 rw[a6R] at hw
 obtain⟨e,st,h1,r,h2,h3⟩:=hw
 exact⟨r,a2b hf hl (a6R.2 ⟨e,st,h1,h2⟩) hs hpr hr,h3⟩
end
end PI
namespace PI.Sc
open Go (IntKind BinOp UnOp)
open Short
def a8h (t:Nat):Option Bad→Out
 | none => .val (.tuple [])
 | some b => .boom (a7C t b.node b.eq b.err)
section
variable {L:Nat→Option PFunc} (hL:∀k f,LS k=some f→L k=some f)
include hL
theorem b9o (en:List Enum) (n:Nat) (a b:Int) (h:List PObj) (hn:h[n]? = some (a0m en a b)) (i:Nat) (nd:Node) (hnw:NW nd):∃k:Int,a3b L 51 [.ptr n 0,.int .i64 i,a1B nd] h=some (a8h 2 (a1Y en nd i),h.set n (a0m en i k)):=by
 suffices H:∃r,a3b L 51 [.ptr n 0,.int .i64 i,a1B nd] h=some r∧∃k:Int,r=(a8h 2 (a1Y en nd i),h.set n (a0m en i k)) by
  obtain⟨r,h1,k,rfl⟩:=H
  exact⟨k,h1⟩
 refine a4w (hL 51 _ rfl) rfl ?_
 have hlt:n<h.length:=(List.getElem?_eq_some_iff.1 hn).1
 have hfold:∀k:Int,PObj.cells [.list false (en.map a0U),.int .i64 i,.int .i64 k]=a0m en i k:=λ_=>rfl
 have hat:∀k:Int,(h.set n (a0m en i k))[n]? = some (a0m en i k):=λk=>by simp[hlt]
 have hi:=λs=>a89 hL en n i (-1) (h.set n (a0m en i (-1))) (hat _) s
 have hr:=λe=>b3v hL en n i (-1) (h.set n (a0m en i (-1))) (hat _) e
 have hT:=a5a hL en n i (-1) (h.set n (a0m en i (-1))) (hat _)
 have hF:=a4v hL en n i (-1) (h.set n (a0m en i (-1))) (hat _)
 have hdi:=a9a hL en n i (-1) (h.set n (a0m en i (-1))) (hat _) nd.ins hnw.ins hnw.is true false
 have hdo:=a9a hL en n i (-1) (h.set n (a0m en i (-1))) (hat _) nd.outs hnw.outs hnw.os true false
 have hdl:=a9a hL en n i (-1) (h.set n (a0m en i (-1))) (hat _) nd.locals hnw.locals hnw.ls false false
 have hau:=λ(au:b2K) (h1:au.length≤1500) (h2:∀x∈au,SW x)=>b9n hL en n i (-1) (h.set n (a0m en i (-1))) (hat _) 3 (by omega) au h1 h2
 have hHead:a2I en nd≠0→a1Y en nd i=some ⟨i,-1,a2I en nd⟩:=λhh=>by unfold a1Y; rw[if_pos hh]
 obtain⟨RES,hRES⟩:∃RES,RES=a1Y en nd i:=⟨_,rfl⟩
 rw[← hRES]
 have hfail:∀e:Int,a2I en nd=e→e≠0→RES=some ⟨i,-1,e⟩:=λe h1 h2=>by rw[hRES,hHead (by rw[h1]; exact h2),h1]
 simp[a4i,hn,a0m,a0g]
 rw[hfold]
 by_cases k0:a67 nd.name=0
 rotate_left
 ·have:=hfail (a67 nd.name) (by unfold a2I; exact a3t k0) k0
  rw[this]
  simp[hi,a1u k0,a8h]
  exact⟨-1,rfl⟩
 by_cases c12:nd.ins.length≤64∧nd.outs.length≤64
 rotate_left
 ·have hc:¬(if nd.ins.length<nd.outs.length then(nd.outs.length:Int) else(nd.ins.length:Int))≤64:=by split<;>omega
  have := hfail 3 (by unfold a2I; rw [k0, a0P]; have : ¬ (nd.ins.length ≤ 64 ∧ nd.outs.length ≤ 64 ∧ nd.locals.length ≤ 256 ∧ nd.eqs.length ≤ 256 ∧ nd.autos.length ≤ 8 ∧ nd.assume.length ≤ 8 ∧ nd.ensure.length ≤ 8) := by omega
                      simp only[this,decide_false,a6r]; rfl) (by decide)
  rw[this]
  simp[hi,k0,a0e,hc,hF,a8h]
  exact⟨-1,rfl⟩
 have m12:(if nd.ins.length<nd.outs.length then(nd.outs.length:Int) else(nd.ins.length:Int))≤64:=by split<;>omega
 by_cases c3:nd.locals.length≤256
 rotate_left
 ·have c3i:¬(nd.locals.length:Int)≤256:=by omega
  have := hfail 3 (by unfold a2I; rw [k0, a0P]; have : ¬ (nd.ins.length ≤ 64 ∧ nd.outs.length ≤ 64 ∧ nd.locals.length ≤ 256 ∧ nd.eqs.length ≤ 256 ∧ nd.autos.length ≤ 8 ∧ nd.assume.length ≤ 8 ∧ nd.ensure.length ≤ 8) := by omega
                      simp only[this,decide_false,a6r]; rfl) (by decide)
  rw[this]
  simp[hi,k0,a0e,m12,c3,c3i,hF,a8h]
  exact⟨-1,rfl⟩
 have c3i:(nd.locals.length:Int)≤256:=by omega
 by_cases c4:nd.eqs.length≤256
 rotate_left
 ·have c4i:¬(nd.eqs.length:Int)≤256:=by omega
  have := hfail 3 (by unfold a2I; rw [k0, a0P]; have : ¬ (nd.ins.length ≤ 64 ∧ nd.outs.length ≤ 64 ∧ nd.locals.length ≤ 256 ∧ nd.eqs.length ≤ 256 ∧ nd.autos.length ≤ 8 ∧ nd.assume.length ≤ 8 ∧ nd.ensure.length ≤ 8) := by omega
                      simp only[this,decide_false,a6r]; rfl) (by decide)
  rw[this]
  simp[hi,k0,a0e,m12,c3,c3i,c4,c4i,hF,a8h]
  exact⟨-1,rfl⟩
 have c4i:(nd.eqs.length:Int)≤256:=by omega
 by_cases c5:nd.autos.length≤8
 rotate_left
 ·have c5i:¬(nd.autos.length:Int)≤8:=by omega
  have := hfail 3 (by unfold a2I; rw [k0, a0P]; have : ¬ (nd.ins.length ≤ 64 ∧ nd.outs.length ≤ 64 ∧ nd.locals.length ≤ 256 ∧ nd.eqs.length ≤ 256 ∧ nd.autos.length ≤ 8 ∧ nd.assume.length ≤ 8 ∧ nd.ensure.length ≤ 8) := by omega
                      simp only[this,decide_false,a6r]; rfl) (by decide)
  rw[this]
  simp[hi,k0,a0e,m12,c3,c3i,c4,c4i,c5,c5i,hF,a8h]
  exact⟨-1,rfl⟩
 have c5i:(nd.autos.length:Int)≤8:=by omega
 by_cases c67:nd.assume.length≤8∧nd.ensure.length≤8
 rotate_left
 ·have m67:¬(if nd.assume.length<nd.ensure.length then(nd.ensure.length:Int) else(nd.assume.length:Int))≤8:=by split<;>omega
  have := hfail 3 (by unfold a2I; rw [k0, a0P]; have : ¬ (nd.ins.length ≤ 64 ∧ nd.outs.length ≤ 64 ∧ nd.locals.length ≤ 256 ∧ nd.eqs.length ≤ 256 ∧ nd.autos.length ≤ 8 ∧ nd.assume.length ≤ 8 ∧ nd.ensure.length ≤ 8) := by omega
                      simp only[this,decide_false,a6r]; rfl) (by decide)
  rw[this]
  simp[hi,k0,a0e,m12,c3,c3i,c4,c4i,c5,c5i,m67,hF,a8h]
  exact⟨-1,rfl⟩
 have m67:(if nd.assume.length<nd.ensure.length then(nd.ensure.length:Int) else(nd.assume.length:Int))≤8:=by split<;>omega
 have hneed:need (decide (nd.ins.length≤64∧nd.outs.length≤64∧nd.locals.length≤256∧nd.eqs.length≤256∧nd.autos.length≤8∧nd.assume.length≤8∧nd.ensure.length≤8)) 3=0:=by
  rw[a1Q (by decide),decide_eq_true_eq]; omega
 have hH:a2I en nd=a0x (need (decide (nd.outs≠[])) 8) (a0x (a0d (a2q en true) nd.ins) (a0x (a0d (a2q en true) nd.outs) (a0d (a2q en false) nd.locals))):=by
  unfold a2I; rw[k0,a0P,hneed,a0P]
 by_cases o1:nd.outs=[]
 ·have o1p:¬0<nd.outs.length:=by simp[o1]
  have o1q:¬(0:Int)<nd.outs.length:=by omega
  have:=hfail 8 (by rw[hH]; simp[o1,a0x]) (by decide)
  rw[this]
  simp[hi,k0,a0e,m12,c3,c3i,c4,c4i,c5,c5i,m67,hT,tf o1,o1p,o1q,hF,a8h]
  exact⟨-1,rfl⟩
 have o1n:0<nd.outs.length:=List.length_pos_iff.2 o1
 have o1i:(0:Int)<nd.outs.length:=by omega
 have hH2:a2I en nd=a0x (a0d (a2q en true) nd.ins) (a0x (a0d (a2q en true) nd.outs) (a0d (a2q en false) nd.locals)):=by
  rw[hH]; simp[o1]
 by_cases z1:a0d (a2q en true) nd.ins=0
 rotate_left
 ·have:=hfail _ (by rw[hH2]; exact a3t z1) z1
  rw[this]
  simp[hi,k0,a0e,m12,c3,c3i,c4,c4i,c5,c5i,m67,hT,o1,o1n,o1i,hdi,a1u z1,a8h]
  exact⟨-1,rfl⟩
 rw[z1,a0P] at hH2
 rw[z1] at hdi
 by_cases z2:a0d (a2q en true) nd.outs=0
 rotate_left
 ·have:=hfail _ (by rw[hH2]; exact a3t z2) z2
  rw[this]
  simp[hi,k0,a0e,m12,c3,c3i,c4,c4i,c5,c5i,m67,hT,o1,o1n,o1i,hdi,hdo,a1u z2,a8h]
  exact⟨-1,rfl⟩
 rw[z2,a0P] at hH2
 rw[z2] at hdo
 by_cases z3:a0d (a2q en false) nd.locals=0
 rotate_left
 ·have:=hfail _ hH2 z3
  rw[this]
  simp[hi,k0,a0e,m12,c3,c3i,c4,c4i,c5,c5i,m67,hT,o1,o1n,o1i,hdi,hdo,hdl,a1u z3,a8h]
  exact⟨-1,rfl⟩
 rw[z3] at hdl hH2
 have hleq:=hnw.eqs
 have hR2:RES=match a3z (a5O en) nd.eqs 0 with
  | some (k,e)=>some ⟨i,k,e⟩
  | none=>if a35 en nd≠0 then some ⟨i,-1,a35 en nd⟩ else none:=by
  rw[hRES]; unfold a1Y; rw[if_neg (by simpa using hH2)]; rfl
 clear hfail hHead hRES
 simp[hi,k0,a0e,m12,c3,c3i,c4,c4i,c5,c5i,m67,hT,o1,o1n,o1i,hdi,hdo,hdl]
 refine b6m nd.eqs (λ_ q=>decide (a5O en q=0)) (λj (x:(PV×PV)×Nat)=>[(4,x.1.1),(5,x.1.2),(11,.int .i64 j)]) (λ_ x=>x.2) (λj _=>h.set n (a0m en i ((j:Int) - 1))) ((.dead,.dead),1) ?_ ?_ ?_ rfl rfl rfl
 ·intro j hj hok x ih
  have hw:=a0c j (by omega)
  rw[decide_eq_true_eq] at hok
  have hc:=b42 hL en n i j (h.set n (a0m en i j)) (hat _) nd.eqs[j] (hnw.es _ (List.getElem_mem hj))
  rw[hok] at hc
  have ih:=λy=>ih y
  rw[show ((j+1:Nat):Int) - 1=j by omega] at ih
  have hfj:=hfold j
  simp[hj,hlt,a0m,a0y]
  simp only[hfj]
  simp[hc,a0e,hw]
  simpa using ih ((_,_),_)
 ·intro j hj hok hpre x
  rw[decide_eq_false_iff_not] at hok
  have hc:=b42 hL en n i j (h.set n (a0m en i j)) (hat _) nd.eqs[j] (hnw.es _ (List.getElem_mem hj))
  have hfa:=b0t (f:=a5O en) (j:=0) hj hok (λk hk h1=>by have:=hpre k hk h1; simpa using this)
  rw[hfa,Nat.zero_add] at hR2
  simp only at hR2
  rw[hR2]
  have hfj:=hfold j
  simp[hj,hlt,a0m,a0y]
  simp only[hfj]
  simp[hc,a1u hok,a8h]
  exact⟨j,rfl⟩
 ·intro hall x
  have hfa:a3z (a5O en) nd.eqs 0=none:=a5N.2 (λq hq=>by obtain⟨k,hk,rfl⟩:=List.mem_iff_getElem.1 hq; simpa using hall k hk)
  rw[hfa] at hR2
  simp only at hR2
  have hfj:=hfold (-1)
  simp[hlt,a0m,a0y]
  simp only[hfj]
  have las:=hnw.assume
  have lgs:=hnw.ensure
  refine a02 nd.autos (a5Y en 3) (λj (y:PV×Nat)=>[(6,y.1),(14,.int .i64 j)]) (λ_ y=>y.2) (λ_ _=>h.set n (a0m en i (-1))) (.dead,x.2) ?_ ?_ ?_ rfl rfl rfl
  ·intro j hj hok y ih
   have hw:=a0c j (by have:=hnw.autos.len; omega)
   have hc:=hau nd.autos[j] (hnw.autos.as _ (List.getElem_mem hj)) (hnw.autos.ss _ (List.getElem_mem hj))
   rw[hok] at hc
   simp at hc
   simp[hj,hc,a0e,hw]
   simpa using ih (_,_)
  ·intro j hj hok hf y
   have hc:=hau nd.autos[j] (hnw.autos.as _ (List.getElem_mem hj)) (hnw.autos.ss _ (List.getElem_mem hj))
   have ht:a35 en nd=a5Y en 3 nd.autos[j]:=by unfold a35; rw[hf]; exact a3t hok
   rw[ht,if_pos hok] at hR2
   rw[hR2]
   simp at hc
   simp[hj,hc,a1u hok,a8h]
   exact⟨-1,rfl⟩
  ·intro e1 y
   simp
   refine a02 nd.assume (a4n en) (λj (y:PV×Nat)=>[(7,y.1),(17,.int .i64 j)]) (λ_ y=>y.2) (λ_ _=>h.set n (a0m en i (-1))) (.dead,y.2) ?_ ?_ ?_ rfl rfl rfl
   ·intro j hj hok z ih
    have hw:=a0c j (by omega)
    obtain⟨h',hx⟩:=a5z hL en nd.assume[j] (hnw.as _ (List.getElem_mem hj)) false
    rw[hok] at hx
    have hle:a0a 1 false [PV.list false (en.map a0U),.int .i64 i,.int .i64 (-1)] 0=some (.list false (en.map a0U)):=rfl
    simp[hj,hlt,hw]
    simp only[a0m]
    simp[hx]
    simp only[hfj]
    simp[hr,a0e,hw]
    simpa using ih (_,_)
   ·intro j hj hok hf z
    obtain⟨h',hx⟩:=a5z hL en nd.assume[j] (hnw.as _ (List.getElem_mem hj)) false
    have ht:a35 en nd=a4n en nd.assume[j]:=by unfold a35; rw[e1,a0P,hf]; exact a3t hok
    rw[ht,if_pos hok] at hR2
    rw[hR2]
    simp[hj,hlt]
    simp only[a0m]
    simp[hx]
    simp only[hfj]
    simp[hr,a1u hok,a8h]
    exact⟨-1,rfl⟩
   ·intro e2 z
    simp
    refine a02 nd.ensure (a4n en) (λj (y:PV×Nat)=>[(8,y.1),(20,.int .i64 j)]) (λ_ y=>y.2) (λ_ _=>h.set n (a0m en i (-1))) (.dead,z.2) ?_ ?_ ?_ rfl rfl rfl
    ·intro j hj hok u ih
     have hw:=a0c j (by omega)
     obtain⟨h',hx⟩:=a5z hL en nd.ensure[j] (hnw.gs _ (List.getElem_mem hj)) false
     rw[hok] at hx
     simp[hj,hlt,hw]
     simp only[a0m]
     simp[hx]
     simp only[hfj]
     simp[hr,a0e,hw]
     simpa using ih (_,_)
    ·intro j hj hok hf u
     obtain⟨h',hx⟩:=a5z hL en nd.ensure[j] (hnw.gs _ (List.getElem_mem hj)) false
     have ht:a35 en nd=a4n en nd.ensure[j]:=by unfold a35; rw[e1,a0P,e2,a0P,hf]
     rw[ht,if_pos hok] at hR2
     rw[hR2]
     simp[hj,hlt]
     simp only[a0m]
     simp[hx]
     simp only[hfj]
     simp[hr,a1u hok,a8h]
     exact⟨-1,rfl⟩
    ·intro e3 u
     have ht:a35 en nd=0:=by unfold a35; rw[e1,e2,e3]; rfl
     rw[ht] at hR2
     simp only[ne_eq,not_true_eq_false,if_false] at hR2
     rw[hR2]
     simp[a8h]
     exact⟨-1,rfl⟩
theorem rec48 (w1 w2 c a b e:Int) (o:PObj):a4A L 48 [a7C 2 a b e,.ptr 0 0,.ptr 1 0] [.cells [.int .i64 w1,.int .i64 w2],.cells [.int .i64 c],o]=some [.cells [.int .i64 a,.int .i64 b],.cells [.int .i64 e],o]:=by
 unfold a4A
 rw[hL 48 _ rfl]
 simp[a5p,b7E,a7C]
theorem c7n (w1 w2 c:Int) (o:PObj):a4A L 48 [.nilIface,.ptr 0 0,.ptr 1 0] [.cells [.int .i64 w1,.int .i64 w2],.cells [.int .i64 c],o]=some [.cells [.int .i64 w1,.int .i64 w2],.cells [.int .i64 c],o]:=by
 unfold a4A
 rw[hL 48 _ rfl]
 simp[a5p,b7E]
theorem c01 (p:Prog) (hp:PW p):∃h',a0o L 23 [a3y p] []=some (b5N (b5O (a26 p)),h'):=by
 suffices H:∃r,a0o L 23 [a3y p] []=some r∧r.1=b5N (b5O (a26 p)) by
  obtain⟨⟨v,h'⟩,h1,h2⟩:=H
  exact⟨h',by rw[h1]; simp only at h2; rw[h2]⟩
 refine b2X (hL 23 _ rfl) rfl ?_
 obtain⟨H,hH⟩:∃H:PObj→List PObj,∀o,H o=[.cells [.int .i64 0,.int .i64 0],.cells [.int .i64 0],o]:=⟨_,λ_=>rfl⟩
 have hat:∀o,(H o)[2]? = some o:=λo=>by rw[hH]; rfl
 have hT:=a5a hL p.enums 2 (-1) (-1) [.cells [.int .i64 0,.int .i64 0],.cells [.int .i64 0],a0m p.enums (-1) (-1)] rfl
 have hF:=a4v hL p.enums 2 (-1) (-1) [.cells [.int .i64 0,.int .i64 0],.cells [.int .i64 0],a0m p.enums (-1) (-1)] rfl
 have hen:=c3H hL p.enums 2 (-1) (-1) [.cells [.int .i64 0,.int .i64 0],.cells [.int .i64 0],a0m p.enums (-1) (-1)] rfl
 have hfold:PObj.cells [PV.list false (p.enums.map a0U),.int .i64 (-1),.int .i64 (-1)]=a0m p.enums (-1) (-1):=rfl
 have l1:=hp.enums
 have l2:=hp.nodes
 have hrec:=rec48 hL 0 0 0
 have hrecn:=c7n hL 0 0 0
 simp[a6F]
 rw[b2h (cs:=[.ptr 0 0,.ptr 1 0]) _ _ _ rfl (by simp)]
 unfold a26
 by_cases c1:p.enums.length≤24
 rotate_left
 ·have c1i:¬(p.enums.length:Int)≤24:=by omega
  simp[hfold,c1,c1i,hF,hrec,b5O,b5N,a0a]
  rfl
 have c1i:(p.enums.length:Int)≤24:=by omega
 by_cases c2:p.nodes.length≤96
 rotate_left
 ·have c2i:¬(p.nodes.length:Int)≤96:=by omega
  simp[hfold,c1,c1i,c2,c2i,hF,hrec,b5O,b5N,a0a]
  rfl
 have c2i:(p.nodes.length:Int)≤96:=by omega
 rw[if_neg (by simp[c1,c2])]
 obtain⟨RES,hRES⟩:∃RES,RES=(if a0d a8z p.enums≠0 then some ⟨-1,-1,a0d a8z p.enums⟩ else a2h p.enums p.nodes 0):=⟨_,rfl⟩
 rw[← hRES]
 simp[hfold,c1,c1i,c2,c2i,hT]
 refine a02 p.enums a8z (λi (x:PV×Nat)=>[(5,x.1),(11,.int .i64 i)]) (λ_ x=>x.2) (λ_ _=>[.cells [.int .i64 0,.int .i64 0],.cells [.int .i64 0],a0m p.enums (-1) (-1)]) (.dead,1) ?_ ?_ ?_ rfl rfl rfl
 ·intro i hi hok x ih
  have hw:=a0c i (by omega)
  have hc:=hen p.enums[i] (hp.tags _ (List.getElem_mem hi))
  rw[hok] at hc
  simp[hi,hw,hc,a0e]
  simpa using ih (_,_)
 ·intro i hi hok hf x
  have hc:=hen p.enums[i] (hp.tags _ (List.getElem_mem hi))
  rw[hf,if_pos hok] at hRES
  subst hRES
  simp[hi,hc,a1u hok,hrec,b5O,b5N,a0a]
  rfl
 ·intro e1 x
  rw[e1,if_neg (by simp)] at hRES
  simp
  refine b6m p.nodes (λi nd=>(a1Y p.enums nd i).isNone) (λi (y:((PV×PV)×Nat)×Int×Int)=>[(6,y.1.1.1),(7,y.1.1.2),(14,.int .i64 i)]) (λ_ y=>y.1.2) (λ_ y=>[.cells [.int .i64 0,.int .i64 0],.cells [.int .i64 0],a0m p.enums y.2.1 y.2.2]) (((.dead,.dead),x.2),-1,-1) ?_ ?_ ?_ rfl rfl rfl
  ·intro i hi hok y ih
   have hw:=a0c i (by omega)
   obtain⟨k,hc⟩:=b9o hL p.enums 2 y.2.1 y.2.2 [.cells [.int .i64 0,.int .i64 0],.cells [.int .i64 0],a0m p.enums y.2.1 y.2.2] rfl i p.nodes[i] (hp.ns _ (List.getElem_mem hi))
   rw[Option.isNone_iff_eq_none] at hok
   rw[hok] at hc
   simp[a8h] at hc
   simp[hi,hw,hc]
   simpa using ih (((_,_),_),i,k)
  ·intro i hi hok hpre y
   obtain⟨k,hc⟩:=b9o hL p.enums 2 y.2.1 y.2.2 [.cells [.int .i64 0,.int .i64 0],.cells [.int .i64 0],a0m p.enums y.2.1 y.2.2] rfl i p.nodes[i] (hp.ns _ (List.getElem_mem hi))
   obtain⟨b,hb⟩:∃b,a1Y p.enums p.nodes[i] i=some b:=by
    cases hx:a1Y p.enums p.nodes[i] i with
    | none=>rw[hx] at hok; simp at hok
    | some b=>exact⟨b,rfl⟩
   have hres:a2h p.enums p.nodes 0=some b:=a9d hi (by rw[Nat.zero_add]; exact hb) (λk hk h1=>by have:=hpre k hk h1; rw[Option.isNone_iff_eq_none] at this; rw[Nat.zero_add]; exact this)
   rw[hb] at hc
   rw[hres] at hRES
   subst hRES
   simp[a8h] at hc
   simp[hi,hc,hrec,b5O,b5N,a0a]
   rfl
  ·intro hall y
   have hres:a2h p.enums p.nodes 0=none:=a9e (λk hk=>by have:=hall k hk; rw[Option.isNone_iff_eq_none] at this; rw[Nat.zero_add]; exact this)
   rw[hres] at hRES
   subst hRES
   simp[a0g,hrecn,b5O,c7w,b5N,a0a]
   rfl
end
end PI.Sc
set_option maxRecDepth 100000
set_option linter.unusedSimpArgs false
set_option linter.unusedVariables false
namespace PI.Sc
open Go (IntKind BinOp UnOp)
open Short
def b2Y (k:Int×Str):PV := .agg [.int .i64 k.1,.str k.2]
def c7o (x:(Int×Str)×Int):PV×PV:=(b2Y x.1,.int .i64 x.2)
abbrev a78:=List ((Int×Str)×Int)
def b1T (l:a78):List (Int×Str):=l.map (·.1)
def a0s (l:a78):PObj := .map (l.map c7o)
def a0f (en:List Enum) (ns:List Node) (a b:Int):PObj := .cells [.list false (en.map a0U),.list false (ns.map a1B),.int .i64 a,.int .i64 b,.map (some 2)]
def a4K (k:Int×Str):a78→Option Int
 | []=>none
 | x::l=>if k=x.1 then some x.2 else a4K k l
theorem a4l {k:Int×Str}:∀{l:a78},a4K k l=none↔k∉b1T l
 | []=>by simp[a4K,b1T]
 | x :: l => by
   have:=a4l (k:=k) (l:=l)
   by_cases h:k=x.1<;>simp[a4K,b1T,h] at this ⊢<;>exact this
theorem c7p (a b:Int×Str):peq true [.i,.s] (b2Y a) (b2Y b)=some (decide (a=b)):=by
 obtain⟨a1,a2⟩:=a
 obtain⟨b1,b2⟩:=b
 simp only[b2Y,peq,if_true,b33,b6L,Option.bind_some,Option.map_some,Option.some.injEq,Bool.and_true,Prod.mk.injEq]
 rw[Bool.eq_iff_iff]; simp
theorem a9b (k:Int×Str):∀(l:a78) (i:Nat),∃r,a3u true [.i,.s] (b2Y k) (l.map c7o) i=some r∧r.map (·.2)=(a4K k l).map (PV.int .i64)
 | [],i=>⟨none,by simp[a3u,b2Y],rfl⟩
 | x :: l, i => by
   have he:peq true [.i,.s] (b2Y k) (c7o x).1=some (decide (k=x.1)):=c7p k x.1
   by_cases hx:k=x.1
   ·subst hx
    refine⟨some (i,.int .i64 x.2),?_,by simp[a4K]⟩
    simp only[List.map_cons,a3u,he,Option.bind_some,decide_true,if_true]
    rfl
   ·obtain⟨r,h1,h2⟩:=a9b k l (i+1)
    refine⟨r,?_,by simp[a4K,hx,h2]⟩
    simp only[List.map_cons,a3u,he,Option.bind_some,hx,decide_false,Bool.false_eq_true,if_false,h1]
def bmE (l:List Str):List (PV×PV):=l.map λs=>(.str s,.bool true)
def b72 (l:List Str) (x:Str):List Str:=if x∈l then l else l++[x]
theorem b0X {l:List Str} {x y:Str}:y∈b72 l x↔y∈l∨y=x:=by
 unfold b72; split
 ·rename_i h
  exact⟨.inl,λhh=>hh.elim id λe=>e▸h⟩
 ·simp
theorem c18 (x:Str):∀(l:List Str) (i:Nat),(x∉l→a3u false [.s] (.str x) (bmE l) i=some none)∧(x∈l→∃j,a3u false [.s] (.str x) (bmE l) i=some (some (i+j,.bool true))∧l[j]? = some x)
 | [],i=>⟨λ_=>rfl,λh=>by simp at h⟩
 | y :: l, i => by
   have he:peq false [.s] (.str x) (.str y)=some (x==y):=rfl
   obtain⟨h1,h2⟩:=c18 x l (i+1)
   constructor
   ·intro h
    simp only[List.mem_cons,not_or] at h
    have hb:(x==y)=false:=by simpa using h.1
    simp only[bmE,List.map_cons,a3u,he,Option.bind_some,hb,Bool.false_eq_true,if_false]
    exact h1 h.2
   ·intro h
    by_cases hx:x=y
    ·subst hx
     exact⟨0,by simp[bmE,a3u,he],rfl⟩
    ·have hb:(x==y)=false:=by simpa using hx
     obtain⟨j,h3,h4⟩:=h2 (by simpa[hx] using h)
     refine⟨j+1,?_,by simpa using h4⟩
     simp only[bmE,List.map_cons,a3u,he,Option.bind_some,hb,Bool.false_eq_true,if_false]
     rw[show i+(j+1)=i+1+j by omega]
     exact h3
theorem a5A (x:Str) (l:List Str):∃r,a3u false [.s] (.str x) (bmE l) 0=some r∧r.map (·.2)=(if x∈l then some (PV.bool true) else none)∧b3J (bmE l) (.str x) (.bool true) r=bmE (b72 l x):=by
 obtain⟨h1,h2⟩:=c18 x l 0
 by_cases h:x∈l
 ·obtain⟨j,h3,h4⟩:=h2 h
  refine⟨_,h3,by simp[h],?_⟩
  obtain⟨hj,hx⟩:=List.getElem?_eq_some_iff.1 h4
  simp only[b5g,b72,h,if_true,Nat.zero_add]
  have:(bmE l)[j]'(by simpa[bmE] using hj)=(.str x,.bool true):=by simp[bmE,hx]
  rw[← this,List.set_getElem_self]
 ·exact⟨none,h1 h,by simp[h],by simp[b72,h,bmE]⟩
structure Fr where
 O:List Str
 D:List Str
 I:List Str
 df:List Str
def Kp (b:Nat) (h h':List PObj):Prop:=h.length≤h'.length∧∀n,n<b→h'[n]? = h[n]?
theorem Kp.refl (b:Nat) (h:List PObj):Kp b h h:=⟨Nat.le_refl _,λ_ _=>rfl⟩
theorem Kp.trans {b:Nat} {h h' h'':List PObj} (h1:Kp b h h') (h2:Kp b h' h''):Kp b h h'':=⟨Nat.le_trans h1.1 h2.1,λn hn=>(h2.2 n hn).trans (h1.2 n hn)⟩
theorem Kp.le {b b':Nat} {h h':List PObj} (h1:Kp b h h') (hb:b'≤b):Kp b' h h':=⟨h1.1,λn hn=>h1.2 n (by omega)⟩
theorem Kp.app {b:Nat} {h e:List PObj} (hb:b≤h.length):Kp b h (h++e):=⟨by simp,λn hn=>by rw[List.getElem?_append_left (by omega)]⟩
theorem Kp.set {b n:Nat} {h:List PObj} {o:PObj} (hb:b≤n):Kp b h (h.set n o):=⟨by simp,λk hk=>by rw[List.getElem?_set_ne (by omega)]⟩
def c7q (h:List PObj) (b' b:Nat) (dv:PV) (df:List Str):Prop:=(dv = .list true []∧df=[])∨∃k,b'≤k∧k<b∧dv = .rowp k 1 false df.length∧h[k]? = some (.cells (df.map PV.str))
def Holds (h:List PObj):Nat→PV→List Fr→Prop
 | b,v,[]=>v = .nilptr
 | b, v, f :: fs => ∃ (b' n o d : Nat) (i dv up : PV), v = .ptr n 0 ∧ b' ≤ n ∧ b' ≤ o ∧ b' ≤ d ∧ n < b ∧ o < b ∧ d < b ∧ n ≠ o ∧ n ≠ d ∧ o ≠ d ∧ 4 ≤ b' ∧ h[n]? = some (.cells [up, .map (some o), .map (some d), i, dv]) ∧ h[o]? = some (.map (bmE f.O)) ∧ h[d]? = some (.map (bmE f.D)) ∧
   ((i = .map none∧f.I=[])∨∃m,i = .map (some m)∧b'≤m∧m<b∧m≠n∧m≠o∧m≠d∧h[m]? = some (.map (bmE f.I)))∧c7q h b' b dv f.df∧(∀k s a len,dv = .rowp k s a len→k≠n∧k≠o∧k≠d∧i≠.map (some k))∧Holds h b' up fs
theorem Holds.keep {h h':List PObj}:∀{fs:List Fr} {b:Nat} {v:PV},Holds h b v fs→(∀n,n<b→h'[n]? = h[n]?)→Holds h' b v fs
 | [],b,v,hh,_=>hh
 | f :: fs, b, v, hh, hk => by
   obtain⟨b',n,o,d,i,dv,up,h1,h2,h3,h4,h5,h6,h7,h8,h9,h10,h4b,h11,h12,h13,h14,h15,h16,h17⟩:=hh
   refine⟨b',n,o,d,i,dv,up,h1,h2,h3,h4,h5,h6,h7,h8,h9,h10,h4b,(hk _ h5).trans h11,(hk _ h6).trans h12,(hk _ h7).trans h13,?_,?_,h16,h17.keep λk hk'=>hk k (by omega)⟩
   ·rcases h14 with h|⟨m,e1,e2,e3,e4,e5,e6,e7⟩
    ·exact .inl h
    ·exact .inr ⟨m,e1,e2,e3,e4,e5,e6,(hk _ e3).trans e7⟩
   ·rcases h15 with h|⟨k,e1,e2,e3,e4⟩
    ·exact .inl h
    ·exact .inr ⟨k,e1,e2,e3,(hk _ e2).trans e4⟩
theorem Holds.up {h:List PObj}:∀{fs:List Fr} {b c:Nat} {v:PV},Holds h b v fs→b≤c→Holds h c v fs
 | [],b,c,v,hh,_=>hh
 | f :: fs, b, c, v, hh, hk => by
   obtain⟨b',n,o,d,i,dv,up,h1,h2,h3,h4,h5,h6,h7,h8,h9,h10,h4b,h11,h12,h13,h14,h15,h16,h17⟩:=hh
   refine⟨b',n,o,d,i,dv,up,h1,h2,h3,h4,by omega,by omega,by omega,h8,h9,h10,h4b,h11,h12,h13,?_,?_,h16,h17⟩
   ·rcases h14 with h|⟨m,e1,e2,e3,e4,e5,e6,e7⟩
    ·exact .inl h
    ·exact .inr ⟨m,e1,e2,by omega,e4,e5,e6,e7⟩
   ·rcases h15 with h|⟨k,e1,e2,e3,e4⟩
    ·exact .inl h
    ·exact .inr ⟨k,e1,by omega,e3,e4⟩
theorem Holds.ptr {h:List PObj} {fs:List Fr} {b:Nat} {v:PV} (hv:Holds h b v fs):v = .nilptr∨∃n,v = .ptr n 0:=by
 cases fs with
 | nil=>exact .inl hv
 | cons f fs=>obtain⟨_,n,_,_,_,_,_,e,_⟩:=hv; exact .inr ⟨n,e⟩
theorem Holds.cp {h:List PObj} {fs:List Fr} {b:Nat} {v:PV} (hv:Holds h b v fs):cp v=some v:=by rcases hv.ptr with rfl|⟨n,rfl⟩<;>rfl
theorem Holds.tkv {h:List PObj} {fs:List Fr} {b:Nat} {v:PV} (hv:Holds h b v fs):tkv v=some (v,false):=by rcases hv.ptr with rfl|⟨n,rfl⟩<;>rfl
theorem Holds.dem {h:List PObj} {fs:List Fr} {b:Nat} {v:PV} (hv:Holds h b v fs):dem v=v:=by rcases hv.ptr with rfl|⟨n,rfl⟩<;>rfl
def a6u (fs:List Fr) (x:Str):Bool:=fs.any λf=>decide (x∈f.O)
def b2l (fs:List Fr) (x:Str):Bool:=fs.any λf=>decide (x∈f.D)||decide (x∈f.I)
section
variable {L:Nat→Option PFunc} (hL:∀k f,LS k=some f→L k=some f) (en:List Enum) (ns:List Node) (a b:Int)
include hL
section
variable (h:List PObj) (h3:h[3]? = some (a0f en ns a b))
include h3
theorem a4x (e:Int):a3b L 57 [.ptr 3 0,.bool true,.int .i64 e] h=some (.val (.tuple []),h):=by
 have _:=h3
 refine a2b (hL 57 _ rfl) rfl ?_
 simp[a24]
theorem a4y (e:Int):a3b L 57 [.ptr 3 0,.bool false,.int .i64 e] h=some (.boom (a7C 1 a b e),h):=by
 refine a2b (hL 57 _ rfl) rfl ?_
 simp[a24,h3,a0f,a7C]
theorem a9U (l:a78) (h2:h[2]? = some (a0s l)) (k:Int×Str) (i:Int) (hk:k∈b1T l):a3b L 28 [.ptr 3 0,b2Y k,.int .i64 i] h=some (.boom (a7C 1 a b 7),h):=by
 have hm:=a4y hL en ns a b h h3 7
 obtain⟨r,h4,h5⟩:=a9b k l 0
 cases r with
 | none =>
   have:a4K k l=none:=by simpa using h5.symm
   exact absurd hk (a4l.1 this)
 | some r =>
   obtain⟨j,v⟩:=r
   obtain⟨z,rfl⟩:∃z,v = .int .i64 z:=by
    cases he:a4K k l with
    | none=>rw[he] at h5; simp at h5
    | some z=>rw[he] at h5; exact⟨z,by simpa using h5⟩
   refine a2b (hL 28 _ rfl) rfl ?_
   have hkk:b2Y k = .agg [.int .i64 k.1,.str k.2]:=rfl
   rw[hkk] at h4 ⊢
   simp[a3s,h4,h3,h2,a0f,a0s,hm,b0v]
theorem a9V (l:a78) (h2:h[2]? = some (a0s l)) (k:Int×Str) (i:Int) (hk:k∉b1T l):a3b L 28 [.ptr 3 0,b2Y k,.int .i64 i] h=some (.val (.tuple []),h.set 2 (a0s (l++[(k,i)]))):=by
 have hm:=a4x hL en ns a b h h3 7
 obtain⟨r,h4,h5⟩:=a9b k l 0
 rw[a4l.2 hk] at h5
 simp only[Option.map_none,Option.map_eq_none_iff] at h5
 subst h5
 refine a2b (hL 28 _ rfl) rfl ?_
 have hkk:b2Y k = .agg [.int .i64 k.1,.str k.2]:=rfl
 have e3:a0s (l++[(k,i)]) = .map (l.map c7o++[(.agg [.int .i64 k.1,.str k.2],.int .i64 i)]):=by simp[a0s,c7o,b2Y]
 rw[e3]
 rw[hkk] at h4 ⊢
 simp[a3s,h4,h3,h2,a0f,a0s,hm,b0v]
end
theorem b3w (x:Str):∀(fs:List Fr) (h:List PObj) (b:Nat) (v:PV),Holds h b v fs→a0o L 97 [v,.str x] h=some (.bool (a6u fs x),h):=by
 have key:∀(fs:List Fr) (h:List PObj) (b:Nat) (v:PV),Holds h b v fs→wpL L a1y ⟨[v,.str x,.bool false],[],0,h⟩ (a7J 0 (c0o L (S (R [t 2 F]) Y) (c2M a1z.results (.bool (a6u fs x),h)))):=by
  intro fs
  induction fs with
  | nil =>
    intro h b v hv
    have hv:v = .nilptr:=hv
    subst hv
    rw[a1y,a2M]
    simp[a1z,a6u]
  | cons f fs ih =>
    intro h b v hv
    obtain⟨b',n,o,d,i,dv,up,h1,h2,h3,h4,h5,h6,h7,h8,h9,h10,h4b,h11,h12,h13,h14,h15,h16,h17⟩:=hv
    subst h1
    obtain⟨r,hr,hr2,_⟩:=a5A x f.O
    rw[a1y,a2M]
    by_cases hx:x∈f.O
    ·simp[hx] at hr2
     obtain⟨j,rfl⟩:=hr2
     simp[h11,h12,hr,a5D,a1z,a6u,hx]
    ·simp[hx] at hr2
     subst hr2
     simp[h11,h12,hr,a5D,h17.cp,h17.tkv]
     have:=ih h b' up h17
     rw[a1y] at this
     simpa[a6u,hx] using this
 intro fs h b v hv
 refine a0i (hL 97 _ rfl) rfl ?_
 simpa[a1z,hv.dem] using key fs h b v hv
theorem b73 (x:Str):∀(fs:List Fr) (h:List PObj) (b:Nat) (v:PV),Holds h b v fs→a0o L 98 [v,.str x] h=some (.bool (b2l fs x),h):=by
 have key:∀(fs:List Fr) (h:List PObj) (b:Nat) (v:PV),Holds h b v fs→wpL L a07 ⟨[v,.str x,.bool false],[],0,h⟩ (a7J 0 (c0o L (S (R [t 2 F]) Y) (c2M a0R.results (.bool (b2l fs x),h)))):=by
  intro fs
  induction fs with
  | nil =>
    intro h b v hv
    have hv:v = .nilptr:=hv
    subst hv
    rw[a07,a2M]
    simp[a0R,b2l]
  | cons f fs ih =>
    intro h b v hv
    obtain⟨b',n,o,d,i,dv,up,h1,h2,h3,h4,h5,h6,h7,h8,h9,h10,h4b,h11,h12,h13,h14,h15,h16,h17⟩:=hv
    subst h1
    obtain⟨r,hr,hr2,_⟩:=a5A x f.D
    have hrec:=ih h b' up h17
    rw[a07] at hrec
    rw[a07,a2M]
    by_cases hx:x∈f.D
    ·simp[hx] at hr2
     obtain⟨j,rfl⟩:=hr2
     simp[h11,h13,hr,a5D,a0R,b2l,hx]
    ·simp[hx] at hr2
     subst hr2
     rcases h14 with⟨rfl,hI⟩|⟨m,rfl,_,_,_,_,_,hm⟩
     ·simp[h11,h13,hr,a5D,a3u,h17.cp,h17.tkv]
      simpa[b2l,hx,hI] using hrec
     ·obtain⟨r,hr',hr3,_⟩:=a5A x f.I
      by_cases hy:x∈f.I
      ·simp[hy] at hr3
       obtain⟨j,rfl⟩:=hr3
       simp[h11,h13,hr,hr',hm,a5D,a0R,b2l,hx,hy]
      ·simp[hy] at hr3
       subst hr3
       simp[h11,h13,hr,hr',hm,a5D,h17.cp,h17.tkv]
       simpa[b2l,hx,hy] using hrec
 intro fs h b v hv
 refine a0i (hL 98 _ rfl) rfl ?_
 simpa[a0R,hv.dem] using key fs h b v hv
end
structure TopAt (h:List PObj) (b b' n o d:Nat) (i dv up:PV) (f:Fr) (fs:List Fr):Prop where
 ln:b'≤n
 lo:b'≤o
 ld:b'≤d
 un:n<b
 uo:o<b
 ud:d<b
 no:n≠o
 nd:n≠d
 od:o≠d
 four:4≤b'
 hn:h[n]? = some (.cells [up,.map (some o),.map (some d),i,dv])
 ho:h[o]? = some (.map (bmE f.O))
 hd:h[d]? = some (.map (bmE f.D))
 hi:(i = .map none∧f.I=[])∨∃m,i = .map (some m)∧b'≤m∧m<b∧m≠n∧m≠o∧m≠d∧h[m]? = some (.map (bmE f.I))
 row:c7q h b' b dv f.df
 rne:∀k s a len,dv = .rowp k s a len→k≠n∧k≠o∧k≠d∧i≠.map (some k)
 hup:Holds h b' up fs
theorem TopAt.holds {h:List PObj} {b b' n o d:Nat} {i dv up:PV} {f:Fr} {fs:List Fr} (t:TopAt h b b' n o d i dv up f fs):Holds h b (.ptr n 0) (f::fs):=
 ⟨b',n,o,d,i,dv,up,rfl,t.ln,t.lo,t.ld,t.un,t.uo,t.ud,t.no,t.nd,t.od,t.four,t.hn,t.ho,t.hd,t.hi,t.row,t.rne,t.hup⟩
section
variable {h h':List PObj} {b b' n o d:Nat} {i dv up:PV} {f:Fr} {fs:List Fr}
theorem TopAt.keep (t:TopAt h b b' n o d i dv up f fs) (hk:∀n,n<b→h'[n]? = h[n]?):TopAt h' b b' n o d i dv up f fs where
 ln:=t.ln
 lo:=t.lo
 ld:=t.ld
 un:=t.un
 uo:=t.uo
 ud:=t.ud
 no:=t.no
 nd:=t.nd
 od:=t.od
 four:=t.four
 hn:=(hk _ t.un).trans t.hn
 ho:=(hk _ t.uo).trans t.ho
 hd:=(hk _ t.ud).trans t.hd
 hi:=by
  rcases t.hi with h|⟨m,e1,e2,e3,e4,e5,e6,e7⟩
  ·exact .inl h
  ·exact .inr ⟨m,e1,e2,e3,e4,e5,e6,(hk _ e3).trans e7⟩
 row:=by
  rcases t.row with h|⟨k,e1,e2,e3,e4⟩
  ·exact .inl h
  ·exact .inr ⟨k,e1,e2,e3,(hk _ e2).trans e4⟩
 rne:=t.rne
 hup:=t.hup.keep λk hk'=>hk k (by have:=t.ln; have:=t.un; omega)
theorem TopAt.setO (t:TopAt h b b' n o d i dv up f fs) (O:List Str):TopAt (h.set o (.map (bmE O))) b b' n o d i dv up { f with O:=O } fs where
 ln:=t.ln
 lo:=t.lo
 ld:=t.ld
 un:=t.un
 uo:=t.uo
 ud:=t.ud
 no:=t.no
 nd:=t.nd
 od:=t.od
 four:=t.four
 hn:=by rw[List.getElem?_set_ne (Ne.symm t.no)]; exact t.hn
 ho:=by
  obtain⟨hl,_⟩:=List.getElem?_eq_some_iff.1 t.ho
  rw[List.getElem?_set_self hl]
 hd:=by rw[List.getElem?_set_ne t.od]; exact t.hd
 hi:=by
  rcases t.hi with h|⟨m,e1,e2,e3,e4,e5,e6,e7⟩
  ·exact .inl h
  ·exact .inr ⟨m,e1,e2,e3,e4,e5,e6,by rw[List.getElem?_set_ne (Ne.symm e5)]; exact e7⟩
 row:=by
  rcases t.row with h|⟨k,e1,e2,e3,e4⟩
  ·exact .inl h
  ·exact .inr ⟨k,e1,e2,e3,by rw[List.getElem?_set_ne (Ne.symm (t.rne _ _ _ _ e3).2.1)]; exact e4⟩
 rne:=t.rne
 hup:=t.hup.keep λk hk'=>List.getElem?_set_ne (by have:=t.lo; omega)
theorem TopAt.setD (t:TopAt h b b' n o d i dv up f fs) (D:List Str):TopAt (h.set d (.map (bmE D))) b b' n o d i dv up { f with D:=D } fs where
 ln:=t.ln
 lo:=t.lo
 ld:=t.ld
 un:=t.un
 uo:=t.uo
 ud:=t.ud
 no:=t.no
 nd:=t.nd
 od:=t.od
 four:=t.four
 hn:=by rw[List.getElem?_set_ne (Ne.symm t.nd)]; exact t.hn
 ho:=by rw[List.getElem?_set_ne (Ne.symm t.od)]; exact t.ho
 hd:=by
  obtain⟨hl,_⟩:=List.getElem?_eq_some_iff.1 t.hd
  rw[List.getElem?_set_self hl]
 hi:=by
  rcases t.hi with h|⟨m,e1,e2,e3,e4,e5,e6,e7⟩
  ·exact .inl h
  ·exact .inr ⟨m,e1,e2,e3,e4,e5,e6,by rw[List.getElem?_set_ne (Ne.symm e6)]; exact e7⟩
 row:=by
  rcases t.row with h|⟨k,e1,e2,e3,e4⟩
  ·exact .inl h
  ·exact .inr ⟨k,e1,e2,e3,by rw[List.getElem?_set_ne (Ne.symm (t.rne _ _ _ _ e3).2.2.1)]; exact e4⟩
 rne:=t.rne
 hup:=t.hup.keep λk hk'=>List.getElem?_set_ne (by have:=t.ld; omega)
end
def a7E (l:a78) (tags:List Str):Prop:=∀x,((0:Int),x)∈b1T l↔x∈tags
def NodesIn (l:a78) (ns:List Node) (k:Nat):Prop:=∀x,match callee (ns.take k) x with
 | none=>∀i:Int,a4K (1,x) l=some i→¬i<k
 | some m=>∃j:Nat,a4K (1,x) l=some (j:Int)∧j<k∧ns[j]? = some m
section
variable {L:Nat→Option PFunc} (hL:∀k f,LS k=some f→L k=some f) (en:List Enum) (ns:List Node) (a b:Int) (ents:a78)
include hL
theorem b2Z (tags:List Str) (htg:a7E ents tags) (l:List Decl) (hl:l.length≤4500) (r:Bool) (h:List PObj) (h2:h[2]? = some (a0s ents)) (h3:h[3]? = some (a0f en ns a b)) (q q' n o d:Nat) (i dv up:PV) (f:Fr) (fs:List Fr) (t:TopAt h q q' n o d i dv up f fs) (vis:List Str) (hvis:∀x,a6u (f::fs) x=true↔x∈vis):
  ∃h' O,a3b L 59 [.ptr 3 0,.ptr n 0,.list r (l.map a0B)] h=some (a0z 1 a b (a27 tags l vis).1,h')∧Kp q' h h'∧h'.length=h.length∧TopAt h' q q' n o d i dv up { f with O:=O } fs∧((a27 tags l vis).1=0→(∀x,a6u ({ f with O:=O }::fs) x=true↔x∈(a27 tags l vis).2)∧∀x,x∈O↔x∈f.O∨x∈a0b l):=by
 suffices H:∃res,a3b L 59 [.ptr 3 0,.ptr n 0,.list r (l.map a0B)] h=some res∧∃h' O,res=(a0z 1 a b (a27 tags l vis).1,h')∧Kp q' h h'∧h'.length=h.length∧TopAt h' q q' n o d i dv up { f with O:=O } fs∧((a27 tags l vis).1=0→(∀x,a6u ({ f with O:=O }::fs) x=true↔x∈(a27 tags l vis).2)∧∀x,x∈O↔x∈f.O∨x∈a0b l) by
  obtain⟨res,e1,h',O,e2,e3⟩:=H
  exact⟨h',O,by rw[e1,e2],e3⟩
 refine a4w (hL 59 _ rfl) rfl ?_
 simp[a2f]
 rw[a3T]
 refine a0V l.length (λk st=>∃y3 y4 g h' O vis',st=⟨[.ptr 3 0,.ptr n 0,.list false (l.map a0B),y3,y4,.list false (l.map a0B),.int .i64 l.length,.int .i64 k],[],g,h'⟩∧Kp q' h h'∧h'.length=h.length∧TopAt h' q q' n o d i dv up { f with O:=O } fs∧a27 tags l vis=a27 tags (l.drop k) vis'∧(∀x,a6u ({ f with O:=O }::fs) x=true↔x∈vis')∧∀x,x∈O↔x∈f.O∨x∈a0b (l.take k)) ?_ ?_ ⟨_,_,_,h,f.O,vis,rfl,Kp.refl _ _,rfl,t,rfl,hvis,λx=>by simp[a0b]⟩
 ·rintro k hk st ⟨y3,y4,g,h',O,vis',rfl,hkp,hlen,ht,hdn,hv,hO⟩ ih
  have hw:=a0c k (by omega)
  have h2':h'[2]? = some (a0s ents):=(hkp.2 2 (by have:=ht.four; omega)).trans h2
  have h3':h'[3]? = some (a0f en ns a b):=(hkp.2 3 (by have:=ht.four; omega)).trans h3
  have hT:=a4x hL en ns a b h' h3' 7
  have hF:=a4y hL en ns a b h' h3' 7
  have hs:=b3w hL l[k].name _ h' q _ ht.holds
  have hsv:=hv l[k].name
  have htx:=htg l[k].name
  rw[List.drop_eq_getElem_cons hk] at hdn
  simp only[a27] at hdn
  obtain⟨z,hz,hz2⟩:=a9b (0,l[k].name) ents 0
  simp only[b2Y] at hz
  have hn:=ht.hn
  have ho:=ht.ho
  cases z with
  | some z =>
    obtain⟨j,v⟩:=z
    obtain⟨u,hu,rfl⟩:∃u,a4K (0,l[k].name) ents=some u∧v = .int .i64 u:=by
     cases he:a4K (0,l[k].name) ents with
     | none=>rw[he] at hz2; simp at hz2
     | some u=>rw[he] at hz2; exact⟨u,rfl,by simpa using hz2⟩
    have hin:l[k].name∈tags:=htx.1 (Classical.byContradiction λhn=>by rw[a4l.2 hn] at hu; simp at hu)
    rw[if_pos (.inr hin)] at hdn
    simp[hk,h3',a0f,h2',a0s,a5D,hz,hF]
    refine⟨h',by rw[hdn]; exact⟨rfl,rfl⟩,hkp,hlen,O,ht,by rw[hdn]; simp⟩
  | none =>
    have hnone:a4K (0,l[k].name) ents=none:=by simpa using hz2.symm
    have hnin:l[k].name∉tags:=λhx=>a4l.1 hnone (htx.2 hx)
    by_cases hx:l[k].name∈vis'
    ·rw[if_pos (.inl hx)] at hdn
     rw[hsv.2 hx] at hs
     simp[hk,h3',a0f,h2',a0s,a5D,hz,hs,hF]
     refine⟨h',by rw[hdn]; exact⟨rfl,rfl⟩,hkp,hlen,O,ht,by rw[hdn]; simp⟩
    ·rw[if_neg (by simp[hx,hnin])] at hdn
     have hsf:a6u ({ f with O:=O }::fs) l[k].name=false:=by
      cases hc:a6u ({ f with O:=O }::fs) l[k].name with
      | false=>rfl
      | true=>exact absurd (hsv.1 hc) hx
     rw[hsf] at hs
     have hdn1:a0b (l.take (k+1))=a0b (l.take k)++[l[k].name]:=by simp only[a0b,List.take_add_one,List.getElem?_eq_getElem hk,Option.toList,List.map_append,List.map_cons,List.map_nil]
     obtain⟨r',hr,_,hr3⟩:=a5A l[k].name O
     simp[hk,h3',a0f,h2',a0s,a5D,hz,hs,hT,hn,ho,hr,hr3,hw]
     refine ih _ ⟨_,_,_,_,b72 O l[k].name,vis'++[l[k].name],rfl,hkp.trans (Kp.set ht.lo),by simp[hlen],ht.setO _,hdn,?_,λx=>by rw[b0X,hO,hdn1,List.mem_append,List.mem_singleton,or_assoc]⟩
     ·intro x
      have:=hv x
      simp only[a6u,List.any_cons,Bool.or_eq_true,decide_eq_true_eq,b0X,List.mem_append,List.mem_singleton] at this ⊢
      rw[← this]
      constructor
      ·rintro((h1|h1)|h1)
       ·exact .inl (.inl h1)
       ·exact .inr h1
       ·exact .inl (.inr h1)
      ·rintro((h1|h1)|h1)
       ·exact .inl (.inl h1)
       ·exact .inr h1
       ·exact .inl (.inr h1)
 ·rintro st ⟨y3,y4,g,h',O,vis',rfl,hkp,hlen,ht,hdn,hv,hO⟩
  rw[List.drop_eq_nil_of_le (Nat.le_refl _)] at hdn
  simp only[a27] at hdn
  simp[a2f]
  refine⟨h',by rw[hdn]; exact⟨rfl,rfl⟩,hkp,hlen,O,ht,?_⟩
  rw[hdn]
  intro _
  exact⟨by simpa using hv,by simpa using hO⟩
theorem b0s (l:List Decl) (hl:l.length≤4500) (hd:∀d∈l,DW d) (r:Bool) (h:List PObj) (h3:h[3]? = some (a0f en ns a b)) (q:Nat) (v:PV) (fs:List Fr) (hv:Holds h q v fs) (vis:List Str) (hvis:∀x,a6u fs x=true↔x∈vis):
  a3b L 60 [.ptr 3 0,v,.list r (l.map a0B)] h=some (a0z 1 a b (a4W vis l),h):=by
 have hT:=a4x hL en ns a b h h3 6
 have hF:=a4y hL en ns a b h h3 6
 have hs:=λx=>b3w hL x _ h q _ hv
 have hvd:=hv.dem
 have hvc:=hv.cp
 have hvt:=hv.tkv
 have hsx:∀x,a6u fs x=decide (x∈vis):=λx=>by rw[Bool.eq_iff_iff,decide_eq_true_eq]; exact hvis x
 refine a2b (hL 60 _ rfl) rfl ?_
 simp[a1U,hvd]
 have hst:a4W vis l=a0d (λd=>a0d (λo:On=>need (decide (o.name∈vis)) 6) d.clock) l:=rfl
 rw[hst]
 refine a02 l (λd=>a0d (λo:On=>need (decide (o.name∈vis)) 6) d.clock) (λi (x:(PV×PV×PV×PV×PV)×Nat)=>[(3,x.1.1),(4,x.1.2.1),(8,x.1.2.2.1),(9,x.1.2.2.2.1),(10,x.1.2.2.2.2),(7,.int .i64 i)]) (λ_ x=>x.2) (λ_ _=>h) ((.dead,.dead,.dead,.dead,.dead),0) ?_ ?_ ?_ rfl rfl rfl
 ·intro i hil hok x ih
  have hw:=a0c i (by omega)
  have hcl:=(hd _ (List.getElem_mem hil)).clock
  have hE:∀o∈l[i].clock,need (decide (o.name∈vis)) 6=0:=a0J.1 hok
  simp[hil]
  refine a02 l[i].clock (λo:On=>need (decide (o.name∈vis)) 6) (λj (y:PV×Nat)=>[(10,.int .i64 j),(4,y.1)]) (λ_ y=>y.2) (λ_ _=>h) (x.1.2.1,x.2+1) ?_ ?_ ?_ rfl rfl rfl
  ·intro j hj hok2 y ih2
   have hw':=a0c j (by omega)
   rw[a1Q (by decide),decide_eq_true_eq] at hok2
   simp[hj,hs,hsx,hok2,hT,hw',hvc,hvt]
   simpa using ih2 (_,_)
  ·intro j hj hok2 _ y
   exact absurd (hE _ (List.getElem_mem hj)) hok2
  ·intro _ y
   simp[hw]
   simpa using ih ((_,_,_,_,_),_)
 ·intro i hil hok hf x
  have hcl:=(hd _ (List.getElem_mem hil)).clock
  rw[hf]
  simp[hil]
  refine a02 l[i].clock (λo:On=>need (decide (o.name∈vis)) 6) (λj (y:PV×Nat)=>[(10,.int .i64 j),(4,y.1)]) (λ_ y=>y.2) (λ_ _=>h) (x.1.2.1,x.2+1) ?_ ?_ ?_ rfl rfl rfl
  ·intro j hj hok2 y ih2
   have hw':=a0c j (by omega)
   rw[a1Q (by decide),decide_eq_true_eq] at hok2
   simp[hj,hs,hsx,hok2,hT,hw',hvc,hvt]
   simpa using ih2 (_,_)
  ·intro j hj hok2 hff y
   have hno:¬l[i].clock[j].name∈vis:=by
    intro hm; exact hok2 (by simp[need,hm])
   rw[hff]
   simp[hj,hs,hsx,hno,hF,need,a0z,hvc,hvt]
  ·intro h0 y
   exact absurd h0 hok
 ·intro h0 x
  rw[h0]
  simp[a1U,a0z]
end
section
variable {L:Nat→Option PFunc} (hL:∀k f,LS k=some f→L k=some f) (en:List Enum) (ns:List Node) (a b:Int) (ents:a78)
include hL
theorem c3L (k:Nat) (hn:NodesIn ents ns k) (s:Place) (hsb:s.before=ns.take k) (e:Expr) (outs:Nat) (h:List PObj) (h2:h[2]? = some (a0s ents)) (h3:h[3]? = some (a0f en ns a b)):
  a3b L 124 [.ptr 3 0,.int .i64 k,a0u e,.int .i64 outs] h=some (a0z 1 a b (b3E s e outs),h):=by
 have hT:=λz=>a4x hL en ns a b h h3 z
 have hF:=λz=>a4y hL en ns a b h h3 z
 obtain⟨z,hz,hz2⟩:=a9b (1,e.name) ents 0
 simp only[b2Y] at hz
 have hc:=hn e.name
 refine a2b (hL 124 _ rfl) rfl ?_
 unfold b3E
 rw[hsb]
 cases hcal:callee (ns.take k) e.name with
 | none =>
   rw[hcal] at hc
   simp only at hc
   cases z with
   | none =>
     simp[a1s,h3,h2,a0f,a0s,a5D,hz,hF,a0z]
   | some z =>
     obtain⟨j,v⟩:=z
     obtain⟨u,hu,rfl⟩:∃u,a4K (1,e.name) ents=some u∧v = .int .i64 u:=by
      cases he:a4K (1,e.name) ents with
      | none=>rw[he] at hz2; simp at hz2
      | some u=>rw[he] at hz2; exact⟨u,rfl,by simpa using hz2⟩
     have hnl:=hc u hu
     simp[a1s,h3,h2,a0f,a0s,a5D,hz,hF,hnl,a0z]
 | some m =>
   rw[hcal] at hc
   obtain⟨i,hi,hik,him⟩:=hc
   cases z with
   | none=>rw[hi] at hz2; simp at hz2
   | some z =>
     obtain⟨j,v⟩:=z
     rw[hi] at hz2
     have hv:v = .int .i64 i:=by simpa using hz2
     subst hv
     have hik':(i:Int)<k:=by omega
     obtain⟨hil,hie⟩:=List.getElem?_eq_some_iff.1 him
     have hnl:(ns.map a1B)[i]? = some (a1B m):=by simp[him]
     by_cases c1:(e.args.length:Int)=wrap (m.ins.length+e.v)
     ·have c1':wrap (m.ins.length+e.v)=(e.args.length:Int):=c1.symm
      by_cases c2:m.outs.length=outs
      ·have c2':outs=m.outs.length:=c2.symm
       have c3:(outs:Int)=m.outs.length:=by omega
       have c3':(m.outs.length:Int)=outs:=by omega
       simp[a1s,h3,h2,a0f,a0s,a5D,hz,hT,hik,hik',hil,hie,him,tf c1,tf c1',tf c2,tf c3,tf c3',a0z,need]
      ·have c3:¬(outs:Int)=m.outs.length:=by omega
       have c3':¬(m.outs.length:Int)=outs:=by omega
       simp[a1s,h3,h2,a0f,a0s,a5D,hz,hT,hF,hik,hik',hil,hie,him,tf c1,tf c1',tf c2,tf c3,tf c3',a0z,need]
     ·have c1':¬wrap (m.ins.length+e.v)=(e.args.length:Int):=λh=>c1 h.symm
      simp[a1s,h3,h2,a0f,a0s,a5D,hz,hT,hF,hik,hik',hil,hie,him,tf c1,tf c1',a0z,need]
def a1p (h:List PObj) (k:Nat) (v:PV) (outs:Nat) (lp:Bool):List PObj:=h++[.cells [.ptr 3 0],.cells [.int .i64 k],.cells [v],.cells [.int .i64 outs],.loop lp]
omit hL in
theorem b1U (h:List PObj) (k:Nat) (v:PV) (outs:Nat) (lp:Bool) {n:Nat} (hn:n<h.length):(a1p h k v outs lp)[n]? = h[n]? := by unfold a1p; rw[List.getElem?_append_left hn]
theorem b66 (k:Nat) (hn:NodesIn ents ns k) (s:Place) (hsb:s.before=ns.take k) (x:Expr) (outs:Nat) (h:List PObj) (h2:h[2]? = some (a0s ents)) (h3:h[3]? = some (a0f en ns a b)) (q:Nat) (hq:q≤h.length) (v:PV) (fs:List Fr) (hv:Holds h q v fs) (hvis:∀x,a6u fs x=true↔x∈s.vis):
  a3b L 190 [.ptr (h.length+4) 0,.ptr h.length 0,.ptr (h.length+1) 0,.ptr (h.length+2) 0,.ptr (h.length+3) 0,a0u x] (a1p h k v outs true)=some (if b30 s outs x=0 then(.val (.bool true),a1p h k v 1 true) else(.boom (a7C 1 a b (b30 s outs x)),a1p h k v outs false)):=by
 have hl3:3<h.length:=(List.getElem?_eq_some_iff.1 h3).1
 have g2:(a1p h k v outs false)[2]? = some (a0s ents):=by rw[b1U _ _ _ _ _ (by omega)]; exact h2
 have g3:(a1p h k v outs false)[3]? = some (a0f en ns a b):=by rw[b1U _ _ _ _ _ hl3]; exact h3
 have hT:=λz=>a4x hL en ns a b (a1p h k v outs false) g3 z
 have hF:=λz=>a4y hL en ns a b (a1p h k v outs false) g3 z
 have hs:=b3w hL x.name _ (a1p h k v outs false) q _ (hv.keep λn hn=>b1U _ _ _ _ _ (by omega))
 have hc:=c3L hL en ns a b ents k hn s hsb x outs (a1p h k v outs false) g2 g3
 have hvc:=hv.cp
 have hvt:=hv.tkv
 have hvd:=hv.dem
 have hsx:∀x,a6u fs x=decide (x∈s.vis):=λx=>by rw[Bool.eq_iff_iff,decide_eq_true_eq]; exact hvis x
 rw[hsx] at hs
 simp only[a1p] at hT hF hs hc ⊢
 refine a6d (as:=[.ptr h.length 0,.ptr (h.length+1) 0,.ptr (h.length+2) 0,.ptr (h.length+3) 0,a0u x]) (hL 190 _ rfl) rfl rfl (by simp) ?_
 unfold b30
 by_cases hk:x.kind=2∨x.kind=8∨x.kind=9
 ·rw[if_pos hk]
  by_cases hm:x.name∈s.vis
  ·simp[hm] at hs
   rcases hk with k2|k2|k2<;>simp[a0D,k2,a0a,a0y,hvc,hvt,hs,hT,hm]
  ·simp[hm] at hs
   rcases hk with k2|k2|k2<;>simp[a0D,k2,a0a,a0y,hvc,hvt,hs,hF,hm,need]
 ·rw[if_neg hk]
  simp only[not_or] at hk
  obtain⟨k2,k8,k9⟩:=hk
  by_cases k10:x.kind=10
  ·rw[if_pos k10]
   by_cases hz:b3E s x outs=0
   ·rw[hz] at hc
    simp[a0z] at hc
    simp[a0D,tf k10,tf k2,tf k8,tf k9,a0a,a0y,hvc,hvt,hc,hz,a0z]
   ·simp[a0z,hz] at hc
    simp[a0D,tf k10,tf k2,tf k8,tf k9,a0a,a0y,hvc,hvt,hc,hz,a0z]
  ·rw[if_neg k10]
   simp[a0D,tf k2,tf k8,tf k9,tf k10,a0a,a0y,hvc,hvt]
end
section
variable {L:Nat→Option PFunc} (hL:∀k f,LS k=some f→L k=some f) (en:List Enum) (ns:List Node) (a b:Int) (ents:a78)
include hL
theorem b6g (k:Nat) (hn:NodesIn ents ns k) (s:Place) (hsb:s.before=ns.take k) (e:Expr) (he:EW e) (outs:Nat) (h:List PObj) (h2:h[2]? = some (a0s ents)) (h3:h[3]? = some (a0f en ns a b)) (q:Nat) (hq:q≤h.length) (v:PV) (fs:List Fr) (hv:Holds h q v fs) (hvis:∀x,a6u fs x=true↔x∈s.vis):
  ∃h',a3b L 99 [.ptr 3 0,.int .i64 k,v,a0u e,.int .i64 outs] h=some (a0z 1 a b (a2r s e outs),h')∧Kp h.length h h':=by
 suffices H:∃res,a3b L 99 [.ptr 3 0,.int .i64 k,v,a0u e,.int .i64 outs] h=some res∧∃h',res=(a0z 1 a b (a2r s e outs),h')∧Kp h.length h h' by
  obtain⟨res,e1,h',e2,e3⟩:=H
  exact⟨h',by rw[e1,e2],e3⟩
 have hvc:=hv.cp
 have hvt:=hv.tkv
 have hvd:=hv.dem
 have hvl:v.cells=[v]:=by rcases hv.ptr with rfl|⟨n,rfl⟩<;>rfl
 obtain⟨h0,hh0⟩:∃h0,h0=h++[.cells [.ptr 3 0],.cells [.int .i64 k],.cells [v],.cells [.int .i64 outs]]:=⟨_,rfl⟩
 have hl0:h0.length=h.length+4:=by rw[hh0]; simp
 have hE:=b1S hL e h0
 have hR1:=λx=>b66 hL en ns a b ents k hn s hsb x outs h h2 h3 q hq v fs hv hvis
 have hR2:=λx=>b66 hL en ns a b ents k hn s hsb x 1 h h2 h3 q hq v fs hv hvis
 have hl:h0++[.loop true]=a1p h k v outs true:=by rw[hh0]; simp[a1p]
 obtain⟨y,hy1,hy2,hy⟩:∃y:Expr→List PObj→Option (Out×List PObj),(∀x,y x (a1p h k v outs true)=some (if b30 s outs x=0 then(.val (.bool true),a1p h k v 1 true) else(.boom (a7C 1 a b (b30 s outs x)),a1p h k v outs false)))∧(∀x,y x (a1p h k v 1 true)=some (if b30 s 1 x=0 then(.val (.bool true),a1p h k v 1 true) else(.boom (a7C 1 a b (b30 s 1 x)),a1p h k v 1 false))) ∧
   ∀x h' r,y x h'=some r→∃o:Nat,h'=a1p h k v o true∧(o=outs∨o=1)∧r=(if b30 s o x=0 then(.val (.bool true),a1p h k v 1 true) else(.boom (a7C 1 a b (b30 s o x)),a1p h k v o false)):=by
  classical
  refine⟨λx h'=>if h'=a1p h k v outs true then some (if b30 s outs x=0 then(.val (.bool true),a1p h k v 1 true) else(.boom (a7C 1 a b (b30 s outs x)),a1p h k v outs false)) else if h'=a1p h k v 1 true then some (if b30 s 1 x=0 then(.val (.bool true),a1p h k v 1 true) else(.boom (a7C 1 a b (b30 s 1 x)),a1p h k v 1 false)) else none,λx=>if_pos rfl,λx =>?_,λx h' r hr =>?_⟩
  ·simp only
   by_cases ho:outs=1
   ·subst ho; simp
   ·have:¬a1p h k v 1 true=a1p h k v outs true:=by
     unfold a1p
     rw[List.append_cancel_left_eq]
     simp; omega
    rw[if_neg this]; simp
  ·simp only at hr
   split at hr
   ·rename_i e1; exact⟨outs,e1,.inl rfl,(Option.some.inj hr).symm⟩
   ·split at hr
    ·rename_i e1; exact⟨1,e1,.inr rfl,(Option.some.inj hr).symm⟩
    ·simp at hr
 refine a4w (hL 99 _ rfl) rfl ?_
 have c1:∀n o,(PV.ptr n o).cells=[.ptr n o]:=λ_ _=>rfl
 have c2:∀x,(PV.int .i64 x).cells=[.int .i64 x]:=λ_=>rfl
 have hE':a0o L 81 [a0u e] (h++[.cells [.ptr 3 0],.cells [.int .i64 k],.cells [v],.cells [.int .i64 outs]])=some (.func 114 [] [.cptr (a0u e).cells],h++[.cells [.ptr 3 0],.cells [.int .i64 k],.cells [v],.cells [.int .i64 outs]]):=by rw[← hh0]; exact hE
 simp[a1h,hvl,hvd,hvc,hvt,c1,c2,hE']
 rw[← hh0]
 have hrun:a1I y e.list (h0++[.loop true])=some (if a2r s e outs=0 then(.val (.bool true),a1p h k v 1 true) else(.boom (a7C 1 a b (a2r s e outs)),a1p h k v (if b30 s outs e=0 then 1 else outs) false)):=by
  rw[hl,Expr.list_eq]
  simp only[a1I,hy1]
  unfold a2r
  by_cases h1:b30 s outs e=0
  ·simp only[h1,if_true,a0x]
   exact a32 (f:=b30 s 1) (R:=λz=>(.boom (a7C 1 a b z),a1p h k v 1 false)) _ (λx _ hx=>by rw[hy2,if_pos hx]) (λx _ hx=>by rw[hy2,if_neg hx]) (λz h'=>by simp)
  ·simp[h1,a0x]
 refine a88 hL e he (cs:=[.ptr h.length 0,.ptr (h.length+1) 0,.ptr (h.length+2) 0,.ptr (h.length+3) 0]) (by simp) (by simp) (by simp[cp]) y ?_ ?_ _ hrun ?_
 ·intro x _ h' r hr
  obtain⟨o,rfl,ho,rfl⟩:=hy x h' r hr
  rw[hl0]
  rcases ho with rfl|rfl
  ·exact hR1 x
  ·exact hR2 x
 ·intro x h' r hr
  obtain⟨o,rfl,ho,rfl⟩:=hy x h' r hr
  split
  ·exact .inl ⟨_,_,rfl⟩
  ·exact .inr ⟨_,_,rfl⟩
 ·by_cases hz:a2r s e outs=0
  ·rw[if_pos hz,hl0]
   simp[a9C,a1p,a1h,hz,a0z]
   exact Kp.app (Nat.le_refl _)
  ·rw[if_neg hz,hl0]
   simp[a9C,a1p,a1h,hz,a0z]
   exact Kp.app (Nat.le_refl _)
theorem b67 (k:Nat) (hn:NodesIn ents ns k) (s:Place) (hsb:s.before=ns.take k) (l:List Trn) (hl:l.length≤1500) (hw:∀x∈l,XW x.cond) (r:Bool) (h:List PObj) (h2:h[2]? = some (a0s ents)) (h3:h[3]? = some (a0f en ns a b)) (q:Nat) (hq:q≤h.length) (v:PV) (fs:List Fr) (hv:Holds h q v fs) (hvis:∀x,a6u fs x=true↔x∈s.vis):
  ∃h',a3b L 126 [.ptr 3 0,.int .i64 k,v,.list r (l.map a6W)] h=some (a0z 1 a b (a6s s l),h')∧Kp h.length h h':=by
 suffices H:∃res,a3b L 126 [.ptr 3 0,.int .i64 k,v,.list r (l.map a6W)] h=some res∧∃h',res=(a0z 1 a b (a6s s l),h')∧Kp h.length h h' by
  obtain⟨res,e1,h',e2,e3⟩:=H
  exact⟨h',by rw[e1,e2],e3⟩
 have hvc:=hv.cp
 have hvt:=hv.tkv
 have hvd:=hv.dem
 refine a4w (hL 126 _ rfl) rfl ?_
 simp[a1D,hvd]
 rw[a29]
 refine a0V l.length (λj st=>∃y4 g h',st=⟨[.ptr 3 0,.int .i64 k,v,.list false (l.map a6W),y4,.list false (l.map a6W),.int .i64 l.length,.int .i64 j],[],g,h'⟩∧Kp h.length h h'∧a6s s l=a6s s (l.drop j)) ?_ ?_ ⟨_,_,h,rfl,Kp.refl _ _,rfl⟩
 ·rintro j hj st ⟨y4,g,h',rfl,hkp,hdn⟩ ih
  have hwr:=a0c j (by omega)
  have hl3:3<h.length:=(List.getElem?_eq_some_iff.1 h3).1
  have h2':h'[2]? = some (a0s ents):=(hkp.2 2 (by omega)).trans h2
  have h3':h'[3]? = some (a0f en ns a b):=(hkp.2 3 hl3).trans h3
  obtain⟨h'',hx,hkx⟩:=b6g hL en ns a b ents k hn s hsb l[j].cond (hw _ (List.getElem_mem hj)).ew 1 h' h2' h3' q (Nat.le_trans hq hkp.1) v fs (hv.keep λn hn=>hkp.2 n (by omega)) hvis
  have hkx':Kp h.length h h'':=hkp.trans (hkx.le hkp.1)
  rw[List.drop_eq_getElem_cons hj] at hdn
  have hd2:a6s s (l[j]::l.drop (j+1))=if a2r s l[j].cond 1=0 then a6s s (l.drop (j+1)) else a2r s l[j].cond 1:=rfl
  rw[hd2] at hdn
  by_cases hz:a2r s l[j].cond 1=0
  ·rw[if_pos hz] at hdn
   rw[hz] at hx
   simp[a0z] at hx
   simp[hj,hvc,hvt,hx,hwr]
   exact ih _ ⟨_,_,_,rfl,hkx',hdn⟩
  ·rw[if_neg hz] at hdn
   simp[a0z,hz] at hx
   simp[hj,hvc,hvt,hx]
   exact⟨h'',by simp[hdn,a0z,hz],hkx'⟩
 ·rintro st ⟨y4,g,h',rfl,hkp,hdn⟩
  rw[List.drop_eq_nil_of_le (Nat.le_refl _)] at hdn
  have:a6s s l=0:=hdn
  simp[a1D]
  exact⟨h',by simp[this,a0z],hkp⟩
end
section
variable {h h':List PObj} {b b' n o d:Nat} {i dv up:PV} {f:Fr} {fs:List Fr}
theorem Fr.same {f:Fr} (h:f.D=f.df):({ f with D:=f.df,df:=f.df }:Fr)=f:=by cases f; simp at h ⊢; exact h.symm
theorem TopAt.upTo (t:TopAt h b b' n o d i dv up f fs) {c:Nat} (hc:b≤c):TopAt h c b' n o d i dv up f fs where
 ln:=t.ln
 lo:=t.lo
 ld:=t.ld
 un:=Nat.lt_of_lt_of_le t.un hc
 uo:=Nat.lt_of_lt_of_le t.uo hc
 ud:=Nat.lt_of_lt_of_le t.ud hc
 no:=t.no
 nd:=t.nd
 od:=t.od
 four:=t.four
 hn:=t.hn
 ho:=t.ho
 hd:=t.hd
 hi:=by
  rcases t.hi with h|⟨m,e1,e2,e3,e4,e5,e6,e7⟩
  ·exact .inl h
  ·exact .inr ⟨m,e1,e2,Nat.lt_of_lt_of_le e3 hc,e4,e5,e6,e7⟩
 row:=by
  rcases t.row with h|⟨k,e1,e2,e3,e4⟩
  ·exact .inl h
  ·exact .inr ⟨k,e1,Nat.lt_of_lt_of_le e2 hc,e3,e4⟩
 rne:=t.rne
 hup:=t.hup
theorem TopAt.push (t:TopAt h h.length b' n o d i dv up f fs) (df:List Str) (h1:List PObj) (h1l:h1.length=h.length) (hk:∀k,k<b'→h1[k]? = h[k]?) (hk2:∀k,b'≤k→(∀s a len,dv≠.rowp k s a len)→k≠n→h1[k]? = h[k]?):
  TopAt ((h1++[PObj.cells (df.map PV.str)]).set n (.cells [up,.map (some o),.map (some d),i,.rowp h.length 1 false df.length])) (h.length+1) b' n o d i (.rowp h.length 1 false df.length) up { f with df:=df } fs:=by
 have hun:=t.un
 have hln:=t.ln
 have key:∀k,k<h.length→k≠n→(h1[k]? = h[k]?)→((h1++[PObj.cells (df.map PV.str)]).set n (.cells [up,.map (some o),.map (some d),i,.rowp h.length 1 false df.length]))[k]? = h[k]? := by
  intro k hkl hkn hh
  rw[List.getElem?_set_ne (Ne.symm hkn),List.getElem?_append_left (by omega)]
  exact hh
 refine⟨t.ln,t.lo,t.ld,by omega,by have:=t.uo; omega,by have:=t.ud; omega,t.no,t.nd,t.od,t.four,?_,?_,?_,?_,?_,?_,?_⟩
 ·rw[List.getElem?_set_self (by simp; omega)]
 ·rw[key o t.uo (Ne.symm t.no) (hk2 o t.lo (λs a len e=>(t.rne _ _ _ _ e).2.1 rfl) (Ne.symm t.no))]
  exact t.ho
 ·rw[key d t.ud (Ne.symm t.nd) (hk2 d t.ld (λs a len e=>(t.rne _ _ _ _ e).2.2.1 rfl) (Ne.symm t.nd))]
  exact t.hd
 ·rcases t.hi with h|⟨m,e1,e2,e3,e4,e5,e6,e7⟩
  ·exact .inl h
  ·refine .inr ⟨m,e1,e2,by omega,e4,e5,e6,?_⟩
   rw[key m e3 e4 (hk2 m e2 (λs a len e=>(t.rne _ _ _ _ e).2.2.2 e1) e4)]
   exact e7
 ·refine .inr ⟨h.length,by omega,by omega,rfl,?_⟩
  rw[List.getElem?_set_ne (by omega),← h1l]
  simp
 ·intro k s a len e
  simp only[PV.rowp.injEq] at e
  obtain⟨rfl,_⟩:=e
  have:=t.uo
  have:=t.ud
  refine⟨by omega,by omega,by omega,?_⟩
  rcases t.hi with⟨h1,_⟩|⟨m,e1,e2,e3,_⟩
  ·rw[h1]; simp
  ·rw[e1]; simp; omega
 ·refine t.hup.keep λk hk' =>?_
  rw[key k (by omega) (by omega) (hk k hk')]
end
section
variable {L:Nat→Option PFunc} (hL:∀k f,LS k=some f→L k=some f) (en:List Enum) (ns:List Node) (a b:Int) (ents:a78)
include hL
theorem c3M (k:Nat) (s:Place) (l:List Str) (hll:l.length≤1500) (h:List PObj) (h2:h[2]? = some (a0s ents)) (h3:h[3]? = some (a0f en ns a b)) (q' n o d:Nat) (i dv up:PV) (f:Fr) (fs:List Fr) (t:TopAt h h.length q' n o d i dv up f fs) (hvis:∀x,a6u (f::fs) x=true↔x∈s.vis)
  (d0:List Str) (hD:f.D=f.df) (hin:∀x,(x∈f.I∨b2l fs x=true)↔(x∈s.inputs∨x∈d0)) (hdl:f.df.length+l.length≤1000000) (V4 V5 V6:PV) {Q:PExit→St→Prop}
  (ok:(a9Z s l (d0++f.df)).1=0→∀h' dv' df' y5 y8,Kp q' h h'→(a9Z s l (d0++f.df)).2=d0++df'→TopAt h' h'.length q' n o d i dv' up { f with D:=df',df:=df' } fs→Q (.exit 0) ⟨[.ptr 3 0,.int .i64 k,.ptr n 0,V4,V5,y5,.list false (l.map PV.str),.int .i64 l.length,y8],[],1,h'⟩)
  (no:(a9Z s l (d0++f.df)).1≠0→∀h' y5 y8,Kp q' h h'→Q (.boom (a7C 1 a b (a9Z s l (d0++f.df)).1)) ⟨[.ptr 3 0,.int .i64 k,.ptr n 0,V4,V5,y5,.list false (l.map PV.str),.int .i64 l.length,y8],[],1,h'⟩):
  wpL L a2l ⟨[.ptr 3 0,.int .i64 k,.ptr n 0,V4,V5,V6,.list false (l.map PV.str),.int .i64 l.length,.int .i64 0],[],1,h⟩ Q:=by
 rw[a2l]
 refine a0V l.length (λj st=>∃y5 h' dv' df',st=⟨[.ptr 3 0,.int .i64 k,.ptr n 0,V4,V5,y5,.list false (l.map PV.str),.int .i64 l.length,.int .i64 j],[],1,h'⟩∧Kp q' h h'∧TopAt h' h'.length q' n o d i dv' up { f with D:=df',df:=df' } fs∧a9Z s l (d0++f.df)=a9Z s (l.drop j) (d0++df')∧df'.length=f.df.length+j) ?_ ?_ ⟨_,h,dv,f.df,rfl,Kp.refl _ _,by rw[Fr.same hD]; exact t,rfl,rfl⟩
 ·rintro j hj st ⟨y5,h',dv',df',rfl,hkp,ht,hdn,hlen⟩ ih
  have hw:=a0c j (by omega)
  have h2':h'[2]? = some (a0s ents):=(hkp.2 2 (by have:=ht.four; omega)).trans h2
  have h3':h'[3]? = some (a0f en ns a b):=(hkp.2 3 (by have:=ht.four; omega)).trans h3
  have hT:=λz=>a4x hL en ns a b h' h3' z
  have hF:=λz=>a4y hL en ns a b h' h3' z
  have hs:=b3w hL l[j] _ h' _ _ ht.holds
  have hdf:=b73 hL l[j] _ h' _ _ ht.holds
  have hsv:a6u ({ f with D:=df',df:=df' }::fs) l[j]=decide (l[j]∈s.vis):=by
   rw[Bool.eq_iff_iff,decide_eq_true_eq,← hvis]; rfl
  have hdd:b2l ({ f with D:=df',df:=df' }::fs) l[j]=decide (l[j]∈s.inputs∨l[j]∈d0++df'):=by
   rw[Bool.eq_iff_iff,decide_eq_true_eq]
   have:=hin l[j]
   simp only[b2l,List.any_cons,Bool.or_eq_true,decide_eq_true_eq,List.mem_append] at this ⊢
   constructor
   ·rintro((h1|h1)|h1)
    ·exact .inr (.inr h1)
    ·rcases this.1 (.inl h1) with h2|h2
     ·exact .inl h2
     ·exact .inr (.inl h2)
    ·rcases this.1 (.inr h1) with h2|h2
     ·exact .inl h2
     ·exact .inr (.inl h2)
   ·rintro(h1|h1|h1)
    ·rcases this.2 (.inl h1) with h2|h2
     ·exact .inl (.inr h2)
     ·exact .inr h2
    ·rcases this.2 (.inr h1) with h2|h2
     ·exact .inl (.inr h2)
     ·exact .inr h2
    ·exact .inl (.inl h1)
  rw[hsv] at hs
  rw[hdd] at hdf
  have hn:=ht.hn
  have hd:=ht.hd
  rw[List.drop_eq_getElem_cons hj] at hdn
  simp only[a9Z] at hdn
  by_cases hv:l[j]∈s.vis
  ·rw[if_neg (not_not_intro hv)] at hdn
   by_cases hdx:l[j]∈s.inputs∨l[j]∈d0++df'
   ·rw[if_pos hdx] at hdn
    rw[decide_eq_true hdx] at hdf
    rw[decide_eq_true hv] at hs
    simp[hj,hs,hdf,hT,hF]
    have:=no (by rw[hdn]; simp) h' (.str l[j]) (.int .i64 j) hkp
    rw[hdn] at this
    exact this
   ·rw[if_neg hdx] at hdn
    rw[decide_eq_false hdx] at hdf
    rw[decide_eq_true hv] at hs
    obtain⟨r',hr,_,hr3⟩:=a5A l[j] df'
    have hput:b72 df' l[j]=df'++[l[j]]:=by
     unfold b72; rw[if_neg]; intro hm; exact hdx (.inr (List.mem_append_right _ hm))
    rw[hput] at hr3
    have ht4:=ht.setD (df'++[l[j]])
    have hlen4:(h'.set d (PObj.map (bmE (df'++[l[j]])))).length=h'.length:=by simp
    have hkp4:Kp q' h (h'.set d (PObj.map (bmE (df'++[l[j]])))):=hkp.trans (Kp.set ht.ld)
    obtain⟨h4,e4⟩:∃h4,h'.set d (PObj.map (bmE (df'++[l[j]])))=h4:=⟨_,rfl⟩
    rw[e4] at ht4 hlen4 hkp4
    rw[← hlen4] at ht4
    have n4:=ht4.hn
    have hun:=ht4.un
    have hln:=ht4.ln
    rcases ht4.row with⟨rfl,hdf0⟩|⟨kr,hk1,hk2,rfl,hk3⟩
    ·simp only at hdf0
     subst hdf0
     obtain⟨h5,e5⟩:∃h5,h4.set n (.cells [up,.map (some o),.map (some d),i,.list false []])=h5:=⟨_,rfl⟩
     have hl5:h5.length=h4.length:=by rw[← e5]; simp
     have n5:(h5++[PObj.cells [.str l[j]]])[n]? = some (.cells [up,.map (some o),.map (some d),i,.list false []]):=by
      rw[List.getElem?_append_left (by omega),← e5,List.getElem?_set_self hun]
     have htp:=ht4.push [l[j]] h5 hl5 (λc hc=>by rw[← e5,List.getElem?_set_ne (by omega)]) (λc _ _ hcn=>by rw[← e5,List.getElem?_set_ne (Ne.symm hcn)])
     simp only[List.map_cons,List.map_nil,List.length_cons,List.length_nil] at htp
     simp only[List.nil_append] at e4 hr3
     simp[hj,hs,hdf,hT,hF,hn,hd,hr,hr3,hw,a5D,e4,n4,e5,n5,b2u,a0W,a0y]
     rw[hl5]
     refine ih _ ⟨_,_,.rowp h4.length 1 false 1,[l[j]],rfl,?_,?_,?_,?_⟩
     ·refine Kp.trans hkp4 ⟨by simp[hl5],λc hc =>?_⟩
      rw[List.getElem?_set_ne (by omega),List.getElem?_append_left (by have:=ht4.four; omega),← e5,List.getElem?_set_ne (by omega)]
     ·have:((h5++[PObj.cells [.str l[j]]]).set n (.cells [up,.map (some o),.map (some d),i,.rowp h4.length 1 false 1])).length=h4.length+1:=by simp[hl5]
      rw[this]
      exact htp
     ·rw[hdn]; simp
     ·simp at hlen ⊢; omega
    ·obtain⟨h5,e5⟩:∃h5,h4.set kr .gone=h5:=⟨_,rfl⟩
     have hl5:h5.length=h4.length:=by rw[← e5]; simp
     have hrn:=(ht4.rne _ _ _ _ rfl).1
     have n5:(h5++[PObj.cells (df'.map PV.str++[.str l[j]])])[n]? = some (.cells [up,.map (some o),.map (some d),i,.rowp kr 1 false df'.length]):=by
      rw[List.getElem?_append_left (by omega),← e5,List.getElem?_set_ne hrn]; exact n4
     have htp:=ht4.push (df'++[l[j]]) h5 hl5 (λc hc=>by rw[← e5,List.getElem?_set_ne (by omega)]) (λc hc hno hcn=>by
      have:kr≠c:=by
       intro hkc
       exact absurd rfl (hno 1 false df'.length |> λh=>by subst hkc; exact h)
      rw[← e5,List.getElem?_set_ne this])
     simp only[List.map_append,List.map_cons,List.map_nil,List.length_append,List.length_cons,List.length_nil] at htp
     simp only at hk3
     have hb1:df'.length≤2147483647:=by omega
     have hb2:(df'.map PV.str).take df'.length=df'.map PV.str:=List.take_of_length_le (by simp)
     have hb3:(dem∘PV.str)=PV.str:=rfl
     have hb4:List.map PV.str (df'.take df'.length)=List.map PV.str df':=by rw[List.take_length]
     simp[hj,hs,hdf,hT,hF,hn,hd,hr,hr3,hw,a5D,e4,n4,b2u,hk3,hb1,hb2,hb3,hb4,a0W,a0y,e5,n5]
     refine ih _ ⟨_,_,.rowp h4.length 1 false (df'.length+1),df'++[l[j]],rfl,?_,?_,?_,?_⟩
     ·refine Kp.trans hkp4 ⟨by simp[hl5],λc hc =>?_⟩
      rw[List.getElem?_set_ne (by omega),List.getElem?_append_left (by have:=ht4.four; omega),← e5,List.getElem?_set_ne (by omega)]
     ·have:((h5++[PObj.cells (df'.map PV.str++[.str l[j]])]).set n (.cells [up,.map (some o),.map (some d),i,.rowp h4.length 1 false (df'.length+1)])).length=h4.length+1:=by simp[hl5]
      rw[this]
      exact htp
     ·rw[hdn]; simp
     ·simp at hlen ⊢; omega
  ·rw[if_pos hv] at hdn
   rw[decide_eq_false hv] at hs
   simp[hj,hs,hF]
   have:=no (by rw[hdn]; simp) h' (.str l[j]) (.int .i64 j) hkp
   rw[hdn] at this
   exact this
 ·rintro st ⟨y5,h',dv',df',rfl,hkp,ht,hdn,hlen⟩
  rw[List.drop_eq_nil_of_le (Nat.le_refl _)] at hdn
  simp
  exact ok (by rw[hdn]; rfl) h' dv' df' y5 _ hkp (by rw[hdn]; rfl) ht
theorem c19 (k:Nat) (hnd:NodesIn ents ns k) (s:Place) (hsb:s.before=ns.take k) (x:Eqn) (hx:QW x) (h:List PObj) (h2:h[2]? = some (a0s ents)) (h3:h[3]? = some (a0f en ns a b)) (q' n o d:Nat) (i dv up:PV) (f:Fr) (fs:List Fr) (t:TopAt h h.length q' n o d i dv up f fs) (hvis:∀x,a6u (f::fs) x=true↔x∈s.vis)
  (d0:List Str) (hD:f.D=f.df) (hin:∀x,(x∈f.I∨b2l fs x=true)↔(x∈s.inputs∨x∈d0)) (hdl:f.df.length+x.left.length≤1000000):
  ∃h',a3b L 61 [.ptr 3 0,.int .i64 k,.ptr n 0,a5E x] h=some (a0z 1 a b (b11 s x (d0++f.df)).1,h')∧Kp q' h h'∧((b11 s x (d0++f.df)).1=0→∃dv' df',(b11 s x (d0++f.df)).2=d0++df'∧TopAt h' h'.length q' n o d i dv' up { f with D:=df',df:=df' } fs):=by
 suffices H:∃res,a3b L 61 [.ptr 3 0,.int .i64 k,.ptr n 0,a5E x] h=some res∧∃h',res=(a0z 1 a b (b11 s x (d0++f.df)).1,h')∧Kp q' h h'∧((b11 s x (d0++f.df)).1=0→∃dv' df',(b11 s x (d0++f.df)).2=d0++df'∧TopAt h' h'.length q' n o d i dv' up { f with D:=df',df:=df' } fs) by
  obtain⟨res,e1,h',e2,e3⟩:=H
  exact⟨h',by rw[e1,e2],e3⟩
 refine a4w (hL 61 _ rfl) rfl ?_
 simp[a06]
 refine c3M hL en ns a b ents k s x.left hx.left h h2 h3 q' n o d i dv up f fs t hvis d0 hD hin hdl _ _ _ ?_ ?_
 ·intro hz h' dv' df' y5 y8 hkp hdf ht
  have h2':h'[2]? = some (a0s ents):=(hkp.2 2 (by have:=ht.four; omega)).trans h2
  have h3':h'[3]? = some (a0f en ns a b):=(hkp.2 3 (by have:=ht.four; omega)).trans h3
  obtain⟨h'',hex,hkx⟩:=b6g hL en ns a b ents k hnd s hsb x.right hx.right.ew x.left.length h' h2' h3' h'.length (Nat.le_refl _) _ _ ht.holds hvis
  have he:b11 s x (d0++f.df)=(a2r s x.right x.left.length,d0++df'):=by
   unfold b11 a4L
   rw[if_pos hz,hdf]
  have hqn:q'≤h'.length:=Nat.le_trans ht.ln (Nat.le_of_lt ht.un)
  by_cases hz2:a2r s x.right x.left.length=0
  ·rw[hz2] at hex
   simp[a0z] at hex
   simp[hex,a06]
   refine⟨h'',by rw[he]; simp[hz2,a0z],hkp.trans (hkx.le hqn),λ_=>⟨dv',df',by rw[he],(ht.keep hkx.2).upTo hkx.1⟩⟩
  ·simp[a0z,hz2] at hex
   simp[hex,a06]
   refine⟨h'',by rw[he]; simp[hz2,a0z],hkp.trans (hkx.le hqn),λh0 =>?_⟩
   rw[he] at h0
   exact absurd h0 hz2
 ·intro hz h' y5 y8 hkp
  have he:b11 s x (d0++f.df)=((a9Z s x.left (d0++f.df)).1,[]):=by
   unfold b11
   exact a2i hz _
  simp[a06]
  refine⟨h',by rw[he]; simp[a0z,hz],hkp,λh0 =>?_⟩
  rw[he] at h0
  exact absurd h0 hz
end
def b8t {α:Type} (P:α→Bool) (l:List α):Int:=match l.findIdx? P with
 | none => -1
 | some i=>i
theorem b3x {α:Type} {P:α→Bool} {l:List α} {j:Nat} (hj:j<l.length) (hp:P l[j]=true) (hn:∀i (hi:i<l.length),i<j→P l[i]=false):b8t P l=j:=by
 have:l.findIdx? P=some j:=by
  rw[List.findIdx?_eq_some_iff_getElem]
  exact⟨hj,hp,λi hi=>by simpa using hn i (by omega) hi⟩
 simp[b8t,this]
theorem a9c {α:Type} {P:α→Bool} {l:List α} (hn:∀i (hi:i<l.length),P l[i]=false):b8t P l = -1:=by
 have:l.findIdx? P=none:=by
  rw[List.findIdx?_eq_none_iff]
  intro x hx
  obtain⟨i,hi,rfl⟩:=List.mem_iff_getElem.1 hx
  exact hn i hi
 simp[b8t,this]
theorem b3y {α:Type} (P:α→Bool) (l:List α):decide (0≤b8t P l)=l.any P:=by
 unfold b8t
 cases h:l.findIdx? P with
 | none =>
   rw[List.findIdx?_eq_none_iff] at h
   symm
   simp only[show ¬(0:Int)≤-1 by decide,decide_false]
   rw[List.any_eq_false]
   intro x hx; simp[h x hx]
 | some i =>
   have:=List.findIdx?_eq_some_iff_getElem.1 h
   obtain⟨h1,h2,_⟩:=this
   simp only[show (0:Int)≤(i:Int) by omega,decide_true]
   symm
   rw[List.any_eq_true]
   exact⟨_,List.getElem_mem h1,h2⟩
def d0A (h:List PObj) (v:PV) (l:List Str):Prop:=(∃o,v = .list o (l.map PV.str))∨∃k,v = .rowp k 1 false l.length∧h[k]? = some (.cells (l.map PV.str))
section
variable {L:Nat→Option PFunc} (hL:∀k f,LS k=some f→L k=some f)
include hL
theorem b9p (l:List Str) (hl:l.length≤2000000000) (v:PV) (h:List PObj) (hv:d0A h v l) (k:Nat) (cs:List PV) (P:Str→Bool) (hcall:∀x∈l,a0o L k [.str x,.cptr cs] h=some (.bool (P x),h)):a0o L 151 [v,.func k [] [.cptr cs]] h=some (.int .i64 (b8t P l),h):=by
 refine a0i (hL 151 _ rfl) rfl ?_
 rcases hv with⟨o,rfl⟩|⟨n,rfl,hn⟩
 ·simp[a0L]
  rw[a1F]
  refine a0V l.length (λj st=>∃y3,st=⟨[.list false (l.map PV.str),.func k [] [.cptr cs],.int .i64 0,y3,.int .i64 l.length,.int .i64 j],[],0,h⟩∧∀i (hi:i<l.length),i<j→P l[i]=false) ?_ ?_ ⟨_,rfl,λi _ hi=>by omega⟩
  ·rintro j hj st ⟨y3,rfl,hn⟩ ih
   have hw:=a0c j (by omega)
   have hc:=hcall l[j] (List.getElem_mem hj)
   cases hp:P l[j] with
   | true =>
     rw[hp] at hc
     simp[hj,hc,hw,b3x hj hp hn]
   | false =>
     rw[hp] at hc
     simp[hj,hc,hw]
     refine ih _ ⟨_,rfl,λi hi hij =>?_⟩
     by_cases he:i=j
     ·subst he; exact hp
     ·exact hn i hi (by omega)
  ·rintro st ⟨y3,rfl,hn⟩
   simp[a0L,a9c (λi hi=>hn i hi hi)]
 ·simp[a0L]
  rw[a1F]
  refine a0V l.length (λj st=>∃y3,st=⟨[.rowp n 1 false l.length,.func k [] [.cptr cs],.int .i64 0,y3,.int .i64 l.length,.int .i64 j],[],0,h⟩∧∀i (hi:i<l.length),i<j→P l[i]=false) ?_ ?_ ⟨_,rfl,λi _ hi=>by omega⟩
  ·rintro j hj st ⟨y3,rfl,hnn⟩ ih
   have hw:=a0c j (by omega)
   have hc:=hcall l[j] (List.getElem_mem hj)
   cases hp:P l[j] with
   | true =>
     rw[hp] at hc
     simp[hj,hc,hw,hn,b3x hj hp hnn]
   | false =>
     rw[hp] at hc
     simp[hj,hc,hw,hn]
     refine ih _ ⟨_,rfl,λi hi hij =>?_⟩
     by_cases he:i=j
     ·subst he; exact hp
     ·exact hnn i hi (by omega)
  ·rintro st ⟨y3,rfl,hnn⟩
   simp[a0L,a9c (λi hi=>hnn i hi hi)]
theorem c3N (l:List Str) (hl:l.length≤2000000000) (o:Bool) (h:List PObj) (k:Nat) (cs:List PV) (P:Str→Bool) (hcall:∀x∈l,a0o L k [.str x,.cptr cs] h=some (.bool (P x),h)):a0o L 129 [.list o (l.map .str),.func k [] [.cptr cs]] h=some (.bool (l.any P),h):=by
 have hi:=b9p hL l hl _ h (.inl ⟨false,rfl⟩) k cs P hcall
 refine a0i (hL 129 _ rfl) rfl ?_
 simp[a1E,hi,← b3y]
theorem c3O (l:List Str) (hl:l.length≤2000000000) (o:Bool) (s:Str) (h:List PObj):a0o L 110 [.list o (l.map .str),.str s] h=some (.bool (decide (s∈l)),h):=by
 obtain⟨P,hP⟩:∃P:Str→Bool,∀x,P x=decide (x=s):=⟨_,λ_=>rfl⟩
 have hi:a0o L 139 [.list false (l.map .str),.str s] h=some (.int .i64 (b8t P l),h):=by
  refine a0i (hL 139 _ rfl) rfl ?_
  simp[a12]
  rw[a3H]
  refine a0V l.length (λj st=>∃y3,st=⟨[.list false (l.map PV.str),.str s,.int .i64 0,y3,.int .i64 l.length,.int .i64 j],[],0,h⟩∧∀i (hi:i<l.length),i<j→P l[i]=false) ?_ ?_ ⟨_,rfl,λi _ hi=>by omega⟩
  ·rintro j hj st ⟨y3,rfl,hn⟩ ih
   have hw:=a0c j (by omega)
   by_cases hp:l[j]=s
   ·have hp':s=l[j]:=hp.symm
    have hpp:P l[j]=true:=by rw[hP]; simpa using hp
    simp[hj,hw,tf hp,tf hp',b3x hj hpp hn]
   ·have hp':¬s=l[j]:=λe=>hp e.symm
    have hpp:P l[j]=false:=by rw[hP]; simpa using hp
    simp[hj,hw,tf hp,tf hp']
    refine ih _ ⟨_,rfl,λi hi hij =>?_⟩
    by_cases he:i=j
    ·subst he; exact hpp
    ·exact hn i hi (by omega)
  ·rintro st ⟨y3,rfl,hn⟩
   simp[a12,a9c (λi hi=>hn i hi hi)]
 have ha:decide (s∈l)=l.any P:=by
  rw[Bool.eq_iff_iff,decide_eq_true_eq,List.any_eq_true]
  constructor
  ·intro hm; exact⟨s,hm,by rw[hP]; simp⟩
  ·rintro⟨x,hm,hx⟩; rw[hP] at hx; simp at hx; subst hx; exact hm
 rw[ha]
 refine a0i (hL 110 _ rfl) rfl ?_
 simp[a2m,hi,← b3y]
theorem b68 (l m:List Str) (hl:l.length≤2000000000) (hm:m.length≤2000000000) (o1 o2:Bool) (h:List PObj):a0o L 103 [.list o1 (l.map .str),.list o2 (m.map .str)] h=some (.bool (decide (l.length=m.length)&&l.all λx=>decide (x∈m)),h):=by
 have hc:∀x∈l,a0o L 130 [.str x,.cptr [.list false (m.map PV.str)]] []=some (.bool (!decide (x∈m)),[]):=by
  intro x _
  have:=c3O hL m hm false x []
  refine a0i (hL 130 _ rfl) rfl ?_
  simp[a5v,this]
 have ha:=c3N hL l hl false [] 130 [.list false (m.map PV.str)] (λx => !decide (x∈m)) hc
 refine a0i (hL 103 _ rfl) rfl ?_
 have hall:(l.all λx=>decide (x∈m)) = !(l.any λx => !decide (x∈m)):=by simp[List.all_eq_not_any_not]
 rw[hall]
 by_cases hlen:l.length=m.length
 ·have hi:(l.length:Int)=m.length:=by omega
  simp[a45,tf hi,ha,tf hlen]
 ·have hi:¬(l.length:Int)=m.length:=by omega
  simp[a45,tf hi,tf hlen]
end
end PI.Sc
