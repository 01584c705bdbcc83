import Derived.Test.YtljbhgpanekomaaGreatDoorPiScSpec
import Derived.Test.YtljbhgpanekomaaGreatDoorPiScCode
import Derived.Test.YtljbhgpanekomaaGreatDoorPiWp
set_option maxRecDepth 100000
set_option linter.unusedSimpArgs false
set_option linter.unusedVariables false
set_option linter.unusedSectionVars false
namespace PI.Sc
open Go (IntKind BinOp UnOp)
section
variable {L:Nat→Option PFunc} (hL:∀k f,LS k=some f→L k=some f)
include hL
theorem FV (b:Int) (h:List PObj):wr L 142 [.int .u8 b] h=some (.bool (Bq b),h):=by
 refine wz (hL 142 _ rfl) rfl ?_
 by_cases h1:97≤b<;>by_cases h2:b≤122<;>by_cases h3:65≤b<;>by_cases h4:b≤90 <;>
  simp[Ku,Bq,h1,h2,h3,h4]<;>omega
theorem HI (b:Int) (h:List PObj):wr L 131 [.int .u8 b] h=some (.bool (Bq b),h):=by
 refine wz (hL 131 _ rfl) rfl ?_
 by_cases h1:97≤b<;>by_cases h2:b≤122<;>by_cases h3:65≤b<;>by_cases h4:b≤90 <;>
  simp[Kr,Bq,h1,h2,h3,h4]<;>omega
theorem O5 (b:Int) (h:List PObj):wr L 162 [.int .u8 b] h=some (.bool (CG b),h):=by
 refine wz (hL 162 _ rfl) rfl ?_
 by_cases h1:48≤b<;>by_cases h2:b≤57<;>simp[KH,CG,h1,h2]
theorem O6 (b:Int) (h:List PObj):wr L 152 [.int .u8 b] h=some (.bool (CG b),h):=by
 refine wz (hL 152 _ rfl) rfl ?_
 by_cases h1:48≤b<;>by_cases h2:b≤57<;>simp[KB,CG,h1,h2]
theorem O7 (b:Int) (h:List PObj):wr L 144 [.int .u8 b] h=some (.bool (AK b),h):=by
 refine wz (hL 144 _ rfl) rfl ?_
 by_cases h3:b=95
 ·subst h3
  cases h1:Bq 95<;>cases h2:CG 95<;>simp[Ht,FV hL,O5 hL,AK,h1,h2]
 ·cases h1:Bq b<;>cases h2:CG b<;>simp[Ht,FV hL,O5 hL,AK,h1,h2,h3]
theorem O8 (b:Int) (h:List PObj):wr L 132 [.int .u8 b] h=some (.bool (AK b),h):=by
 refine wz (hL 132 _ rfl) rfl ?_
 by_cases h3:b=95
 ·subst h3
  cases h1:Bq 95<;>cases h2:CG 95<;>simp[Hr,HI hL,O6 hL,AK,h1,h2]
 ·cases h1:Bq b<;>cases h2:CG b<;>simp[Hr,HI hL,O6 hL,AK,h1,h2,h3]
theorem b7E (h:List PObj):wr L 153 [] h=some (.list true (DJ.map .str),h):=by
 refine wz (hL 153 _ rfl) rfl ?_
 simp[KC,DJ]
theorem O9 (s:Str) (h:List PObj):wr L 143 [.str s] h=some (.bool (Co s),h):=by
 refine wz (hL 143 _ rfl) rfl ?_
 simp[Kv]
 repeat' split
 all_goals simp_all [Co,DJ]
end
theorem list_eq {α:Type} {a b:List α} (hl:a.length=b.length) (h:∀k,k<a.length→a[k]? = b[k]?):a=b:=by
 apply b9
 intro k
 by_cases hk:k<a.length
 ·exact h k hk
 ·rw[List.getElem?_eq_none (by omega),List.getElem?_eq_none (by omega)]
theorem K1 {α:Type} {l:List α} {p:α→Bool} (h:∀k (hk:k<l.length),p l[k]=true):l.all p=true:=by
 rw[aD]
 intro x hx
 obtain⟨k,hk,rfl⟩:=bg.1 hx
 exact h k hk
theorem K2 {α:Type} {l:List α} {p:α→Bool} {i:Nat} (hi:i<l.length) (h:p l[i]=false):l.all p=false:=by
 rw[Bool.eq_false_iff]
 intro e
 have:=aD.1 e _ (ae hi)
 rw[h] at this; simp at this
section
variable {L:Nat→Option PFunc} (hL:∀k f,LS k=some f→L k=some f)
include hL
theorem b8Z (s:Str) (h:List PObj):wr L 133 [.str s] h=some (.bool (Co s),h):=by
 refine wz (hL 133 _ rfl) rfl ?_
 have hk:=b7E hL []
 have hl:DJ.length<100:=by decide
 simp[Ks,hk]
 refine HJ DJ.length (λi=>decide (DJ[i]?≠some s)) (λi (x:PV)=>[(3,.int .i64 i)]) (λ_ _=>h) .dead ?_ ?_ ?_ rfl rfl
 ·intro i hi cJ x ih
  have hw:=wC i (by omega)
  simp[hi] at cJ
  simp[hi,cJ,hw]
  simpa using ih x
 ·intro i hi cJ hk x
  simp[hi] at cJ
  have hm:Co s=true:=by simp[Co,← cJ]
  simp[hi,cJ,hm]
 ·intro cJ x
  have hm:Co s=false:=by
   simp only[Co,aT]
   intro hm
   obtain⟨k,hk,e⟩:=bg.1 hm
   have:=cJ k (by omega)
   simp[hk,e] at this
  simp[hm]
theorem Pa (s:Str) (h:List PObj):wr L 118 [.str s] h=some (.bool (yo s),h):=by
 refine wz (hL 118 _ rfl) rfl ?_
 cases s with
 | nil=>simp[DB,yo]
 | cons c r =>
   by_cases cI:(c::r).length≤40
   ·have dp:¬(40:Int)<(r.length:Int)+1:=by simp at cI; omega
    cases hc:Bq c.toNat with
    | false=>simp[DB,yo,dp,FV hL,hc]
    | true =>
      cases hk:Co (c::r) with
      | true=>simp[DB,yo,dp,FV hL,O9 hL,hc,hk]
      | false =>
        have dr:yo (c::r)=(c::r).all (λb=>AK b.toNat):=by
         simp[yo,hc,hk]; omega
        simp[DB,dp,FV hL,O9 hL,hc,hk]
        generalize hs:c::r=s at *
        have rW:(r.length:Int)+1=(s.length:Int):=by rw[← hs]; simp
        rw[rW]
        refine HJ s.length (λi=>AK (s.getD i 0).toNat) (λi (x:PV)=>[(2,x),(4,.int .i64 i)]) (λ_ _=>h) .dead ?_ ?_ ?_ rfl rfl
        ·intro i hi cJ x ih
         have hw:=wC i (by omega)
         simp[hi,List.getD] at cJ
         simp[hi,hw,O7 hL,cJ]
         simpa using ih _
        ·intro i hi cJ hk x
         have hx:=K2 (p:=λb:UInt8=>AK b.toNat) hi (by simpa[hi,List.getD] using cJ)
         simp[hi,List.getD] at cJ
         simp[hi,O7 hL,cJ,dr,hx]
        ·intro cJ x
         have hx:s.all (λb=>AK b.toNat)=true:=K1 (λk hk=>by have:=cJ k hk; simpa[hk,List.getD] using this)
         simp[dr,hx]
   ·have dp:(40:Int)<(r.length:Int)+1:=by simp at cI; omega
    simp[DB,yo,dp]
    omega
end
@[simp] theorem d2f:PV.agg [.str [],.list false []]=wJ ⟨[],[]⟩:=rfl
section
variable {L:Nat→Option PFunc} (hL:∀k f,LS k=some f→L k=some f)
include hL
theorem c0Q (en:List Enum) (t:Int) (ht:Ax t) (o:Bool) (h:List PObj):wr L 145 [.list o (en.map wJ),.int .i64 t] h=some (.tuple [wJ ((Cr en t).getD ⟨[],[]⟩),.bool (Cr en t).isSome],h):=by
 refine wz (hL 145 _ rfl) rfl ?_
 rcases PE t with h3|⟨k,rfl⟩
 ·simp[FK,h3,PG h3]
 ·have hw:IntKind.i64.wrap (k:Int)=k:=by rw[xx]<;>omega
  have h3:¬(k:Int)+3<3:=by omega
  by_cases hk:k<en.length
  ·have eD:¬(en.length:Int)≤k:=by omega
   simp[FK,h3,hw,eD,hk,PH hk]
  ·have eD:(en.length:Int)≤k:=by omega
   simp[FK,h3,hw,eD,PJ (show en.length≤k by omega)]
theorem HU (en:List Enum) (t:Int) (ht:Ax t) (o:Bool) (h:List PObj):wr L 119 [.list o (en.map wJ),.int .i64 t] h=some (.int .i64 (xE en t),h):=by
 refine wz (hL 119 _ rfl) rfl ?_
 by_cases h1:t=1
 ·subst h1; simp[FD,xE]
 ·by_cases h2:t=2
  ·subst h2; simp[FD,xE]
  ·have:=c0Q hL en t ht false []
   cases he:Cr en t<;>simp[FD,xE,h1,h2,this,he]
theorem c6U (v:Int) (h:List PObj):wr L 146 [.int .i64 v] h=some (.bool (decide (-32768≤v∧v≤32767)),h):=by
 refine wz (hL 146 _ rfl) rfl ?_
 by_cases h1 : -32768≤v<;>by_cases h2:v≤32767<;>simp[Kw,h1,h2]
theorem F3 (en:List Enum) (t v:Int) (ht:Ax t) (o:Bool) (h:List PObj):wr L 120 [.list o (en.map wJ),.int .i64 t,.int .i64 v] h=some (.bool (AA en t v),h):=by
 refine wz (hL 120 _ rfl) rfl ?_
 by_cases h2:t=2
 ·subst h2; simp[FE,AA,c6U hL]
 ·by_cases h0:0≤v
  ·simp[FE,AA,h2,h0,HU hL en t ht false []]
  ·simp[FE,AA,h2,h0]
theorem Bu (s:Str) (h:List PObj):wr L 104 [.str s] h=some (.bool (yo s),h):=by
 refine wz (hL 104 _ rfl) rfl ?_
 cases s with
 | nil=>simp[Es,yo]
 | cons c r =>
   by_cases cI:(c::r).length≤40
   ·have dp:¬(40:Int)<(r.length:Int)+1:=by simp at cI; omega
    cases hc:Bq c.toNat with
    | false=>simp[Es,yo,dp,HI hL,hc]
    | true =>
      have dr:yo (c::r)=((c::r).all (λb=>AK b.toNat) && !Co (c::r)):=by
       have hl:decide ((c::r)≠[]∧(c::r).length≤40)=true:=decide_eq_true ⟨by simp,cI⟩
       unfold yo
       rw[hl,List.headD_cons,hc]; rfl
      simp[Es,dp,HI hL,hc]
      generalize hs:c::r=s at *
      refine HJ s.length (λi=>AK (s.getD i 0).toNat) (λi (x:PV)=>[(2,.int .i64 i)]) (λ_ _=>h) .dead ?_ ?_ ?_ rfl rfl
      ·intro i hi cJ x ih
       have hw:=wC i (by omega)
       simp[hi,List.getD] at cJ
       simp[hi,hw,O8 hL,cJ]
       simpa using ih x
      ·intro i hi cJ hk x
       have hx:=K2 (p:=λb:UInt8=>AK b.toNat) hi (by simpa[hi,List.getD] using cJ)
       simp[hi,List.getD] at cJ
       simp[hi,O8 hL,cJ,dr,hx]
      ·intro cJ x
       have hx:s.all (λb=>AK b.toNat)=true:=K1 (λk hk=>by have:=cJ k hk; simpa[hk,List.getD] using this)
       simp[dr,hx,b8Z hL]
   ·have dp:(40:Int)<(r.length:Int)+1:=by simp at cI; omega
    simp[Es,yo,dp]
    omega
theorem Lk (en:List Enum) (t:Int) (ht:Ax t) (o:Bool) (h:List PObj):wr L 160 [.list o (en.map wJ),.int .i64 t] h=some (.int .i64 (xE en t),h):=by
 refine wz (hL 160 _ rfl) rfl ?_
 by_cases h1:t=1
 ·subst h1; simp[DE,xE]
 ·by_cases h2:t=2
  ·subst h2; simp[DE,xE]
  ·rcases PE t with h3|⟨k,rfl⟩
   ·simp[DE,xE,h1,h2,h3,PG h3]
   ·have hw:IntKind.i64.wrap (k:Int)=k:=by rw[xx]<;>omega
    have h3:¬(k:Int)+3<3:=by omega
    by_cases hk:k<en.length
    ·have eD:¬(en.length:Int)≤k:=by omega
     simp[DE,xE,h1,h2,h3,hw,hk,eD,PH hk]
    ·have eD:(en.length:Int)≤k:=by omega
     simp[DE,xE,h1,h2,h3,hw,hk,eD,PJ (show en.length≤k by omega)]
theorem Ll (en:List Enum) (t v:Int) (ht:Ax t) (o:Bool) (h:List PObj):wr L 155 [.list o (en.map wJ),.int .i64 t,.int .i64 v] h=some (.bool (AA en t v),h):=by
 refine wz (hL 155 _ rfl) rfl ?_
 have cQ:=Lk hL en t ht false []
 by_cases h2:t=2
 ·subst h2
  by_cases a1 : -32768≤v<;>by_cases a2:v≤32767<;>simp[FL,AA,a1,a2]
 ·by_cases h0:0≤v
  ·simp[FL,AA,h2,h0,cQ]
  ·simp[FL,AA,h2,h0]
end
end PI.Sc
set_option linter.unusedSimpArgs false
set_option linter.unusedVariables false
namespace PI
open Go (IntKind BinOp UnOp)
section
variable {L:Nat→Option PFunc} {V l:List PV} {g:Nat} {h:List PObj} {Q:PExit→St→Prop}
def Jh (st:St):Option (Out×List PObj)→Option (PExit×St)
 | some (.val _, h') => match h'[st.heap.length]? with
   | some (.loop true)=>some (.normal,{ st with heap:=h'.set st.heap.length .gone })
   | some (.over (some id))=>some (.exit id,{ st with heap:=h'.set st.heap.length .gone })
   | some (.over none)=>some (.ret,{ st with heap:=h'.set st.heap.length .gone })
   | _=>none
 | some (.boom v,h')=>some (.boom v,{ st with heap:=h' })
 | none=>none
theorem c0p {x:PX} {kb:Nat} {caps:List PX} {st:St} {k:Nat} {first captured cs:List PV} (hx:rd st x=some (.func k first captured)) (hc:rdAll st caps=some cs) (hn:CL L k=true):
  evL L (.rangeF x kb caps) st=Jh st (wQ L k (first ++ .func kb (.ptr st.heap.length 0::cs) []::captured) (st.heap++[.loop true])):=by
 refine Bi λr =>?_
 rw[B8]
 simp only[wB,hx,hc,hn,Bool.true_eq_false,if_false]
 constructor
 ·rintro⟨n,h⟩
  split at h
  ·rename_i h1
   have h2:wQ L k (first ++ .func kb (.ptr st.heap.length 0::cs) []::captured) (st.heap++[.loop true])=_:=CC.2 ⟨n,h1⟩
   rw[h2]; exact h
  ·rename_i h1
   have h2:wQ L k (first ++ .func kb (.ptr st.heap.length 0::cs) []::captured) (st.heap++[.loop true])=_:=CC.2 ⟨n,h1⟩
   rw[h2]; exact h
  ·simp at h
 ·intro h
  cases ho:wQ L k (first ++ .func kb (.ptr st.heap.length 0::cs) []::captured) (st.heap++[.loop true]) with
  | none=>rw[ho] at h; simp[Jh] at h
  | some p =>
    obtain⟨n,hn⟩:=CC.1 ho
    refine⟨n,?_⟩
    rw[ho] at h
    have je:yB (wB L n) L k (first ++ .func kb (.ptr st.heap.length 0::cs) []::captured) (st.heap++[.loop true])=some p:=hn
    rw[je]
    obtain⟨o,h'⟩:=p
    cases o<;>exact h
def AZ (V l:List PV) (g n:Nat) (Q:PExit→St→Prop):Out×List PObj→Prop
 | (.val _, h') => match h'[n]? with
   | some (.loop true)=>Q .normal ⟨V,l,g,h'.set n .gone⟩
   | some (.over (some id))=>Q (.exit id) ⟨V,l,g,h'.set n .gone⟩
   | some (.over none)=>Q .ret ⟨V,l,g,h'.set n .gone⟩
   | _=>False
 | (.boom v,h')=>Q (.boom v) ⟨V,l,g,h'⟩
theorem c0q {x:PX} {kb:Nat} {caps:List PX} {k:Nat} {first captured cs:List PV} {r:Out×List PObj} (hx:rd ⟨V,l,g,h⟩ x=some (.func k first captured)) (hc:rdAll ⟨V,l,g,h⟩ caps=some cs) (hn:CL L k=true)
  (ho:wQ L k (first ++ .func kb (.ptr h.length 0::cs) []::captured) (h++[.loop true])=some r) (hq:AZ V l g h.length Q r):wpL L (.rangeF x kb caps) ⟨V,l,g,h⟩ Q:=by
 have he:=c0p (kb:=kb) (st:=⟨V,l,g,h⟩) hx hc hn
 simp only at he
 rw[ho] at he
 obtain⟨o,h'⟩:=r
 unfold wpL
 rw[he]
 cases o with
 | boom v=>exact hq
 | val v =>
   simp only[AZ] at hq
   simp only[Jh]
   split at hq<;>first|exact hq.elim|skip
   all_goals (rename_i h1; simp only[h1]; exact hq)
def Do (n:Nat) (r:Out×List PObj):PExit→St→Prop
 | .normal,st=>st.heap[n]? = some (.loop false)∧r=(.val (.bool true),st.heap.set n (.loop true))
 | .boom v,st=>r=(.boom v,st.heap)
 | .exit id,st=>st.heap[n]? = some (.loop false)∧r=(.val (.bool false),st.heap.set n (.over (some id)))
 | .ret,st=>st.heap[n]? = some (.loop false)∧r=(.val (.bool false),st.heap.set n (.over none))
 | .after ..,_=>False
@[simp] theorem c3O (n:Nat) (r:Out×List PObj):Do n r .normal ⟨V,l,g,h⟩=(h[n]? = some (.loop false)∧r=(.val (.bool true),h.set n (.loop true))):=rfl
@[simp] theorem c6e (n:Nat) (r:Out×List PObj) (v:PV):Do n r (.boom v) ⟨V,l,g,h⟩=(r=(.boom v,h)):=rfl
@[simp] theorem c6f (n:Nat) (r:Out×List PObj) (id:Nat):Do n r (.exit id) ⟨V,l,g,h⟩=(h[n]? = some (.loop false)∧r=(.val (.bool false),h.set n (.over (some id)))):=rfl
@[simp] theorem c75 (n:Nat) (r:Out×List PObj):Do n r .ret ⟨V,l,g,h⟩=(h[n]? = some (.loop false)∧r=(.val (.bool false),h.set n (.over none))):=rfl
def M1 (L:Nat→Option PFunc) (b:PC) (n:Nat) (r:Out×List PObj):PExit→St→Prop
 | .normal,st=>st.heap[n]? = some (.loop true)∧wpL L b { st with heap:=st.heap.set n (.loop false) } (Do n r)
 | _,_=>False
@[simp] theorem c3P (b:PC) (n:Nat) (r:Out×List PObj):M1 L b n r .normal ⟨V,l,g,h⟩=(h[n]? = some (.loop true)∧wpL L b ⟨V,l,g,h.set n (.loop false)⟩ (Do n r)):=rfl
theorem Fc {k:Nat} {f:PFunc} {a b:PC} {n:Nat} {as:List PV} {hp:List PObj} {r:Out×List PObj} (hf:L k=some f) (kz:f.code = .round a b) (hl:as.length+1=f.params) (hn:hp[n]? = some (.loop true))
  (hw:wpL L a ⟨as.map dem++List.replicate (f.nv - as.length) .dead,[],0,hp⟩ (M1 L b n r)) (hs:f.split=false:=by rfl) (fD:f.prim=none:=by rfl):wQ L k (.ptr n 0::as) hp=some r:=by
 refine M2 hf (by simpa using hl) ?_ hs fD
 unfold zN
 rw[kz]
 simp only[B2,hn]
 rw[B9] at hw
 obtain⟨e,st,h1,h2⟩:=hw
 rw[h1]
 cases e with
 | normal =>
   obtain⟨h3,h4⟩:=h2
   rw[B9] at h4
   obtain⟨e2,st2,h5,h6⟩:=h4
   simp only[h3,h5]
   cases e2 with
   | normal=>obtain⟨h7,rfl⟩:=h6; simp only[h7]
   | boom v=>simp only[Do] at h6; subst h6; rfl
   | exit id=>obtain⟨h7,rfl⟩:=h6; simp only[h7]
   | ret=>obtain⟨h7,rfl⟩:=h6; simp only[h7]
   | after kd cs v=>exact h6.elim
 | exit id=>exact h2.elim
 | ret=>exact h2.elim
 | boom v=>exact h2.elim
 | after kd cs v=>exact h2.elim
end
end PI
