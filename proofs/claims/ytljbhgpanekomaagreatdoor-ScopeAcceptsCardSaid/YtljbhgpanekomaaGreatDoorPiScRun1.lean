import Derived.Test.YtljbhgpanekomaaGreatDoorPiScSpec
import Derived.Test.YtljbhgpanekomaaGreatDoorPiScCode
import Derived.Test.YtljbhgpanekomaaGreatDoorPiWp
set_option maxRecDepth 100000
set_option linter.unusedSimpArgs false
set_option linter.unusedVariables false
set_option linter.unusedSectionVars false
namespace PI.Sc
open Go (IntKind BinOp UnOp)
section
variable {L:Nat→Option PFunc} (hL:∀k f,LS k=some f→L k=some f)
include hL
theorem E1 (b:Int) (h:List PObj):vU L 142 [.int .u8 b] h=some (.bool (CW b),h):=by
 refine wj (hL 142 _ rfl) rfl ?_
 by_cases h1:97≤b<;>by_cases h2:b≤122<;>by_cases h3:65≤b<;>by_cases h4:b≤90 <;>
  simp[Jn,CW,h1,h2,h3,h4]<;>omega
theorem NK (b:Int) (h:List PObj):vU L 162 [.int .u8 b] h=some (.bool (E2 b),h):=by
 refine wj (hL 162 _ rfl) rfl ?_
 by_cases h1:48≤b<;>by_cases h2:b≤57<;>simp[Ju,E2,h1,h2]
theorem NL (b:Int) (h:List PObj):vU L 144 [.int .u8 b] h=some (.bool (Cp b),h):=by
 refine wj (hL 144 _ rfl) rfl ?_
 by_cases h3:b=95
 ·subst h3
  cases h1:CW 95<;>cases h2:E2 95<;>simp[Gu,E1 hL,NK hL,Cp,h1,h2]
 ·cases h1:CW b<;>cases h2:E2 b<;>simp[Gu,E1 hL,NK hL,Cp,h1,h2,h3]
theorem NM (s:Str) (h:List PObj):vU L 143 [.str s] h=some (.bool (GL s),h):=by
 refine wj (hL 143 _ rfl) rfl ?_
 simp[Jo]
 repeat' split
 all_goals simp_all [GL,NN]
end
theorem list_eq {α:Type} {a b:List α} (hl:a.length=b.length) (h:∀k,k<a.length→a[k]? = b[k]?):a=b:=by
 apply bY
 intro k
 by_cases hk:k<a.length
 ·exact h k hk
 ·rw[List.getElem?_eq_none (by omega),List.getElem?_eq_none (by omega)]
theorem NO {α:Type} {l:List α} {p:α→Bool} (h:∀k (hk:k<l.length),p l[k]=true):l.all p=true:=by
 rw[aG]
 intro x hx
 obtain⟨k,hk,rfl⟩:=bz.1 hx
 exact h k hk
theorem NP {α:Type} {l:List α} {p:α→Bool} {i:Nat} (hi:i<l.length) (h:p l[i]=false):l.all p=false:=by
 rw[Bool.eq_false_iff]
 intro e
 have:=aG.1 e _ (ai hi)
 rw[h] at this; simp at this
section
variable {L:Nat→Option PFunc} (hL:∀k f,LS k=some f→L k=some f)
include hL
theorem NQ (s:Str) (h:List PObj):vU L 118 [.str s] h=some (.bool (Av s),h):=by
 refine wj (hL 118 _ rfl) rfl ?_
 cases s with
 | nil=>simp[CP,Av]
 | cons c r =>
   by_cases cK:(c::r).length≤40
   ·have dN:¬(40:Int)<(r.length:Int)+1:=by simp at cK; omega
    cases hc:CW c.toNat with
    | false=>simp[CP,Av,dN,E1 hL,hc]
    | true =>
      cases hk:GL (c::r) with
      | true=>simp[CP,Av,dN,E1 hL,NM hL,hc,hk]
      | false =>
        have gZ:Av (c::r)=(c::r).all (λb=>Cp b.toNat):=by
         simp[Av,hc,hk]; omega
        simp[CP,dN,E1 hL,NM hL,hc,hk]
        generalize hs:c::r=s at *
        have rE:(r.length:Int)+1=(s.length:Int):=by rw[← hs]; simp
        rw[rE]
        refine c2S s.length (λi=>Cp (s.getD i 0).toNat) (λi (x:PV)=>[(2,x),(4,.int .i64 i)]) (λ_ _=>h) .dead ?_ ?_ ?_ rfl rfl
        ·intro i hi cV x ih
         have hw:=wk i (by omega)
         simp[hi,List.getD] at cV
         simp[hi,hw,NL hL,cV]
         simpa using ih _
        ·intro i hi cV hk x
         have hx:=NP (p:=λb:UInt8=>Cp b.toNat) hi (by simpa[hi,List.getD] using cV)
         simp[hi,List.getD] at cV
         simp[hi,NL hL,cV,gZ,hx]
        ·intro cV x
         have hx:s.all (λb=>Cp b.toNat)=true:=NO (λk hk=>by have:=cV k hk; simpa[hk,List.getD] using this)
         simp[gZ,hx]
   ·have dN:(40:Int)<(r.length:Int)+1:=by simp at cK; omega
    simp[CP,Av,dN]
    omega
end
@[simp] theorem d0o:PV.agg [.str [],.list false []]=wo ⟨[],[]⟩:=rfl
section
variable {L:Nat→Option PFunc} (hL:∀k f,LS k=some f→L k=some f)
include hL
theorem b8Z (en:List Enum) (t:Int) (ht:Aw t) (o:Bool) (h:List PObj):vU L 145 [.list o (en.map wo),.int .i64 t] h=some (.tuple [wo ((BD en t).getD ⟨[],[]⟩),.bool (BD en t).isSome],h):=by
 refine wj (hL 145 _ rfl) rfl ?_
 rcases c2h t with h3|⟨k,rfl⟩
 ·simp[ER,h3,c0A h3]
 ·have hw:IntKind.i64.wrap (k:Int)=k:=by rw[xl]<;>omega
  have h3:¬(k:Int)+3<3:=by omega
  by_cases hk:k<en.length
  ·have ez:¬(en.length:Int)≤k:=by omega
   simp[ER,h3,hw,ez,hk,c0B hk]
  ·have ez:(en.length:Int)≤k:=by omega
   simp[ER,h3,hw,ez,b86 (show en.length≤k by omega)]
theorem GP (en:List Enum) (t:Int) (ht:Aw t) (o:Bool) (h:List PObj):vU L 119 [.list o (en.map wo),.int .i64 t] h=some (.int .i64 (xU en t),h):=by
 refine wj (hL 119 _ rfl) rfl ?_
 by_cases h1:t=1
 ·subst h1; simp[EL,xU]
 ·by_cases h2:t=2
  ·subst h2; simp[EL,xU]
  ·have:=b8Z hL en t ht false []
   cases he:BD en t<;>simp[EL,xU,h1,h2,this,he]
theorem c4V (v:Int) (h:List PObj):vU L 146 [.int .i64 v] h=some (.bool (decide (-32768≤v∧v≤32767)),h):=by
 refine wj (hL 146 _ rfl) rfl ?_
 by_cases h1 : -32768≤v<;>by_cases h2:v≤32767<;>simp[Jp,h1,h2]
theorem E6 (en:List Enum) (t v:Int) (ht:Aw t) (o:Bool) (h:List PObj):vU L 120 [.list o (en.map wo),.int .i64 t,.int .i64 v] h=some (.bool (BX en t v),h):=by
 refine wj (hL 120 _ rfl) rfl ?_
 by_cases h2:t=2
 ·subst h2; simp[EM,BX,c4V hL]
 ·by_cases h0:0≤v
  ·simp[EM,BX,h2,h0,GP hL en t ht false []]
  ·simp[EM,BX,h2,h0]
end
end PI.Sc
set_option linter.unusedSimpArgs false
set_option linter.unusedVariables false
namespace PI
open Go (IntKind BinOp UnOp)
section
variable {L:Nat→Option PFunc} {V l:List PV} {g:Nat} {h:List PObj} {Q:PExit→St→Prop}
def If (st:St):Option (Out×List PObj)→Option (PExit×St)
 | some (.val _, h') => match h'[st.heap.length]? with
   | some (.loop true)=>some (.normal,{ st with heap:=h'.set st.heap.length .gone })
   | some (.over (some id))=>some (.exit id,{ st with heap:=h'.set st.heap.length .gone })
   | some (.over none)=>some (.ret,{ st with heap:=h'.set st.heap.length .gone })
   | _=>none
 | some (.boom v,h')=>some (.boom v,{ st with heap:=h' })
 | none=>none
theorem b8s {x:PX} {kb:Nat} {caps:List PX} {st:St} {k:Nat} {first captured cs:List PV} (hx:rd st x=some (.func k first captured)) (hc:rdAll st caps=some cs) (hn:B1 L k=true):
  evL L (.rangeF x kb caps) st=If st (wm L k (first ++ .func kb (.ptr st.heap.length 0::cs) []::captured) (st.heap++[.loop true])):=by
 refine AG λr =>?_
 rw[Bn]
 simp only[vY,hx,hc,hn,Bool.true_eq_false,if_false]
 constructor
 ·rintro⟨n,h⟩
  split at h
  ·rename_i h1
   have h2:wm L k (first ++ .func kb (.ptr st.heap.length 0::cs) []::captured) (st.heap++[.loop true])=_:=BQ.2 ⟨n,h1⟩
   rw[h2]; exact h
  ·rename_i h1
   have h2:wm L k (first ++ .func kb (.ptr st.heap.length 0::cs) []::captured) (st.heap++[.loop true])=_:=BQ.2 ⟨n,h1⟩
   rw[h2]; exact h
  ·simp at h
 ·intro h
  cases ho:wm L k (first ++ .func kb (.ptr st.heap.length 0::cs) []::captured) (st.heap++[.loop true]) with
  | none=>rw[ho] at h; simp[If] at h
  | some p =>
    obtain⟨n,hn⟩:=BQ.1 ho
    refine⟨n,?_⟩
    rw[ho] at h
    have jF:xK (vY L n) L k (first ++ .func kb (.ptr st.heap.length 0::cs) []::captured) (st.heap++[.loop true])=some p:=hn
    rw[jF]
    obtain⟨o,h'⟩:=p
    cases o<;>exact h
def Ac (V l:List PV) (g n:Nat) (Q:PExit→St→Prop):Out×List PObj→Prop
 | (.val _, h') => match h'[n]? with
   | some (.loop true)=>Q .normal ⟨V,l,g,h'.set n .gone⟩
   | some (.over (some id))=>Q (.exit id) ⟨V,l,g,h'.set n .gone⟩
   | some (.over none)=>Q .ret ⟨V,l,g,h'.set n .gone⟩
   | _=>False
 | (.boom v,h')=>Q (.boom v) ⟨V,l,g,h'⟩
theorem b8t {x:PX} {kb:Nat} {caps:List PX} {k:Nat} {first captured cs:List PV} {r:Out×List PObj} (hx:rd ⟨V,l,g,h⟩ x=some (.func k first captured)) (hc:rdAll ⟨V,l,g,h⟩ caps=some cs) (hn:B1 L k=true)
  (ho:wm L k (first ++ .func kb (.ptr h.length 0::cs) []::captured) (h++[.loop true])=some r) (hq:Ac V l g h.length Q r):wpL L (.rangeF x kb caps) ⟨V,l,g,h⟩ Q:=by
 have he:=b8s (kb:=kb) (st:=⟨V,l,g,h⟩) hx hc hn
 simp only at he
 rw[ho] at he
 obtain⟨o,h'⟩:=r
 unfold wpL
 rw[he]
 cases o with
 | boom v=>exact hq
 | val v =>
   simp only[Ac] at hq
   simp only[If]
   split at hq<;>first|exact hq.elim|skip
   all_goals (rename_i h1; simp only[h1]; exact hq)
def CG (n:Nat) (r:Out×List PObj):PExit→St→Prop
 | .normal,st=>st.heap[n]? = some (.loop false)∧r=(.val (.bool true),st.heap.set n (.loop true))
 | .boom v,st=>r=(.boom v,st.heap)
 | .exit id,st=>st.heap[n]? = some (.loop false)∧r=(.val (.bool false),st.heap.set n (.over (some id)))
 | .ret,st=>st.heap[n]? = some (.loop false)∧r=(.val (.bool false),st.heap.set n (.over none))
 | .after ..,_=>False
@[simp] theorem c1w (n:Nat) (r:Out×List PObj):CG n r .normal ⟨V,l,g,h⟩=(h[n]? = some (.loop false)∧r=(.val (.bool true),h.set n (.loop true))):=rfl
@[simp] theorem c4a (n:Nat) (r:Out×List PObj) (v:PV):CG n r (.boom v) ⟨V,l,g,h⟩=(r=(.boom v,h)):=rfl
@[simp] theorem c4b (n:Nat) (r:Out×List PObj) (id:Nat):CG n r (.exit id) ⟨V,l,g,h⟩=(h[n]? = some (.loop false)∧r=(.val (.bool false),h.set n (.over (some id)))):=rfl
@[simp] theorem c54 (n:Nat) (r:Out×List PObj):CG n r .ret ⟨V,l,g,h⟩=(h[n]? = some (.loop false)∧r=(.val (.bool false),h.set n (.over none))):=rfl
def Ly (L:Nat→Option PFunc) (b:PC) (n:Nat) (r:Out×List PObj):PExit→St→Prop
 | .normal,st=>st.heap[n]? = some (.loop true)∧wpL L b { st with heap:=st.heap.set n (.loop false) } (CG n r)
 | _,_=>False
@[simp] theorem c1x (b:PC) (n:Nat) (r:Out×List PObj):Ly L b n r .normal ⟨V,l,g,h⟩=(h[n]? = some (.loop true)∧wpL L b ⟨V,l,g,h.set n (.loop false)⟩ (CG n r)):=rfl
theorem Em {k:Nat} {f:PFunc} {a b:PC} {n:Nat} {as:List PV} {hp:List PObj} {r:Out×List PObj} (hf:L k=some f) (hX:f.code = .round a b) (hl:as.length+1=f.params) (hn:hp[n]? = some (.loop true))
  (hw:wpL L a ⟨as.map dem++List.replicate (f.nv - as.length) .dead,[],0,hp⟩ (Ly L b n r)) (hs:f.split=false:=by rfl) (fm:f.prim=none:=by rfl):wm L k (.ptr n 0::as) hp=some r:=by
 refine Ig hf (by simpa using hl) ?_ hs fm
 unfold yA
 rw[hX]
 simp only[zM,hn]
 rw[A0] at hw
 obtain⟨e,st,h1,h2⟩:=hw
 rw[h1]
 cases e with
 | normal =>
   obtain⟨h3,h4⟩:=h2
   rw[A0] at h4
   obtain⟨e2,st2,h5,h6⟩:=h4
   simp only[h3,h5]
   cases e2 with
   | normal=>obtain⟨h7,rfl⟩:=h6; simp only[h7]
   | boom v=>simp only[CG] at h6; subst h6; rfl
   | exit id=>obtain⟨h7,rfl⟩:=h6; simp only[h7]
   | ret=>obtain⟨h7,rfl⟩:=h6; simp only[h7]
   | after kd cs v=>exact h6.elim
 | exit id=>exact h2.elim
 | ret=>exact h2.elim
 | boom v=>exact h2.elim
 | after kd cs v=>exact h2.elim
end
end PI
