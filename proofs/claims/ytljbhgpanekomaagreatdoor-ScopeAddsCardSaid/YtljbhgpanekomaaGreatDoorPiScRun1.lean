import Derived.Test.YtljbhgpanekomaaGreatDoorPiScSpec
import Derived.Test.YtljbhgpanekomaaGreatDoorPiScCode
import Derived.Test.YtljbhgpanekomaaGreatDoorPiWp
set_option maxRecDepth 100000
set_option linter.unusedSimpArgs false
set_option linter.unusedVariables false
set_option linter.unusedSectionVars false
namespace PI.Sc
open Go (IntKind BinOp UnOp)
section
variable {L:Nat→Option PFunc} (hL:∀k f,LS k=some f→L k=some f)
include hL
theorem FA (b:Int) (h:List PObj):wn L 142 [.int .u8 b] h=some (.bool (Cn b),h):=by
 refine wJ (hL 142 _ rfl) rfl ?_
 by_cases h1:97≤b<;>by_cases h2:b≤122<;>by_cases h3:65≤b<;>by_cases h4:b≤90 <;>
  simp[JV,Cn,h1,h2,h3,h4]<;>omega
theorem OF (b:Int) (h:List PObj):wn L 162 [.int .u8 b] h=some (.bool (Ef b),h):=by
 refine wJ (hL 162 _ rfl) rfl ?_
 by_cases h1:48≤b<;>by_cases h2:b≤57<;>simp[J2,Ef,h1,h2]
theorem OG (b:Int) (h:List PObj):wn L 144 [.int .u8 b] h=some (.bool (Co b),h):=by
 refine wJ (hL 144 _ rfl) rfl ?_
 by_cases h3:b=95
 ·subst h3
  cases h1:Cn 95<;>cases h2:Ef 95<;>simp[GQ,FA hL,OF hL,Co,h1,h2]
 ·cases h1:Cn b<;>cases h2:Ef b<;>simp[GQ,FA hL,OF hL,Co,h1,h2,h3]
theorem OH (s:Str) (h:List PObj):wn L 143 [.str s] h=some (.bool (Fw s),h):=by
 refine wJ (hL 143 _ rfl) rfl ?_
 simp[JW]
 repeat' split
 all_goals simp_all [Fw,Kj]
end
theorem list_eq {α:Type} {a b:List α} (hl:a.length=b.length) (h:∀k,k<a.length→a[k]? = b[k]?):a=b:=by
 apply cg
 intro k
 by_cases hk:k<a.length
 ·exact h k hk
 ·rw[List.getElem?_eq_none (by omega),List.getElem?_eq_none (by omega)]
theorem OI {α:Type} {l:List α} {p:α→Bool} (h:∀k (hk:k<l.length),p l[k]=true):l.all p=true:=by
 rw[aD]
 intro x hx
 obtain⟨k,hk,rfl⟩:=bK.1 hx
 exact h k hk
theorem OJ {α:Type} {l:List α} {p:α→Bool} {i:Nat} (hi:i<l.length) (h:p l[i]=false):l.all p=false:=by
 rw[Bool.eq_false_iff]
 intro e
 have:=aD.1 e _ (ai hi)
 rw[h] at this; simp at this
section
variable {L:Nat→Option PFunc} (hL:∀k f,LS k=some f→L k=some f)
include hL
theorem OL (s:Str) (h:List PObj):wn L 118 [.str s] h=some (.bool (zf s),h):=by
 refine wJ (hL 118 _ rfl) rfl ?_
 cases s with
 | nil=>simp[Dd,zf]
 | cons c r =>
   by_cases cM:(c::r).length≤40
   ·have d7:¬(40:Int)<(r.length:Int)+1:=by simp at cM; omega
    cases hc:Cn c.toNat with
    | false=>simp[Dd,zf,d7,FA hL,hc]
    | true =>
      cases hk:Fw (c::r) with
      | true=>simp[Dd,zf,d7,FA hL,OH hL,hc,hk]
      | false =>
        have ge:zf (c::r)=(c::r).all (λb=>Co b.toNat):=by
         simp[zf,hc,hk]; omega
        simp[Dd,d7,FA hL,OH hL,hc,hk]
        generalize hs:c::r=s at *
        have mR:(r.length:Int)+1=(s.length:Int):=by rw[← hs]; simp
        rw[mR]
        refine c3q s.length (λi=>Co (s.getD i 0).toNat) (λi (x:PV)=>[(2,x),(4,.int .i64 i)]) (λ_ _=>h) .dead ?_ ?_ ?_ rfl rfl
        ·intro i hi cY x ih
         have hw:=wC i (by omega)
         simp[hi,List.getD] at cY
         simp[hi,hw,OG hL,cY]
         simpa using ih _
        ·intro i hi cY hk x
         have hx:=OJ (p:=λb:UInt8=>Co b.toNat) hi (by simpa[hi,List.getD] using cY)
         simp[hi,List.getD] at cY
         simp[hi,OG hL,cY,ge,hx]
        ·intro cY x
         have hx:s.all (λb=>Co b.toNat)=true:=OI (λk hk=>by have:=cY k hk; simpa[hk,List.getD] using this)
         simp[ge,hx]
   ·have d7:(40:Int)<(r.length:Int)+1:=by simp at cM; omega
    simp[Dd,zf,d7]
    omega
end
@[simp] theorem d0U:PV.agg [.str [],.list false []]=wE ⟨[],[]⟩:=rfl
section
variable {L:Nat→Option PFunc} (hL:∀k f,LS k=some f→L k=some f)
include hL
theorem b9q (en:List Enum) (t:Int) (ht:Al t) (o:Bool) (h:List PObj):wn L 145 [.list o (en.map wE),.int .i64 t] h=some (.tuple [wE ((B4 en t).getD ⟨[],[]⟩),.bool (B4 en t).isSome],h):=by
 refine wJ (hL 145 _ rfl) rfl ?_
 rcases c2O t with h3|⟨k,rfl⟩
 ·simp[Fm,h3,c1b h3]
 ·have hw:IntKind.i64.wrap (k:Int)=k:=by rw[xD]<;>omega
  have h3:¬(k:Int)+3<3:=by omega
  by_cases hk:k<en.length
  ·have dY:¬(en.length:Int)≤k:=by omega
   simp[Fm,h3,hw,dY,hk,c1c hk]
  ·have dY:(en.length:Int)≤k:=by omega
   simp[Fm,h3,hw,dY,b9z (show en.length≤k by omega)]
theorem Hu (en:List Enum) (t:Int) (ht:Al t) (o:Bool) (h:List PObj):wn L 119 [.list o (en.map wE),.int .i64 t] h=some (.int .i64 (xZ en t),h):=by
 refine wJ (hL 119 _ rfl) rfl ?_
 by_cases h1:t=1
 ·subst h1; simp[Fh,xZ]
 ·by_cases h2:t=2
  ·subst h2; simp[Fh,xZ]
  ·have:=b9q hL en t ht false []
   cases he:B4 en t<;>simp[Fh,xZ,h1,h2,this,he]
theorem c5t (v:Int) (h:List PObj):wn L 146 [.int .i64 v] h=some (.bool (decide (-32768≤v∧v≤32767)),h):=by
 refine wJ (hL 146 _ rfl) rfl ?_
 by_cases h1 : -32768≤v<;>by_cases h2:v≤32767<;>simp[JX,h1,h2]
theorem FC (en:List Enum) (t v:Int) (ht:Al t) (o:Bool) (h:List PObj):wn L 120 [.list o (en.map wE),.int .i64 t,.int .i64 v] h=some (.bool (BZ en t v),h):=by
 refine wJ (hL 120 _ rfl) rfl ?_
 by_cases h2:t=2
 ·subst h2; simp[Fi,BZ,c5t hL]
 ·by_cases h0:0≤v
  ·simp[Fi,BZ,h2,h0,Hu hL en t ht false []]
  ·simp[Fi,BZ,h2,h0]
end
end PI.Sc
set_option linter.unusedSimpArgs false
set_option linter.unusedVariables false
namespace PI
open Go (IntKind BinOp UnOp)
section
variable {L:Nat→Option PFunc} {V l:List PV} {g:Nat} {h:List PObj} {Q:PExit→St→Prop}
def IN (st:St):Option (Out×List PObj)→Option (PExit×St)
 | some (.val _, h') => match h'[st.heap.length]? with
   | some (.loop true)=>some (.normal,{ st with heap:=h'.set st.heap.length .gone })
   | some (.over (some id))=>some (.exit id,{ st with heap:=h'.set st.heap.length .gone })
   | some (.over none)=>some (.ret,{ st with heap:=h'.set st.heap.length .gone })
   | _=>none
 | some (.boom v,h')=>some (.boom v,{ st with heap:=h' })
 | none=>none
theorem b8S {x:PX} {kb:Nat} {caps:List PX} {st:St} {k:Nat} {first captured cs:List PV} (hx:rd st x=some (.func k first captured)) (hc:rdAll st caps=some cs) (hn:Cv L k=true):
  evL L (.rangeF x kb caps) st=IN st (wF L k (first ++ .func kb (.ptr st.heap.length 0::cs) []::captured) (st.heap++[.loop true])):=by
 refine AW λr =>?_
 rw[BP]
 simp only[wr,hx,hc,hn,Bool.true_eq_false,if_false]
 constructor
 ·rintro⟨n,h⟩
  split at h
  ·rename_i h1
   have h2:wF L k (first ++ .func kb (.ptr st.heap.length 0::cs) []::captured) (st.heap++[.loop true])=_:=Ce.2 ⟨n,h1⟩
   rw[h2]; exact h
  ·rename_i h1
   have h2:wF L k (first ++ .func kb (.ptr st.heap.length 0::cs) []::captured) (st.heap++[.loop true])=_:=Ce.2 ⟨n,h1⟩
   rw[h2]; exact h
  ·simp at h
 ·intro h
  cases ho:wF L k (first ++ .func kb (.ptr st.heap.length 0::cs) []::captured) (st.heap++[.loop true]) with
  | none=>rw[ho] at h; simp[IN] at h
  | some p =>
    obtain⟨n,hn⟩:=Ce.1 ho
    refine⟨n,?_⟩
    rw[ho] at h
    have jO:yc (wr L n) L k (first ++ .func kb (.ptr st.heap.length 0::cs) []::captured) (st.heap++[.loop true])=some p:=hn
    rw[jO]
    obtain⟨o,h'⟩:=p
    cases o<;>exact h
def At (V l:List PV) (g n:Nat) (Q:PExit→St→Prop):Out×List PObj→Prop
 | (.val _, h') => match h'[n]? with
   | some (.loop true)=>Q .normal ⟨V,l,g,h'.set n .gone⟩
   | some (.over (some id))=>Q (.exit id) ⟨V,l,g,h'.set n .gone⟩
   | some (.over none)=>Q .ret ⟨V,l,g,h'.set n .gone⟩
   | _=>False
 | (.boom v,h')=>Q (.boom v) ⟨V,l,g,h'⟩
theorem b8T {x:PX} {kb:Nat} {caps:List PX} {k:Nat} {first captured cs:List PV} {r:Out×List PObj} (hx:rd ⟨V,l,g,h⟩ x=some (.func k first captured)) (hc:rdAll ⟨V,l,g,h⟩ caps=some cs) (hn:Cv L k=true)
  (ho:wF L k (first ++ .func kb (.ptr h.length 0::cs) []::captured) (h++[.loop true])=some r) (hq:At V l g h.length Q r):wpL L (.rangeF x kb caps) ⟨V,l,g,h⟩ Q:=by
 have he:=b8S (kb:=kb) (st:=⟨V,l,g,h⟩) hx hc hn
 simp only at he
 rw[ho] at he
 obtain⟨o,h'⟩:=r
 unfold wpL
 rw[he]
 cases o with
 | boom v=>exact hq
 | val v =>
   simp only[At] at hq
   simp only[IN]
   split at hq<;>first|exact hq.elim|skip
   all_goals (rename_i h1; simp only[h1]; exact hq)
def C7 (n:Nat) (r:Out×List PObj):PExit→St→Prop
 | .normal,st=>st.heap[n]? = some (.loop false)∧r=(.val (.bool true),st.heap.set n (.loop true))
 | .boom v,st=>r=(.boom v,st.heap)
 | .exit id,st=>st.heap[n]? = some (.loop false)∧r=(.val (.bool false),st.heap.set n (.over (some id)))
 | .ret,st=>st.heap[n]? = some (.loop false)∧r=(.val (.bool false),st.heap.set n (.over none))
 | .after ..,_=>False
@[simp] theorem c10 (n:Nat) (r:Out×List PObj):C7 n r .normal ⟨V,l,g,h⟩=(h[n]? = some (.loop false)∧r=(.val (.bool true),h.set n (.loop true))):=rfl
@[simp] theorem c4I (n:Nat) (r:Out×List PObj) (v:PV):C7 n r (.boom v) ⟨V,l,g,h⟩=(r=(.boom v,h)):=rfl
@[simp] theorem c4J (n:Nat) (r:Out×List PObj) (id:Nat):C7 n r (.exit id) ⟨V,l,g,h⟩=(h[n]? = some (.loop false)∧r=(.val (.bool false),h.set n (.over (some id)))):=rfl
@[simp] theorem c6A (n:Nat) (r:Out×List PObj):C7 n r .ret ⟨V,l,g,h⟩=(h[n]? = some (.loop false)∧r=(.val (.bool false),h.set n (.over none))):=rfl
def L8 (L:Nat→Option PFunc) (b:PC) (n:Nat) (r:Out×List PObj):PExit→St→Prop
 | .normal,st=>st.heap[n]? = some (.loop true)∧wpL L b { st with heap:=st.heap.set n (.loop false) } (C7 n r)
 | _,_=>False
@[simp] theorem c13 (b:PC) (n:Nat) (r:Out×List PObj):L8 L b n r .normal ⟨V,l,g,h⟩=(h[n]? = some (.loop true)∧wpL L b ⟨V,l,g,h.set n (.loop false)⟩ (C7 n r)):=rfl
theorem ES {k:Nat} {f:PFunc} {a b:PC} {n:Nat} {as:List PV} {hp:List PObj} {r:Out×List PObj} (hf:L k=some f) (ig:f.code = .round a b) (hl:as.length+1=f.params) (hn:hp[n]? = some (.loop true))
  (hw:wpL L a ⟨as.map dem++List.replicate (f.nv - as.length) .dead,[],0,hp⟩ (L8 L b n r)) (hs:f.split=false:=by rfl) (fw:f.prim=none:=by rfl):wF L k (.ptr n 0::as) hp=some r:=by
 refine IP hf (by simpa using hl) ?_ hs fw
 unfold yX
 rw[ig]
 simp only[Af,hn]
 rw[Bm] at hw
 obtain⟨e,st,h1,h2⟩:=hw
 rw[h1]
 cases e with
 | normal =>
   obtain⟨h3,h4⟩:=h2
   rw[Bm] at h4
   obtain⟨e2,st2,h5,h6⟩:=h4
   simp only[h3,h5]
   cases e2 with
   | normal=>obtain⟨h7,rfl⟩:=h6; simp only[h7]
   | boom v=>simp only[C7] at h6; subst h6; rfl
   | exit id=>obtain⟨h7,rfl⟩:=h6; simp only[h7]
   | ret=>obtain⟨h7,rfl⟩:=h6; simp only[h7]
   | after kd cs v=>exact h6.elim
 | exit id=>exact h2.elim
 | ret=>exact h2.elim
 | boom v=>exact h2.elim
 | after kd cs v=>exact h2.elim
end
end PI
