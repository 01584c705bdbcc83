import Derived.Test.YtljbhgpanekomaaGreatDoorPiScSpec
import Derived.Test.YtljbhgpanekomaaGreatDoorPiScCode
import Derived.Test.YtljbhgpanekomaaGreatDoorPiWp
set_option maxRecDepth 100000
set_option linter.unusedSimpArgs false
set_option linter.unusedVariables false
set_option linter.unusedSectionVars false
namespace PI.Sc
open Go (IntKind BinOp UnOp)
section
variable {L:Nat→Option PFunc} (hL:∀k f,LS k=some f→L k=some f)
include hL
theorem a6q (b:Int) (h:List PObj):a0o L 142 [.int .u8 b] h=some (.bool (b1Y b),h):=by
 refine a0i (hL 142 _ rfl) rfl ?_
 by_cases h1:97≤b<;>by_cases h2:b≤122<;>by_cases h3:65≤b<;>by_cases h4:b≤90 <;>
  simp[a7x,b1Y,h1,h2,h3,h4]<;>omega
theorem b4Y (b:Int) (h:List PObj):a0o L 162 [.int .u8 b] h=some (.bool (b9C b),h):=by
 refine a0i (hL 162 _ rfl) rfl ?_
 by_cases h1:48≤b<;>by_cases h2:b≤57<;>simp[a8w,b9C,h1,h2]
theorem b4Z (b:Int) (h:List PObj):a0o L 144 [.int .u8 b] h=some (.bool (b47 b),h):=by
 refine a0i (hL 144 _ rfl) rfl ?_
 by_cases h3:b=95
 ·subst h3
  cases h1:b1Y 95<;>cases h2:b9C 95<;>simp[a6J,a6q hL,b4Y hL,b47,h1,h2]
 ·cases h1:b1Y b<;>cases h2:b9C b<;>simp[a6J,a6q hL,b4Y hL,b47,h1,h2,h3]
theorem b1L (s:Str) (h:List PObj):a0o L 143 [.str s] h=some (.bool (b3C s),h):=by
 refine a0i (hL 143 _ rfl) rfl ?_
 simp[a6I]
 repeat' split
 all_goals simp_all [b3C,b7d]
end
theorem list_eq {α:Type} {a b:List α} (hl:a.length=b.length) (h:∀k,k<a.length→a[k]? = b[k]?):a=b:=by
 apply List.ext_getElem?
 intro k
 by_cases hk:k<a.length
 ·exact h k hk
 ·rw[List.getElem?_eq_none (by omega),List.getElem?_eq_none (by omega)]
theorem c17 {α:Type} {l:List α} {p:α→Bool} (h:∀k (hk:k<l.length),p l[k]=true):l.all p=true:=by
 rw[List.all_eq_true]
 intro x hx
 obtain⟨k,hk,rfl⟩:=List.mem_iff_getElem.1 hx
 exact h k hk
theorem b9g {α:Type} {l:List α} {p:α→Bool} {i:Nat} (hi:i<l.length) (h:p l[i]=false):l.all p=false:=by
 rw[Bool.eq_false_iff]
 intro e
 have:=List.all_eq_true.1 e _ (List.getElem_mem hi)
 rw[h] at this; simp at this
section
variable {L:Nat→Option PFunc} (hL:∀k f,LS k=some f→L k=some f)
include hL
theorem b40 (s:Str) (h:List PObj):a0o L 118 [.str s] h=some (.bool (a9X s),h):=by
 refine a0i (hL 118 _ rfl) rfl ?_
 cases s with
 | nil=>simp[a3w,a9X]
 | cons c r =>
   by_cases hlen:(c::r).length≤40
   ·have hlen2:¬(40:Int)<(r.length:Int)+1:=by simp at hlen; omega
    cases hc:b1Y c.toNat with
    | false=>simp[a3w,a9X,hlen2,a6q hL,hc]
    | true =>
      cases hk:b3C (c::r) with
      | true=>simp[a3w,a9X,hlen2,a6q hL,b1L hL,hc,hk]
      | false =>
        have hid:a9X (c::r)=(c::r).all (λb=>b47 b.toNat):=by
         simp[a9X,hc,hk]; omega
        simp[a3w,hlen2,a6q hL,b1L hL,hc,hk]
        generalize hs:c::r=s at *
        have hsl:(r.length:Int)+1=(s.length:Int):=by rw[← hs]; simp
        rw[hsl]
        refine c1K s.length (λi=>b47 (s.getD i 0).toNat) (λi (x:PV)=>[(2,x),(4,.int .i64 i)]) (λ_ _=>h) .dead ?_ ?_ ?_ rfl rfl
        ·intro i hi hok x ih
         have hw:=a0c i (by omega)
         simp[hi,List.getD] at hok
         simp[hi,hw,b4Z hL,hok]
         simpa using ih _
        ·intro i hi hok hk x
         have hx:=b9g (p:=λb:UInt8=>b47 b.toNat) hi (by simpa[hi,List.getD] using hok)
         simp[hi,List.getD] at hok
         simp[hi,b4Z hL,hok,hid,hx]
        ·intro hok x
         have hx:s.all (λb=>b47 b.toNat)=true:=c17 (λk hk=>by have:=hok k hk; simpa[hk,List.getD] using this)
         simp[hid,hx]
   ·have hlen2:(40:Int)<(r.length:Int)+1:=by simp at hlen; omega
    simp[a3w,a9X,hlen2]
    omega
end
@[simp] theorem c9b:PV.agg [.str [],.list false []]=a0U ⟨[],[]⟩:=rfl
section
variable {L:Nat→Option PFunc} (hL:∀k f,LS k=some f→L k=some f)
include hL
theorem b70 (en:List Enum) (t:Int) (ht:I64 t) (o:Bool) (h:List PObj):a0o L 145 [.list o (en.map a0U),.int .i64 t] h=some (.tuple [a0U ((a8j en t).getD ⟨[],[]⟩),.bool (a8j en t).isSome],h):=by
 refine a0i (hL 145 _ rfl) rfl ?_
 rcases c09 t with h3|⟨k,rfl⟩
 ·simp[a4I,h3,b9D h3]
 ·have hw:IntKind.i64.wrap (k:Int)=k:=by rw[a0E]<;>omega
  have h3:¬(k:Int)+3<3:=by omega
  by_cases hk:k<en.length
  ·have hk2:¬(en.length:Int)≤k:=by omega
   simp[a4I,h3,hw,hk2,hk,b9E hk]
  ·have hk2:(en.length:Int)≤k:=by omega
   simp[a4I,h3,hw,hk2,b79 (show en.length≤k by omega)]
theorem a7O (en:List Enum) (t:Int) (ht:I64 t) (o:Bool) (h:List PObj):a0o L 119 [.list o (en.map a0U),.int .i64 t] h=some (.int .i64 (a2d en t),h):=by
 refine a0i (hL 119 _ rfl) rfl ?_
 by_cases h1:t=1
 ·subst h1; simp[a4G,a2d]
 ·by_cases h2:t=2
  ·subst h2; simp[a4G,a2d]
  ·have:=b70 hL en t ht false []
   cases he:a8j en t<;>simp[a4G,a2d,h1,h2,this,he]
theorem c3I (v:Int) (h:List PObj):a0o L 146 [.int .i64 v] h=some (.bool (decide (-32768≤v∧v≤32767)),h):=by
 refine a0i (hL 146 _ rfl) rfl ?_
 by_cases h1 : -32768≤v<;>by_cases h2:v≤32767<;>simp[b1y,h1,h2]
theorem a7D (en:List Enum) (t v:Int) (ht:I64 t) (o:Bool) (h:List PObj):a0o L 120 [.list o (en.map a0U),.int .i64 t,.int .i64 v] h=some (.bool (b3D en t v),h):=by
 refine a0i (hL 120 _ rfl) rfl ?_
 by_cases h2:t=2
 ·subst h2; simp[a5t,b3D,c3I hL]
 ·by_cases h0:0≤v
  ·simp[a5t,b3D,h2,h0,a7O hL en t ht false []]
  ·simp[a5t,b3D,h2,h0]
end
end PI.Sc
set_option linter.unusedSimpArgs false
set_option linter.unusedVariables false
namespace PI
open Go (IntKind BinOp UnOp)
section
variable {L:Nat→Option PFunc} {V l:List PV} {g:Nat} {h:List PObj} {Q:PExit→St→Prop}
def b8W (st:St):Option (Out×List PObj)→Option (PExit×St)
 | some (.val _, h') => match h'[st.heap.length]? with
   | some (.loop true)=>some (.normal,{ st with heap:=h'.set st.heap.length .gone })
   | some (.over (some id))=>some (.exit id,{ st with heap:=h'.set st.heap.length .gone })
   | some (.over none)=>some (.ret,{ st with heap:=h'.set st.heap.length .gone })
   | _=>none
 | some (.boom v,h')=>some (.boom v,{ st with heap:=h' })
 | none=>none
theorem b7A {x:PX} {kb:Nat} {caps:List PX} {st:St} {k:Nat} {first captured cs:List PV} (hx:rd st x=some (.func k first captured)) (hc:rdAll st caps=some cs) (hn:a7a L k=true):
  evL L (.rangeF x kb caps) st=b8W st (a3b L k (first ++ .func kb (.ptr st.heap.length 0::cs) []::captured) (st.heap++[.loop true])):=by
 refine a4Q λr =>?_
 rw[a4r]
 simp only[a1e,hx,hc,hn,Bool.true_eq_false,if_false]
 constructor
 ·rintro⟨n,h⟩
  split at h
  ·rename_i h1
   have h2:a3b L k (first ++ .func kb (.ptr st.heap.length 0::cs) []::captured) (st.heap++[.loop true])=_:=a43.2 ⟨n,h1⟩
   rw[h2]; exact h
  ·rename_i h1
   have h2:a3b L k (first ++ .func kb (.ptr st.heap.length 0::cs) []::captured) (st.heap++[.loop true])=_:=a43.2 ⟨n,h1⟩
   rw[h2]; exact h
  ·simp at h
 ·intro h
  cases ho:a3b L k (first ++ .func kb (.ptr st.heap.length 0::cs) []::captured) (st.heap++[.loop true]) with
  | none=>rw[ho] at h; simp[b8W] at h
  | some p =>
    obtain⟨n,hn⟩:=a43.1 ho
    refine⟨n,?_⟩
    rw[ho] at h
    have hn':a1j (a1e L n) L k (first ++ .func kb (.ptr st.heap.length 0::cs) []::captured) (st.heap++[.loop true])=some p:=hn
    rw[hn']
    obtain⟨o,h'⟩:=p
    cases o<;>exact h
def a9C (V l:List PV) (g n:Nat) (Q:PExit→St→Prop):Out×List PObj→Prop
 | (.val _, h') => match h'[n]? with
   | some (.loop true)=>Q .normal ⟨V,l,g,h'.set n .gone⟩
   | some (.over (some id))=>Q (.exit id) ⟨V,l,g,h'.set n .gone⟩
   | some (.over none)=>Q .ret ⟨V,l,g,h'.set n .gone⟩
   | _=>False
 | (.boom v,h')=>Q (.boom v) ⟨V,l,g,h'⟩
theorem b7B {x:PX} {kb:Nat} {caps:List PX} {k:Nat} {first captured cs:List PV} {r:Out×List PObj} (hx:rd ⟨V,l,g,h⟩ x=some (.func k first captured)) (hc:rdAll ⟨V,l,g,h⟩ caps=some cs) (hn:a7a L k=true)
  (ho:a3b L k (first ++ .func kb (.ptr h.length 0::cs) []::captured) (h++[.loop true])=some r) (hq:a9C V l g h.length Q r):wpL L (.rangeF x kb caps) ⟨V,l,g,h⟩ Q:=by
 have he:=b7A (kb:=kb) (st:=⟨V,l,g,h⟩) hx hc hn
 simp only at he
 rw[ho] at he
 obtain⟨o,h'⟩:=r
 unfold wpL
 rw[he]
 cases o with
 | boom v=>exact hq
 | val v =>
   simp only[a9C] at hq
   simp only[b8W]
   split at hq<;>first|exact hq.elim|skip
   all_goals (rename_i h1; simp only[h1]; exact hq)
def b1p (n:Nat) (r:Out×List PObj):PExit→St→Prop
 | .normal,st=>st.heap[n]? = some (.loop false)∧r=(.val (.bool true),st.heap.set n (.loop true))
 | .boom v,st=>r=(.boom v,st.heap)
 | .exit id,st=>st.heap[n]? = some (.loop false)∧r=(.val (.bool false),st.heap.set n (.over (some id)))
 | .ret,st=>st.heap[n]? = some (.loop false)∧r=(.val (.bool false),st.heap.set n (.over none))
 | .after ..,_=>False
@[simp] theorem c0y (n:Nat) (r:Out×List PObj):b1p n r .normal ⟨V,l,g,h⟩=(h[n]? = some (.loop false)∧r=(.val (.bool true),h.set n (.loop true))):=rfl
@[simp] theorem c21 (n:Nat) (r:Out×List PObj) (v:PV):b1p n r (.boom v) ⟨V,l,g,h⟩=(r=(.boom v,h)):=rfl
@[simp] theorem c22 (n:Nat) (r:Out×List PObj) (id:Nat):b1p n r (.exit id) ⟨V,l,g,h⟩=(h[n]? = some (.loop false)∧r=(.val (.bool false),h.set n (.over (some id)))):=rfl
@[simp] theorem c4T (n:Nat) (r:Out×List PObj):b1p n r .ret ⟨V,l,g,h⟩=(h[n]? = some (.loop false)∧r=(.val (.bool false),h.set n (.over none))):=rfl
def c1T (L:Nat→Option PFunc) (b:PC) (n:Nat) (r:Out×List PObj):PExit→St→Prop
 | .normal,st=>st.heap[n]? = some (.loop true)∧wpL L b { st with heap:=st.heap.set n (.loop false) } (b1p n r)
 | _,_=>False
@[simp] theorem c0z (b:PC) (n:Nat) (r:Out×List PObj):c1T L b n r .normal ⟨V,l,g,h⟩=(h[n]? = some (.loop true)∧wpL L b ⟨V,l,g,h.set n (.loop false)⟩ (b1p n r)):=rfl
theorem a6d {k:Nat} {f:PFunc} {a b:PC} {n:Nat} {as:List PV} {hp:List PObj} {r:Out×List PObj} (hf:L k=some f) (hcode:f.code = .round a b) (hl:as.length+1=f.params) (hn:hp[n]? = some (.loop true))
  (hw:wpL L a ⟨as.map dem++List.replicate (f.nv - as.length) .dead,[],0,hp⟩ (c1T L b n r)) (hs:f.split=false:=by rfl) (hpr:f.prim=none:=by rfl):a3b L k (.ptr n 0::as) hp=some r:=by
 refine b84 hf (by simpa using hl) ?_ hs hpr
 unfold a3B
 rw[hcode]
 simp only[a4p,hn]
 rw[a6R] at hw
 obtain⟨e,st,h1,h2⟩:=hw
 rw[h1]
 cases e with
 | normal =>
   obtain⟨h3,h4⟩:=h2
   rw[a6R] at h4
   obtain⟨e2,st2,h5,h6⟩:=h4
   simp only[h3,h5]
   cases e2 with
   | normal=>obtain⟨h7,rfl⟩:=h6; simp only[h7]
   | boom v=>simp only[b1p] at h6; subst h6; rfl
   | exit id=>obtain⟨h7,rfl⟩:=h6; simp only[h7]
   | ret=>obtain⟨h7,rfl⟩:=h6; simp only[h7]
   | after kd cs v=>exact h6.elim
 | exit id=>exact h2.elim
 | ret=>exact h2.elim
 | boom v=>exact h2.elim
 | after kd cs v=>exact h2.elim
end
end PI
