import Derived.Test.YtljbhgpanekomaaGreatDoorPiSimp
set_option linter.unusedSectionVars false
namespace PI
open Go (IntKind BinOp UnOp)
section
variable {cf:a0v} {V l:List PV} {g:Nat} {h:List PObj} {L:Nat→Option PFunc}
@[simp] theorem b9O (n:Nat):a57 ⟨V,l,g,h⟩ n=match h[n]? with | some (.cells cs)=>some cs | _=>none:=rfl
@[simp] theorem c8r:a5D ⟨V,l,g,h⟩ none=some []:=rfl
@[simp] theorem b9P (n:Nat):a5D ⟨V,l,g,h⟩ (some n)=match h[n]? with | some (.map es)=>some es | _=>none:=rfl
@[simp] theorem d1h (n:Nat) (o:PObj):a3L ⟨V,l,g,h⟩ n o=⟨V,l,g,h.set n o⟩:=rfl
@[simp] theorem d1C (i:Nat):b3g ⟨V,l,g,h⟩ (.v i)=match V[i]? with
  | some (.loc _ cs)=>some (.cptr (cs.map dem),⟨V.set i (.cptr (cs.map dem)),l,g,h⟩)
  | some v=>sv (cp v) ⟨V,l,g,h⟩
  | none=>none:=by
 simp only[b3g,raw,rd]
 cases V[i]? with
 | none=>rfl
 | some v=>cases v<;>rfl
@[simp] theorem d1D (p:PV):b3g ⟨V,l,g,h⟩ (.c p)=sv (cp p) ⟨V,l,g,h⟩:=by simp only[b3g,rd,raw,Option.bind_some,a6t]
@[simp] theorem d1E (i:Nat):b3g ⟨V,l,g,h⟩ (.l i)=sv (rd ⟨V,l,g,h⟩ (.l i)) ⟨V,l,g,h⟩:=by simp only[b3g,a6t]
@[simp] theorem c8s (st:St):a3K st []=some ([],st):=rfl
@[simp] theorem c51 (x:PX) (xs:List PX):a3K ⟨V,l,g,h⟩ (x::xs)=match b3g ⟨V,l,g,h⟩ x with
  | some (v,st)=>(match a3K st xs with | some (vs,st)=>some (v::vs,st) | none=>none)
  | none=>none:=by
 simp only[a3K]
 cases b3g ⟨V,l,g,h⟩ x with
 | none=>rfl
 | some r=>simp only[Option.bind_some]; cases a3K r.2 xs<;>rfl
@[simp] theorem c52 (z:List PV):opv cf (.h (.newobj z)) ⟨V,l,g,h⟩=some (.ptr h.length 0,⟨V,l,g,h++[.cells z]⟩):=rfl
@[simp] theorem c53 (s:Nat) (x:PX):opv cf (.h (.boxobj s x)) ⟨V,l,g,h⟩=match rd ⟨V,l,g,h⟩ x with
  | some v=>if v.cells.length=s then some (.ptr h.length 0,⟨V,l,g,h++[.cells v.cells]⟩) else none
  | none=>none:=rfl
@[simp] theorem c54:opv cf (.h .newbld) ⟨V,l,g,h⟩=some (.ptr h.length 0,⟨V,l,g,h++[.bld []]⟩):=rfl
def b6s (h:List PObj):PV→Option (List PV)
 | .rowp n sz agg len=>if agg=true∨sz=1 then(match h[n]? with | some (.cells cs)=>a3A sz agg cs len 0 | _=>none) else none
 | p=>b0E p
@[simp] theorem c55 (o:Bool) (es:List PV):b6s h (.list o es)=some es:=rfl
@[simp] theorem c56:b6s h .nils=some []:=rfl
@[simp] theorem c57:b6s h .void=some []:=rfl
theorem c1x (x:PX):b04 ⟨V,l,g,h⟩ x=match rd ⟨V,l,g,h⟩ x with | some v=>b6s h v | none=>none:=by
 unfold b04
 cases rd ⟨V,l,g,h⟩ x with
 | none=>rfl
 | some v => cases v <;> try rfl
             rename_i n sz agg len
             simp only[b6s]
             split
             ·simp only[a57]
              cases h[n]? with
              | none=>rfl
              | some o=>cases o<;>rfl
             ·rfl
def b2u (h:List PObj) (size:Nat) (agg:Bool) (bytes:Nat) (xs:List PV) (v:PV) (st:St):Option (PV×St):=
 match v with
 | .rowp n sz ag len =>
   match h[n]? with
   | some (.cells cs) =>
     if sz=size∧ag=agg∧len*size≤cs.length∧a0W size xs∧len+xs.length≤2147483648∧bytes≤16384 then
      some (.rowp h.length size agg (len+xs.length),{ st with heap:=h.set n .gone++[.cells ((cs.take (len*size)).map dem++(xs.flatMap PV.cells).map dem)] })
     else none
   | _=>none
 | .list true [] =>
   if xs=[] then some (.list true [],st)
   else if a0W size xs∧xs.length≤2147483648∧bytes≤16384 then
    some (.rowp h.length size agg xs.length,{ st with heap:=h++[.cells ((xs.flatMap PV.cells).map dem)] })
   else none
 | .nils =>
   if xs=[] then some (.nils,st)
   else if a0W size xs∧xs.length≤2147483648∧bytes≤16384 then
    some (.rowp h.length size agg xs.length,{ st with heap:=h++[.cells ((xs.flatMap PV.cells).map dem)] })
   else none
 | _=>none
@[simp] theorem c58 (v:PV):(some v).bind b0E=b0E v:=rfl
@[simp] theorem c59 (o:Bool) (es:List PV):b0E (.list o es)=some es:=rfl
@[simp] theorem d0b (s:Nat) (agg:Bool) (b:Nat) (a x:PX):opv cf (.h (.happ s agg b a x)) ⟨V,l,g,h⟩=match (match rd ⟨V,l,g,h⟩ x with | some v=>b6s h v | none=>none),raw ⟨V,l,g,h⟩ a with
  | some xs,some v=>b2u h s agg b xs v ⟨V,l,g,h⟩
  | _,_=>none:=by
 simp only[opv,a0N,c1x]
 cases (match rd ⟨V,l,g,h⟩ x with | some v=>b6s h v | none=>none) with
 | none=>rfl
 | some xs => cases raw ⟨V, l, g, h⟩ a with
   | none=>rfl
   | some v => cases v <;> try rfl
               rename_i o es
               cases o<;>try rfl
               cases es<;>rfl
@[simp] theorem c8t (s:Nat) (agg:Bool) (b:Nat) (z:List PV) (a x:PX):opv cf (.h (.happz s agg b z a x)) ⟨V,l,g,h⟩=match rdInt ⟨V,l,g,h⟩ x,rd ⟨V,l,g,h⟩ a with
  | some n,some .nils=>if 0<n∧n≤2147483648∧b≤16384 then some (.rowp h.length s agg n.toNat,⟨V,l,g,h++[.cells (List.replicate n.toNat (z.map dem)).flatten]⟩) else none
  | _,_=>none:=rfl
@[simp] theorem c4t (n sz:Nat) (a:Bool) (off len:Nat):b35 (.rows n sz a off len)=some (n,sz,off):=rfl
@[simp] theorem c4u (n sz:Nat) (a:Bool) (len:Nat):b35 (.rowp n sz a len)=some (n,sz,0):=rfl
@[simp] theorem c8u (s:Nat) (x:PX):opv cf (.h (.clear s x)) ⟨V,l,g,h⟩=match (match rd ⟨V,l,g,h⟩ x with | some v=>b35 v | none=>none) with
  | some (n, sz, off) =>
    match h[n]? with
    | some (.cells cs)=>if sz=s∧off*s≤cs.length then some (.dead,⟨V,l,g,h.set n (.cells (cs.take (off*s)))⟩) else none
    | _=>none
  | _=>none:=by
 simp only[opv,a0N]
 cases rd ⟨V,l,g,h⟩ x with
 | none=>rfl
 | some v=>rfl
@[simp] theorem c8v (s:Nat) (agg:Bool) (b:Nat) (z:List PV) (x:PX):opv cf (.h (.mkarr s agg b z x)) ⟨V,l,g,h⟩=match rdInt ⟨V,l,g,h⟩ x with
  | some n=>if 0≤n∧b*n≤281474976710656∧n≤9223372036854775807 then some (.rowp h.length s agg n.toNat,⟨V,l,g,h++[.cells (List.replicate n.toNat z).flatten]⟩) else none
  | none=>none:=rfl
@[simp] theorem c8w (x:PX):opv cf (.h (.range x)) ⟨V,l,g,h⟩=match rd ⟨V,l,g,h⟩ x with
  | some (.str s)=>some (.ptr h.length 0,⟨V,l,g,h++[.siter s 0]⟩)
  | _=>none:=rfl
@[simp] theorem d0c (x:PX):opv cf (.h (.next x)) ⟨V,l,g,h⟩=match rd ⟨V,l,g,h⟩ x with
  | some (.ptr n 0) =>
    match h[n]? with
    | some (.siter s pos) =>
      if pos<s.length then some (.tuple [.bool true,.int .i64 pos,.int .i32 (Go.Utf8.decode ⟨s.toArray⟩ pos).1],⟨V,l,g,h.set n (.siter s (pos+(Go.Utf8.decode ⟨s.toArray⟩ pos).2))⟩)
      else some (.tuple [.bool false],⟨V,l,g,h⟩)
    | _=>none
  | _=>none:=rfl
@[simp] theorem c8x:opv cf (.h .mkmap) ⟨V,l,g,h⟩=some (.map (some h.length),⟨V,l,g,h++[.map []]⟩):=rfl
@[simp] theorem c8y (s:Nat) (agg:Bool) (a:PX) (t:Bool):opv cf (.h (.load s agg a t)) ⟨V,l,g,h⟩=match addr ⟨V,l,g,h⟩ a with
  | some (.cptr cs)=>sv (a0a s agg cs 0) ⟨V,l,g,h⟩
  | some (.ptr n off) =>
    match h[n]? with
    | some (.cells cs) =>
      match t && !agg,cs[off]? with
      | true,some (.list true es)=>some (.list true es,⟨V,l,g,h.set n (.cells (cs.set off (.list false es)))⟩)
      | _,_=>sv (a0a s agg cs off) ⟨V,l,g,h⟩
    | _=>none
  | _=>none:=by
 simp only[opv,a0N,a6t]
 cases addr ⟨V,l,g,h⟩ a with
 | none=>rfl
 | some p =>
   cases p<;>try rfl
   simp only[b9O]
   rename_i n off
   cases h[n]? with
   | none=>rfl
   | some o=>cases o<;>rfl
@[simp] theorem c4v (s:Nat) (agg:Bool) (a x:PX):opv cf (.h (.storer s agg a x)) ⟨V,l,g,h⟩=match addr ⟨V,l,g,h⟩ a,rd ⟨V,l,g,h⟩ x with
  | some (.ptr n off), some v => if b6M v then none else (match h[n]? with
    | some (.cells cs)=>(match a0g s agg cs off v with | some cs=>some (.dead,⟨V,l,g,h.set n (.cells cs)⟩) | none=>none)
    | _=>none)
  | _,_=>none:=by
 simp only[opv,a0N]
 cases addr ⟨V,l,g,h⟩ a with
 | none=>rfl
 | some p =>
   cases p<;>try rfl
   rename_i n off
   cases rd ⟨V,l,g,h⟩ x with
   | none=>rfl
   | some v =>
     simp only
     split
     ·rfl
     ·simp only[a57]
      cases h[n]? with
      | none=>rfl
      | some ob =>
        cases ob<;>try rfl
        rename_i cs
        simp only[Option.bind_some]
        cases a0g s agg cs off v<;>rfl
@[simp] theorem c6a (s:Nat) (agg:Bool) (a x:PX):opv cf (.h (.store s agg a x)) ⟨V,l,g,h⟩=match addr ⟨V,l,g,h⟩ a,tk ⟨V,l,g,h⟩ x with
  | some (.ptr n off), some (v, ⟨V, l, g, h⟩) =>
    match h[n]? with
    | some (.cells cs)=>(match a0g s agg cs off v with | some cs=>some (.dead,⟨V,l,g,h.set n (.cells cs)⟩) | none=>none)
    | _=>none
  | _,_=>none:=by
 simp only[opv,a0N]
 cases addr ⟨V,l,g,h⟩ a with
 | none=>rfl
 | some p =>
   cases p<;>try rfl
   cases tk ⟨V,l,g,h⟩ x with
   | none=>rfl
   | some r =>
     obtain⟨v,⟨V2,l2,g2,h2⟩⟩:=r
     simp only[b9O]
     rename_i n off
     cases h2[n]? with
     | none=>rfl
     | some o =>
       cases o<;>try rfl
       rename_i cs
       simp only[Option.bind_some]
       cases a0g s agg cs off v<;>rfl
@[simp] theorem c6b (n' s:Nat) (x i:PX):opv cf (.h (.iaddr n' s x i)) ⟨V,l,g,h⟩=match addr ⟨V,l,g,h⟩ x,rdInt ⟨V,l,g,h⟩ i with
  | some (.ptr n o),some k=>if 0≤k∧k<n' then some (.ptr n (o+k.toNat*s),⟨V,l,g,h⟩) else none
  | _,_=>none:=rfl
def b0v (ok take:Bool) (zero:PV) (n:Option Nat) (es:List (PV×PV)) (st:St):Option (Nat×PV)→Option (PV×St)
 | some (i, v) =>
   if take && !ok&&c0p v then some (v,a3L st (n.getD 0) (.map (es.modify i λe=>(e.1,dem e.2))))
   else some (if ok then .tuple [dem v,.bool true] else dem v,st)
 | none=>some (if ok then .tuple [zero,.bool false] else zero,st)
@[simp] theorem c4w (ok take:Bool) (zero:PV) (n:Option Nat) (es:List (PV×PV)) (st:St):b0v ok take zero n es st none=some (if ok then .tuple [zero,.bool false] else zero,st):=rfl
@[simp] theorem c4x (ok:Bool) (zero:PV) (n:Option Nat) (es:List (PV×PV)) (st:St) (i:Nat) (v:PV):b0v ok false zero n es st (some (i,v))=some (if ok then .tuple [dem v,.bool true] else dem v,st):=by
 simp[b0v]
@[simp] theorem c4y (zero:PV) (n:Nat) (es:List (PV×PV)) (i:Nat) (v:PV):b0v false true zero (some n) es ⟨V,l,g,h⟩ (some (i,v))=if c0p v then some (v,⟨V,l,g,h.set n (.map (es.modify i λe=>(e.1,dem e.2)))⟩) else some (dem v,⟨V,l,g,h⟩):=by
 simp[b0v]
@[simp] theorem c6c (ok take kagg:Bool) (ks:List EK) (zero:PV) (m x:PX):opv cf (.h (.lookup ok take kagg ks zero m x)) ⟨V,l,g,h⟩=match rd ⟨V,l,g,h⟩ m,rd ⟨V,l,g,h⟩ x with
  | some (.map n), some k =>
    match a5D ⟨V,l,g,h⟩ n with
    | some es=>(match a3u kagg ks k es 0 with | some r=>b0v ok take zero n es ⟨V,l,g,h⟩ r | none=>none)
    | none=>none
  | _,_=>none:=by
 simp only[opv,a0N]
 cases rd ⟨V,l,g,h⟩ m with
 | none=>rfl
 | some p =>
   cases p<;>try rfl
   rename_i n
   cases rd ⟨V,l,g,h⟩ x with
   | none=>rfl
   | some k =>
     simp only
     cases a5D ⟨V,l,g,h⟩ n with
     | none=>rfl
     | some es =>
       simp only[Option.bind_some]
       cases a3u kagg ks k es 0 with
       | none=>rfl
       | some r=>cases r<;>rfl
def b3J (es:List (PV×PV)) (k v:PV):Option (Nat×PV)→List (PV×PV)
 | some (i,_)=>es.set i (k,v)
 | none=>es++[(k,v)]
@[simp] theorem c2K (es:List (PV×PV)) (k v:PV):b3J es k v none=es++[(k,v)]:=rfl
@[simp] theorem b5g (es:List (PV×PV)) (k v:PV) (i:Nat) (u:PV):b3J es k v (some (i,u))=es.set i (k,v):=rfl
@[simp] theorem d0d (kagg:Bool) (ks:List EK) (m k v:PX):opv cf (.h (.mset kagg ks m k v)) ⟨V,l,g,h⟩=match rd ⟨V,l,g,h⟩ m,rd ⟨V,l,g,h⟩ k,tk ⟨V,l,g,h⟩ v with
  | some (.map (some n)), some k, some (v, ⟨V, l, g, h⟩) =>
    match h[n]? with
    | some (.map es)=>(match a3u kagg ks k es 0 with | some r=>some (.dead,⟨V,l,g,h.set n (.map (b3J es k v r))⟩) | none=>none)
    | _=>none
  | _,_,_=>none:=by
 simp only[opv,a0N]
 cases rd ⟨V,l,g,h⟩ m with
 | none=>rfl
 | some p =>
   cases p<;>try rfl
   rename_i n
   cases n with
   | none=>rfl
   | some n=>
   cases rd ⟨V,l,g,h⟩ k with
   | none=>rfl
   | some k =>
     cases tk ⟨V,l,g,h⟩ v with
     | none=>rfl
     | some r =>
       obtain⟨v,⟨V2,l2,g2,h2⟩⟩:=r
       simp only[b9P]
       cases h2[n]? with
       | none=>rfl
       | some o =>
         cases o<;>try rfl
         rename_i es
         simp only[Option.bind_some]
         cases a3u kagg ks k es 0 with
         | none=>rfl
         | some r=>cases r<;>rfl
@[simp] theorem d0e (m:PX):opv cf (.h (.mlen m)) ⟨V,l,g,h⟩=match rd ⟨V,l,g,h⟩ m with
  | some (.map n)=>(match a5D ⟨V,l,g,h⟩ n with | some es=>some (.int .i64 es.length,⟨V,l,g,h⟩) | none=>none)
  | _=>none:=by
 simp only[opv,a0N]
 cases rd ⟨V,l,g,h⟩ m with
 | none=>rfl
 | some p => cases p <;> try rfl
             rename_i n; simp only; cases a5D ⟨V,l,g,h⟩ n<;>rfl
@[simp] theorem c6d (k:Nat) (a b:List PX):opv cf (.h (.mkfunc k a b)) ⟨V,l,g,h⟩=match a3K ⟨V,l,g,h⟩ a with
  | some (f,st)=>(match a3K st b with | some (c,st)=>some (.func k f c,st) | none=>none)
  | none=>none:=by
 simp only[opv,a0N]
 cases a3K ⟨V,l,g,h⟩ a with
 | none=>rfl
 | some r=>simp only[Option.bind_some]; cases a3K r.2 b<;>rfl
@[simp] theorem c8z (kd:Nat) (neg:Bool) (x:PX):opv cf (.h (.isnil kd neg x)) ⟨V,l,g,h⟩=match rd ⟨V,l,g,h⟩ x with
  | some p=>(match a69 kd p with | some b=>some (.bool (if neg then !b else b),⟨V,l,g,h⟩) | none=>none)
  | none=>none:=by
 simp only[opv,a0N]
 cases rd ⟨V,l,g,h⟩ x with
 | none=>rfl
 | some p=>simp only[Option.bind_some]; cases a69 kd p<;>rfl
@[simp] theorem c6e (x:PX):opv cf (.h (.nilchk x)) ⟨V,l,g,h⟩=match addr ⟨V,l,g,h⟩ x with
  | some (.ptr n o)=>some (.ptr n o,⟨V,l,g,h⟩)
  | some (.cptr cs)=>some (.cptr cs,⟨V,l,g,h⟩)
  | some (.lptr s g0 o)=>some (.lptr s g0 o,⟨V,l,g,h⟩)
  | _=>none:=rfl
@[simp] theorem c8A (s:Nat) (agg:Bool) (a:PX):opv cf (.h (.loadc s agg a)) ⟨V,l,g,h⟩=match rd ⟨V,l,g,h⟩ a with
  | some (.cptr cs)=>sv (a0a s agg cs 0) ⟨V,l,g,h⟩
  | _=>none:=by
 simp only[opv,a0N,a6t]; rfl
@[simp] theorem d0f (z:List PV) (ps:List (Nat×Nat×PX)):opv cf (.h (.barr z ps)) ⟨V,l,g,h⟩=match rdParts ⟨V,l,g,h⟩ ps with
  | some es=>(match a3M z es with | some cs=>some (.agg cs,⟨V,l,g,h⟩) | none=>none)
  | none=>none:=by
 simp only[opv,a0N]; cases rdParts ⟨V,l,g,h⟩ ps<;>simp; rename_i es; cases a3M z es<;>rfl
@[simp] theorem d0g (n s:Nat) (agg:Bool) (x i:PX):opv cf (.h (.idxA n s agg x i)) ⟨V,l,g,h⟩=match rd ⟨V,l,g,h⟩ x,rdInt ⟨V,l,g,h⟩ i with
  | some v,some k=>(match a2z v with | some cs=>if 0≤k∧k<n then sv (a0a s agg cs (k.toNat*s)) ⟨V,l,g,h⟩ else none | none=>none)
  | _,_=>none:=by
 simp only[opv,a0N,a6t]
 cases rd ⟨V,l,g,h⟩ x with
 | none=>rfl
 | some v=>cases v<;>(cases rdInt ⟨V,l,g,h⟩ i<;>rfl)
@[simp] theorem c8B (k:Nat) (args:List PX):opv cf (.h (.call k args)) ⟨V,l,g,h⟩=match rdAll ⟨V,l,g,h⟩ args with
  | some vs=>(match cf k vs h with | some (r,h)=>some (dem r,⟨V,l,g,h⟩) | none=>none)
  | none=>none:=by
 simp only[opv,a0N]
 cases rdAll ⟨V,l,g,h⟩ args with
 | none=>rfl
 | some vs=>simp only[Option.bind_some]; cases cf k vs h<;>rfl
@[simp] theorem c6f (k:Nat) (args:List PX):opv cf (.h (.rcall k args)) ⟨V,l,g,h⟩=match rdAll ⟨V,l,g,h⟩ args with
  | some vs=>(match cf k vs h with | some (r,h')=>same ⟨V,l,g,h⟩ (r,h') | none=>none)
  | none=>none:=by
 simp only[opv,a0N]
 cases rdAll ⟨V,l,g,h⟩ args with
 | none=>rfl
 | some vs=>simp only[Option.bind_some]; cases cf k vs h<;>rfl
@[simp] theorem d1i (r:PV):same ⟨V,l,g,h⟩ (r,h)=some (dem r,⟨V,l,g,h⟩):=by simp[same]
@[simp] theorem c6g (x:PX) (args:List PX):opv cf (.h (.callv x args)) ⟨V,l,g,h⟩=match rd ⟨V,l,g,h⟩ x,rdAll ⟨V,l,g,h⟩ args with
  | some (.func k f c),some vs=>(match cf k (f++vs++c) h with | some (r,h)=>some (dem r,⟨V,l,g,h⟩) | none=>none)
  | _,_=>none:=by
 simp only[opv,a0N]
 cases rd ⟨V,l,g,h⟩ x with
 | none=>rfl
 | some p =>
   cases p<;>try rfl
   rename_i k f c
   cases rdAll ⟨V,l,g,h⟩ args with
   | none=>rfl
   | some vs=>simp only; cases cf k (f++vs++c) h<;>rfl
@[simp] theorem c8C (x:PX) (args:List PX):opv cf (.callv x args) ⟨V,l,g,h⟩=match rd ⟨V,l,g,h⟩ x,rdAll ⟨V,l,g,h⟩ args with
  | some (.func k f c),some vs=>if a0j (f++vs++c) then(match cf k (f++vs++c) [] with | some (r,_)=>if a0p r then some (dem r,⟨V,l,g,h⟩) else none | none=>none) else none
  | _,_=>none:=by
 simp only[opv]
 cases rd ⟨V,l,g,h⟩ x with
 | none=>rfl
 | some p =>
   cases p<;>try rfl
attribute [simp] a69 vague
@[simp] theorem c8D (str:Bool) (s:Nat) (x:PX) (lo hi:Option PX):opv cf (.slice str s x lo hi) ⟨V,l,g,h⟩=match str,rd ⟨V,l,g,h⟩ x with
  | true,some (.str t)=>(match bound ⟨V,l,g,h⟩ hi t.length t.length with | some b=>(match bound ⟨V,l,g,h⟩ lo 0 b with | some a=>some (.str ((t.take b).drop a),⟨V,l,g,h⟩) | none=>none) | none=>none)
  | false,some (.list _ es)=>if a0W s es then(match bound ⟨V,l,g,h⟩ hi es.length es.length with | some b=>(match bound ⟨V,l,g,h⟩ lo 0 b with | some a=>some (.list false ((es.take b).drop a),⟨V,l,g,h⟩) | none=>none) | none=>none) else none
  | false,some .nils=>(match bound ⟨V,l,g,h⟩ hi 0 0 with | some b=>(match bound ⟨V,l,g,h⟩ lo 0 b with | some a=>some (.nils,⟨V,l,g,h⟩) | none=>none) | none=>none)
  | false,some (.rowp n sz agg len)=>if sz=s then(match bound ⟨V,l,g,h⟩ hi len len with | some b=>(match bound ⟨V,l,g,h⟩ lo 0 b with | some a=>some (if a=0 then .rowp n sz agg b else .rows n sz agg a (b - a),⟨V,l,g,h⟩) | none=>none) | none=>none) else none
  | _,_=>none:=by
 simp only[opv]
 cases str
 ·cases rd ⟨V,l,g,h⟩ x with
  | none=>rfl
  | some p =>
    cases p<;>try rfl
    all_goals simp only
    all_goals first
     | (split
        ·cases bound ⟨V,l,g,h⟩ hi _ _ with
         | none=>rfl
         | some b=>simp only[Option.bind_some]; cases bound ⟨V,l,g,h⟩ lo 0 b<;>rfl
        ·rfl)
     | (cases bound ⟨V, l, g, h⟩ hi _ _ with
        | none=>rfl
        | some b=>simp only[Option.bind_some]; cases bound ⟨V,l,g,h⟩ lo 0 b<;>rfl)
 ·cases rd ⟨V,l,g,h⟩ x with
  | none=>rfl
  | some p =>
    cases p<;>try rfl
    simp only
    cases bound ⟨V,l,g,h⟩ hi _ _ with
    | none=>rfl
    | some b=>simp only[Option.bind_some]; cases bound ⟨V,l,g,h⟩ lo 0 b<;>rfl
end
end PI
