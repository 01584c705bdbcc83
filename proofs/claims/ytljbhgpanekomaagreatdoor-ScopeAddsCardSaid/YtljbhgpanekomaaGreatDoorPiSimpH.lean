import Derived.Test.YtljbhgpanekomaaGreatDoorPiSimp
set_option linter.unusedSectionVars false
namespace PI
open Go (IntKind BinOp UnOp)
section
variable {cf:wu} {V l:List PV} {g:Nat} {h:List PObj} {L:Nat→Option PFunc}
@[simp] theorem Pu (n:Nat):xh ⟨V,l,g,h⟩ n=match h[n]? with | some (.cells cs)=>some cs | _=>none:=rfl
@[simp] theorem c99:wZ ⟨V,l,g,h⟩ none=some []:=rfl
@[simp] theorem c1e (n:Nat):wZ ⟨V,l,g,h⟩ (some n)=match h[n]? with | some (.map es)=>some es | _=>none:=rfl
@[simp] theorem d2Y (n:Nat) (o:PObj):wT ⟨V,l,g,h⟩ n o=⟨V,l,g,h.set n o⟩:=rfl
@[simp] theorem d3i (i:Nat):zz ⟨V,l,g,h⟩ (.v i)=match V[i]? with
  | some (.loc _ cs)=>some (.cptr (cs.map dem),⟨V.set i (.cptr (cs.map dem)),l,g,h⟩)
  | some v=>sv (cp v) ⟨V,l,g,h⟩
  | none=>none:=by
 simp only[zz,raw,rd]
 cases V[i]? with
 | none=>rfl
 | some v=>cases v<;>rfl
@[simp] theorem d3j (p:PV):zz ⟨V,l,g,h⟩ (.c p)=sv (cp p) ⟨V,l,g,h⟩:=by simp only[zz,rd,raw,aw,AQ]
@[simp] theorem d3k (i:Nat):zz ⟨V,l,g,h⟩ (.l i)=sv (rd ⟨V,l,g,h⟩ (.l i)) ⟨V,l,g,h⟩:=by simp only[zz,AQ]
@[simp] theorem d0a (st:St):xW st []=some ([],st):=rfl
@[simp] theorem c7I (x:PX) (xs:List PX):xW ⟨V,l,g,h⟩ (x::xs)=match zz ⟨V,l,g,h⟩ x with
  | some (v,st)=>(match xW st xs with | some (vs,st)=>some (v::vs,st) | none=>none)
  | none=>none:=by
 simp only[xW]
 cases zz ⟨V,l,g,h⟩ x with
 | none=>rfl
 | some r=>simp only[aw]; cases xW r.2 xs<;>rfl
@[simp] theorem c7J (z:List PV):opv cf (.h (.newobj z)) ⟨V,l,g,h⟩=some (.ptr h.length 0,⟨V,l,g,h++[.cells z]⟩):=rfl
@[simp] theorem c7K (s:Nat) (x:PX):opv cf (.h (.boxobj s x)) ⟨V,l,g,h⟩=match rd ⟨V,l,g,h⟩ x with
  | some v=>if v.cells.length=s then some (.ptr h.length 0,⟨V,l,g,h++[.cells v.cells]⟩) else none
  | none=>none:=rfl
@[simp] theorem c7L:opv cf (.h .newbld) ⟨V,l,g,h⟩=some (.ptr h.length 0,⟨V,l,g,h++[.bld []]⟩):=rfl
def Dv (h:List PObj):PV→Option (List PV)
 | .rowp n sz agg len=>if agg=true∨sz=1 then(match h[n]? with | some (.cells cs)=>zj sz agg cs len 0 | _=>none) else none
 | p=>AR p
@[simp] theorem c7M (o:Bool) (es:List PV):Dv h (.list o es)=some es:=rfl
@[simp] theorem c7N:Dv h .nils=some []:=rfl
@[simp] theorem c7O:Dv h .void=some []:=rfl
theorem c3c (x:PX):b1Q ⟨V,l,g,h⟩ x=match rd ⟨V,l,g,h⟩ x with | some v=>Dv h v | none=>none:=by
 unfold b1Q
 cases rd ⟨V,l,g,h⟩ x with
 | none=>rfl
 | some v => cases v <;> try rfl
             rename_i n sz agg len
             simp only[Dv]
             split
             ·simp only[xh]
              cases h[n]? with
              | none=>rfl
              | some o=>cases o<;>rfl
             ·rfl
def Ax (h:List PObj) (size:Nat) (agg:Bool) (bytes:Nat) (xs:List PV) (v:PV) (st:St):Option (PV×St):=
 match v with
 | .rowp n sz ag len =>
   match h[n]? with
   | some (.cells cs) =>
     if sz=size∧ag=agg∧len*size≤cs.length∧xf size xs∧len+xs.length≤2147483648∧bytes≤16384 then
      some (.rowp h.length size agg (len+xs.length),{ st with heap:=h.set n .gone++[.cells ((cs.take (len*size)).map dem++(xs.flatMap PV.cells).map dem)] })
     else none
   | _=>none
 | .list true [] =>
   if xs=[] then some (.list true [],st)
   else if xf size xs∧xs.length≤2147483648∧bytes≤16384 then
    some (.rowp h.length size agg xs.length,{ st with heap:=h++[.cells ((xs.flatMap PV.cells).map dem)] })
   else none
 | .nils =>
   if xs=[] then some (.nils,st)
   else if xf size xs∧xs.length≤2147483648∧bytes≤16384 then
    some (.rowp h.length size agg xs.length,{ st with heap:=h++[.cells ((xs.flatMap PV.cells).map dem)] })
   else none
 | _=>none
@[simp] theorem c7P (v:PV):(some v).bind AR=AR v:=rfl
@[simp] theorem c7Q (o:Bool) (es:List PV):AR (.list o es)=some es:=rfl
@[simp] theorem d1U (s:Nat) (agg:Bool) (b:Nat) (a x:PX):opv cf (.h (.happ s agg b a x)) ⟨V,l,g,h⟩=match (match rd ⟨V,l,g,h⟩ x with | some v=>Dv h v | none=>none),raw ⟨V,l,g,h⟩ a with
  | some xs,some v=>Ax h s agg b xs v ⟨V,l,g,h⟩
  | _,_=>none:=by
 simp only[opv,wo,c3c]
 cases (match rd ⟨V,l,g,h⟩ x with | some v=>Dv h v | none=>none) with
 | none=>rfl
 | some xs => cases raw ⟨V, l, g, h⟩ a with
   | none=>rfl
   | some v => cases v <;> try rfl
               rename_i o es
               cases o<;>try rfl
               cases es<;>rfl
@[simp] theorem d0b (s:Nat) (agg:Bool) (b:Nat) (z:List PV) (a x:PX):opv cf (.h (.happz s agg b z a x)) ⟨V,l,g,h⟩=match rdInt ⟨V,l,g,h⟩ x,rd ⟨V,l,g,h⟩ a with
  | some n,some .nils=>if 0<n∧n≤2147483648∧b≤16384 then some (.rowp h.length s agg n.toNat,⟨V,l,g,h++[.cells (List.replicate n.toNat (z.map dem)).flatten]⟩) else none
  | _,_=>none:=rfl
@[simp] theorem c6a (n sz:Nat) (a:Bool) (off len:Nat):Ew (.rows n sz a off len)=some (n,sz,off):=rfl
@[simp] theorem c6b (n sz:Nat) (a:Bool) (len:Nat):Ew (.rowp n sz a len)=some (n,sz,0):=rfl
@[simp] theorem d0c (s:Nat) (x:PX):opv cf (.h (.clear s x)) ⟨V,l,g,h⟩=match (match rd ⟨V,l,g,h⟩ x with | some v=>Ew v | none=>none) with
  | some (n, sz, off) =>
    match h[n]? with
    | some (.cells cs)=>if sz=s∧off*s≤cs.length then some (.dead,⟨V,l,g,h.set n (.cells (cs.take (off*s)))⟩) else none
    | _=>none
  | _=>none:=by
 simp only[opv,wo]
 cases rd ⟨V,l,g,h⟩ x with
 | none=>rfl
 | some v=>rfl
@[simp] theorem d0d (s:Nat) (agg:Bool) (b:Nat) (z:List PV) (x:PX):opv cf (.h (.mkarr s agg b z x)) ⟨V,l,g,h⟩=match rdInt ⟨V,l,g,h⟩ x with
  | some n=>if 0≤n∧b*n≤281474976710656∧n≤9223372036854775807 then some (.rowp h.length s agg n.toNat,⟨V,l,g,h++[.cells (List.replicate n.toNat z).flatten]⟩) else none
  | none=>none:=rfl
@[simp] theorem d0e (x:PX):opv cf (.h (.range x)) ⟨V,l,g,h⟩=match rd ⟨V,l,g,h⟩ x with
  | some (.str s)=>some (.ptr h.length 0,⟨V,l,g,h++[.siter s 0]⟩)
  | _=>none:=rfl
@[simp] theorem d1V (x:PX):opv cf (.h (.next x)) ⟨V,l,g,h⟩=match rd ⟨V,l,g,h⟩ x with
  | some (.ptr n 0) =>
    match h[n]? with
    | some (.siter s pos) =>
      if pos<s.length then some (.tuple [.bool true,.int .i64 pos,.int .i32 (Go.Utf8.decode ⟨s.toArray⟩ pos).1],⟨V,l,g,h.set n (.siter s (pos+(Go.Utf8.decode ⟨s.toArray⟩ pos).2))⟩)
      else some (.tuple [.bool false],⟨V,l,g,h⟩)
    | _=>none
  | _=>none:=rfl
@[simp] theorem d0f:opv cf (.h .mkmap) ⟨V,l,g,h⟩=some (.map (some h.length),⟨V,l,g,h++[.map []]⟩):=rfl
@[simp] theorem d0g (s:Nat) (agg:Bool) (a:PX) (t:Bool):opv cf (.h (.load s agg a t)) ⟨V,l,g,h⟩=match addr ⟨V,l,g,h⟩ a with
  | some (.cptr cs)=>sv (wz s agg cs 0) ⟨V,l,g,h⟩
  | some (.ptr n off) =>
    match h[n]? with
    | some (.cells cs) =>
      match t && !agg,cs[off]? with
      | true,some (.list true es)=>some (.list true es,⟨V,l,g,h.set n (.cells (cs.set off (.list false es)))⟩)
      | _,_=>sv (wz s agg cs off) ⟨V,l,g,h⟩
    | _=>none
  | _=>none:=by
 simp only[opv,wo,AQ]
 cases addr ⟨V,l,g,h⟩ a with
 | none=>rfl
 | some p =>
   cases p<;>try rfl
   simp only[Pu]
   rename_i n off
   cases h[n]? with
   | none=>rfl
   | some o=>cases o<;>rfl
@[simp] theorem c6c (s:Nat) (agg:Bool) (a x:PX):opv cf (.h (.storer s agg a x)) ⟨V,l,g,h⟩=match addr ⟨V,l,g,h⟩ a,rd ⟨V,l,g,h⟩ x with
  | some (.ptr n off), some v => if FR v then none else (match h[n]? with
    | some (.cells cs)=>(match wS s agg cs off v with | some cs=>some (.dead,⟨V,l,g,h.set n (.cells cs)⟩) | none=>none)
    | _=>none)
  | _,_=>none:=by
 simp only[opv,wo]
 cases addr ⟨V,l,g,h⟩ a with
 | none=>rfl
 | some p =>
   cases p<;>try rfl
   rename_i n off
   cases rd ⟨V,l,g,h⟩ x with
   | none=>rfl
   | some v =>
     simp only
     split
     ·rfl
     ·simp only[xh]
      cases h[n]? with
      | none=>rfl
      | some ob =>
        cases ob<;>try rfl
        rename_i cs
        simp only[aw]
        cases wS s agg cs off v<;>rfl
@[simp] theorem c7R (s:Nat) (agg:Bool) (a x:PX):opv cf (.h (.store s agg a x)) ⟨V,l,g,h⟩=match addr ⟨V,l,g,h⟩ a,tk ⟨V,l,g,h⟩ x with
  | some (.ptr n off), some (v, ⟨V, l, g, h⟩) =>
    match h[n]? with
    | some (.cells cs)=>(match wS s agg cs off v with | some cs=>some (.dead,⟨V,l,g,h.set n (.cells cs)⟩) | none=>none)
    | _=>none
  | _,_=>none:=by
 simp only[opv,wo]
 cases addr ⟨V,l,g,h⟩ a with
 | none=>rfl
 | some p =>
   cases p<;>try rfl
   cases tk ⟨V,l,g,h⟩ x with
   | none=>rfl
   | some r =>
     obtain⟨v,⟨V2,l2,g2,h2⟩⟩:=r
     simp only[Pu]
     rename_i n off
     cases h2[n]? with
     | none=>rfl
     | some o =>
       cases o<;>try rfl
       rename_i cs
       simp only[aw]
       cases wS s agg cs off v<;>rfl
@[simp] theorem c7S (n' s:Nat) (x i:PX):opv cf (.h (.iaddr n' s x i)) ⟨V,l,g,h⟩=match addr ⟨V,l,g,h⟩ x,rdInt ⟨V,l,g,h⟩ i with
  | some (.ptr n o),some k=>if 0≤k∧k<n' then some (.ptr n (o+k.toNat*s),⟨V,l,g,h⟩) else none
  | _,_=>none:=rfl
def CV (ok take:Bool) (zero:PV) (n:Option Nat) (es:List (PV×PV)) (st:St):Option (Nat×PV)→Option (PV×St)
 | some (i, v) =>
   if take && !ok&&FS v then some (v,wT st (n.getD 0) (.map (es.modify i λe=>(e.1,dem e.2))))
   else some (if ok then .tuple [dem v,.bool true] else dem v,st)
 | none=>some (if ok then .tuple [zero,.bool false] else zero,st)
@[simp] theorem c6d (ok take:Bool) (zero:PV) (n:Option Nat) (es:List (PV×PV)) (st:St):CV ok take zero n es st none=some (if ok then .tuple [zero,.bool false] else zero,st):=rfl
@[simp] theorem c6e (ok:Bool) (zero:PV) (n:Option Nat) (es:List (PV×PV)) (st:St) (i:Nat) (v:PV):CV ok false zero n es st (some (i,v))=some (if ok then .tuple [dem v,.bool true] else dem v,st):=by
 simp[CV]
@[simp] theorem c6f (zero:PV) (n:Nat) (es:List (PV×PV)) (i:Nat) (v:PV):CV false true zero (some n) es ⟨V,l,g,h⟩ (some (i,v))=if FS v then some (v,⟨V,l,g,h.set n (.map (es.modify i λe=>(e.1,dem e.2)))⟩) else some (dem v,⟨V,l,g,h⟩):=by
 simp[CV]
@[simp] theorem c7T (ok take kagg:Bool) (ks:List EK) (zero:PV) (m x:PX):opv cf (.h (.lookup ok take kagg ks zero m x)) ⟨V,l,g,h⟩=match rd ⟨V,l,g,h⟩ m,rd ⟨V,l,g,h⟩ x with
  | some (.map n), some k =>
    match wZ ⟨V,l,g,h⟩ n with
    | some es=>(match xN kagg ks k es 0 with | some r=>CV ok take zero n es ⟨V,l,g,h⟩ r | none=>none)
    | none=>none
  | _,_=>none:=by
 simp only[opv,wo]
 cases rd ⟨V,l,g,h⟩ m with
 | none=>rfl
 | some p =>
   cases p<;>try rfl
   rename_i n
   cases rd ⟨V,l,g,h⟩ x with
   | none=>rfl
   | some k =>
     simp only
     cases wZ ⟨V,l,g,h⟩ n with
     | none=>rfl
     | some es =>
       simp only[aw]
       cases xN kagg ks k es 0 with
       | none=>rfl
       | some r=>cases r<;>rfl
def Fs (es:List (PV×PV)) (k v:PV):Option (Nat×PV)→List (PV×PV)
 | some (i,_)=>es.set i (k,v)
 | none=>es++[(k,v)]
@[simp] theorem c4r (es:List (PV×PV)) (k v:PV):Fs es k v none=es++[(k,v)]:=rfl
@[simp] theorem b6m (es:List (PV×PV)) (k v:PV) (i:Nat) (u:PV):Fs es k v (some (i,u))=es.set i (k,v):=rfl
@[simp] theorem d1W (kagg:Bool) (ks:List EK) (m k v:PX):opv cf (.h (.mset kagg ks m k v)) ⟨V,l,g,h⟩=match rd ⟨V,l,g,h⟩ m,rd ⟨V,l,g,h⟩ k,tk ⟨V,l,g,h⟩ v with
  | some (.map (some n)), some k, some (v, ⟨V, l, g, h⟩) =>
    match h[n]? with
    | some (.map es)=>(match xN kagg ks k es 0 with | some r=>some (.dead,⟨V,l,g,h.set n (.map (Fs es k v r))⟩) | none=>none)
    | _=>none
  | _,_,_=>none:=by
 simp only[opv,wo]
 cases rd ⟨V,l,g,h⟩ m with
 | none=>rfl
 | some p =>
   cases p<;>try rfl
   rename_i n
   cases n with
   | none=>rfl
   | some n=>
   cases rd ⟨V,l,g,h⟩ k with
   | none=>rfl
   | some k =>
     cases tk ⟨V,l,g,h⟩ v with
     | none=>rfl
     | some r =>
       obtain⟨v,⟨V2,l2,g2,h2⟩⟩:=r
       simp only[c1e]
       cases h2[n]? with
       | none=>rfl
       | some o =>
         cases o<;>try rfl
         rename_i es
         simp only[aw]
         cases xN kagg ks k es 0 with
         | none=>rfl
         | some r=>cases r<;>rfl
@[simp] theorem d1X (m:PX):opv cf (.h (.mlen m)) ⟨V,l,g,h⟩=match rd ⟨V,l,g,h⟩ m with
  | some (.map n)=>(match wZ ⟨V,l,g,h⟩ n with | some es=>some (.int .i64 es.length,⟨V,l,g,h⟩) | none=>none)
  | _=>none:=by
 simp only[opv,wo]
 cases rd ⟨V,l,g,h⟩ m with
 | none=>rfl
 | some p => cases p <;> try rfl
             rename_i n; simp only; cases wZ ⟨V,l,g,h⟩ n<;>rfl
@[simp] theorem c7U (k:Nat) (a b:List PX):opv cf (.h (.mkfunc k a b)) ⟨V,l,g,h⟩=match xW ⟨V,l,g,h⟩ a with
  | some (f,st)=>(match xW st b with | some (c,st)=>some (.func k f c,st) | none=>none)
  | none=>none:=by
 simp only[opv,wo]
 cases xW ⟨V,l,g,h⟩ a with
 | none=>rfl
 | some r=>simp only[aw]; cases xW r.2 b<;>rfl
@[simp] theorem d0h (kd:Nat) (neg:Bool) (x:PX):opv cf (.h (.isnil kd neg x)) ⟨V,l,g,h⟩=match rd ⟨V,l,g,h⟩ x with
  | some p=>(match Ct kd p with | some b=>some (.bool (if neg then !b else b),⟨V,l,g,h⟩) | none=>none)
  | none=>none:=by
 simp only[opv,wo]
 cases rd ⟨V,l,g,h⟩ x with
 | none=>rfl
 | some p=>simp only[aw]; cases Ct kd p<;>rfl
@[simp] theorem c7V (x:PX):opv cf (.h (.nilchk x)) ⟨V,l,g,h⟩=match addr ⟨V,l,g,h⟩ x with
  | some (.ptr n o)=>some (.ptr n o,⟨V,l,g,h⟩)
  | some (.cptr cs)=>some (.cptr cs,⟨V,l,g,h⟩)
  | some (.lptr s g0 o)=>some (.lptr s g0 o,⟨V,l,g,h⟩)
  | _=>none:=rfl
@[simp] theorem d0i (s:Nat) (agg:Bool) (a:PX):opv cf (.h (.loadc s agg a)) ⟨V,l,g,h⟩=match rd ⟨V,l,g,h⟩ a with
  | some (.cptr cs)=>sv (wz s agg cs 0) ⟨V,l,g,h⟩
  | _=>none:=by
 simp only[opv,wo,AQ]; rfl
@[simp] theorem d1Y (z:List PV) (ps:List (Nat×Nat×PX)):opv cf (.h (.barr z ps)) ⟨V,l,g,h⟩=match rdParts ⟨V,l,g,h⟩ ps with
  | some es=>(match Bf z es with | some cs=>some (.agg cs,⟨V,l,g,h⟩) | none=>none)
  | none=>none:=by
 simp only[opv,wo]; cases rdParts ⟨V,l,g,h⟩ ps<;>simp; rename_i es; cases Bf z es<;>rfl
@[simp] theorem d1Z (n s:Nat) (agg:Bool) (x i:PX):opv cf (.h (.idxA n s agg x i)) ⟨V,l,g,h⟩=match rd ⟨V,l,g,h⟩ x,rdInt ⟨V,l,g,h⟩ i with
  | some v,some k=>(match An v with | some cs=>if 0≤k∧k<n then sv (wz s agg cs (k.toNat*s)) ⟨V,l,g,h⟩ else none | none=>none)
  | _,_=>none:=by
 simp only[opv,wo,AQ]
 cases rd ⟨V,l,g,h⟩ x with
 | none=>rfl
 | some v=>cases v<;>(cases rdInt ⟨V,l,g,h⟩ i<;>rfl)
@[simp] theorem d0j (k:Nat) (args:List PX):opv cf (.h (.call k args)) ⟨V,l,g,h⟩=match rdAll ⟨V,l,g,h⟩ args with
  | some vs=>(match cf k vs h with | some (r,h)=>some (dem r,⟨V,l,g,h⟩) | none=>none)
  | none=>none:=by
 simp only[opv,wo]
 cases rdAll ⟨V,l,g,h⟩ args with
 | none=>rfl
 | some vs=>simp only[aw]; cases cf k vs h<;>rfl
@[simp] theorem c7W (k:Nat) (args:List PX):opv cf (.h (.lcall k args)) ⟨V,l,g,h⟩=match rdAll ⟨V,l,g,h⟩ args with
  | some vs=>(match AS h vs with | some ws=>(if wK ws then(match cf k ws [] with | some (r,_)=>(if Ae r then some (dem r,⟨V,l,g,h⟩) else none) | none=>none) else none) | none=>none)
  | none=>none:=by
 simp only[opv,wo,Cu]
 cases rdAll ⟨V,l,g,h⟩ args with
 | none=>rfl
 | some vs =>
   simp only[aw,Cu]
   cases AS h vs with
   | none=>rfl
   | some ws=>simp only[aw]; cases cf k ws []<;>rfl
@[simp] theorem c7X (k:Nat) (args:List PX):opv cf (.h (.rcall k args)) ⟨V,l,g,h⟩=match rdAll ⟨V,l,g,h⟩ args with
  | some vs=>(match cf k vs h with | some (r,h')=>same ⟨V,l,g,h⟩ (r,h') | none=>none)
  | none=>none:=by
 simp only[opv,wo]
 cases rdAll ⟨V,l,g,h⟩ args with
 | none=>rfl
 | some vs=>simp only[aw]; cases cf k vs h<;>rfl
@[simp] theorem d2Z (r:PV):same ⟨V,l,g,h⟩ (r,h)=some (dem r,⟨V,l,g,h⟩):=by simp[same]
@[simp] theorem c7Y (x:PX) (args:List PX):opv cf (.h (.callv x args)) ⟨V,l,g,h⟩=match rd ⟨V,l,g,h⟩ x,rdAll ⟨V,l,g,h⟩ args with
  | some (.func k f c),some vs=>(match cf k (f++vs++c) h with | some (r,h)=>some (dem r,⟨V,l,g,h⟩) | none=>none)
  | _,_=>none:=by
 simp only[opv,wo]
 cases rd ⟨V,l,g,h⟩ x with
 | none=>rfl
 | some p =>
   cases p<;>try rfl
   rename_i k f c
   cases rdAll ⟨V,l,g,h⟩ args with
   | none=>rfl
   | some vs=>simp only; cases cf k (f++vs++c) h<;>rfl
@[simp] theorem d0k (x:PX) (args:List PX):opv cf (.callv x args) ⟨V,l,g,h⟩=match rd ⟨V,l,g,h⟩ x,rdAll ⟨V,l,g,h⟩ args with
  | some (.func k f c),some vs=>if wK (f++vs++c) then(match cf k (f++vs++c) [] with | some (r,_)=>if wN r then some (dem r,⟨V,l,g,h⟩) else none | none=>none) else none
  | _,_=>none:=by
 simp only[opv]
 cases rd ⟨V,l,g,h⟩ x with
 | none=>rfl
 | some p =>
   cases p<;>try rfl
attribute [simp] Ct vague
@[simp] theorem d0l (str:Bool) (s:Nat) (x:PX) (lo hi:Option PX):opv cf (.slice str s x lo hi) ⟨V,l,g,h⟩=match str,rd ⟨V,l,g,h⟩ x with
  | true,some (.str t)=>(match bound ⟨V,l,g,h⟩ hi t.length t.length with | some b=>(match bound ⟨V,l,g,h⟩ lo 0 b with | some a=>some (.str ((t.take b).drop a),⟨V,l,g,h⟩) | none=>none) | none=>none)
  | false,some (.list _ es)=>if xf s es then(match bound ⟨V,l,g,h⟩ hi es.length es.length with | some b=>(match bound ⟨V,l,g,h⟩ lo 0 b with | some a=>some (.list false ((es.take b).drop a),⟨V,l,g,h⟩) | none=>none) | none=>none) else none
  | false,some .nils=>(match bound ⟨V,l,g,h⟩ hi 0 0 with | some b=>(match bound ⟨V,l,g,h⟩ lo 0 b with | some a=>some (.nils,⟨V,l,g,h⟩) | none=>none) | none=>none)
  | false,some (.rowp n sz agg len)=>if sz=s then(match bound ⟨V,l,g,h⟩ hi len len with | some b=>(match bound ⟨V,l,g,h⟩ lo 0 b with | some a=>some (if a=0 then .rowp n sz agg b else .rows n sz agg a (b - a),⟨V,l,g,h⟩) | none=>none) | none=>none) else none
  | _,_=>none:=by
 simp only[opv]
 cases str
 ·cases rd ⟨V,l,g,h⟩ x with
  | none=>rfl
  | some p =>
    cases p<;>try rfl
    all_goals simp only
    all_goals first
     | (split
        ·cases bound ⟨V,l,g,h⟩ hi _ _ with
         | none=>rfl
         | some b=>simp only[aw]; cases bound ⟨V,l,g,h⟩ lo 0 b<;>rfl
        ·rfl)
     | (cases bound ⟨V, l, g, h⟩ hi _ _ with
        | none=>rfl
        | some b=>simp only[aw]; cases bound ⟨V,l,g,h⟩ lo 0 b<;>rfl)
 ·cases rd ⟨V,l,g,h⟩ x with
  | none=>rfl
  | some p =>
    cases p<;>try rfl
    simp only
    cases bound ⟨V,l,g,h⟩ hi _ _ with
    | none=>rfl
    | some b=>simp only[aw]; cases bound ⟨V,l,g,h⟩ lo 0 b<;>rfl
end
end PI
