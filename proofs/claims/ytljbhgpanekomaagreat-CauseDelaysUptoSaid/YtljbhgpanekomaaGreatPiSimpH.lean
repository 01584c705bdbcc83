import Derived.Test.YtljbhgpanekomaaGreatPiSimp
set_option linter.unusedSectionVars false
namespace PI
open Go (IntKind BinOp UnOp)
section
variable {cf:wm} {V l:List PV} {g:Nat} {h:List PObj} {L:Nat→Option PFunc}
@[simp] theorem QZ (n:Nat):wR ⟨V,l,g,h⟩ n=match h[n]? with | some (.cells cs)=>some cs | _=>none:=rfl
@[simp] theorem d15:w8 ⟨V,l,g,h⟩ none=some []:=rfl
@[simp] theorem c2W (n:Nat):w8 ⟨V,l,g,h⟩ (some n)=match h[n]? with | some (.map es)=>some es | _=>none:=rfl
@[simp] theorem d5d (n:Nat) (o:PObj):wG ⟨V,l,g,h⟩ n o=⟨V,l,g,h.set n o⟩:=rfl
@[simp] theorem d5z (i:Nat):zI ⟨V,l,g,h⟩ (.v i)=match V[i]? with
  | some (.loc _ cs)=>some (.cptr (cs.map dem),⟨V.set i (.cptr (cs.map dem)),l,g,h⟩)
  | some v=>sv (cp v) ⟨V,l,g,h⟩
  | none=>none:=by
 simp only[zI,raw,rd]
 cases V[i]? with
 | none=>rfl
 | some v=>cases v<;>rfl
@[simp] theorem d5A (p:PV):zI ⟨V,l,g,h⟩ (.c p)=sv (cp p) ⟨V,l,g,h⟩:=by simp only[zI,rd,raw,an,A8]
@[simp] theorem d5B (i:Nat):zI ⟨V,l,g,h⟩ (.l i)=sv (rd ⟨V,l,g,h⟩ (.l i)) ⟨V,l,g,h⟩:=by simp only[zI,A8]
@[simp] theorem d16 (st:St):xW st []=some ([],st):=rfl
@[simp] theorem c9E (x:PX) (xs:List PX):xW ⟨V,l,g,h⟩ (x::xs)=match zI ⟨V,l,g,h⟩ x with
  | some (v,st)=>(match xW st xs with | some (vs,st)=>some (v::vs,st) | none=>none)
  | none=>none:=by
 simp only[xW]
 cases zI ⟨V,l,g,h⟩ x with
 | none=>rfl
 | some r=>simp only[an]; cases xW r.2 xs<;>rfl
@[simp] theorem c9F (z:List PV):opv cf (.h (.newobj z)) ⟨V,l,g,h⟩=some (.ptr h.length 0,⟨V,l,g,h++[.cells z]⟩):=rfl
@[simp] theorem c9G (s:Nat) (x:PX):opv cf (.h (.boxobj s x)) ⟨V,l,g,h⟩=match rd ⟨V,l,g,h⟩ x with
  | some v=>if v.cells.length=s then some (.ptr h.length 0,⟨V,l,g,h++[.cells v.cells]⟩) else none
  | none=>none:=rfl
@[simp] theorem c9H:opv cf (.h .newbld) ⟨V,l,g,h⟩=some (.ptr h.length 0,⟨V,l,g,h++[.bld []]⟩):=rfl
def DM (h:List PObj):PV→Option (List PV)
 | .rowp n sz agg len=>if agg=true∨sz=1 then(match h[n]? with | some (.cells cs)=>yF sz agg cs len 0 | _=>none) else none
 | p=>Bb p
@[simp] theorem c9I (o:Bool) (es:List PV):DM h (.list o es)=some es:=rfl
@[simp] theorem c9J:DM h .nils=some []:=rfl
@[simp] theorem c9K:DM h .void=some []:=rfl
theorem c47 (x:PX):b2G ⟨V,l,g,h⟩ x=match rd ⟨V,l,g,h⟩ x with | some v=>DM h v | none=>none:=by
 unfold b2G
 cases rd ⟨V,l,g,h⟩ x with
 | none=>rfl
 | some v => cases v <;> try rfl
             rename_i n sz agg len
             simp only[DM]
             split
             ·simp only[wR]
              cases h[n]? with
              | none=>rfl
              | some o=>cases o<;>rfl
             ·rfl
def AL (h:List PObj) (size:Nat) (agg:Bool) (bytes:Nat) (xs:List PV) (v:PV) (st:St):Option (PV×St):=
 match v with
 | .rowp n sz ag len =>
   match h[n]? with
   | some (.cells cs) =>
     if sz=size∧ag=agg∧len*size≤cs.length∧w6 size xs∧len+xs.length≤2147483648∧bytes≤16384 then
      some (.rowp h.length size agg (len+xs.length),{ st with heap:=h.set n .gone++[.cells ((cs.take (len*size)).map dem++(xs.flatMap PV.cells).map dem)] })
     else none
   | _=>none
 | .list true [] =>
   if xs=[] then some (.list true [],st)
   else if w6 size xs∧xs.length≤2147483648∧bytes≤16384 then
    some (.rowp h.length size agg xs.length,{ st with heap:=h++[.cells ((xs.flatMap PV.cells).map dem)] })
   else none
 | .nils =>
   if xs=[] then some (.nils,st)
   else if w6 size xs∧xs.length≤2147483648∧bytes≤16384 then
    some (.rowp h.length size agg xs.length,{ st with heap:=h++[.cells ((xs.flatMap PV.cells).map dem)] })
   else none
 | _=>none
@[simp] theorem c9L (v:PV):(some v).bind Bb=Bb v:=rfl
@[simp] theorem c9M (o:Bool) (es:List PV):Bb (.list o es)=some es:=rfl
@[simp] theorem d30 (s:Nat) (agg:Bool) (b:Nat) (a x:PX):opv cf (.h (.happ s agg b a x)) ⟨V,l,g,h⟩=match (match rd ⟨V,l,g,h⟩ x with | some v=>DM h v | none=>none),raw ⟨V,l,g,h⟩ a with
  | some xs,some v=>AL h s agg b xs v ⟨V,l,g,h⟩
  | _,_=>none:=by
 simp only[opv,wi,c47]
 cases (match rd ⟨V,l,g,h⟩ x with | some v=>DM h v | none=>none) with
 | none=>rfl
 | some xs => cases raw ⟨V, l, g, h⟩ a with
   | none=>rfl
   | some v => cases v <;> try rfl
               rename_i o es
               cases o<;>try rfl
               cases es<;>rfl
@[simp] theorem d17 (s:Nat) (agg:Bool) (b:Nat) (z:List PV) (a x:PX):opv cf (.h (.happz s agg b z a x)) ⟨V,l,g,h⟩=match rdInt ⟨V,l,g,h⟩ x,rd ⟨V,l,g,h⟩ a with
  | some n,some .nils=>if 0<n∧n≤2147483648∧b≤16384 then some (.rowp h.length s agg n.toNat,⟨V,l,g,h++[.cells (List.replicate n.toNat (z.map dem)).flatten]⟩) else none
  | _,_=>none:=rfl
@[simp] theorem c77 (n sz:Nat) (a:Bool) (off len:Nat):EU (.rows n sz a off len)=some (n,sz,off):=rfl
@[simp] theorem c78 (n sz:Nat) (a:Bool) (len:Nat):EU (.rowp n sz a len)=some (n,sz,0):=rfl
@[simp] theorem d18 (s:Nat) (x:PX):opv cf (.h (.clear s x)) ⟨V,l,g,h⟩=match (match rd ⟨V,l,g,h⟩ x with | some v=>EU v | none=>none) with
  | some (n, sz, off) =>
    match h[n]? with
    | some (.cells cs)=>if sz=s∧off*s≤cs.length then some (.dead,⟨V,l,g,h.set n (.cells (cs.take (off*s)))⟩) else none
    | _=>none
  | _=>none:=by
 simp only[opv,wi]
 cases rd ⟨V,l,g,h⟩ x with
 | none=>rfl
 | some v=>rfl
@[simp] theorem c79 (s:Nat) (agg:Bool) (b:Nat) (z:List PV) (x:PX):opv cf (.h (.mkfresh s agg b z x)) ⟨V,l,g,h⟩=match rdInt ⟨V,l,g,h⟩ x with
  | some n=>if 0≤n∧b*n≤281474976710656∧n≤9223372036854775807 then some (.fresh s agg n.toNat (List.replicate n.toNat (z.map dem)).flatten,⟨V,l,g,h⟩) else none
  | none=>none:=rfl
@[simp] theorem c9N (js:List Nat) (z:List PV) (ps:List (Nat×Nat×PX)):opv cf (.h (.buildA js z ps)) ⟨V,l,g,h⟩=(adoptAll js ⟨V,l,g,h⟩).bind λst=>((rdParts st ps).bind (Ag z)).map λcs=>(.agg cs,st):=rfl
@[simp] theorem d19 (a:PX):opv cf (.h (.loadn a)) ⟨V,l,g,h⟩=match addr ⟨V,l,g,h⟩ a with
  | some (.ptr n off) => (wR ⟨V, l, g, h⟩ n).bind fun cs => match cs[off]? with
    | some (.list true es)=>some (.list true es,wG ⟨V,l,g,h⟩ n (.cells (cs.set off (.list false es))))
    | some .nils=>some (.list true [],⟨V,l,g,h⟩)
    | _=>none
  | _=>none:=rfl
@[simp] theorem d2a (s:Nat) (agg:Bool) (z:PV) (len:Nat) (ps:List (Nat×PX)):opv cf (.h (.mkrow s agg z len ps)) ⟨V,l,g,h⟩=((rdElems ⟨V,l,g,h⟩ ps).bind (AH s (List.replicate len z))).map λes=>(.rowp h.length s agg es.length,⟨V,l,g,h++[.cells ((es.flatMap PV.cells).map dem)]⟩):=rfl
@[simp] theorem d2b (s:Nat) (agg:Bool) (b:Nat) (z:List PV) (x:PX):opv cf (.h (.mkarr s agg b z x)) ⟨V,l,g,h⟩=match rdInt ⟨V,l,g,h⟩ x with
  | some n=>if 0≤n∧b*n≤281474976710656∧n≤9223372036854775807 then some (.rowp h.length s agg n.toNat,⟨V,l,g,h++[.cells (List.replicate n.toNat z).flatten]⟩) else none
  | none=>none:=rfl
@[simp] theorem d2c (x:PX):opv cf (.h (.range x)) ⟨V,l,g,h⟩=match rd ⟨V,l,g,h⟩ x with
  | some (.str s)=>some (.ptr h.length 0,⟨V,l,g,h++[.siter s 0]⟩)
  | _=>none:=rfl
@[simp] theorem d31 (x:PX):opv cf (.h (.next x)) ⟨V,l,g,h⟩=match rd ⟨V,l,g,h⟩ x with
  | some (.ptr n 0) =>
    match h[n]? with
    | some (.siter s pos) =>
      if pos<s.length then some (.tuple [.bool true,.int .i64 pos,.int .i32 (Go.Utf8.decode ⟨s.toArray⟩ pos).1],⟨V,l,g,h.set n (.siter s (pos+(Go.Utf8.decode ⟨s.toArray⟩ pos).2))⟩)
      else some (.tuple [.bool false],⟨V,l,g,h⟩)
    | _=>none
  | _=>none:=rfl
@[simp] theorem d2d:opv cf (.h .mkmap) ⟨V,l,g,h⟩=some (.map (some h.length),⟨V,l,g,h++[.map []]⟩):=rfl
@[simp] theorem d2e (s:Nat) (agg:Bool) (a:PX) (t:Bool):opv cf (.h (.load s agg a t)) ⟨V,l,g,h⟩=match addr ⟨V,l,g,h⟩ a with
  | some (.cptr cs)=>sv (wq s agg cs 0) ⟨V,l,g,h⟩
  | some (.ptr n off) =>
    match h[n]? with
    | some (.cells cs) =>
      match t && !agg,cs[off]? with
      | true,some (.list true es)=>some (.list true es,⟨V,l,g,h.set n (.cells (cs.set off (.list false es)))⟩)
      | _,_=>sv (wq s agg cs off) ⟨V,l,g,h⟩
    | _=>none
  | _=>none:=by
 simp only[opv,wi,A8]
 cases addr ⟨V,l,g,h⟩ a with
 | none=>rfl
 | some p =>
   cases p<;>try rfl
   simp only[QZ]
   rename_i n off
   cases h[n]? with
   | none=>rfl
   | some o=>cases o<;>rfl
@[simp] theorem c8a (s:Nat) (agg:Bool) (a x:PX):opv cf (.h (.storer s agg a x)) ⟨V,l,g,h⟩=match addr ⟨V,l,g,h⟩ a,rd ⟨V,l,g,h⟩ x with
  | some (.ptr n off), some v => if Gt v then none else (match h[n]? with
    | some (.cells cs)=>(match wO s agg cs off v with | some cs=>some (.dead,⟨V,l,g,h.set n (.cells cs)⟩) | none=>none)
    | _=>none)
  | _,_=>none:=by
 simp only[opv,wi]
 cases addr ⟨V,l,g,h⟩ a with
 | none=>rfl
 | some p =>
   cases p<;>try rfl
   rename_i n off
   cases rd ⟨V,l,g,h⟩ x with
   | none=>rfl
   | some v =>
     simp only
     split
     ·rfl
     ·simp only[wR]
      cases h[n]? with
      | none=>rfl
      | some ob =>
        cases ob<;>try rfl
        rename_i cs
        simp only[an]
        cases wO s agg cs off v<;>rfl
@[simp] theorem c9O (s:Nat) (agg:Bool) (a x:PX):opv cf (.h (.store s agg a x)) ⟨V,l,g,h⟩=match addr ⟨V,l,g,h⟩ a,tk ⟨V,l,g,h⟩ x with
  | some (.ptr n off), some (v, ⟨V, l, g, h⟩) =>
    match h[n]? with
    | some (.cells cs)=>(match wO s agg cs off v with | some cs=>some (.dead,⟨V,l,g,h.set n (.cells cs)⟩) | none=>none)
    | _=>none
  | _,_=>none:=by
 simp only[opv,wi]
 cases addr ⟨V,l,g,h⟩ a with
 | none=>rfl
 | some p =>
   cases p<;>try rfl
   cases tk ⟨V,l,g,h⟩ x with
   | none=>rfl
   | some r =>
     obtain⟨v,⟨V2,l2,g2,h2⟩⟩:=r
     simp only[QZ]
     rename_i n off
     cases h2[n]? with
     | none=>rfl
     | some o =>
       cases o<;>try rfl
       rename_i cs
       simp only[an]
       cases wO s agg cs off v<;>rfl
@[simp] theorem c9P (n' s:Nat) (x i:PX):opv cf (.h (.iaddr n' s x i)) ⟨V,l,g,h⟩=match addr ⟨V,l,g,h⟩ x,rdInt ⟨V,l,g,h⟩ i with
  | some (.ptr n o),some k=>if 0≤k∧k<n' then some (.ptr n (o+k.toNat*s),⟨V,l,g,h⟩) else none
  | _,_=>none:=rfl
def CW (ok take:Bool) (zero:PV) (n:Option Nat) (es:List (PV×PV)) (st:St):Option (Nat×PV)→Option (PV×St)
 | some (i, v) =>
   if take && !ok&&Gu v then some (v,wG st (n.getD 0) (.map (es.modify i λe=>(e.1,dem e.2))))
   else some (if ok then .tuple [dem v,.bool true] else dem v,st)
 | none=>some (if ok then .tuple [zero,.bool false] else zero,st)
@[simp] theorem c8b (ok take:Bool) (zero:PV) (n:Option Nat) (es:List (PV×PV)) (st:St):CW ok take zero n es st none=some (if ok then .tuple [zero,.bool false] else zero,st):=rfl
@[simp] theorem c8c (ok:Bool) (zero:PV) (n:Option Nat) (es:List (PV×PV)) (st:St) (i:Nat) (v:PV):CW ok false zero n es st (some (i,v))=some (if ok then .tuple [dem v,.bool true] else dem v,st):=by
 simp[CW]
@[simp] theorem c8d (zero:PV) (n:Nat) (es:List (PV×PV)) (i:Nat) (v:PV):CW false true zero (some n) es ⟨V,l,g,h⟩ (some (i,v))=if Gu v then some (v,⟨V,l,g,h.set n (.map (es.modify i λe=>(e.1,dem e.2)))⟩) else some (dem v,⟨V,l,g,h⟩):=by
 simp[CW]
@[simp] theorem c9Q (ok take kagg:Bool) (ks:List EK) (zero:PV) (m x:PX):opv cf (.h (.lookup ok take kagg ks zero m x)) ⟨V,l,g,h⟩=match rd ⟨V,l,g,h⟩ m,rd ⟨V,l,g,h⟩ x with
  | some (.map n), some k =>
    match w8 ⟨V,l,g,h⟩ n with
    | some es=>(match xo kagg ks k es 0 with | some r=>CW ok take zero n es ⟨V,l,g,h⟩ r | none=>none)
    | none=>none
  | _,_=>none:=by
 simp only[opv,wi]
 cases rd ⟨V,l,g,h⟩ m with
 | none=>rfl
 | some p =>
   cases p<;>try rfl
   rename_i n
   cases rd ⟨V,l,g,h⟩ x with
   | none=>rfl
   | some k =>
     simp only
     cases w8 ⟨V,l,g,h⟩ n with
     | none=>rfl
     | some es =>
       simp only[an]
       cases xo kagg ks k es 0 with
       | none=>rfl
       | some r=>cases r<;>rfl
def Cq (es:List (PV×PV)) (k v:PV):Option (Nat×PV)→List (PV×PV)
 | some (i,_)=>es.set i (k,v)
 | none=>es++[(k,v)]
@[simp] theorem c6p (es:List (PV×PV)) (k v:PV):Cq es k v none=es++[(k,v)]:=rfl
@[simp] theorem b7u (es:List (PV×PV)) (k v:PV) (i:Nat) (u:PV):Cq es k v (some (i,u))=es.set i (k,v):=rfl
@[simp] theorem d32 (kagg:Bool) (ks:List EK) (m k v:PX):opv cf (.h (.mset kagg ks m k v)) ⟨V,l,g,h⟩=match rd ⟨V,l,g,h⟩ m,rd ⟨V,l,g,h⟩ k,tk ⟨V,l,g,h⟩ v with
  | some (.map (some n)), some k, some (v, ⟨V, l, g, h⟩) =>
    match h[n]? with
    | some (.map es)=>(match xo kagg ks k es 0 with | some r=>some (.dead,⟨V,l,g,h.set n (.map (Cq es k v r))⟩) | none=>none)
    | _=>none
  | _,_,_=>none:=by
 simp only[opv,wi]
 cases rd ⟨V,l,g,h⟩ m with
 | none=>rfl
 | some p =>
   cases p<;>try rfl
   rename_i n
   cases n with
   | none=>rfl
   | some n=>
   cases rd ⟨V,l,g,h⟩ k with
   | none=>rfl
   | some k =>
     cases tk ⟨V,l,g,h⟩ v with
     | none=>rfl
     | some r =>
       obtain⟨v,⟨V2,l2,g2,h2⟩⟩:=r
       simp only[c2W]
       cases h2[n]? with
       | none=>rfl
       | some o =>
         cases o<;>try rfl
         rename_i es
         simp only[an]
         cases xo kagg ks k es 0 with
         | none=>rfl
         | some r=>cases r<;>rfl
@[simp] theorem d33 (m:PX):opv cf (.h (.mlen m)) ⟨V,l,g,h⟩=match rd ⟨V,l,g,h⟩ m with
  | some (.map n)=>(match w8 ⟨V,l,g,h⟩ n with | some es=>some (.int .i64 es.length,⟨V,l,g,h⟩) | none=>none)
  | _=>none:=by
 simp only[opv,wi]
 cases rd ⟨V,l,g,h⟩ m with
 | none=>rfl
 | some p => cases p <;> try rfl
             rename_i n; simp only; cases w8 ⟨V,l,g,h⟩ n<;>rfl
@[simp] theorem c9R (k:Nat) (a b:List PX):opv cf (.h (.mkfunc k a b)) ⟨V,l,g,h⟩=match xW ⟨V,l,g,h⟩ a with
  | some (f,st)=>(match xW st b with | some (c,st)=>some (.func k f c,st) | none=>none)
  | none=>none:=by
 simp only[opv,wi]
 cases xW ⟨V,l,g,h⟩ a with
 | none=>rfl
 | some r=>simp only[an]; cases xW r.2 b<;>rfl
@[simp] theorem d2f (kd:Nat) (neg:Bool) (x:PX):opv cf (.h (.isnil kd neg x)) ⟨V,l,g,h⟩=match rd ⟨V,l,g,h⟩ x with
  | some p=>(match CD kd p with | some b=>some (.bool (if neg then !b else b),⟨V,l,g,h⟩) | none=>none)
  | none=>none:=by
 simp only[opv,wi]
 cases rd ⟨V,l,g,h⟩ x with
 | none=>rfl
 | some p=>simp only[an]; cases CD kd p<;>rfl
@[simp] theorem c9S (x:PX):opv cf (.h (.nilchk x)) ⟨V,l,g,h⟩=match addr ⟨V,l,g,h⟩ x with
  | some (.ptr n o)=>some (.ptr n o,⟨V,l,g,h⟩)
  | some (.cptr cs)=>some (.cptr cs,⟨V,l,g,h⟩)
  | some (.lptr s g0 o)=>some (.lptr s g0 o,⟨V,l,g,h⟩)
  | _=>none:=rfl
@[simp] theorem d2g (s:Nat) (agg:Bool) (a:PX):opv cf (.h (.loadc s agg a)) ⟨V,l,g,h⟩=match rd ⟨V,l,g,h⟩ a with
  | some (.cptr cs)=>sv (wq s agg cs 0) ⟨V,l,g,h⟩
  | _=>none:=by
 simp only[opv,wi,A8]; rfl
@[simp] theorem d34 (z:List PV) (ps:List (Nat×Nat×PX)):opv cf (.h (.barr z ps)) ⟨V,l,g,h⟩=match rdParts ⟨V,l,g,h⟩ ps with
  | some es=>(match Ag z es with | some cs=>some (.agg cs,⟨V,l,g,h⟩) | none=>none)
  | none=>none:=by
 simp only[opv,wi]; cases rdParts ⟨V,l,g,h⟩ ps<;>simp; rename_i es; cases Ag z es<;>rfl
@[simp] theorem d35 (n s:Nat) (agg:Bool) (x i:PX):opv cf (.h (.idxA n s agg x i)) ⟨V,l,g,h⟩=match rd ⟨V,l,g,h⟩ x,rdInt ⟨V,l,g,h⟩ i with
  | some v,some k=>(match Ax v with | some cs=>if 0≤k∧k<n then sv (wq s agg cs (k.toNat*s)) ⟨V,l,g,h⟩ else none | none=>none)
  | _,_=>none:=by
 simp only[opv,wi,A8]
 cases rd ⟨V,l,g,h⟩ x with
 | none=>rfl
 | some v=>cases v<;>(cases rdInt ⟨V,l,g,h⟩ i<;>rfl)
@[simp] theorem d2h (k:Nat) (args:List PX):opv cf (.h (.call k args)) ⟨V,l,g,h⟩=match rdAll ⟨V,l,g,h⟩ args with
  | some vs=>(match cf k vs h with | some (r,h)=>some (dem r,⟨V,l,g,h⟩) | none=>none)
  | none=>none:=by
 simp only[opv,wi]
 cases rdAll ⟨V,l,g,h⟩ args with
 | none=>rfl
 | some vs=>simp only[an]; cases cf k vs h<;>rfl
@[simp] theorem c9T (tab:List (Nat×Nat×Option (Nat×Bool))) (x:PX) (args:List PX):opv cf (.h (.icall tab x args)) ⟨V,l,g,h⟩=match CF ⟨V,l,g,h⟩ tab (rd ⟨V,l,g,h⟩ x) with
  | some m => match rdAll ⟨V, l, g, h⟩ args with
    | some vs => match cf m.1 (m.2 :: vs) h with
      | some (r,h)=>some (dem r,⟨V,l,g,h⟩)
      | none=>none
    | none=>none
  | none=>none:=by
 simp only[opv,wi]
 cases CF ⟨V,l,g,h⟩ tab (rd ⟨V,l,g,h⟩ x) with
 | none=>rfl
 | some m =>
   simp only[an]
   cases rdAll ⟨V,l,g,h⟩ args with
   | none=>rfl
   | some vs =>
     simp only[an]
     cases cf m.1 (m.2::vs) h<;>rfl
@[simp] theorem c9U (k:Nat) (args:List PX):opv cf (.h (.zcall k args)) ⟨V,l,g,h⟩=match rdAll ⟨V,l,g,h⟩ args with
  | some vs => if wz (zJ h vs) then (match cf k (zJ h vs) [] with
    | some (r,h')=>if wB (frz h' r) then some (dem (frz h' r),⟨V,l,g,Aa (BN vs) h⟩) else none
    | none=>none) else none
  | none=>none:=by
 simp only[opv,wi]
 cases rdAll ⟨V,l,g,h⟩ args with
 | none=>rfl
 | some vs =>
   simp only[an]
   cases cf k (zJ h vs) []<;>rfl
@[simp] theorem c9V (k:Nat) (args:List PX):opv cf (.h (.lcall k args)) ⟨V,l,g,h⟩=match rdAll ⟨V,l,g,h⟩ args with
  | some vs=>(match Ch h vs with | some ws=>(if wz ws then(match cf k ws [] with | some (r,_)=>(if BO r then some (dem r,⟨V,l,g,h⟩) else none) | none=>none) else none) | none=>none)
  | none=>none:=by
 simp only[opv,wi,CE]
 cases rdAll ⟨V,l,g,h⟩ args with
 | none=>rfl
 | some vs =>
   simp only[an,CE]
   cases Ch h vs with
   | none=>rfl
   | some ws=>simp only[an]; cases cf k ws []<;>rfl
@[simp] theorem c9W (k:Nat) (args:List PX):opv cf (.h (.rcall k args)) ⟨V,l,g,h⟩=match rdAll ⟨V,l,g,h⟩ args with
  | some vs=>(match cf k vs h with | some (r,h')=>same ⟨V,l,g,h⟩ (r,h') | none=>none)
  | none=>none:=by
 simp only[opv,wi]
 cases rdAll ⟨V,l,g,h⟩ args with
 | none=>rfl
 | some vs=>simp only[an]; cases cf k vs h<;>rfl
@[simp] theorem d5e (r:PV):same ⟨V,l,g,h⟩ (r,h)=some (dem r,⟨V,l,g,h⟩):=by simp[same]
@[simp] theorem c9X (x:PX) (args:List PX):opv cf (.h (.callv x args)) ⟨V,l,g,h⟩=match rd ⟨V,l,g,h⟩ x,rdAll ⟨V,l,g,h⟩ args with
  | some (.func k f c),some vs=>(match cf k (f++vs++c) h with | some (r,h)=>some (dem r,⟨V,l,g,h⟩) | none=>none)
  | _,_=>none:=by
 simp only[opv,wi]
 cases rd ⟨V,l,g,h⟩ x with
 | none=>rfl
 | some p =>
   cases p<;>try rfl
   rename_i k f c
   cases rdAll ⟨V,l,g,h⟩ args with
   | none=>rfl
   | some vs=>simp only; cases cf k (f++vs++c) h<;>rfl
@[simp] theorem d2i (x:PX) (args:List PX):opv cf (.callv x args) ⟨V,l,g,h⟩=match rd ⟨V,l,g,h⟩ x,rdAll ⟨V,l,g,h⟩ args with
  | some (.func k f c),some vs=>if wz (f++vs++c) then(match cf k (f++vs++c) [] with | some (r,_)=>if wB r then some (dem r,⟨V,l,g,h⟩) else none | none=>none) else none
  | _,_=>none:=by
 simp only[opv]
 cases rd ⟨V,l,g,h⟩ x with
 | none=>rfl
 | some p =>
   cases p<;>try rfl
attribute [simp] CD vague
@[simp] theorem d2j (str:Bool) (s:Nat) (x:PX) (lo hi:Option PX):opv cf (.slice str s x lo hi) ⟨V,l,g,h⟩=match str,rd ⟨V,l,g,h⟩ x with
  | true,some (.str t)=>(match bound ⟨V,l,g,h⟩ hi t.length t.length with | some b=>(match bound ⟨V,l,g,h⟩ lo 0 b with | some a=>some (.str ((t.take b).drop a),⟨V,l,g,h⟩) | none=>none) | none=>none)
  | false,some (.list _ es)=>if w6 s es then(match bound ⟨V,l,g,h⟩ hi es.length es.length with | some b=>(match bound ⟨V,l,g,h⟩ lo 0 b with | some a=>some (.list false ((es.take b).drop a),⟨V,l,g,h⟩) | none=>none) | none=>none) else none
  | false,some .nils=>(match bound ⟨V,l,g,h⟩ hi 0 0 with | some b=>(match bound ⟨V,l,g,h⟩ lo 0 b with | some a=>some (.nils,⟨V,l,g,h⟩) | none=>none) | none=>none)
  | false,some (.rowp n sz agg len)=>if sz=s then(match bound ⟨V,l,g,h⟩ hi len len with | some b=>(match bound ⟨V,l,g,h⟩ lo 0 b with | some a=>some (if a=0 then .rowp n sz agg b else .rows n sz agg a (b - a),⟨V,l,g,h⟩) | none=>none) | none=>none) else none
  | _,_=>none:=by
 simp only[opv]
 cases str
 ·cases rd ⟨V,l,g,h⟩ x with
  | none=>rfl
  | some p =>
    cases p<;>try rfl
    all_goals simp only
    all_goals first
     | (split
        ·cases bound ⟨V,l,g,h⟩ hi _ _ with
         | none=>rfl
         | some b=>simp only[an]; cases bound ⟨V,l,g,h⟩ lo 0 b<;>rfl
        ·rfl)
     | (cases bound ⟨V, l, g, h⟩ hi _ _ with
        | none=>rfl
        | some b=>simp only[an]; cases bound ⟨V,l,g,h⟩ lo 0 b<;>rfl)
 ·cases rd ⟨V,l,g,h⟩ x with
  | none=>rfl
  | some p =>
    cases p<;>try rfl
    simp only
    cases bound ⟨V,l,g,h⟩ hi _ _ with
    | none=>rfl
    | some b=>simp only[an]; cases bound ⟨V,l,g,h⟩ lo 0 b<;>rfl
end
end PI
