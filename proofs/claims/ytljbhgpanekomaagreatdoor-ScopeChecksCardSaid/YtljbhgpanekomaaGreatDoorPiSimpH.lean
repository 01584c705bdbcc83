import Derived.Test.YtljbhgpanekomaaGreatDoorPiSimp
set_option linter.unusedSectionVars false
namespace PI
open Go (IntKind BinOp UnOp)
section
variable {cf:wE} {V l:List PV} {g:Nat} {h:List PObj} {L:Nat→Option PFunc}
@[simp] theorem Qu (n:Nat):xF ⟨V,l,g,h⟩ n=match h[n]? with | some (.cells cs)=>some cs | _=>none:=rfl
@[simp] theorem d1v:xt ⟨V,l,g,h⟩ none=some []:=rfl
@[simp] theorem c25 (n:Nat):xt ⟨V,l,g,h⟩ (some n)=match h[n]? with | some (.map es)=>some es | _=>none:=rfl
@[simp] theorem d4l (n:Nat) (o:PObj):wV ⟨V,l,g,h⟩ n o=⟨V,l,g,h.set n o⟩:=rfl
@[simp] theorem d4J (i:Nat):Ab ⟨V,l,g,h⟩ (.v i)=match V[i]? with
  | some (.loc _ cs)=>some (.cptr (cs.map dem),⟨V.set i (.cptr (cs.map dem)),l,g,h⟩)
  | some v=>sv (cp v) ⟨V,l,g,h⟩
  | none=>none:=by
 simp only[Ab,raw,rd]
 cases V[i]? with
 | none=>rfl
 | some v=>cases v<;>rfl
@[simp] theorem d4K (p:PV):Ab ⟨V,l,g,h⟩ (.c p)=sv (cp p) ⟨V,l,g,h⟩:=by simp only[Ab,rd,raw,ar,Bc]
@[simp] theorem d4L (i:Nat):Ab ⟨V,l,g,h⟩ (.l i)=sv (rd ⟨V,l,g,h⟩ (.l i)) ⟨V,l,g,h⟩:=by simp only[Ab,Bc]
@[simp] theorem d1w (st:St):yp st []=some ([],st):=rfl
@[simp] theorem c9a (x:PX) (xs:List PX):yp ⟨V,l,g,h⟩ (x::xs)=match Ab ⟨V,l,g,h⟩ x with
  | some (v,st)=>(match yp st xs with | some (vs,st)=>some (v::vs,st) | none=>none)
  | none=>none:=by
 simp only[yp]
 cases Ab ⟨V,l,g,h⟩ x with
 | none=>rfl
 | some r=>simp only[ar]; cases yp r.2 xs<;>rfl
@[simp] theorem c9b (z:List PV):opv cf (.h (.newobj z)) ⟨V,l,g,h⟩=some (.ptr h.length 0,⟨V,l,g,h++[.cells z]⟩):=rfl
@[simp] theorem c9c (s:Nat) (x:PX):opv cf (.h (.boxobj s x)) ⟨V,l,g,h⟩=match rd ⟨V,l,g,h⟩ x with
  | some v=>if v.cells.length=s then some (.ptr h.length 0,⟨V,l,g,h++[.cells v.cells]⟩) else none
  | none=>none:=rfl
@[simp] theorem c9d:opv cf (.h .newbld) ⟨V,l,g,h⟩=some (.ptr h.length 0,⟨V,l,g,h++[.bld []]⟩):=rfl
def DR (h:List PObj):PV→Option (List PV)
 | .rowp n sz agg len=>if agg=true∨sz=1 then(match h[n]? with | some (.cells cs)=>zM sz agg cs len 0 | _=>none) else none
 | p=>Bd p
@[simp] theorem c9e (o:Bool) (es:List PV):DR h (.list o es)=some es:=rfl
@[simp] theorem c9f:DR h .nils=some []:=rfl
@[simp] theorem c9g:DR h .void=some []:=rfl
theorem c4O (x:PX):b3t ⟨V,l,g,h⟩ x=match rd ⟨V,l,g,h⟩ x with | some v=>DR h v | none=>none:=by
 unfold b3t
 cases rd ⟨V,l,g,h⟩ x with
 | none=>rfl
 | some v => cases v <;> try rfl
             rename_i n sz agg len
             simp only[DR]
             split
             ·simp only[xF]
              cases h[n]? with
              | none=>rfl
              | some o=>cases o<;>rfl
             ·rfl
def Cf (h:List PObj) (size:Nat) (agg:Bool) (bytes:Nat) (xs:List PV) (v:PV) (st:St):Option (PV×St):=
 match v with
 | .rowp n sz ag len =>
   match h[n]? with
   | some (.cells cs) =>
     if sz=size∧ag=agg∧len*size≤cs.length∧xq size xs∧len+xs.length≤2147483648∧bytes≤16384 then
      some (.rowp h.length size agg (len+xs.length),{ st with heap:=h.set n .gone++[.cells ((cs.take (len*size)).map dem++(xs.flatMap PV.cells).map dem)] })
     else none
   | _=>none
 | .list true [] =>
   if xs=[] then some (.list true [],st)
   else if xq size xs∧xs.length≤2147483648∧bytes≤16384 then
    some (.rowp h.length size agg xs.length,{ st with heap:=h++[.cells ((xs.flatMap PV.cells).map dem)] })
   else none
 | .nils =>
   if xs=[] then some (.nils,st)
   else if xq size xs∧xs.length≤2147483648∧bytes≤16384 then
    some (.rowp h.length size agg xs.length,{ st with heap:=h++[.cells ((xs.flatMap PV.cells).map dem)] })
   else none
 | _=>none
@[simp] theorem c9h (v:PV):(some v).bind Bd=Bd v:=rfl
@[simp] theorem c9i (o:Bool) (es:List PV):Bd (.list o es)=some es:=rfl
@[simp] theorem d3f (s:Nat) (agg:Bool) (b:Nat) (a x:PX):opv cf (.h (.happ s agg b a x)) ⟨V,l,g,h⟩=match (match rd ⟨V,l,g,h⟩ x with | some v=>DR h v | none=>none),raw ⟨V,l,g,h⟩ a with
  | some xs,some v=>Cf h s agg b xs v ⟨V,l,g,h⟩
  | _,_=>none:=by
 simp only[opv,wx,c4O]
 cases (match rd ⟨V,l,g,h⟩ x with | some v=>DR h v | none=>none) with
 | none=>rfl
 | some xs => cases raw ⟨V, l, g, h⟩ a with
   | none=>rfl
   | some v => cases v <;> try rfl
               rename_i o es
               cases o<;>try rfl
               cases es<;>rfl
@[simp] theorem d1x (s:Nat) (agg:Bool) (b:Nat) (z:List PV) (a x:PX):opv cf (.h (.happz s agg b z a x)) ⟨V,l,g,h⟩=match rdInt ⟨V,l,g,h⟩ x,rd ⟨V,l,g,h⟩ a with
  | some n,some .nils=>if 0<n∧n≤2147483648∧b≤16384 then some (.rowp h.length s agg n.toNat,⟨V,l,g,h++[.cells (List.replicate n.toNat (z.map dem)).flatten]⟩) else none
  | _,_=>none:=rfl
@[simp] theorem c7F (n sz:Nat) (a:Bool) (off len:Nat):ER (.rows n sz a off len)=some (n,sz,off):=rfl
@[simp] theorem c7G (n sz:Nat) (a:Bool) (len:Nat):ER (.rowp n sz a len)=some (n,sz,0):=rfl
@[simp] theorem d1y (s:Nat) (x:PX):opv cf (.h (.clear s x)) ⟨V,l,g,h⟩=match (match rd ⟨V,l,g,h⟩ x with | some v=>ER v | none=>none) with
  | some (n, sz, off) =>
    match h[n]? with
    | some (.cells cs)=>if sz=s∧off*s≤cs.length then some (.dead,⟨V,l,g,h.set n (.cells (cs.take (off*s)))⟩) else none
    | _=>none
  | _=>none:=by
 simp only[opv,wx]
 cases rd ⟨V,l,g,h⟩ x with
 | none=>rfl
 | some v=>rfl
@[simp] theorem d1z (s:Nat) (agg:Bool) (b:Nat) (z:List PV) (x:PX):opv cf (.h (.mkarr s agg b z x)) ⟨V,l,g,h⟩=match rdInt ⟨V,l,g,h⟩ x with
  | some n=>if 0≤n∧b*n≤281474976710656∧n≤9223372036854775807 then some (.rowp h.length s agg n.toNat,⟨V,l,g,h++[.cells (List.replicate n.toNat z).flatten]⟩) else none
  | none=>none:=rfl
@[simp] theorem d1A (x:PX):opv cf (.h (.range x)) ⟨V,l,g,h⟩=match rd ⟨V,l,g,h⟩ x with
  | some (.str s)=>some (.ptr h.length 0,⟨V,l,g,h++[.siter s 0]⟩)
  | _=>none:=rfl
@[simp] theorem d3g (x:PX):opv cf (.h (.next x)) ⟨V,l,g,h⟩=match rd ⟨V,l,g,h⟩ x with
  | some (.ptr n 0) =>
    match h[n]? with
    | some (.siter s pos) =>
      if pos<s.length then some (.tuple [.bool true,.int .i64 pos,.int .i32 (Go.Utf8.decode ⟨s.toArray⟩ pos).1],⟨V,l,g,h.set n (.siter s (pos+(Go.Utf8.decode ⟨s.toArray⟩ pos).2))⟩)
      else some (.tuple [.bool false],⟨V,l,g,h⟩)
    | _=>none
  | _=>none:=rfl
@[simp] theorem d1B:opv cf (.h .mkmap) ⟨V,l,g,h⟩=some (.map (some h.length),⟨V,l,g,h++[.map []]⟩):=rfl
@[simp] theorem d1C (s:Nat) (agg:Bool) (a:PX) (t:Bool):opv cf (.h (.load s agg a t)) ⟨V,l,g,h⟩=match addr ⟨V,l,g,h⟩ a with
  | some (.cptr cs)=>sv (wD s agg cs 0) ⟨V,l,g,h⟩
  | some (.ptr n off) =>
    match h[n]? with
    | some (.cells cs) =>
      match t && !agg,cs[off]? with
      | true,some (.list true es)=>some (.list true es,⟨V,l,g,h.set n (.cells (cs.set off (.list false es)))⟩)
      | _,_=>sv (wD s agg cs off) ⟨V,l,g,h⟩
    | _=>none
  | _=>none:=by
 simp only[opv,wx,Bc]
 cases addr ⟨V,l,g,h⟩ a with
 | none=>rfl
 | some p =>
   cases p<;>try rfl
   simp only[Qu]
   rename_i n off
   cases h[n]? with
   | none=>rfl
   | some o=>cases o<;>rfl
@[simp] theorem c7H (s:Nat) (agg:Bool) (a x:PX):opv cf (.h (.storer s agg a x)) ⟨V,l,g,h⟩=match addr ⟨V,l,g,h⟩ a,rd ⟨V,l,g,h⟩ x with
  | some (.ptr n off), some v => if Gm v then none else (match h[n]? with
    | some (.cells cs)=>(match wM s agg cs off v with | some cs=>some (.dead,⟨V,l,g,h.set n (.cells cs)⟩) | none=>none)
    | _=>none)
  | _,_=>none:=by
 simp only[opv,wx]
 cases addr ⟨V,l,g,h⟩ a with
 | none=>rfl
 | some p =>
   cases p<;>try rfl
   rename_i n off
   cases rd ⟨V,l,g,h⟩ x with
   | none=>rfl
   | some v =>
     simp only
     split
     ·rfl
     ·simp only[xF]
      cases h[n]? with
      | none=>rfl
      | some ob =>
        cases ob<;>try rfl
        rename_i cs
        simp only[ar]
        cases wM s agg cs off v<;>rfl
@[simp] theorem c9j (s:Nat) (agg:Bool) (a x:PX):opv cf (.h (.store s agg a x)) ⟨V,l,g,h⟩=match addr ⟨V,l,g,h⟩ a,tk ⟨V,l,g,h⟩ x with
  | some (.ptr n off), some (v, ⟨V, l, g, h⟩) =>
    match h[n]? with
    | some (.cells cs)=>(match wM s agg cs off v with | some cs=>some (.dead,⟨V,l,g,h.set n (.cells cs)⟩) | none=>none)
    | _=>none
  | _,_=>none:=by
 simp only[opv,wx]
 cases addr ⟨V,l,g,h⟩ a with
 | none=>rfl
 | some p =>
   cases p<;>try rfl
   cases tk ⟨V,l,g,h⟩ x with
   | none=>rfl
   | some r =>
     obtain⟨v,⟨V2,l2,g2,h2⟩⟩:=r
     simp only[Qu]
     rename_i n off
     cases h2[n]? with
     | none=>rfl
     | some o =>
       cases o<;>try rfl
       rename_i cs
       simp only[ar]
       cases wM s agg cs off v<;>rfl
@[simp] theorem c9k (n' s:Nat) (x i:PX):opv cf (.h (.iaddr n' s x i)) ⟨V,l,g,h⟩=match addr ⟨V,l,g,h⟩ x,rdInt ⟨V,l,g,h⟩ i with
  | some (.ptr n o),some k=>if 0≤k∧k<n' then some (.ptr n (o+k.toNat*s),⟨V,l,g,h⟩) else none
  | _,_=>none:=rfl
def C9 (ok take:Bool) (zero:PV) (n:Option Nat) (es:List (PV×PV)) (st:St):Option (Nat×PV)→Option (PV×St)
 | some (i, v) =>
   if take && !ok&&Gn v then some (v,wV st (n.getD 0) (.map (es.modify i λe=>(e.1,dem e.2))))
   else some (if ok then .tuple [dem v,.bool true] else dem v,st)
 | none=>some (if ok then .tuple [zero,.bool false] else zero,st)
@[simp] theorem c7I (ok take:Bool) (zero:PV) (n:Option Nat) (es:List (PV×PV)) (st:St):C9 ok take zero n es st none=some (if ok then .tuple [zero,.bool false] else zero,st):=rfl
@[simp] theorem c7J (ok:Bool) (zero:PV) (n:Option Nat) (es:List (PV×PV)) (st:St) (i:Nat) (v:PV):C9 ok false zero n es st (some (i,v))=some (if ok then .tuple [dem v,.bool true] else dem v,st):=by
 simp[C9]
@[simp] theorem c7K (zero:PV) (n:Nat) (es:List (PV×PV)) (i:Nat) (v:PV):C9 false true zero (some n) es ⟨V,l,g,h⟩ (some (i,v))=if Gn v then some (v,⟨V,l,g,h.set n (.map (es.modify i λe=>(e.1,dem e.2)))⟩) else some (dem v,⟨V,l,g,h⟩):=by
 simp[C9]
@[simp] theorem c9l (ok take kagg:Bool) (ks:List EK) (zero:PV) (m x:PX):opv cf (.h (.lookup ok take kagg ks zero m x)) ⟨V,l,g,h⟩=match rd ⟨V,l,g,h⟩ m,rd ⟨V,l,g,h⟩ x with
  | some (.map n), some k =>
    match xt ⟨V,l,g,h⟩ n with
    | some es=>(match yk kagg ks k es 0 with | some r=>C9 ok take zero n es ⟨V,l,g,h⟩ r | none=>none)
    | none=>none
  | _,_=>none:=by
 simp only[opv,wx]
 cases rd ⟨V,l,g,h⟩ m with
 | none=>rfl
 | some p =>
   cases p<;>try rfl
   rename_i n
   cases rd ⟨V,l,g,h⟩ x with
   | none=>rfl
   | some k =>
     simp only
     cases xt ⟨V,l,g,h⟩ n with
     | none=>rfl
     | some es =>
       simp only[ar]
       cases yk kagg ks k es 0 with
       | none=>rfl
       | some r=>cases r<;>rfl
def HX (es:List (PV×PV)) (k v:PV):Option (Nat×PV)→List (PV×PV)
 | some (i,_)=>es.set i (k,v)
 | none=>es++[(k,v)]
@[simp] theorem c5Y (es:List (PV×PV)) (k v:PV):HX es k v none=es++[(k,v)]:=rfl
@[simp] theorem b72 (es:List (PV×PV)) (k v:PV) (i:Nat) (u:PV):HX es k v (some (i,u))=es.set i (k,v):=rfl
@[simp] theorem d3h (kagg:Bool) (ks:List EK) (m k v:PX):opv cf (.h (.mset kagg ks m k v)) ⟨V,l,g,h⟩=match rd ⟨V,l,g,h⟩ m,rd ⟨V,l,g,h⟩ k,tk ⟨V,l,g,h⟩ v with
  | some (.map (some n)), some k, some (v, ⟨V, l, g, h⟩) =>
    match h[n]? with
    | some (.map es)=>(match yk kagg ks k es 0 with | some r=>some (.dead,⟨V,l,g,h.set n (.map (HX es k v r))⟩) | none=>none)
    | _=>none
  | _,_,_=>none:=by
 simp only[opv,wx]
 cases rd ⟨V,l,g,h⟩ m with
 | none=>rfl
 | some p =>
   cases p<;>try rfl
   rename_i n
   cases n with
   | none=>rfl
   | some n=>
   cases rd ⟨V,l,g,h⟩ k with
   | none=>rfl
   | some k =>
     cases tk ⟨V,l,g,h⟩ v with
     | none=>rfl
     | some r =>
       obtain⟨v,⟨V2,l2,g2,h2⟩⟩:=r
       simp only[c25]
       cases h2[n]? with
       | none=>rfl
       | some o =>
         cases o<;>try rfl
         rename_i es
         simp only[ar]
         cases yk kagg ks k es 0 with
         | none=>rfl
         | some r=>cases r<;>rfl
@[simp] theorem d3i (m:PX):opv cf (.h (.mlen m)) ⟨V,l,g,h⟩=match rd ⟨V,l,g,h⟩ m with
  | some (.map n)=>(match xt ⟨V,l,g,h⟩ n with | some es=>some (.int .i64 es.length,⟨V,l,g,h⟩) | none=>none)
  | _=>none:=by
 simp only[opv,wx]
 cases rd ⟨V,l,g,h⟩ m with
 | none=>rfl
 | some p => cases p <;> try rfl
             rename_i n; simp only; cases xt ⟨V,l,g,h⟩ n<;>rfl
@[simp] theorem c9m (k:Nat) (a b:List PX):opv cf (.h (.mkfunc k a b)) ⟨V,l,g,h⟩=match yp ⟨V,l,g,h⟩ a with
  | some (f,st)=>(match yp st b with | some (c,st)=>some (.func k f c,st) | none=>none)
  | none=>none:=by
 simp only[opv,wx]
 cases yp ⟨V,l,g,h⟩ a with
 | none=>rfl
 | some r=>simp only[ar]; cases yp r.2 b<;>rfl
@[simp] theorem d1D (kd:Nat) (neg:Bool) (x:PX):opv cf (.h (.isnil kd neg x)) ⟨V,l,g,h⟩=match rd ⟨V,l,g,h⟩ x with
  | some p=>(match CK kd p with | some b=>some (.bool (if neg then !b else b),⟨V,l,g,h⟩) | none=>none)
  | none=>none:=by
 simp only[opv,wx]
 cases rd ⟨V,l,g,h⟩ x with
 | none=>rfl
 | some p=>simp only[ar]; cases CK kd p<;>rfl
@[simp] theorem c9n (x:PX):opv cf (.h (.nilchk x)) ⟨V,l,g,h⟩=match addr ⟨V,l,g,h⟩ x with
  | some (.ptr n o)=>some (.ptr n o,⟨V,l,g,h⟩)
  | some (.cptr cs)=>some (.cptr cs,⟨V,l,g,h⟩)
  | some (.lptr s g0 o)=>some (.lptr s g0 o,⟨V,l,g,h⟩)
  | _=>none:=rfl
@[simp] theorem d1E (s:Nat) (agg:Bool) (a:PX):opv cf (.h (.loadc s agg a)) ⟨V,l,g,h⟩=match rd ⟨V,l,g,h⟩ a with
  | some (.cptr cs)=>sv (wD s agg cs 0) ⟨V,l,g,h⟩
  | _=>none:=by
 simp only[opv,wx,Bc]; rfl
@[simp] theorem d3j (z:List PV) (ps:List (Nat×Nat×PX)):opv cf (.h (.barr z ps)) ⟨V,l,g,h⟩=match rdParts ⟨V,l,g,h⟩ ps with
  | some es=>(match BB z es with | some cs=>some (.agg cs,⟨V,l,g,h⟩) | none=>none)
  | none=>none:=by
 simp only[opv,wx]; cases rdParts ⟨V,l,g,h⟩ ps<;>simp; rename_i es; cases BB z es<;>rfl
@[simp] theorem d3k (n s:Nat) (agg:Bool) (x i:PX):opv cf (.h (.idxA n s agg x i)) ⟨V,l,g,h⟩=match rd ⟨V,l,g,h⟩ x,rdInt ⟨V,l,g,h⟩ i with
  | some v,some k=>(match AJ v with | some cs=>if 0≤k∧k<n then sv (wD s agg cs (k.toNat*s)) ⟨V,l,g,h⟩ else none | none=>none)
  | _,_=>none:=by
 simp only[opv,wx,Bc]
 cases rd ⟨V,l,g,h⟩ x with
 | none=>rfl
 | some v=>cases v<;>(cases rdInt ⟨V,l,g,h⟩ i<;>rfl)
@[simp] theorem d1F (k:Nat) (args:List PX):opv cf (.h (.call k args)) ⟨V,l,g,h⟩=match rdAll ⟨V,l,g,h⟩ args with
  | some vs=>(match cf k vs h with | some (r,h)=>some (dem r,⟨V,l,g,h⟩) | none=>none)
  | none=>none:=by
 simp only[opv,wx]
 cases rdAll ⟨V,l,g,h⟩ args with
 | none=>rfl
 | some vs=>simp only[ar]; cases cf k vs h<;>rfl
@[simp] theorem c9o (k:Nat) (args:List PX):opv cf (.h (.rcall k args)) ⟨V,l,g,h⟩=match rdAll ⟨V,l,g,h⟩ args with
  | some vs=>(match cf k vs h with | some (r,h')=>same ⟨V,l,g,h⟩ (r,h') | none=>none)
  | none=>none:=by
 simp only[opv,wx]
 cases rdAll ⟨V,l,g,h⟩ args with
 | none=>rfl
 | some vs=>simp only[ar]; cases cf k vs h<;>rfl
@[simp] theorem d4m (r:PV):same ⟨V,l,g,h⟩ (r,h)=some (dem r,⟨V,l,g,h⟩):=by simp[same]
@[simp] theorem c9p (x:PX) (args:List PX):opv cf (.h (.callv x args)) ⟨V,l,g,h⟩=match rd ⟨V,l,g,h⟩ x,rdAll ⟨V,l,g,h⟩ args with
  | some (.func k f c),some vs=>(match cf k (f++vs++c) h with | some (r,h)=>some (dem r,⟨V,l,g,h⟩) | none=>none)
  | _,_=>none:=by
 simp only[opv,wx]
 cases rd ⟨V,l,g,h⟩ x with
 | none=>rfl
 | some p =>
   cases p<;>try rfl
   rename_i k f c
   cases rdAll ⟨V,l,g,h⟩ args with
   | none=>rfl
   | some vs=>simp only; cases cf k (f++vs++c) h<;>rfl
@[simp] theorem d1G (x:PX) (args:List PX):opv cf (.callv x args) ⟨V,l,g,h⟩=match rd ⟨V,l,g,h⟩ x,rdAll ⟨V,l,g,h⟩ args with
  | some (.func k f c),some vs=>if wP (f++vs++c) then(match cf k (f++vs++c) [] with | some (r,_)=>if wR r then some (dem r,⟨V,l,g,h⟩) else none | none=>none) else none
  | _,_=>none:=by
 simp only[opv]
 cases rd ⟨V,l,g,h⟩ x with
 | none=>rfl
 | some p =>
   cases p<;>try rfl
attribute [simp] CK vague
@[simp] theorem d1H (str:Bool) (s:Nat) (x:PX) (lo hi:Option PX):opv cf (.slice str s x lo hi) ⟨V,l,g,h⟩=match str,rd ⟨V,l,g,h⟩ x with
  | true,some (.str t)=>(match bound ⟨V,l,g,h⟩ hi t.length t.length with | some b=>(match bound ⟨V,l,g,h⟩ lo 0 b with | some a=>some (.str ((t.take b).drop a),⟨V,l,g,h⟩) | none=>none) | none=>none)
  | false,some (.list _ es)=>if xq s es then(match bound ⟨V,l,g,h⟩ hi es.length es.length with | some b=>(match bound ⟨V,l,g,h⟩ lo 0 b with | some a=>some (.list false ((es.take b).drop a),⟨V,l,g,h⟩) | none=>none) | none=>none) else none
  | false,some .nils=>(match bound ⟨V,l,g,h⟩ hi 0 0 with | some b=>(match bound ⟨V,l,g,h⟩ lo 0 b with | some a=>some (.nils,⟨V,l,g,h⟩) | none=>none) | none=>none)
  | false,some (.rowp n sz agg len)=>if sz=s then(match bound ⟨V,l,g,h⟩ hi len len with | some b=>(match bound ⟨V,l,g,h⟩ lo 0 b with | some a=>some (if a=0 then .rowp n sz agg b else .rows n sz agg a (b - a),⟨V,l,g,h⟩) | none=>none) | none=>none) else none
  | _,_=>none:=by
 simp only[opv]
 cases str
 ·cases rd ⟨V,l,g,h⟩ x with
  | none=>rfl
  | some p =>
    cases p<;>try rfl
    all_goals simp only
    all_goals first
     | (split
        ·cases bound ⟨V,l,g,h⟩ hi _ _ with
         | none=>rfl
         | some b=>simp only[ar]; cases bound ⟨V,l,g,h⟩ lo 0 b<;>rfl
        ·rfl)
     | (cases bound ⟨V, l, g, h⟩ hi _ _ with
        | none=>rfl
        | some b=>simp only[ar]; cases bound ⟨V,l,g,h⟩ lo 0 b<;>rfl)
 ·cases rd ⟨V,l,g,h⟩ x with
  | none=>rfl
  | some p =>
    cases p<;>try rfl
    simp only
    cases bound ⟨V,l,g,h⟩ hi _ _ with
    | none=>rfl
    | some b=>simp only[ar]; cases bound ⟨V,l,g,h⟩ lo 0 b<;>rfl
end
end PI
