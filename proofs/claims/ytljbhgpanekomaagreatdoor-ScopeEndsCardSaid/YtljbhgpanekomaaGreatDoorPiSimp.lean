import Derived.Test.YtljbhgpanekomaaGreatDoorPiRun
set_option linter.unusedSectionVars false
namespace PI
open Go (IntKind BinOp UnOp)
section
variable {cf:a0v} {V l:List PV} {g:Nat} {h:List PObj} {L:Nat→Option PFunc}
@[simp] theorem d2K (i:Nat):raw ⟨V,l,g,h⟩ (.v i)=V[i]? := rfl
@[simp] theorem d2L (i:Nat):raw ⟨V,l,g,h⟩ (.l i)=l[i]? := rfl
@[simp] theorem d2M (p:PV):raw ⟨V,l,g,h⟩ (.c p)=some p:=rfl
@[simp] theorem d2N (x:PX):rd ⟨V,l,g,h⟩ x=match raw ⟨V,l,g,h⟩ x with | some v=>cp v | none=>none:=by
 simp only[rd]; cases raw ⟨V,l,g,h⟩ x<;>rfl
@[simp] theorem d0I (b:Bool):cp (.bool b)=some (.bool b):=rfl
@[simp] theorem c9h (b:Bool):dem (.bool b) = .bool b:=rfl
@[simp] theorem d1u (k:IntKind) (n:Int):cp (.int k n)=some (.int k n):=rfl
@[simp] theorem d0J (k:IntKind) (n:Int):dem (.int k n) = .int k n:=rfl
@[simp] theorem d1v (s:List UInt8):cp (.str s)=some (.str s):=rfl
@[simp] theorem d0K (s:List UInt8):dem (.str s) = .str s:=rfl
@[simp] theorem d1w (cs:List PV):cp (.agg cs)=some (.agg cs):=rfl
@[simp] theorem d0L (cs:List PV):dem (.agg cs) = .agg cs:=rfl
@[simp] theorem c9i (vs:List PV):cp (.tuple vs)=some (.tuple vs):=rfl
@[simp] theorem c7z (vs:List PV):dem (.tuple vs) = .tuple vs:=rfl
@[simp] theorem c7A:cp (.nilptr)=some (.nilptr):=rfl
@[simp] theorem c5s:dem (.nilptr) = .nilptr:=rfl
@[simp] theorem d0M (cs:List PV):cp (.cptr cs)=some (.cptr cs):=rfl
@[simp] theorem c9j (cs:List PV):dem (.cptr cs) = .cptr cs:=rfl
@[simp] theorem d1x (n o:Nat):cp (.ptr n o)=some (.ptr n o):=rfl
@[simp] theorem d0N (n o:Nat):dem (.ptr n o) = .ptr n o:=rfl
@[simp] theorem d1y (n:Option Nat):cp (.map n)=some (.map n):=rfl
@[simp] theorem d0O (n:Option Nat):dem (.map n) = .map n:=rfl
@[simp] theorem d0P (k:Nat) (a b:List PV):cp (.func k a b)=some (.func k a b):=rfl
@[simp] theorem c9k (k:Nat) (a b:List PV):dem (.func k a b) = .func k a b:=rfl
@[simp] theorem c5t:cp (.nilfunc)=some (.nilfunc):=rfl
@[simp] theorem c30:dem (.nilfunc) = .nilfunc:=rfl
@[simp] theorem c9l (t:Nat) (v:PV):cp (.iface t v)=some (.iface t v):=rfl
@[simp] theorem c7B (t:Nat) (v:PV):dem (.iface t v) = .iface t v:=rfl
@[simp] theorem c31:cp (.nilIface)=some (.nilIface):=rfl
@[simp] theorem c2e:dem (.nilIface) = .nilIface:=rfl
@[simp] theorem d0Q:cp (.nils)=some (.nils):=rfl
@[simp] theorem c9m:dem (.nils) = .nils:=rfl
@[simp] theorem d0R:cp (.void)=some (.void):=rfl
@[simp] theorem c9n:dem (.void) = .void:=rfl
@[simp] theorem d0S (o:Bool) (es:List PV):cp (.list o es)=some (.list false es):=rfl
@[simp] theorem c9o (o:Bool) (es:List PV):dem (.list o es) = .list false es:=rfl
@[simp] theorem d1z (n:Nat) (cs:List PV):cp (.loc n cs)=none:=rfl
@[simp] theorem d0T (s n o:Nat):cp (.lptr s n o)=none:=rfl
@[simp] theorem d0U:cp .dead=none:=rfl
@[simp] theorem d0V (n sz:Nat) (a:Bool) (k:Nat):cp (.rowp n sz a k)=some (.rowp n sz a k):=rfl
@[simp] theorem c9p (n sz:Nat) (a:Bool) (k:Nat):dem (.rowp n sz a k) = .rowp n sz a k:=rfl
@[simp] theorem b5c (n sz:Nat) (a:Bool) (k:Nat):a1g (.rowp n sz a k)=some n:=rfl
@[simp] theorem c7C (b:Bool):a1g (.bool b)=none:=rfl
@[simp] theorem c9q (k:IntKind) (n:Int):a1g (.int k n)=none:=rfl
@[simp] theorem c9r (s:List UInt8):a1g (.str s)=none:=rfl
@[simp] theorem c9s (cs:List PV):a1g (.agg cs)=none:=rfl
@[simp] theorem c5u (vs:List PV):a1g (.tuple vs)=none:=rfl
@[simp] theorem c32:a1g (.nilptr)=none:=rfl
@[simp] theorem c7D (cs:List PV):a1g (.cptr cs)=none:=rfl
@[simp] theorem c9t (n o:Nat):a1g (.ptr n o)=none:=rfl
@[simp] theorem c9u (n:Option Nat):a1g (.map n)=none:=rfl
@[simp] theorem c7E (k:Nat) (a b:List PV):a1g (.func k a b)=none:=rfl
@[simp] theorem c2f:a1g (.nilfunc)=none:=rfl
@[simp] theorem c5v (t:Nat) (v:PV):a1g (.iface t v)=none:=rfl
@[simp] theorem c1a:a1g (.nilIface)=none:=rfl
@[simp] theorem c7F:a1g (.nils)=none:=rfl
@[simp] theorem c7G:a1g (.void)=none:=rfl
@[simp] theorem c7H (o:Bool) (es:List PV):a1g (.list o es)=none:=rfl
@[simp] theorem c9v (n:Nat) (cs:List PV):a1g (.loc n cs)=none:=rfl
@[simp] theorem c7I (s n o:Nat):a1g (.lptr s n o)=none:=rfl
@[simp] theorem c7J:a1g (.dead)=none:=rfl
@[simp] theorem d0W (n:Nat) (cs:List PV):dem (.loc n cs) = .loc n cs:=rfl
@[simp] theorem c9w:dem .dead = .dead:=rfl
@[simp] theorem c7K (b:Bool):a0p (.bool b)=true:=rfl
@[simp] theorem c9x (k:IntKind) (n:Int):a0p (.int k n)=true:=rfl
@[simp] theorem c9y (s:List UInt8):a0p (.str s)=true:=rfl
@[simp] theorem c9z (cs:List PV):a0p (.agg cs)=a0j cs:=rfl
@[simp] theorem c5w (vs:List PV):a0p (.tuple vs)=a0j vs:=rfl
@[simp] theorem c33:a0p (.nilptr)=true:=rfl
@[simp] theorem c7L (cs:List PV):a0p (.cptr cs)=a0j cs:=rfl
@[simp] theorem c9A (n o:Nat):a0p (.ptr n o)=false:=rfl
@[simp] theorem c9B (n:Option Nat):a0p (.map n)=n.isNone:=rfl
@[simp] theorem c7M (k:Nat) (a b:List PV):a0p (.func k a b)=(a0j a&&a0j b):=rfl
@[simp] theorem c2g:a0p (.nilfunc)=true:=rfl
@[simp] theorem c5x (t:Nat) (v:PV):a0p (.iface t v)=a0p v:=rfl
@[simp] theorem c1b:a0p (.nilIface)=true:=rfl
@[simp] theorem c7N:a0p (.nils)=true:=rfl
@[simp] theorem c7O:a0p (.void)=true:=rfl
@[simp] theorem c7P (o:Bool) (es:List PV):a0p (.list o es)=a0j es:=rfl
@[simp] theorem c7Q:a0p (.dead)=false:=rfl
@[simp] theorem c7R (n sz:Nat) (a:Bool) (k:Nat):a0p (.rowp n sz a k)=false:=rfl
@[simp] theorem d0X (k:EK) (x y:PV):peq false [k] x y=b6L k x y:=rfl
@[simp] theorem d0Y (ks:List EK) (xs ys:List PV):peq true ks (.agg xs) (.agg ys)=b33 ks xs ys:=rfl
def tkv:PV→Option (PV×Bool)
 | .list true es=>some (.list true es,true)
 | v => match cp v with
   | some u=>some (u,false)
   | none=>none
@[simp] theorem c9C (b:Bool):tkv (.bool b)=some (.bool b,false):=rfl
@[simp] theorem d0Z (k:IntKind) (n:Int):tkv (.int k n)=some (.int k n,false):=rfl
@[simp] theorem d00 (s:List UInt8):tkv (.str s)=some (.str s,false):=rfl
@[simp] theorem d01 (cs:List PV):tkv (.agg cs)=some (.agg cs,false):=rfl
@[simp] theorem c7S (vs:List PV):tkv (.tuple vs)=some (.tuple vs,false):=rfl
@[simp] theorem c5y:tkv (.nilptr)=some (.nilptr,false):=rfl
@[simp] theorem c9D (cs:List PV):tkv (.cptr cs)=some (.cptr cs,false):=rfl
@[simp] theorem d02 (n o:Nat):tkv (.ptr n o)=some (.ptr n o,false):=rfl
@[simp] theorem d03 (n:Option Nat):tkv (.map n)=some (.map n,false):=rfl
@[simp] theorem c9E (k:Nat) (a b:List PV):tkv (.func k a b)=some (.func k a b,false):=rfl
@[simp] theorem c34:tkv (.nilfunc)=some (.nilfunc,false):=rfl
@[simp] theorem c7T (t:Nat) (v:PV):tkv (.iface t v)=some (.iface t v,false):=rfl
@[simp] theorem c2h:tkv (.nilIface)=some (.nilIface,false):=rfl
@[simp] theorem c9F:tkv (.nils)=some (.nils,false):=rfl
@[simp] theorem c9G:tkv (.void)=some (.void,false):=rfl
@[simp] theorem d04 (es:List PV):tkv (.list true es)=some (.list true es,true):=rfl
@[simp] theorem c9H (es:List PV):tkv (.list false es)=some (.list false es,false):=rfl
@[simp] theorem d05 (n:Nat) (cs:List PV):tkv (.loc n cs)=none:=rfl
@[simp] theorem c9I (s n o:Nat):tkv (.lptr s n o)=none:=rfl
@[simp] theorem c9J:tkv .dead=none:=rfl
@[simp] theorem c9K (n sz:Nat) (a:Bool) (k:Nat):tkv (.rowp n sz a k)=some (.rowp n sz a k,false):=rfl
@[simp] theorem d06 (x:PX):tk ⟨V,l,g,h⟩ x=match raw ⟨V,l,g,h⟩ x with
  | some v => (match tkv v with
    | some (u,true)=>some (u,a68 ⟨V,l,g,h⟩ x (dem v))
    | some (u,false)=>some (u,⟨V,l,g,h⟩)
    | none=>none)
  | none=>none:=by
 unfold tk
 cases raw ⟨V,l,g,h⟩ x with
 | none=>rfl
 | some v => cases v with
   | list ow es=>cases ow<;>rfl
   | _=>rfl
def a2z:PV→Option (List PV)
 | .agg cs=>some cs
 | _=>none
@[simp] theorem c2j (cs:List PV):a2z (.agg cs)=some cs:=rfl
@[simp] theorem c9L (cs:List PV):b3f (.agg cs) = .agg (cs.map dem):=rfl
@[simp] theorem c7U (b:Bool):b3f (.bool b) = .bool b:=rfl
@[simp] theorem c9M (k:IntKind) (n:Int):b3f (.int k n) = .int k n:=rfl
@[simp] theorem c9N (s:List UInt8):b3f (.str s) = .str s:=rfl
@[simp] theorem c7V (o:Bool) (es:List PV):b3f (.list o es) = .list false es:=rfl
@[simp] theorem c1c (n:Nat) (cs:List PV) (off:Nat) (v:PV):a0g n true cs off v=match a2z v with
  | some vs=>if vs.length=n∧off+n≤cs.length then some (cs.take off++(vs++cs.drop (off+n))) else none
  | none=>none:=by
 cases v<;>rfl
@[simp] theorem c1d (n:Nat) (cs:List PV) (off:Nat) (v:PV):a0g n false cs off v=if off<cs.length∧v.flat=true then some (cs.set off v) else none:=rfl
def d07 (h:List PObj):PV→Option PV
 | .rowp n sz agg len=>if agg=true∨sz=1 then(match h[n]? with | some (.cells cs)=>(match a3A sz agg cs len 0 with | some es=>some (.list false es) | none=>none) | _=>none) else none
 | _=>none
@[simp] theorem b5d (h:List PObj) (n sz len:Nat) (agg:Bool):d07 h (.rowp n sz agg len)=if agg=true∨sz=1 then(match h[n]? with | some (.cells cs)=>(match a3A sz agg cs len 0 with | some es=>some (.list false es) | none=>none) | _=>none) else none:=rfl
def b3F:PV→PV
 | .nils => .list false []
 | v=>v
@[simp] theorem c7W:b3F .nils = .list false []:=rfl
@[simp] theorem c7X (b:Bool):b3F (.bool b) = .bool b:=rfl
@[simp] theorem c9O (k:IntKind) (n:Int):b3F (.int k n) = .int k n:=rfl
@[simp] theorem c9P (s:List UInt8):b3F (.str s) = .str s:=rfl
@[simp] theorem c9Q (cs:List PV):b3F (.agg cs) = .agg cs:=rfl
@[simp] theorem c5z (cs:List PV):b3F (.tuple cs) = .tuple cs:=rfl
@[simp] theorem c35  : b3F (.nilptr) = .nilptr:=rfl
@[simp] theorem c7Y (cs:List PV):b3F (.cptr cs) = .cptr cs:=rfl
@[simp] theorem c9R (n o:Nat):b3F (.ptr n o) = .ptr n o:=rfl
@[simp] theorem c9S (n:Option Nat):b3F (.map n) = .map n:=rfl
@[simp] theorem c7Z (k:Nat) (a b:List PV):b3F (.func k a b) = .func k a b:=rfl
@[simp] theorem c2k  : b3F (.nilfunc) = .nilfunc:=rfl
@[simp] theorem c5A (t:Nat) (v:PV):b3F (.iface t v) = .iface t v:=rfl
@[simp] theorem c1e  : b3F (.nilIface) = .nilIface:=rfl
@[simp] theorem c70  : b3F (.void) = .void:=rfl
@[simp] theorem c71 (o:Bool) (es:List PV):b3F (.list o es) = .list o es:=rfl
@[simp] theorem c72  : b3F (.dead) = .dead:=rfl
@[simp] theorem c9T (n:Nat) (cs:List PV):b3F (.loc n cs) = .loc n cs:=rfl
@[simp] theorem c1f (i:Nat):a2e ⟨V,l,g,h⟩ (.keep i)=match V[i]? with | some v=>cp v | none=>none:=by
 simp only[a2e]; cases V[i]?<;>rfl
@[simp] theorem c2l (V:List PV) (i:Nat) (rs:List PRes) (h:List PObj):a0w V (.keep i::rs) h=a0w V rs h:=rfl
@[simp] theorem c2m (i:Nat):a2e ⟨V,l,g,h⟩ (.var i)=match V[i]? with
  | some v=>(match a1g v with | some _=>d07 h v | none=>(match tkv v with | some (u,_)=>some (b3F u) | none=>none))
  | none=>none:=by
 simp only[a2e]
 cases V[i]? with
 | none=>rfl
 | some v => cases v with
   | list ow es=>cases ow<;>rfl
   | rowp n sz agg len =>
     simp only[Option.bind_some,b5c,b5d]
     split
     ·simp only[a57]
      cases h[n]? with
      | none=>rfl
      | some o => cases o <;> try rfl
                  rename_i cs
                  simp only[Option.bind_some]
                  cases a3A sz agg cs len 0<;>rfl
     ·rfl
   | _=>rfl
@[simp] theorem c5B:a8a []=[]:=rfl
@[simp] theorem c36 (p:PV) (ps:List PV):a8a (p::ps)=match a1g p with | some n=>n::a8a ps | none=>a8a ps:=by
 cases p<;>rfl
@[simp] theorem c73 (h:List PObj):a9t [] h=h:=rfl
@[simp] theorem c5C (n:Nat) (ns:List Nat) (h:List PObj):a9t (n::ns) h=a9t ns (h.set n .gone):=rfl
@[simp] theorem c37 (V:List PV) (h:List PObj):a0w V [] h=h:=rfl
@[simp] theorem c2n (V:List PV) (i n:Nat) (agg:Bool) (rs:List PRes) (h:List PObj):a0w V (.cell i n agg::rs) h=match V[i]? with
  | some (.loc _ cs)=>a0w V rs (a9t (a8a cs) h)
  | _=>a0w V rs h:=by
 simp only[a0w,a6S]
 cases V[i]? with
 | none=>rfl
 | some v=>cases v<;>rfl
@[simp] theorem c38 (V:List PV) (i:Nat) (rs:List PRes) (h:List PObj):a0w V (.var i::rs) h=match V[i]? with
  | some v=>(match a1g v with | some n=>a0w V rs (h.set n .gone) | none=>a0w V rs h)
  | none=>a0w V rs h:=by
 simp only[a0w,a6S,c2O]
 cases V[i]? with
 | none=>rfl
 | some v=>cases v<;>rfl
@[simp] theorem c74 (h:List PObj):a8F h []=some []:=rfl
@[simp] theorem c5D (h:List PObj) (p:PV) (ps:List PV):a8F h (p::ps)=match a1g p with
  | some _=>(match d07 h p with | some q=>(match a8F h ps with | some qs=>some (q::qs) | none=>none) | none=>none)
  | none=>(match a8F h ps with | some qs=>some (p::qs) | none=>none):=by
 simp only[a8F]
 cases p with
 | rowp n sz agg len =>
   simp only[b5c,b5d,b5P]
   split
   ·cases h[n]? with
    | none=>rfl
    | some o => cases o <;> try rfl
                rename_i cs
                simp only
                cases a3A sz agg cs len 0 with
                | none=>rfl
                | some es=>simp only[Option.map_some,Option.bind_some]; cases a8F h ps<;>rfl
   ·rfl
 | _=>simp only[b5P,Option.bind_some]; cases a8F h ps<;>rfl
@[simp] theorem c9U (h:List PObj) (ps:List PV):a8n h (.agg ps)=match a8F h ps with | some qs=>some (.agg qs) | none=>none:=by
 simp only[a8n]; cases a8F h ps<;>rfl
@[simp] theorem c75 (h:List PObj) (b:Bool):a8n h (.bool b)=some (.bool b):=rfl
@[simp] theorem c9V (h:List PObj) (k:IntKind) (n:Int):a8n h (.int k n)=some (.int k n):=rfl
@[simp] theorem c9W (h:List PObj) (s:List UInt8):a8n h (.str s)=some (.str s):=rfl
@[simp] theorem c76 (h:List PObj) (o:Bool) (es:List PV):a8n h (.list o es)=some (.list o es):=rfl
@[simp] theorem c39 (h:List PObj)  : a8n h (.nilptr)=some (.nilptr):=rfl
@[simp] theorem c77 (h:List PObj) (cs:List PV):a8n h (.cptr cs)=some (.cptr cs):=rfl
@[simp] theorem c9X (h:List PObj) (n o:Nat):a8n h (.ptr n o)=some (.ptr n o):=rfl
@[simp] theorem c78 (h:List PObj) (n sz:Nat) (a:Bool) (k:Nat):a8n h (.rowp n sz a k)=some (.rowp n sz a k):=rfl
@[simp] theorem c9Y (h:List PObj) (n:Option Nat):a8n h (.map n)=some (.map n):=rfl
@[simp] theorem c79 (h:List PObj) (k:Nat) (a b:List PV):a8n h (.func k a b)=some (.func k a b):=rfl
@[simp] theorem c2o (h:List PObj)  : a8n h (.nilfunc)=some (.nilfunc):=rfl
@[simp] theorem c5E (h:List PObj) (t:Nat) (v:PV):a8n h (.iface t v)=some (.iface t v):=rfl
@[simp] theorem c1g (h:List PObj)  : a8n h (.nilIface)=some (.nilIface):=rfl
@[simp] theorem c1h (i n:Nat) (agg:Bool):a2e ⟨V,l,g,h⟩ (.cell i n agg)=match V[i]? with
  | some (.loc _ cs)=>(match a0a n agg cs 0 with | some v=>a8n h v | none=>none)
  | some (.ptr m 0)=>(match a57 ⟨V,l,g,h⟩ m with | some cs=>a0a n agg cs 0 | none=>none)
  | _=>none:=by
 simp only[a2e]
 cases V[i]? with
 | none=>rfl
 | some v =>
   cases v with
   | loc g cs=>simp only; cases a0a n agg cs 0<;>rfl
   | ptr m off =>
     cases off with
     | zero=>simp only; cases a57 ⟨V,l,g,h⟩ m<;>rfl
     | succ off=>rfl
   | _=>rfl
attribute [simp] addr rdInt a68 a0j b31 b32 unv bound b6L a5R
@[simp] theorem c8a (st:St):rdAll st []=some []:=rfl
@[simp] theorem c5F (x:PX) (xs:List PX):rdAll ⟨V,l,g,h⟩ (x::xs)=match rd ⟨V,l,g,h⟩ x with | some v=>(match rdAll ⟨V,l,g,h⟩ xs with | some vs=>some (v::vs) | none=>none) | none=>none:=by
 simp only[rdAll]; cases rd ⟨V,l,g,h⟩ x<;>simp; cases rdAll ⟨V,l,g,h⟩ xs<;>rfl
@[simp] theorem c4a (st:St):rdElems st []=some []:=rfl
@[simp] theorem c2p (i:Nat) (x:PX) (xs:List (Nat×PX)):rdElems ⟨V,l,g,h⟩ ((i,x)::xs)=match rd ⟨V,l,g,h⟩ x with | some v=>(match rdElems ⟨V,l,g,h⟩ xs with | some vs=>some ((i,v)::vs) | none=>none) | none=>none:=by
 simp only[rdElems]; cases rd ⟨V,l,g,h⟩ x<;>simp; cases rdElems ⟨V,l,g,h⟩ xs<;>rfl
@[simp] theorem c4b (st:St):rdParts st []=some []:=rfl
@[simp] theorem c2q (i s:Nat) (x:PX) (xs:List (Nat×Nat×PX)):rdParts ⟨V,l,g,h⟩ ((i,s,x)::xs)=match rd ⟨V,l,g,h⟩ x with | some v=>(match rdParts ⟨V,l,g,h⟩ xs with | some vs=>some ((i,s,v)::vs) | none=>none) | none=>none:=by
 simp only[rdParts]; cases rd ⟨V,l,g,h⟩ x<;>simp; cases rdParts ⟨V,l,g,h⟩ xs<;>rfl
@[simp] theorem d2O (i j:Nat) (v:PV):put ⟨V,l,g,h⟩ j (.v i) v=⟨V.set i v,l,g,h⟩:=rfl
@[simp] theorem d2P (j:Nat) (v:PV):put ⟨V,l,g,h⟩ j .l v=⟨V,l.set j v,g,h⟩:=rfl
@[simp] theorem d2Q (j:Nat) (v:PV):put ⟨V,l,g,h⟩ j .n v=⟨V,l,g,h⟩:=rfl
@[simp] theorem c5G (ops:List PO):a1A cf ops ⟨V,l,g,h⟩=a09 cf 0 ops ⟨V,List.replicate ops.length .dead,g,h⟩:=rfl
@[simp] theorem c2r (j:Nat) (st:St):a09 cf j [] st=some st:=rfl
@[simp] theorem c1j (j:Nat) (d:PD) (o:POp) (os:List PO):a09 cf j (⟨d,o,none⟩::os) ⟨V,l,g,h⟩ =
  match opv cf o ⟨V,l,g,h⟩ with | some (v,st)=>a09 cf (j+1) os (put st j d v) | none=>none:=by
 simp only[a09,a20]; cases opv cf o ⟨V,l,g,h⟩<;>rfl
@[simp] theorem c0d (j:Nat) (d:PD) (o:POp) (x:PX) (want:Bool) (os:List PO):a09 cf j (⟨d,o,some (x,want)⟩::os) ⟨V,l,g,h⟩ =
  match rd ⟨V,l,g,h⟩ x with
  | some (.bool b)=>if b=want then(match opv cf o ⟨V,l,g,h⟩ with | some (v,st)=>a09 cf (j+1) os (put st j d v) | none=>none) else a09 cf (j+1) os (put ⟨V,l,g,h⟩ j d (.tuple []))
  | some (.tuple [])=>a09 cf (j+1) os (put ⟨V,l,g,h⟩ j d (.tuple []))
  | _=>none:=by
 simp only[a09,a20]
 cases rd ⟨V,l,g,h⟩ x with
 | none=>rfl
 | some v =>
   cases v<;>try rfl
   ·rename_i b
    simp only
    by_cases hb:b=want
    ·simp only[if_pos hb]; cases opv cf o ⟨V,l,g,h⟩<;>rfl
    ·simp only[if_neg hb]; rfl
   ·rename_i vs
    cases vs<;>rfl
def sv (r:Option PV) (st:St):Option (PV×St):=match r with | some v=>some (v,st) | none=>none
@[simp] theorem d08 (v:PV) (st:St):sv (some v) st=some (v,st):=rfl
@[simp] theorem d09 (st:St):sv none st=none:=rfl
theorem a6t (r:Option PV) (st:St):r.map (·,st)=sv r st:=by cases r<;>rfl
@[simp] theorem d1a (x:PX):opv cf (.mov x) ⟨V,l,g,h⟩=sv (rd ⟨V,l,g,h⟩ x) ⟨V,l,g,h⟩:=a6t _ _
@[simp] theorem c9Z (x:PX):opv cf (.movs x) ⟨V,l,g,h⟩=match rd ⟨V,l,g,h⟩ x with | some (.str s)=>some (.str s,⟨V,l,g,h⟩) | _=>none:=rfl
@[simp] theorem c90 (x:PX):opv cf (.take x) ⟨V,l,g,h⟩=match raw ⟨V,l,g,h⟩ x with
  | some v => (match tkv v with
    | some (u,true)=>some (u,a68 ⟨V,l,g,h⟩ x (dem v))
    | some (u,false)=>some (u,⟨V,l,g,h⟩)
    | none=>none)
  | none=>none:=by
 simp only[opv,d06]
@[simp] theorem c91 (c a b:PX):opv cf (.pick c a b) ⟨V,l,g,h⟩=match rd ⟨V,l,g,h⟩ c with
  | some (.bool t)=>sv (rd ⟨V,l,g,h⟩ (if t then a else b)) ⟨V,l,g,h⟩
  | _=>none:=by
 simp only[opv,a6t]; rfl
@[simp] theorem c5H (z:List PV):opv cf (.newloc z) ⟨V,l,g,h⟩=some (.loc g z,⟨V,l,g+1,h⟩):=rfl
@[simp] theorem c5I (s:Nat) (x:PX):opv cf (.boxloc s x) ⟨V,l,g,h⟩=match rd ⟨V,l,g,h⟩ x with
  | some v=>if v.cells.length=s then some (.loc g (v.cells.map dem),⟨V,l,g+1,h⟩) else none
  | none=>none:=rfl
@[simp] theorem c4c (s:Nat) (z:PV) (n:Nat) (ps:List (Nat×PX)):opv cf (.mkslice s z n ps) ⟨V,l,g,h⟩=match rdElems ⟨V,l,g,h⟩ ps with
  | some es=>(match a5G s (List.replicate n z) es with | some es=>some (.list true es,⟨V,l,g,h⟩) | none=>none)
  | none=>none:=by
 simp only[opv]; cases rdElems ⟨V,l,g,h⟩ ps<;>simp; rename_i es; cases a5G s (List.replicate n z) es<;>rfl
@[simp] theorem c8b (z:List PV) (ps:List (Nat×Nat×PX)):opv cf (.build z ps) ⟨V,l,g,h⟩=match rdParts ⟨V,l,g,h⟩ ps with
  | some es=>(match a3M z es with | some cs=>some (.agg cs,⟨V,l,g,h⟩) | none=>none)
  | none=>none:=by
 simp only[opv]; cases rdParts ⟨V,l,g,h⟩ ps<;>simp; rename_i es; cases a3M z es<;>rfl
@[simp] theorem c92 (s:Nat) (agg:Bool) (a:PX) (t:Bool):opv cf (.load s agg a t) ⟨V,l,g,h⟩=match addr ⟨V,l,g,h⟩ a with
  | some (.cptr cs)=>sv (a0a s agg cs 0) ⟨V,l,g,h⟩
  | some (.lptr s' g0 off) =>
    match V[s']? with
    | some (.loc g' cs) =>
      if g0=g' then
       match t && !agg,cs[off]? with
       | true,some (.list true es)=>some (.list true es,⟨V.set s' (.loc g0 (cs.set off (.list false es))),l,g,h⟩)
       | _,_=>sv (a0a s agg cs off) ⟨V,l,g,h⟩
      else none
    | _=>none
  | _=>none:=by simp only[opv,a6t]; rfl
@[simp] theorem c8c (s:Nat) (agg:Bool) (a x:PX):opv cf (.store s agg a x) ⟨V,l,g,h⟩=match addr ⟨V,l,g,h⟩ a,tk ⟨V,l,g,h⟩ x with
  | some (.lptr s' g0 off), some (v, ⟨V, l, g, h⟩) =>
    match V[s']? with
    | some (.loc g' cs)=>if g0=g' then(match a0g s agg cs off v with | some cs=>some (.dead,⟨V.set s' (.loc g0 cs),l,g,h⟩) | none=>none) else none
    | _=>none
  | _,_=>none:=by
 simp only[opv]
 cases addr ⟨V,l,g,h⟩ a with
 | none=>rfl
 | some p => cases p <;> try rfl
             cases tk ⟨V,l,g,h⟩ x with
             | none=>rfl
             | some r => obtain ⟨v, ⟨V2, l2, g2, h2⟩⟩ := r
                         simp only
                         rename_i s1 g1 o1
                         cases V2[s1]? with
                         | none=>rfl
                         | some q => cases q <;> try rfl
                                     rename_i g' cs
                                     simp only
                                     by_cases hg:g1=g'
                                     ·simp only[if_pos hg]; cases a0g s agg cs o1 v<;>rfl
                                     ·simp only[if_neg hg]
@[simp] theorem c8d (off:Nat) (x:PX):opv cf (.faddr off x) ⟨V,l,g,h⟩=match addr ⟨V,l,g,h⟩ x with
  | some (.cptr cs)=>some (.cptr (cs.drop off),⟨V,l,g,h⟩)
  | some (.lptr s g0 o)=>some (.lptr s g0 (o+off),⟨V,l,g,h⟩)
  | some (.ptr n o)=>some (.ptr n (o+off),⟨V,l,g,h⟩)
  | _=>none:=rfl
@[simp] theorem c5J (s:Nat) (x i:PX):opv cf (.iaddrS s x i) ⟨V,l,g,h⟩=match rd ⟨V,l,g,h⟩ x,rdInt ⟨V,l,g,h⟩ i with
  | some (.list _ es), some n =>
    if 0≤n then
     match es[n.toNat]? with
     | some e=>if e.cells.length=s then some (.cptr e.cells,⟨V,l,g,h⟩) else none
     | none=>none
    else none
  | some (.rowp m sz _ len),some n=>if sz=s∧0≤n∧n<len then some (.ptr m (n.toNat*s),⟨V,l,g,h⟩) else none
  | _,_=>none:=rfl
@[simp] theorem c5K (n' s:Nat) (x i:PX):opv cf (.iaddrA n' s x i) ⟨V,l,g,h⟩=match addr ⟨V,l,g,h⟩ x,rdInt ⟨V,l,g,h⟩ i with
  | some (.lptr s' g0 o),some n=>if 0≤n∧n<n' then some (.lptr s' g0 (o+n.toNat*s),⟨V,l,g,h⟩) else none
  | some (.cptr cs),some n=>if 0≤n∧n<n' then some (.cptr (cs.drop (n.toNat*s)),⟨V,l,g,h⟩) else none
  | _,_=>none:=rfl
@[simp] theorem c8e (off s:Nat) (agg:Bool) (x:PX):opv cf (.field off s agg x) ⟨V,l,g,h⟩=match rd ⟨V,l,g,h⟩ x with
  | some v=>(match a2z v with | some cs=>sv (a0a s agg cs off) ⟨V,l,g,h⟩ | none=>none)
  | none=>none:=by
 simp only[opv,a6t]
 cases rd ⟨V,l,g,h⟩ x with
 | none=>rfl
 | some v=>cases v<;>rfl
@[simp] theorem c2s (x i:PX):opv cf (.indexStr x i) ⟨V,l,g,h⟩=match rd ⟨V,l,g,h⟩ x,rdInt ⟨V,l,g,h⟩ i with
  | some (.str s), some n =>
    if 0≤n then
     match s[n.toNat]? with
     | some b=>some (.int .u8 b.toNat,⟨V,l,g,h⟩)
     | none=>none
    else none
  | _,_=>none:=rfl
@[simp] theorem c2t (n:Nat) (i:Nat):opv cf (.sliceLoc n (.v i)) ⟨V,l,g,h⟩=match V[i]? with
  | some (.loc _ cs)=>if cs.length=n then some (.list true cs,⟨V.set i .dead,l,g,h⟩) else none
  | _=>none:=by
 simp only[opv,raw]
 cases V[i]? with
 | none=>rfl
 | some q=>cases q<;>rfl
@[simp] theorem d1b (op:BinOp) (x y:PX):opv cf (.bin op x y) ⟨V,l,g,h⟩=match rd ⟨V,l,g,h⟩ x,rd ⟨V,l,g,h⟩ y with
  | some a,some b=>sv (b8v op a b) ⟨V,l,g,h⟩
  | _,_=>none:=by simp only[opv,a6t]; rfl
@[simp] theorem d1A (neg agg:Bool) (ks:List EK) (x y:PX):opv cf (.eq neg agg ks x y) ⟨V,l,g,h⟩=match rd ⟨V,l,g,h⟩ x,rd ⟨V,l,g,h⟩ y with
  | some a,some b=>(match peq agg ks a b with | some t=>some (.bool (if neg then !t else t),⟨V,l,g,h⟩) | none=>none)
  | _,_=>none:=by
 simp only[opv]
 cases rd ⟨V,l,g,h⟩ x with
 | none=>rfl
 | some a => cases rd ⟨V, l, g, h⟩ y with
   | none=>rfl
   | some b=>simp only; cases peq agg ks a b<;>rfl
@[simp] theorem d1B (op:UnOp) (x:PX):opv cf (.un op x) ⟨V,l,g,h⟩=match rd ⟨V,l,g,h⟩ x with
  | some a=>sv (unv op a) ⟨V,l,g,h⟩
  | none=>none:=by simp only[opv,a6t]; rfl
@[simp] theorem c4d (k:IntKind) (x:PX):opv cf (.convInt k x) ⟨V,l,g,h⟩=match rdInt ⟨V,l,g,h⟩ x with
  | some n=>some (.int k (k.wrap n),⟨V,l,g,h⟩)
  | none=>none:=by simp only[opv]; cases rdInt ⟨V,l,g,h⟩ x<;>rfl
@[simp] theorem c4e (i:Nat) (x:PX):opv cf (.extract i x) ⟨V,l,g,h⟩=match rd ⟨V,l,g,h⟩ x with
  | some (.tuple vs)=>(match vs[i]? with | some v=>sv (cp v) ⟨V,l,g,h⟩ | none=>none)
  | _=>none:=by
 simp only[opv]
 cases rd ⟨V,l,g,h⟩ x with
 | none=>rfl
 | some a => cases a <;> try rfl
             rename_i vs; simp only; cases vs[i]?<;>simp[a6t]
@[simp] theorem d1c (str:Bool) (x:PX):opv cf (.len str x) ⟨V,l,g,h⟩=match str,rd ⟨V,l,g,h⟩ x with
  | true,some (.str s)=>some (.int .i64 s.length,⟨V,l,g,h⟩)
  | false,some (.list _ es)=>some (.int .i64 es.length,⟨V,l,g,h⟩)
  | false,some (.rowp _ _ _ n)=>some (.int .i64 n,⟨V,l,g,h⟩)
  | false,some .nils=>some (.int .i64 0,⟨V,l,g,h⟩)
  | false,some .void=>some (.int .i64 0,⟨V,l,g,h⟩)
  | _,_=>none:=rfl
@[simp] theorem d1d (x:PX):opv cf (.cap x) ⟨V,l,g,h⟩=match rd ⟨V,l,g,h⟩ x with
  | some .nils=>some (.int .i64 0,⟨V,l,g,h⟩)
  | _=>none:=rfl
@[simp] theorem c5L (y x:PX):opv cf (.appstr y x) ⟨V,l,g,h⟩=match rd ⟨V,l,g,h⟩ x,tk ⟨V,l,g,h⟩ y with
  | some (.str xs),some (.list true es,st)=>if a0W 1 es∧es.length+xs.length≤140737488355328 then some (.list true (es++a3N xs),st) else none
  | _,_=>none:=rfl
@[simp] theorem d1e (x:PX):opv cf (.b2s x) ⟨V,l,g,h⟩=match rd ⟨V,l,g,h⟩ x with
  | some (.list _ es)=>(match bytesOf es with | some s=>some (.str s,⟨V,l,g,h⟩) | none=>none)
  | some .nils=>some (.str [],⟨V,l,g,h⟩)
  | some .void=>some (.str [],⟨V,l,g,h⟩)
  | _=>none:=by
 simp only[opv]
 cases rd ⟨V,l,g,h⟩ x with
 | none=>rfl
 | some p => cases p <;> try rfl
             rename_i o es
             simp only[Option.bind_some,b0E]
             cases bytesOf es<;>rfl
@[simp] theorem d1f (x:PX):opv cf (.s2b x) ⟨V,l,g,h⟩=match rd ⟨V,l,g,h⟩ x with
  | some (.str s)=>if s.length≤140737488355328 then some (.list (!s.isEmpty) (a3N s),⟨V,l,g,h⟩) else none
  | _=>none:=rfl
@[simp] theorem c5M (mx:Bool) (xs:List PX):opv cf (.minmax mx xs) ⟨V,l,g,h⟩=match rdAll ⟨V,l,g,h⟩ xs with
  | some (v::vs)=>sv (a5R mx v vs) ⟨V,l,g,h⟩
  | _=>none:=by simp only[opv,a6t]; rfl
@[simp] theorem c5N (s b:Nat) (y x:PX):opv cf (.append s b y x) ⟨V,l,g,h⟩=match rd ⟨V,l,g,h⟩ x,tk ⟨V,l,g,h⟩ y with
  | some (.list _ xs), some (.list true es, st) =>
    if a0W s es∧a0W s xs∧((es.length+xs.length≤2147483648∧b≤16384)∨(es.length+xs.length≤9223372036854775807∧(es.length+xs.length)*b≤140737488355328)) then some (.list true (es++xs),st) else none
  | some .nils,some (.list true es,st)=>if a0W s es∧((es.length≤2147483648∧b≤16384)∨(es.length≤9223372036854775807∧es.length*b≤140737488355328)) then some (.list true es,st) else none
  | some .void,some (.list true es,st)=>if a0W s es∧((es.length≤2147483648∧b≤16384)∨(es.length≤9223372036854775807∧es.length*b≤140737488355328)) then some (.list true es,st) else none
  | _,_=>none:=by
 simp only[opv]
 generalize tk ⟨V,l,g,h⟩ y=q
 rcases q with _|⟨v,st⟩
 ·cases rd ⟨V,l,g,h⟩ x with
  | none=>rfl
  | some p=>cases p<;>rfl
 ·cases rd ⟨V,l,g,h⟩ x with
  | none=>rfl
  | some p =>
    cases v with
    | list ow es =>
      cases ow with
      | false=>cases p<;>rfl
      | true=>cases p<;>first | rfl | (simp only[Option.bind_some,b0E,show a0W s []=true from rfl,List.length_nil,Nat.add_zero,List.append_nil,true_and])
    | _=>cases p<;>rfl
@[simp] theorem c8f (s n:Nat) (agg:Bool) (a:PX):opv cf (.loadv s n agg a) ⟨V,l,g,h⟩=match addr ⟨V,l,g,h⟩ a with
  | some (.lptr s' g1 off) =>
    match V[s]? with
    | some (.loc g' cs)=>if s'=s∧g1=g' then(match a0a n agg cs off with | some u=>some (u,⟨V,l,g,h⟩) | none=>none) else none
    | _=>none
  | _=>none:=by
 simp only[opv]
 cases addr ⟨V,l,g,h⟩ a with
 | none=>rfl
 | some v =>
   cases v<;>try rfl
   cases V[s]? with
   | none=>rfl
   | some x => cases x <;> try rfl
               simp only
               split
               ·split
                ·rename_i hl; rw[hl]; rfl
                ·rename_i hl; rw[hl]; rfl
               ·rfl
@[simp] theorem c8g (k:Nat) (args:List PX):opv cf (.pcall k args) ⟨V,l,g,h⟩=match rdAll ⟨V,l,g,h⟩ args with
  | some vs=>if a0j vs then(match cf k vs [] with | some (r,_)=>if a0p r then some (dem r,⟨V,l,g,h⟩) else none | none=>none) else none
  | none=>none:=rfl
@[simp] theorem c5O (k:Nat) (args:List PX):opv cf (.pcallx k args none) ⟨V,l,g,h⟩=match rdAll ⟨V,l,g,h⟩ args with
  | some vs=>if a0j vs then(match cf k (a5f none vs) [] with | some (r,_)=>if a0p r then some (r,⟨V,l,g,h⟩) else none | none=>none) else none
  | none=>none:=rfl
@[simp] theorem c4f (k:Nat) (args:List PX) (i:Nat):opv cf (.pcallx k args (some i)) ⟨V,l,g,h⟩=match (match args[i]? with | some x=>tk ⟨V,l,g,h⟩ x | none=>none),rdAll ⟨V,l,g,h⟩ args with
  | some (v,st1),some vs=>if a0j (vs.set i v)∧i<vs.length then(match cf k (a5f (some i) (vs.set i v)) [] with | some (r,_)=>if a0p r then some (r,st1) else none | none=>none) else none
  | _,_=>none:=by
 simp only[opv]; cases args[i]?<;>rfl
@[simp] theorem c5P (l:List PV):b36 none l=l.map dem:=rfl
@[simp] theorem c5Q (i:Nat) (l:List PV):b36 (some i) l=(l.map dem).set i (l.getD i .dead):=rfl
@[simp] theorem c8h:a1i ⟨V,l,g,h⟩=⟨V,[],g,h⟩:=rfl
@[simp] theorem b3G (ops:List PO):evL L (.region ops) ⟨V,l,g,h⟩=match a1A (a0o L) ops ⟨V,l,g,h⟩ with | some st=>some (.normal,a1i st) | none=>none:=by
 rw[b7G]; cases a1A (a0o L) ops ⟨V,l,g,h⟩<;>rfl
@[simp] theorem b3H (ops:List PO) (x:PX) (a b:PC):evL L (.branch ops x a b) ⟨V,l,g,h⟩=match a1A (a0o L) ops ⟨V,l,g,h⟩ with
  | some st=>(match rd st x with | some (.bool t)=>if t then evL L a (a1i st) else evL L b (a1i st) | _=>none)
  | none=>none:=by
 rw[b7H]
 cases a1A (a0o L) ops ⟨V,l,g,h⟩ with
 | none=>rfl
 | some st =>
   simp only[Option.bind_some]
   cases rd st x with
   | none=>rfl
   | some v => cases v <;> try rfl
               rename_i t; cases t<;>rfl
@[simp] theorem c93 (ob:a8E) (j:Nat) (st:St):a7T cf ob j [] st=some (none,st):=rfl
noncomputable def b8a (cf:a0v) (ob:a8E) (j:Nat) (os:List PO):Option (Option PV×St)→Option (Option PV×St)
 | some (none,st)=>a7T cf ob j os st
 | r=>r
@[simp] theorem c8i (ob:a8E) (j:Nat) (os:List PO) (st:St):b8a cf ob j os (some (none,st))=a7T cf ob j os st:=rfl
@[simp] theorem c5R (ob:a8E) (j:Nat) (os:List PO) (v:PV) (st:St):b8a cf ob j os (some (some v,st))=some (some v,st):=rfl
@[simp] theorem c5S (ob:a8E) (j:Nat) (os:List PO):b8a cf ob j os none=none:=rfl
theorem a9h (ob:a8E) (j:Nat) (o:PO) (os:List PO) (st:St):a7T cf ob j (o::os) st=b8a cf ob (j+1) os (a4B cf ob j o st):=by
 simp only[a7T]
 rcases a4B cf ob j o st with _|⟨_|v,st1⟩<;>rfl
def c4g (j:Nat) (d:PD):Option (Out×List PObj)→St→Option (Option PV×St)
 | some (.val r,h'),st=>some (none,put { st with heap:=h' } j d (dem r))
 | some (.boom v,h'),st=>some (some v,{ st with heap:=h' })
 | none,_=>none
@[simp] theorem c94 (j:Nat) (d:PD) (r:PV) (h':List PObj):c4g j d (some (.val r,h')) ⟨V,l,g,h⟩=some (none,put ⟨V,l,g,h'⟩ j d (dem r)):=rfl
@[simp] theorem c8j (j:Nat) (d:PD) (v:PV) (h':List PObj):c4g j d (some (.boom v,h')) ⟨V,l,g,h⟩=some (some v,⟨V,l,g,h'⟩):=rfl
@[simp] theorem c8k (j:Nat) (d:PD) (st:St):c4g j d none st=none:=rfl
theorem b6q (ob:a8E) (j k:Nat) (d:PD) (args:List PX):a4B cf ob j ⟨d,.h (.bcall k args),none⟩ ⟨V,l,g,h⟩=match rdAll ⟨V,l,g,h⟩ args with
  | some vs=>c4g j d (ob k vs h) ⟨V,l,g,h⟩
  | none=>none:=by
 simp only[a4B]
 cases rdAll ⟨V,l,g,h⟩ args with
 | none=>rfl
 | some vs=>simp only; rcases ob k vs h with _ | ⟨_ | v,h'⟩<;>rfl
theorem b5e (ob:a8E) (j:Nat) (x:PX) (d:PD) (args:List PX):a4B cf ob j ⟨d,.h (.bcallv x args),none⟩ ⟨V,l,g,h⟩=match rd ⟨V,l,g,h⟩ x,rdAll ⟨V,l,g,h⟩ args with
  | some (.func k first captured),some vs=>c4g j d (ob k (first++vs++captured) h) ⟨V,l,g,h⟩
  | _,_=>none:=by
 simp only[a4B]
 cases rd ⟨V,l,g,h⟩ x with
 | none=>rfl
 | some f => cases rdAll ⟨V, l, g, h⟩ args with
   | none=>cases f<;>rfl
   | some vs => cases f <;> try rfl
                rename_i k first captured
                simp only; rcases ob k (first++vs++captured) h with _|⟨_|v,h'⟩<;>rfl
def c4h:Option St→Option (Option PV×St)
 | some st=>some (none,st)
 | none=>none
@[simp] theorem c5T (st:St):c4h (some st)=some (none,st):=rfl
@[simp] theorem c5U:c4h none=none:=rfl
def a1d:POp→Bool
 | .h (.bcall ..) | .h (.bcallv ..)=>true
 | _=>false
theorem b22 (ob:a8E) (j:Nat) (d:PD) (op:POp) (gd:Option (PX×Bool)) (st:St) (hb:a1d op=false):a4B cf ob j ⟨d,op,gd⟩ st=c4h (a20 cf j ⟨d,op,gd⟩ st):=by
 have key:a4B cf ob j ⟨d,op,gd⟩ st=(a20 cf j ⟨d,op,gd⟩ st).map λst=>(none,st):=by
  cases op with
  | h o=>cases o<;>first | rfl | simp[a1d] at hb
  | _=>rfl
 rw[key]
 cases a20 cf j ⟨d,op,gd⟩ st<;>rfl
@[simp] theorem c8l (x:PX):a1d (.mov x)=false:=id rfl
@[simp] theorem c5V (x:PX):a1d (.movs x)=false:=id rfl
@[simp] theorem c5W (x:PX):a1d (.take x)=false:=id rfl
@[simp] theorem c5X (c a b:PX):a1d (.pick c a b)=false:=id rfl
@[simp] theorem c2u (zero:List PV):a1d (.newloc zero)=false:=id rfl
@[simp] theorem c2v (size:Nat) (x:PX):a1d (.boxloc size x)=false:=id rfl
@[simp] theorem c4j (zero:List PV) (parts:List (Nat×Nat×PX)):a1d (.build zero parts)=false:=id rfl
@[simp] theorem c1k (size:Nat) (zero:PV) (len:Nat) (parts:List (Nat×PX)):a1d (.mkslice size zero len parts)=false:=id rfl
@[simp] theorem c5Y (size:Nat) (agg:Bool) (a:PX) (take:Bool):a1d (.load size agg a take)=false:=id rfl
@[simp] theorem c4k (size:Nat) (agg:Bool) (a x:PX):a1d (.store size agg a x)=false:=id rfl
@[simp] theorem c4l (off:Nat) (x:PX):a1d (.faddr off x)=false:=id rfl
@[simp] theorem c2w (size:Nat) (x i:PX):a1d (.iaddrS size x i)=false:=id rfl
@[simp] theorem c2x (len size:Nat) (x i:PX):a1d (.iaddrA len size x i)=false:=id rfl
@[simp] theorem c4m (off size:Nat) (agg:Bool) (x:PX):a1d (.field off size agg x)=false:=id rfl
@[simp] theorem c0e (x i:PX):a1d (.indexStr x i)=false:=id rfl
@[simp] theorem c4o (str:Bool) (size:Nat) (x:PX) (lo hi:Option PX):a1d (.slice str size x lo hi)=false:=id rfl
@[simp] theorem c0f (n:Nat) (x:PX):a1d (.sliceLoc n x)=false:=id rfl
@[simp] theorem c8m (op:BinOp) (x y:PX):a1d (.bin op x y)=false:=id rfl
@[simp] theorem c95 (neg agg:Bool) (ks:List EK) (x y:PX):a1d (.eq neg agg ks x y)=false:=id rfl
@[simp] theorem c96 (op:UnOp) (x:PX):a1d (.un op x)=false:=id rfl
@[simp] theorem c1l (k:IntKind) (x:PX):a1d (.convInt k x)=false:=id rfl
@[simp] theorem c1m (i:Nat) (x:PX):a1d (.extract i x)=false:=id rfl
@[simp] theorem c8n (str:Bool) (x:PX):a1d (.len str x)=false:=id rfl
@[simp] theorem c2y (max:Bool) (xs:List PX):a1d (.minmax max xs)=false:=id rfl
@[simp] theorem c2z (size bytes:Nat) (s x:PX):a1d (.append size bytes s x)=false:=id rfl
@[simp] theorem c2A (s x:PX):a1d (.appstr s x)=false:=id rfl
@[simp] theorem c8o (x:PX):a1d (.b2s x)=false:=id rfl
@[simp] theorem c8p (x:PX):a1d (.s2b x)=false:=id rfl
@[simp] theorem c2B (k:Nat) (args:List PX) (o:Option Nat):a1d (.pcallx k args o)=false:=id rfl
@[simp] theorem c4p (s n:Nat) (agg:Bool) (a:PX):a1d (.loadv s n agg a)=false:=id rfl
@[simp] theorem c4q (k:Nat) (args:List PX):a1d (.pcall k args)=false:=id rfl
@[simp] theorem c4r (x:PX) (args:List PX):a1d (.callv x args)=false:=id rfl
@[simp] theorem c0g (zero:List PV):a1d (.h (.newobj zero))=false:=id rfl
@[simp] theorem c0h (size:Nat) (x:PX):a1d (.h (.boxobj size x))=false:=id rfl
@[simp] theorem c2C (size:Nat) (agg:Bool) (a:PX) (take:Bool):a1d (.h (.load size agg a take))=false:=id rfl
@[simp] theorem c0i (size:Nat) (agg:Bool) (a x:PX):a1d (.h (.storer size agg a x))=false:=id rfl
@[simp] theorem c1n (size:Nat) (agg:Bool) (a x:PX):a1d (.h (.store size agg a x))=false:=id rfl
@[simp] theorem c1o (len size:Nat) (x i:PX):a1d (.h (.iaddr len size x i))=false:=id rfl
@[simp] theorem c1p  : a1d (.h (.mkmap ))=false:=id rfl
@[simp] theorem c0j (ok take kagg:Bool) (ks:List EK) (zero:PV) (m x:PX):a1d (.h (.lookup ok take kagg ks zero m x))=false:=id rfl
@[simp] theorem c2D (kagg:Bool) (ks:List EK) (m k v:PX):a1d (.h (.mset kagg ks m k v))=false:=id rfl
@[simp] theorem c2E (m:PX):a1d (.h (.mlen m))=false:=id rfl
@[simp] theorem c0k (k:Nat) (first captured:List PX):a1d (.h (.mkfunc k first captured))=false:=id rfl
@[simp] theorem c1q (kind:Nat) (neg:Bool) (x:PX):a1d (.h (.isnil kind neg x))=false:=id rfl
@[simp] theorem c0l (x:PX):a1d (.h (.nilchk x))=false:=id rfl
@[simp] theorem c1r (size:Nat) (agg:Bool) (a:PX):a1d (.h (.loadc size agg a))=false:=id rfl
@[simp] theorem c2F (zero:List PV) (parts:List (Nat×Nat×PX)):a1d (.h (.barr zero parts))=false:=id rfl
@[simp] theorem c2G (len size:Nat) (agg:Bool) (x i:PX):a1d (.h (.idxA len size agg x i))=false:=id rfl
@[simp] theorem c1s (k:Nat) (args:List PX):a1d (.h (.rcall k args))=false:=id rfl
@[simp] theorem c2H (k:Nat) (args:List PX):a1d (.h (.call k args))=false:=id rfl
@[simp] theorem c1t (x:PX) (args:List PX):a1d (.h (.callv x args))=false:=id rfl
@[simp] theorem c0m  : a1d (.h (.newbld ))=false:=id rfl
@[simp] theorem c2I (size:Nat) (agg:Bool) (bytes:Nat) (s x:PX):a1d (.h (.happ size agg bytes s x))=false:=id rfl
@[simp] theorem c1u (size:Nat) (agg:Bool) (bytes:Nat) (zero:List PV) (x:PX):a1d (.h (.mkarr size agg bytes zero x))=false:=id rfl
@[simp] theorem c1v (x:PX):a1d (.h (.range x))=false:=id rfl
@[simp] theorem c2J (x:PX):a1d (.h (.next x))=false:=id rfl
@[simp] theorem d1g (ob:a8E) (j:Nat) (d:PD) (op:POp) (os:List PO) (hb:a1d op=false):a7T cf ob j (⟨d,op,none⟩::os) ⟨V,l,g,h⟩=match opv cf op ⟨V,l,g,h⟩ with
  | some (v,st)=>a7T cf ob (j+1) os (put st j d v)
  | none=>none:=by
 rw[a9h,b22 ob j d op none _ hb]
 simp only[a20]
 cases opv cf op ⟨V,l,g,h⟩<;>rfl
@[simp] theorem c97 (ob:a8E) (j:Nat) (d:PD) (op:POp) (x:PX) (want:Bool) (os:List PO) (hb:a1d op=false):a7T cf ob j (⟨d,op,some (x,want)⟩::os) ⟨V,l,g,h⟩=match rd ⟨V,l,g,h⟩ x with
  | some (.bool b)=>if b=want then(match opv cf op ⟨V,l,g,h⟩ with | some (v,st)=>a7T cf ob (j+1) os (put st j d v) | none=>none) else a7T cf ob (j+1) os (put ⟨V,l,g,h⟩ j d (.tuple []))
  | some (.tuple [])=>a7T cf ob (j+1) os (put ⟨V,l,g,h⟩ j d (.tuple []))
  | _=>none:=by
 rw[a9h,b22 ob j d op _ _ hb]
 simp only[a20]
 cases rd ⟨V,l,g,h⟩ x with
 | none=>rfl
 | some v =>
   cases v with
   | bool b =>
     simp only
     by_cases hw:b=want
     ·simp only[hw,if_true]; cases opv cf op ⟨V,l,g,h⟩<;>rfl
     ·simp only[hw,if_false]; rfl
   | tuple vs=>cases vs<;>rfl
   | _=>rfl
@[simp] theorem c5Z (ob:a8E) (j k:Nat) (d:PD) (args:List PX) (os:List PO):a7T cf ob j (⟨d,.h (.bcall k args),none⟩::os) ⟨V,l,g,h⟩=match rdAll ⟨V,l,g,h⟩ args with
  | some vs=>b8a cf ob (j+1) os (c4g j d (ob k vs h) ⟨V,l,g,h⟩)
  | none=>none:=by
 rw[a9h,b6q]
 cases rdAll ⟨V,l,g,h⟩ args<;>rfl
@[simp] theorem c4s (ob:a8E) (j:Nat) (x:PX) (d:PD) (args:List PX) (os:List PO):a7T cf ob j (⟨d,.h (.bcallv x args),none⟩::os) ⟨V,l,g,h⟩=match rd ⟨V,l,g,h⟩ x,rdAll ⟨V,l,g,h⟩ args with
  | some (.func k first captured),some vs=>b8a cf ob (j+1) os (c4g j d (ob k (first++vs++captured) h) ⟨V,l,g,h⟩)
  | _,_=>none:=by
 rw[a9h,b5e]
 cases rd ⟨V,l,g,h⟩ x with
 | none=>rfl
 | some f => cases rdAll ⟨V, l, g, h⟩ args with
   | none=>cases f<;>rfl
   | some vs=>cases f<;>rfl
@[simp] theorem b2r (ops:List PO):evL L (.bregion ops) ⟨V,l,g,h⟩=match a7T (a0o L) (a3b L) 0 ops ⟨V,List.replicate ops.length .dead,g,h⟩ with
  | some (none,st)=>some (.normal,a1i st)
  | some (some v,st)=>some (.boom v,a1i st)
  | none=>none:=by rw[b5Z]; rfl
@[simp] theorem b2t (ops:List PO) (x:PX) (a b:PC):evL L (.bbranch ops x a b) ⟨V,l,g,h⟩=match a7T (a0o L) (a3b L) 0 ops ⟨V,List.replicate ops.length .dead,g,h⟩ with
  | some (none,st)=>(match rd st x with | some (.bool t)=>evL L (if t then a else b) (a1i st) | _=>none)
  | some (some v,st)=>some (.boom v,a1i st)
  | none=>none:=by rw[b50]; rfl
@[simp] theorem c1w (st:St):a1O st []=some []:=rfl
@[simp] theorem c0n (r:PRes) (rs:List PRes):a1O ⟨V,l,g,h⟩ (r::rs)=match a2e ⟨V,l,g,h⟩ r with
  | some v=>(match a1O ⟨V,l,g,h⟩ rs with | some vs=>some (v::vs) | none=>none)
  | none=>none:=by
 simp only[a1O]; cases a2e ⟨V,l,g,h⟩ r<;>simp; cases a1O ⟨V,l,g,h⟩ rs<;>rfl
def c8q:List PV→PV
 | [v]=>v
 | vs => .tuple (vs.map dem)
@[simp] theorem c98 (v:PV):c8q [v]=v:=rfl
@[simp] theorem c99 (v u:PV) (r:List PV):c8q (v::u::r) = .tuple ((v::u::r).map dem):=rfl
@[simp] theorem d0a:c8q [] = .tuple []:=rfl
@[simp] theorem c50 (rs:List PRes):a0Y ⟨V,l,g,h⟩ rs=match a1O ⟨V,l,g,h⟩ rs with | some vs=>some (c8q vs) | none=>none:=by
 simp only[a0Y]; cases a1O ⟨V,l,g,h⟩ rs<;>rfl
def a8m (rs:List PRes):Option (PExit×St)→Option (PV×List PObj)
 | some (.normal,st)=>(match a0Y st rs with | some v=>some (v,a0w st.vars rs st.heap) | none=>none)
 | some (.ret,st)=>(match a0Y st rs with | some v=>some (v,a0w st.vars rs st.heap) | none=>none)
 | _=>none
attribute [simp] a8m
theorem b3I {f:PFunc} {args:List PV} {hp:List PObj} {r:PV×List PObj} (hr:f.code.isRound=false) (he:a8m f.results (evL L f.code ⟨args.map dem++List.replicate (f.nv - f.params) .dead,[],0,hp⟩)=some r):a3B (evL L) (a4A L) f args hp=some (.val r.1,r.2):=by
 have key:∀st,(match a0Y st f.results with | some v=>some (v,a0w st.vars f.results st.heap) | none=>none)=some r→(a0Y st f.results).map (λr=>(Out.val r,a0w st.vars f.results st.heap))=some (Out.val r.1,r.2):=by
  intro st h
  cases hv:a0Y st f.results with
  | none=>rw[hv] at h; simp at h
  | some v=>rw[hv] at h; simp only[Option.some.injEq] at h; subst h; rfl
 unfold a3B
 split
 ·rename_i h1; rw[h1] at hr; simp[PC.isRound] at hr
 ·generalize evL L f.code ⟨args.map dem++List.replicate (f.nv - f.params) .dead,[],0,hp⟩=q at he ⊢
  rcases q with _|⟨e,st⟩
  ·simp at he
  ·cases e<;>simp only[a8m] at he ⊢
   ·exact key st he
   ·simp at he
   ·exact key st he
   ·simp at he
   ·simp at he
theorem a5P {f:PFunc} {args:List PV} {hp:List PObj} {r:PV×List PObj} (hr:f.code.isRound=false) (he:a8m f.results (evL L f.code ⟨args.map dem++List.replicate (f.nv - f.params) .dead,[],0,hp⟩)=some r):a6v (evL L) (a4A L) f args hp=some r:=by
 unfold a6v
 rw[if_neg (by rw[hr]; simp),a6e]
 exact b3I hr he
theorem b5f {k:Nat} {f:PFunc} {args:List PV} {hp:List PObj} {r} (hf:L k=some f) (hl:args.length=f.params) (he:a8m f.results (evL L f.code ⟨args.map dem++List.replicate (f.nv - f.params) .dead,[],0,hp⟩)=some r) (hs:f.split=false:=by rfl) (hpr:f.prim=none:=by rfl) (hr:f.code.isRound=false:=by rfl):
  a0o L k args hp=some r:=by
 rw[b0T,a0I,hf]
 simp only[if_pos hl,hs,hpr,Bool.false_and,Bool.false_eq_true,if_false]
 exact a5P hr he
theorem b8b {k:Nat} {f:PFunc} {p:List PV→List PObj→Option (PV×List PObj)} {args:List PV} {hp:List PObj} (hf:L k=some f) (hl:args.length=f.params) (hpr:f.prim=some p):a0o L k args hp=match p (args.map dem) hp with | some r=>some (dem r.1,r.2) | none=>none:=by
 rw[b0T,a0I,hf]
 simp only[if_pos hl,hpr]
 cases p (args.map dem) hp<;>rfl
theorem b6r {k:Nat} {f:PFunc} {args:List PV} {hp:List PObj} {r} (hf:L k=some f) (hl:args.length=f.params) (hs:f.split=true) (h0:vague (args.headD .dead)=false→a8m f.results (evL L f.code ⟨args.map dem++List.replicate (f.nv - f.params) .dead,[],0,hp⟩)=some r)
  (h1:vague (args.headD .dead)=true→a8m f.results (evL L f.code ⟨(.nils::args.tail).map dem++List.replicate (f.nv - f.params) .dead,[],0,hp⟩)=some r∧a8m f.results (evL L f.code ⟨(.void::args.tail).map dem++List.replicate (f.nv - f.params) .dead,[],0,hp⟩)=some r) (hpr:f.prim=none:=by rfl) (hr:f.code.isRound=false:=by rfl):
  a0o L k args hp=some r:=by
 rw[b0T,a0I,hf]
 simp only[if_pos hl,hpr]
 cases hv:vague (args.headD .dead) with
 | false=>simp only[Bool.and_false,Bool.false_eq_true,if_false]; exact a5P hr (h0 hv)
 | true =>
   obtain⟨a,b⟩:=h1 hv
   simp only[hs,Bool.and_self,if_true]
   rw[a2k]
   exact⟨a5P hr a,a5P hr b⟩
end
end PI
