import Derived.Test.YtljbhgpanekomaaGreatPiRun
set_option linter.unusedSectionVars false
namespace PI
open Go (IntKind BinOp UnOp)
section
variable {cf:wm} {V l:List PV} {g:Nat} {h:List PObj} {L:Nat→Option PFunc}
@[simp] theorem d7k (i:Nat):raw ⟨V,l,g,h⟩ (.v i)=V[i]? := rfl
@[simp] theorem d7l (i:Nat):raw ⟨V,l,g,h⟩ (.l i)=l[i]? := rfl
@[simp] theorem d7m (p:PV):raw ⟨V,l,g,h⟩ (.c p)=some p:=rfl
@[simp] theorem d7n (x:PX):rd ⟨V,l,g,h⟩ x=match raw ⟨V,l,g,h⟩ x with | some v=>cp v | none=>none:=by
 simp only[rd]; cases raw ⟨V,l,g,h⟩ x<;>rfl
@[simp] theorem d4E (b:Bool):cp (.bool b)=some (.bool b):=rfl
@[simp] theorem d24 (b:Bool):dem (.bool b) = .bool b:=rfl
@[simp] theorem d5r (k:IntKind) (n:Int):cp (.int k n)=some (.int k n):=rfl
@[simp] theorem d4F (k:IntKind) (n:Int):dem (.int k n) = .int k n:=rfl
@[simp] theorem d5s (s:List UInt8):cp (.str s)=some (.str s):=rfl
@[simp] theorem d4G (s:List UInt8):dem (.str s) = .str s:=rfl
@[simp] theorem d5t (cs:List PV):cp (.agg cs)=some (.agg cs):=rfl
@[simp] theorem d4H (cs:List PV):dem (.agg cs) = .agg cs:=rfl
@[simp] theorem d25 (vs:List PV):cp (.tuple vs)=some (.tuple vs):=rfl
@[simp] theorem d1c (vs:List PV):dem (.tuple vs) = .tuple vs:=rfl
@[simp] theorem d1d:cp (.nilptr)=some (.nilptr):=rfl
@[simp] theorem c84:dem (.nilptr) = .nilptr:=rfl
@[simp] theorem d4I (cs:List PV):cp (.cptr cs)=some (.cptr cs):=rfl
@[simp] theorem d26 (cs:List PV):dem (.cptr cs) = .cptr cs:=rfl
@[simp] theorem d5u (n o:Nat):cp (.ptr n o)=some (.ptr n o):=rfl
@[simp] theorem d4J (n o:Nat):dem (.ptr n o) = .ptr n o:=rfl
@[simp] theorem d5v (n:Option Nat):cp (.map n)=some (.map n):=rfl
@[simp] theorem d4K (n:Option Nat):dem (.map n) = .map n:=rfl
@[simp] theorem d4L (k:Nat) (a b:List PV):cp (.func k a b)=some (.func k a b):=rfl
@[simp] theorem d27 (k:Nat) (a b:List PV):dem (.func k a b) = .func k a b:=rfl
@[simp] theorem c85:cp (.nilfunc)=some (.nilfunc):=rfl
@[simp] theorem c7G:dem (.nilfunc) = .nilfunc:=rfl
@[simp] theorem d28 (t:Nat) (v:PV):cp (.iface t v)=some (.iface t v):=rfl
@[simp] theorem d1e (t:Nat) (v:PV):dem (.iface t v) = .iface t v:=rfl
@[simp] theorem c7H:cp (.nilIface)=some (.nilIface):=rfl
@[simp] theorem c5T:dem (.nilIface) = .nilIface:=rfl
@[simp] theorem d4M:cp (.nils)=some (.nils):=rfl
@[simp] theorem d29:dem (.nils) = .nils:=rfl
@[simp] theorem d4N:cp (.void)=some (.void):=rfl
@[simp] theorem d3a:dem (.void) = .void:=rfl
@[simp] theorem d4O (o:Bool) (es:List PV):cp (.list o es)=some (.list false es):=rfl
@[simp] theorem d3b (o:Bool) (es:List PV):dem (.list o es) = .list false es:=rfl
@[simp] theorem d5w (n:Nat) (cs:List PV):cp (.loc n cs)=none:=rfl
@[simp] theorem d4P (s n o:Nat):cp (.lptr s n o)=none:=rfl
@[simp] theorem d4Q:cp .dead=none:=rfl
@[simp] theorem d4R (n sz:Nat) (a:Bool) (k:Nat):cp (.rowp n sz a k)=some (.rowp n sz a k):=rfl
@[simp] theorem d3c (n sz:Nat) (a:Bool) (k:Nat):dem (.rowp n sz a k) = .rowp n sz a k:=rfl
@[simp] theorem QU (n sz:Nat) (a:Bool) (k:Nat):xi (.rowp n sz a k)=some n:=rfl
@[simp] theorem d1f (b:Bool):xi (.bool b)=none:=rfl
@[simp] theorem d3d (k:IntKind) (n:Int):xi (.int k n)=none:=rfl
@[simp] theorem d3e (s:List UInt8):xi (.str s)=none:=rfl
@[simp] theorem d3f (cs:List PV):xi (.agg cs)=none:=rfl
@[simp] theorem c86 (vs:List PV):xi (.tuple vs)=none:=rfl
@[simp] theorem c7I:xi (.nilptr)=none:=rfl
@[simp] theorem d1g (cs:List PV):xi (.cptr cs)=none:=rfl
@[simp] theorem d3g (n o:Nat):xi (.ptr n o)=none:=rfl
@[simp] theorem d3h (n:Option Nat):xi (.map n)=none:=rfl
@[simp] theorem d1h (k:Nat) (a b:List PV):xi (.func k a b)=none:=rfl
@[simp] theorem c5U:xi (.nilfunc)=none:=rfl
@[simp] theorem c87 (t:Nat) (v:PV):xi (.iface t v)=none:=rfl
@[simp] theorem c4F:xi (.nilIface)=none:=rfl
@[simp] theorem d1i:xi (.nils)=none:=rfl
@[simp] theorem d1j:xi (.void)=none:=rfl
@[simp] theorem d1k (o:Bool) (es:List PV):xi (.list o es)=none:=rfl
@[simp] theorem d3i (n:Nat) (cs:List PV):xi (.loc n cs)=none:=rfl
@[simp] theorem d1l (s n o:Nat):xi (.lptr s n o)=none:=rfl
@[simp] theorem d1m:xi (.dead)=none:=rfl
@[simp] theorem d4S (n:Nat) (cs:List PV):dem (.loc n cs) = .loc n cs:=rfl
@[simp] theorem d3j:dem .dead = .dead:=rfl
@[simp] theorem d1n (b:Bool):wB (.bool b)=true:=rfl
@[simp] theorem d3k (k:IntKind) (n:Int):wB (.int k n)=true:=rfl
@[simp] theorem d3l (s:List UInt8):wB (.str s)=true:=rfl
@[simp] theorem d3m (cs:List PV):wB (.agg cs)=wz cs:=rfl
@[simp] theorem c88 (vs:List PV):wB (.tuple vs)=wz vs:=rfl
@[simp] theorem c7J:wB (.nilptr)=true:=rfl
@[simp] theorem d1o (cs:List PV):wB (.cptr cs)=wz cs:=rfl
@[simp] theorem d3n (n o:Nat):wB (.ptr n o)=false:=rfl
@[simp] theorem d3o (n:Option Nat):wB (.map n)=n.isNone:=rfl
@[simp] theorem d1p (k:Nat) (a b:List PV):wB (.func k a b)=(wz a&&wz b):=rfl
@[simp] theorem c5V:wB (.nilfunc)=true:=rfl
@[simp] theorem c89 (t:Nat) (v:PV):wB (.iface t v)=wB v:=rfl
@[simp] theorem c4G:wB (.nilIface)=true:=rfl
@[simp] theorem d1q:wB (.nils)=true:=rfl
@[simp] theorem d1r:wB (.void)=true:=rfl
@[simp] theorem d1s (o:Bool) (es:List PV):wB (.list o es)=wz es:=rfl
@[simp] theorem d1t:wB (.dead)=false:=rfl
@[simp] theorem d1u (n sz:Nat) (a:Bool) (k:Nat):wB (.rowp n sz a k)=false:=rfl
@[simp] theorem d4T (k:EK) (x y:PV):peq false [k] x y=zi k x y:=rfl
@[simp] theorem d4U (ks:List EK) (xs ys:List PV):peq true ks (.agg xs) (.agg ys)=yO ks xs ys:=rfl
def tkv:PV→Option (PV×Bool)
 | .list true es=>some (.list true es,true)
 | v => match cp v with
   | some u=>some (u,false)
   | none=>none
@[simp] theorem d3p (b:Bool):tkv (.bool b)=some (.bool b,false):=rfl
@[simp] theorem d4V (k:IntKind) (n:Int):tkv (.int k n)=some (.int k n,false):=rfl
@[simp] theorem d4W (s:List UInt8):tkv (.str s)=some (.str s,false):=rfl
@[simp] theorem d4X (cs:List PV):tkv (.agg cs)=some (.agg cs,false):=rfl
@[simp] theorem d1v (vs:List PV):tkv (.tuple vs)=some (.tuple vs,false):=rfl
@[simp] theorem c9a:tkv (.nilptr)=some (.nilptr,false):=rfl
@[simp] theorem d3q (cs:List PV):tkv (.cptr cs)=some (.cptr cs,false):=rfl
@[simp] theorem d4Y (n o:Nat):tkv (.ptr n o)=some (.ptr n o,false):=rfl
@[simp] theorem d4Z (n:Option Nat):tkv (.map n)=some (.map n,false):=rfl
@[simp] theorem d3r (k:Nat) (a b:List PV):tkv (.func k a b)=some (.func k a b,false):=rfl
@[simp] theorem c7K:tkv (.nilfunc)=some (.nilfunc,false):=rfl
@[simp] theorem d1w (t:Nat) (v:PV):tkv (.iface t v)=some (.iface t v,false):=rfl
@[simp] theorem c5W:tkv (.nilIface)=some (.nilIface,false):=rfl
@[simp] theorem d3s:tkv (.nils)=some (.nils,false):=rfl
@[simp] theorem d3t:tkv (.void)=some (.void,false):=rfl
@[simp] theorem d40 (es:List PV):tkv (.list true es)=some (.list true es,true):=rfl
@[simp] theorem d3u (es:List PV):tkv (.list false es)=some (.list false es,false):=rfl
@[simp] theorem d41 (n:Nat) (cs:List PV):tkv (.loc n cs)=none:=rfl
@[simp] theorem d3v (s n o:Nat):tkv (.lptr s n o)=none:=rfl
@[simp] theorem d3w:tkv .dead=none:=rfl
@[simp] theorem d3x (n sz:Nat) (a:Bool) (k:Nat):tkv (.rowp n sz a k)=some (.rowp n sz a k,false):=rfl
@[simp] theorem d42 (x:PX):tk ⟨V,l,g,h⟩ x=match raw ⟨V,l,g,h⟩ x with
  | some v => (match tkv v with
    | some (u,true)=>some (u,Bp ⟨V,l,g,h⟩ x (dem v))
    | some (u,false)=>some (u,⟨V,l,g,h⟩)
    | none=>none)
  | none=>none:=by
 unfold tk
 cases raw ⟨V,l,g,h⟩ x with
 | none=>rfl
 | some v => cases v with
   | list ow es=>cases ow<;>rfl
   | _=>rfl
def Ax:PV→Option (List PV)
 | .agg cs=>some cs
 | _=>none
@[simp] theorem c5X (cs:List PV):Ax (.agg cs)=some cs:=rfl
@[simp] theorem d3y (cs:List PV):zj (.agg cs) = .agg (cs.map dem):=rfl
@[simp] theorem d1x (b:Bool):zj (.bool b) = .bool b:=rfl
@[simp] theorem d3z (k:IntKind) (n:Int):zj (.int k n) = .int k n:=rfl
@[simp] theorem d3A (s:List UInt8):zj (.str s) = .str s:=rfl
@[simp] theorem d1y (o:Bool) (es:List PV):zj (.list o es) = .list false es:=rfl
@[simp] theorem c4H (n:Nat) (cs:List PV) (off:Nat) (v:PV):wO n true cs off v=match Ax v with
  | some vs=>if vs.length=n∧off+n≤cs.length then some (cs.take off++(vs++cs.drop (off+n))) else none
  | none=>none:=by
 cases v<;>rfl
@[simp] theorem c4I (n:Nat) (cs:List PV) (off:Nat) (v:PV):wO n false cs off v=if off<cs.length∧v.flat=true then some (cs.set off v) else none:=rfl
def LH (h:List PObj):PV→Option PV
 | .rowp n sz agg len=>if agg=true∨sz=1 then(match h[n]? with | some (.cells cs)=>(match yF sz agg cs len 0 with | some es=>some (.list false es) | none=>none) | _=>none) else none
 | _=>none
@[simp] theorem QV (h:List PObj) (n sz len:Nat) (agg:Bool):LH h (.rowp n sz agg len)=if agg=true∨sz=1 then(match h[n]? with | some (.cells cs)=>(match yF sz agg cs len 0 with | some es=>some (.list false es) | none=>none) | _=>none) else none:=rfl
def zP:PV→PV
 | .nils => .list false []
 | v=>v
@[simp] theorem d1z:zP .nils = .list false []:=rfl
@[simp] theorem d1A (b:Bool):zP (.bool b) = .bool b:=rfl
@[simp] theorem d3B (k:IntKind) (n:Int):zP (.int k n) = .int k n:=rfl
@[simp] theorem d3C (s:List UInt8):zP (.str s) = .str s:=rfl
@[simp] theorem d3D (cs:List PV):zP (.agg cs) = .agg cs:=rfl
@[simp] theorem c9b (cs:List PV):zP (.tuple cs) = .tuple cs:=rfl
@[simp] theorem c7L  : zP (.nilptr) = .nilptr:=rfl
@[simp] theorem d1B (cs:List PV):zP (.cptr cs) = .cptr cs:=rfl
@[simp] theorem d3E (n o:Nat):zP (.ptr n o) = .ptr n o:=rfl
@[simp] theorem d3F (n:Option Nat):zP (.map n) = .map n:=rfl
@[simp] theorem d1C (k:Nat) (a b:List PV):zP (.func k a b) = .func k a b:=rfl
@[simp] theorem c5Y  : zP (.nilfunc) = .nilfunc:=rfl
@[simp] theorem c9c (t:Nat) (v:PV):zP (.iface t v) = .iface t v:=rfl
@[simp] theorem c4J  : zP (.nilIface) = .nilIface:=rfl
@[simp] theorem d1D  : zP (.void) = .void:=rfl
@[simp] theorem d1E (o:Bool) (es:List PV):zP (.list o es) = .list o es:=rfl
@[simp] theorem d1F  : zP (.dead) = .dead:=rfl
@[simp] theorem d3G (n:Nat) (cs:List PV):zP (.loc n cs) = .loc n cs:=rfl
@[simp] theorem c4K (i:Nat):Aj ⟨V,l,g,h⟩ (.keep i)=match V[i]? with | some v=>cp v | none=>none:=by
 simp only[Aj]; cases V[i]?<;>rfl
@[simp] theorem c5Z (V:List PV) (i:Nat) (rs:List PRes) (h:List PObj):w5 V (.keep i::rs) h=w5 V rs h:=rfl
@[simp] theorem c50 (i:Nat):Aj ⟨V,l,g,h⟩ (.var i)=match V[i]? with
  | some v=>(match xi v with | some _=>LH h v | none=>(match tkv v with | some (u,_)=>some (zP u) | none=>none))
  | none=>none:=by
 simp only[Aj]
 cases V[i]? with
 | none=>rfl
 | some v => cases v with
   | list ow es=>cases ow<;>rfl
   | rowp n sz agg len =>
     simp only[an,QU,QV]
     split
     ·simp only[wR]
      cases h[n]? with
      | none=>rfl
      | some o => cases o <;> try rfl
                  rename_i cs
                  simp only[an]
                  cases yF sz agg cs len 0<;>rfl
     ·rfl
   | _=>rfl
@[simp] theorem c9d:Br []=[]:=rfl
@[simp] theorem c7M (p:PV) (ps:List PV):Br (p::ps)=match xi p with | some n=>n::Br ps | none=>Br ps:=by
 cases p<;>rfl
@[simp] theorem d1G (h:List PObj):Aa [] h=h:=rfl
@[simp] theorem c9e (n:Nat) (ns:List Nat) (h:List PObj):Aa (n::ns) h=Aa ns (h.set n .gone):=rfl
@[simp] theorem c7N (V:List PV) (h:List PObj):w5 V [] h=h:=rfl
@[simp] theorem c51 (V:List PV) (i n:Nat) (agg:Bool) (rs:List PRes) (h:List PObj):w5 V (.cell i n agg::rs) h=match V[i]? with
  | some (.loc _ cs)=>w5 V rs (Aa (Br cs) h)
  | _=>w5 V rs h:=by
 simp only[w5,Bc]
 cases V[i]? with
 | none=>rfl
 | some v=>cases v<;>rfl
@[simp] theorem c7O (V:List PV) (i:Nat) (rs:List PRes) (h:List PObj):w5 V (.var i::rs) h=match V[i]? with
  | some v=>(match xi v with | some n=>w5 V rs (h.set n .gone) | none=>w5 V rs h)
  | none=>w5 V rs h:=by
 simp only[w5,Bc,II]
 cases V[i]? with
 | none=>rfl
 | some v=>cases v<;>rfl
@[simp] theorem d1H (h:List PObj):AJ h []=some []:=rfl
@[simp] theorem c9f (h:List PObj) (p:PV) (ps:List PV):AJ h (p::ps)=match xi p with
  | some _=>(match LH h p with | some q=>(match AJ h ps with | some qs=>some (q::qs) | none=>none) | none=>none)
  | none=>(match AJ h ps with | some qs=>some (p::qs) | none=>none):=by
 simp only[AJ]
 cases p with
 | rowp n sz agg len =>
   simp only[QU,QV,Ai]
   split
   ·cases h[n]? with
    | none=>rfl
    | some o => cases o <;> try rfl
                rename_i cs
                simp only
                cases yF sz agg cs len 0 with
                | none=>rfl
                | some es=>simp only[aB,an]; cases AJ h ps<;>rfl
   ·rfl
 | _=>simp only[Ai,an]; cases AJ h ps<;>rfl
@[simp] theorem d3H (h:List PObj) (ps:List PV):xF h (.agg ps)=match AJ h ps with | some qs=>some (.agg qs) | none=>none:=by
 simp only[xF]; cases AJ h ps<;>rfl
@[simp] theorem d1I (h:List PObj) (b:Bool):xF h (.bool b)=some (.bool b):=rfl
@[simp] theorem d3I (h:List PObj) (k:IntKind) (n:Int):xF h (.int k n)=some (.int k n):=rfl
@[simp] theorem d3J (h:List PObj) (s:List UInt8):xF h (.str s)=some (.str s):=rfl
@[simp] theorem d1J (h:List PObj) (o:Bool) (es:List PV):xF h (.list o es)=some (.list o es):=rfl
@[simp] theorem c7P (h:List PObj)  : xF h (.nilptr)=some (.nilptr):=rfl
@[simp] theorem d1K (h:List PObj) (cs:List PV):xF h (.cptr cs)=some (.cptr cs):=rfl
@[simp] theorem d3K (h:List PObj) (n o:Nat):xF h (.ptr n o)=some (.ptr n o):=rfl
@[simp] theorem d1L (h:List PObj) (n sz:Nat) (a:Bool) (k:Nat):xF h (.rowp n sz a k)=some (.rowp n sz a k):=rfl
@[simp] theorem d3L (h:List PObj) (n:Option Nat):xF h (.map n)=some (.map n):=rfl
@[simp] theorem d1M (h:List PObj) (k:Nat) (a b:List PV):xF h (.func k a b)=some (.func k a b):=rfl
@[simp] theorem c52 (h:List PObj)  : xF h (.nilfunc)=some (.nilfunc):=rfl
@[simp] theorem c9g (h:List PObj) (t:Nat) (v:PV):xF h (.iface t v)=some (.iface t v):=rfl
@[simp] theorem c4L (h:List PObj)  : xF h (.nilIface)=some (.nilIface):=rfl
@[simp] theorem c4M (i n:Nat) (agg:Bool):Aj ⟨V,l,g,h⟩ (.cell i n agg)=match V[i]? with
  | some (.loc _ cs)=>(match wq n agg cs 0 with | some v=>xF h v | none=>none)
  | some (.ptr m 0)=>(match wR ⟨V,l,g,h⟩ m with | some cs=>wq n agg cs 0 | none=>none)
  | _=>none:=by
 simp only[Aj]
 cases V[i]? with
 | none=>rfl
 | some v =>
   cases v with
   | loc g cs=>simp only; cases wq n agg cs 0<;>rfl
   | ptr m off =>
     cases off with
     | zero=>simp only; cases wR ⟨V,l,g,h⟩ m<;>rfl
     | succ off=>rfl
   | _=>rfl
attribute [simp] addr rdInt Bp wz EQ ER unv bound zi CC
@[simp] theorem d1N (st:St):rdAll st []=some []:=rfl
@[simp] theorem c9h (x:PX) (xs:List PX):rdAll ⟨V,l,g,h⟩ (x::xs)=match rd ⟨V,l,g,h⟩ x with | some v=>(match rdAll ⟨V,l,g,h⟩ xs with | some vs=>some (v::vs) | none=>none) | none=>none:=by
 simp only[rdAll]; cases rd ⟨V,l,g,h⟩ x<;>simp; cases rdAll ⟨V,l,g,h⟩ xs<;>rfl
@[simp] theorem c7Q (st:St):rdElems st []=some []:=rfl
@[simp] theorem c53 (i:Nat) (x:PX) (xs:List (Nat×PX)):rdElems ⟨V,l,g,h⟩ ((i,x)::xs)=match rd ⟨V,l,g,h⟩ x with | some v=>(match rdElems ⟨V,l,g,h⟩ xs with | some vs=>some ((i,v)::vs) | none=>none) | none=>none:=by
 simp only[rdElems]; cases rd ⟨V,l,g,h⟩ x<;>simp; cases rdElems ⟨V,l,g,h⟩ xs<;>rfl
@[simp] theorem c7R (st:St):rdParts st []=some []:=rfl
@[simp] theorem c54 (i s:Nat) (x:PX) (xs:List (Nat×Nat×PX)):rdParts ⟨V,l,g,h⟩ ((i,s,x)::xs)=match rd ⟨V,l,g,h⟩ x with | some v=>(match rdParts ⟨V,l,g,h⟩ xs with | some vs=>some ((i,s,v)::vs) | none=>none) | none=>none:=by
 simp only[rdParts]; cases rd ⟨V,l,g,h⟩ x<;>simp; cases rdParts ⟨V,l,g,h⟩ xs<;>rfl
@[simp] theorem d7o (i j:Nat) (v:PV):put ⟨V,l,g,h⟩ j (.v i) v=⟨V.set i v,l,g,h⟩:=rfl
@[simp] theorem d7p (j:Nat) (v:PV):put ⟨V,l,g,h⟩ j .l v=⟨V,l.set j v,g,h⟩:=rfl
@[simp] theorem d7q (j:Nat) (v:PV):put ⟨V,l,g,h⟩ j .n v=⟨V,l,g,h⟩:=rfl
@[simp] theorem c9i (ops:List PO):yA cf ops ⟨V,l,g,h⟩=yG cf 0 ops ⟨V,List.replicate ops.length .dead,g,h⟩:=rfl
@[simp] theorem c55 (j:Nat) (st:St):yG cf j [] st=some st:=rfl
@[simp] theorem c4N (j:Nat) (d:PD) (o:POp) (os:List PO):yG cf j (⟨d,o,none⟩::os) ⟨V,l,g,h⟩ =
  match opv cf o ⟨V,l,g,h⟩ with | some (v,st)=>yG cf (j+1) os (put st j d v) | none=>none:=by
 simp only[yG,w9]; cases opv cf o ⟨V,l,g,h⟩<;>rfl
@[simp] theorem c3m (j:Nat) (d:PD) (o:POp) (x:PX) (want:Bool) (os:List PO):yG cf j (⟨d,o,some (x,want)⟩::os) ⟨V,l,g,h⟩ =
  match rd ⟨V,l,g,h⟩ x with
  | some (.bool b)=>if b=want then(match opv cf o ⟨V,l,g,h⟩ with | some (v,st)=>yG cf (j+1) os (put st j d v) | none=>none) else yG cf (j+1) os (put ⟨V,l,g,h⟩ j d (.tuple []))
  | some (.tuple [])=>yG cf (j+1) os (put ⟨V,l,g,h⟩ j d (.tuple []))
  | _=>none:=by
 simp only[yG,w9]
 cases rd ⟨V,l,g,h⟩ x with
 | none=>rfl
 | some v =>
   cases v<;>try rfl
   ·rename_i b
    simp only
    by_cases hb:b=want
    ·simp only[ah hb]; cases opv cf o ⟨V,l,g,h⟩<;>rfl
    ·simp only[af hb]; rfl
   ·rename_i vs
    cases vs<;>rfl
def sv (r:Option PV) (st:St):Option (PV×St):=match r with | some v=>some (v,st) | none=>none
@[simp] theorem d44 (v:PV) (st:St):sv (some v) st=some (v,st):=rfl
@[simp] theorem d45 (st:St):sv none st=none:=rfl
theorem A8 (r:Option PV) (st:St):r.map (·,st)=sv r st:=by cases r<;>rfl
@[simp] theorem d46 (x:PX):opv cf (.mov x) ⟨V,l,g,h⟩=sv (rd ⟨V,l,g,h⟩ x) ⟨V,l,g,h⟩:=A8 _ _
@[simp] theorem d3M (x:PX):opv cf (.movs x) ⟨V,l,g,h⟩=match rd ⟨V,l,g,h⟩ x with | some (.str s)=>some (.str s,⟨V,l,g,h⟩) | _=>none:=rfl
@[simp] theorem d3N (x:PX):opv cf (.take x) ⟨V,l,g,h⟩=match raw ⟨V,l,g,h⟩ x with
  | some v => (match tkv v with
    | some (u,true)=>some (u,Bp ⟨V,l,g,h⟩ x (dem v))
    | some (u,false)=>some (u,⟨V,l,g,h⟩)
    | none=>none)
  | none=>none:=by
 simp only[opv,d42]
@[simp] theorem d3O (c a b:PX):opv cf (.pick c a b) ⟨V,l,g,h⟩=match rd ⟨V,l,g,h⟩ c with
  | some (.bool t)=>sv (rd ⟨V,l,g,h⟩ (if t then a else b)) ⟨V,l,g,h⟩
  | _=>none:=by
 simp only[opv,A8]; rfl
@[simp] theorem c9j (z:List PV):opv cf (.newloc z) ⟨V,l,g,h⟩=some (.loc g z,⟨V,l,g+1,h⟩):=rfl
@[simp] theorem c9k (s:Nat) (x:PX):opv cf (.boxloc s x) ⟨V,l,g,h⟩=match rd ⟨V,l,g,h⟩ x with
  | some v=>if v.cells.length=s then some (.loc g (v.cells.map dem),⟨V,l,g+1,h⟩) else none
  | none=>none:=rfl
@[simp] theorem c7S (s:Nat) (z:PV) (n:Nat) (ps:List (Nat×PX)):opv cf (.mkslice s z n ps) ⟨V,l,g,h⟩=match rdElems ⟨V,l,g,h⟩ ps with
  | some es=>(match AH s (List.replicate n z) es with | some es=>some (.list true es,⟨V,l,g,h⟩) | none=>none)
  | none=>none:=by
 simp only[opv]; cases rdElems ⟨V,l,g,h⟩ ps<;>simp; rename_i es; cases AH s (List.replicate n z) es<;>rfl
@[simp] theorem d1O (z:List PV) (ps:List (Nat×Nat×PX)):opv cf (.build z ps) ⟨V,l,g,h⟩=match rdParts ⟨V,l,g,h⟩ ps with
  | some es=>(match Ag z es with | some cs=>some (.agg cs,⟨V,l,g,h⟩) | none=>none)
  | none=>none:=by
 simp only[opv]; cases rdParts ⟨V,l,g,h⟩ ps<;>simp; rename_i es; cases Ag z es<;>rfl
@[simp] theorem d3P (s:Nat) (agg:Bool) (a:PX) (t:Bool):opv cf (.load s agg a t) ⟨V,l,g,h⟩=match addr ⟨V,l,g,h⟩ a with
  | some (.cptr cs)=>sv (wq s agg cs 0) ⟨V,l,g,h⟩
  | some (.lptr s' g0 off) =>
    match V[s']? with
    | some (.loc g' cs) =>
      if g0=g' then
       match t && !agg,cs[off]? with
       | true,some (.list true es)=>some (.list true es,⟨V.set s' (.loc g0 (cs.set off (.list false es))),l,g,h⟩)
       | _,_=>sv (wq s agg cs off) ⟨V,l,g,h⟩
      else none
    | _=>none
  | _=>none:=by simp only[opv,A8]; rfl
@[simp] theorem d1P (s:Nat) (agg:Bool) (a x:PX):opv cf (.store s agg a x) ⟨V,l,g,h⟩=match addr ⟨V,l,g,h⟩ a,tk ⟨V,l,g,h⟩ x with
  | some (.lptr s' g0 off), some (v, ⟨V, l, g, h⟩) =>
    match V[s']? with
    | some (.loc g' cs)=>if g0=g' then(match wO s agg cs off v with | some cs=>some (.dead,⟨V.set s' (.loc g0 cs),l,g,h⟩) | none=>none) else none
    | _=>none
  | _,_=>none:=by
 simp only[opv]
 cases addr ⟨V,l,g,h⟩ a with
 | none=>rfl
 | some p => cases p <;> try rfl
             cases tk ⟨V,l,g,h⟩ x with
             | none=>rfl
             | some r => obtain ⟨v, ⟨V2, l2, g2, h2⟩⟩ := r
                         simp only
                         rename_i s1 g1 o1
                         cases V2[s1]? with
                         | none=>rfl
                         | some q => cases q <;> try rfl
                                     rename_i g' cs
                                     simp only
                                     by_cases hg:g1=g'
                                     ·simp only[ah hg]; cases wO s agg cs o1 v<;>rfl
                                     ·simp only[af hg]
@[simp] theorem d1Q (off:Nat) (x:PX):opv cf (.faddr off x) ⟨V,l,g,h⟩=match addr ⟨V,l,g,h⟩ x with
  | some (.cptr cs)=>some (.cptr (cs.drop off),⟨V,l,g,h⟩)
  | some (.lptr s g0 o)=>some (.lptr s g0 (o+off),⟨V,l,g,h⟩)
  | some (.ptr n o)=>some (.ptr n (o+off),⟨V,l,g,h⟩)
  | _=>none:=rfl
@[simp] theorem c9l (s:Nat) (x i:PX):opv cf (.iaddrS s x i) ⟨V,l,g,h⟩=match rd ⟨V,l,g,h⟩ x,rdInt ⟨V,l,g,h⟩ i with
  | some (.list _ es), some n =>
    if 0≤n then
     match es[n.toNat]? with
     | some e=>if e.cells.length=s then some (.cptr e.cells,⟨V,l,g,h⟩) else none
     | none=>none
    else none
  | some (.rowp m sz _ len),some n=>if sz=s∧0≤n∧n<len then some (.ptr m (n.toNat*s),⟨V,l,g,h⟩) else none
  | some (.rows m sz _ off len),some n=>if sz=s∧0≤n∧n<len then some (.ptr m ((off+n.toNat)*s),⟨V,l,g,h⟩) else none
  | _,_=>none:=rfl
@[simp] theorem c9m (n' s:Nat) (x i:PX):opv cf (.iaddrA n' s x i) ⟨V,l,g,h⟩=match addr ⟨V,l,g,h⟩ x,rdInt ⟨V,l,g,h⟩ i with
  | some (.lptr s' g0 o),some n=>if 0≤n∧n<n' then some (.lptr s' g0 (o+n.toNat*s),⟨V,l,g,h⟩) else none
  | some (.cptr cs),some n=>if 0≤n∧n<n' then some (.cptr (cs.drop (n.toNat*s)),⟨V,l,g,h⟩) else none
  | _,_=>none:=rfl
@[simp] theorem d1R (off s:Nat) (agg:Bool) (x:PX):opv cf (.field off s agg x) ⟨V,l,g,h⟩=match rd ⟨V,l,g,h⟩ x with
  | some v=>(match Ax v with | some cs=>sv (wq s agg cs off) ⟨V,l,g,h⟩ | none=>none)
  | none=>none:=by
 simp only[opv,A8]
 cases rd ⟨V,l,g,h⟩ x with
 | none=>rfl
 | some v=>cases v<;>rfl
@[simp] theorem c56 (x i:PX):opv cf (.indexStr x i) ⟨V,l,g,h⟩=match rd ⟨V,l,g,h⟩ x,rdInt ⟨V,l,g,h⟩ i with
  | some (.str s), some n =>
    if 0≤n then
     match s[n.toNat]? with
     | some b=>some (.int .u8 b.toNat,⟨V,l,g,h⟩)
     | none=>none
    else none
  | _,_=>none:=rfl
@[simp] theorem c57 (n:Nat) (i:Nat):opv cf (.sliceLoc n (.v i)) ⟨V,l,g,h⟩=match V[i]? with
  | some (.loc _ cs)=>if cs.length=n then some (.list true cs,⟨V.set i .dead,l,g,h⟩) else none
  | _=>none:=by
 simp only[opv,raw]
 cases V[i]? with
 | none=>rfl
 | some q=>cases q<;>rfl
@[simp] theorem d47 (op:BinOp) (x y:PX):opv cf (.bin op x y) ⟨V,l,g,h⟩=match rd ⟨V,l,g,h⟩ x,rd ⟨V,l,g,h⟩ y with
  | some a,some b=>sv (Bq op a b) ⟨V,l,g,h⟩
  | _,_=>none:=by simp only[opv,A8]; rfl
@[simp] theorem d5x (neg agg:Bool) (ks:List EK) (x y:PX):opv cf (.eq neg agg ks x y) ⟨V,l,g,h⟩=match rd ⟨V,l,g,h⟩ x,rd ⟨V,l,g,h⟩ y with
  | some a,some b=>(match peq agg ks a b with | some t=>some (.bool (if neg then !t else t),⟨V,l,g,h⟩) | none=>none)
  | _,_=>none:=by
 simp only[opv]
 cases rd ⟨V,l,g,h⟩ x with
 | none=>rfl
 | some a => cases rd ⟨V, l, g, h⟩ y with
   | none=>rfl
   | some b=>simp only; cases peq agg ks a b<;>rfl
@[simp] theorem d5y (op:UnOp) (x:PX):opv cf (.un op x) ⟨V,l,g,h⟩=match rd ⟨V,l,g,h⟩ x with
  | some a=>sv (unv op a) ⟨V,l,g,h⟩
  | none=>none:=by simp only[opv,A8]; rfl
@[simp] theorem d3Q (t:Nat) (x:PX):opv cf (.ifc true t x) ⟨V,l,g,h⟩=match rd ⟨V,l,g,h⟩ x with
  | some v=>some (.iface t v,⟨V,l,g,h⟩)
  | none=>none:=by
 simp only[opv]
 cases rd ⟨V,l,g,h⟩ x<;>rfl
@[simp] theorem d3R (t:Nat) (x:PX):opv cf (.ifc false t x) ⟨V,l,g,h⟩=match rd ⟨V,l,g,h⟩ x with
  | some (.iface t' v)=>if t'=t then some (dem v,⟨V,l,g,h⟩) else none
  | _=>none:=by
 simp only[opv]
 cases rd ⟨V,l,g,h⟩ x with
 | none=>rfl
 | some v=>cases v<;>rfl
@[simp] theorem c7T (k:IntKind) (x:PX):opv cf (.convInt k x) ⟨V,l,g,h⟩=match rdInt ⟨V,l,g,h⟩ x with
  | some n=>some (.int k (k.wrap n),⟨V,l,g,h⟩)
  | none=>none:=by simp only[opv]; cases rdInt ⟨V,l,g,h⟩ x<;>rfl
@[simp] theorem c7U (i:Nat) (x:PX):opv cf (.extract i x) ⟨V,l,g,h⟩=match rd ⟨V,l,g,h⟩ x with
  | some (.tuple vs)=>(match vs[i]? with | some v=>sv (cp v) ⟨V,l,g,h⟩ | none=>none)
  | _=>none:=by
 simp only[opv]
 cases rd ⟨V,l,g,h⟩ x with
 | none=>rfl
 | some a => cases a <;> try rfl
             rename_i vs; simp only; cases vs[i]?<;>simp[A8]
@[simp] theorem d48 (str:Bool) (x:PX):opv cf (.len str x) ⟨V,l,g,h⟩=match str,rd ⟨V,l,g,h⟩ x with
  | true,some (.str s)=>some (.int .i64 s.length,⟨V,l,g,h⟩)
  | false,some (.list _ es)=>some (.int .i64 es.length,⟨V,l,g,h⟩)
  | false,some (.rowp _ _ _ n)=>some (.int .i64 n,⟨V,l,g,h⟩)
  | false,some (.rows _ _ _ _ n)=>some (.int .i64 n,⟨V,l,g,h⟩)
  | false,some .nils=>some (.int .i64 0,⟨V,l,g,h⟩)
  | false,some .void=>some (.int .i64 0,⟨V,l,g,h⟩)
  | _,_=>none:=rfl
@[simp] theorem d49 (x:PX):opv cf (.cap x) ⟨V,l,g,h⟩=match rd ⟨V,l,g,h⟩ x with
  | some .nils=>some (.int .i64 0,⟨V,l,g,h⟩)
  | _=>none:=rfl
@[simp] theorem c9n (y x:PX):opv cf (.appstr y x) ⟨V,l,g,h⟩=match rd ⟨V,l,g,h⟩ x,tk ⟨V,l,g,h⟩ y with
  | some (.str xs),some (.list true es,st)=>if w6 1 es∧es.length+xs.length≤140737488355328 then some (.list true (es++AI xs),st) else none
  | _,_=>none:=rfl
@[simp] theorem d5a (x:PX):opv cf (.b2s x) ⟨V,l,g,h⟩=match rd ⟨V,l,g,h⟩ x with
  | some (.list _ es)=>(match bytesOf es with | some s=>some (.str s,⟨V,l,g,h⟩) | none=>none)
  | some .nils=>some (.str [],⟨V,l,g,h⟩)
  | some .void=>some (.str [],⟨V,l,g,h⟩)
  | _=>none:=by
 simp only[opv]
 cases rd ⟨V,l,g,h⟩ x with
 | none=>rfl
 | some p => cases p <;> try rfl
             rename_i o es
             simp only[an,Bb]
             cases bytesOf es<;>rfl
@[simp] theorem d5b (x:PX):opv cf (.s2b x) ⟨V,l,g,h⟩=match rd ⟨V,l,g,h⟩ x with
  | some (.str s)=>if s.length≤140737488355328 then some (.list (!s.isEmpty) (AI s),⟨V,l,g,h⟩) else none
  | _=>none:=rfl
@[simp] theorem c9o (mx:Bool) (xs:List PX):opv cf (.minmax mx xs) ⟨V,l,g,h⟩=match rdAll ⟨V,l,g,h⟩ xs with
  | some (v::vs)=>sv (CC mx v vs) ⟨V,l,g,h⟩
  | _=>none:=by simp only[opv,A8]; rfl
@[simp] theorem c9p (s b:Nat) (y x:PX):opv cf (.append s b y x) ⟨V,l,g,h⟩=match rd ⟨V,l,g,h⟩ x,tk ⟨V,l,g,h⟩ y with
  | some (.list _ xs), some (.list true es, st) =>
    if w6 s es∧w6 s xs∧((es.length+xs.length≤2147483648∧b≤16384)∨(es.length+xs.length≤9223372036854775807∧(es.length+xs.length)*b≤140737488355328)) then some (.list true (es++xs),st) else none
  | some .nils,some (.list true es,st)=>if w6 s es∧((es.length≤2147483648∧b≤16384)∨(es.length≤9223372036854775807∧es.length*b≤140737488355328)) then some (.list true es,st) else none
  | some .void,some (.list true es,st)=>if w6 s es∧((es.length≤2147483648∧b≤16384)∨(es.length≤9223372036854775807∧es.length*b≤140737488355328)) then some (.list true es,st) else none
  | _,_=>none:=by
 simp only[opv]
 generalize tk ⟨V,l,g,h⟩ y=q
 rcases q with _|⟨v,st⟩
 ·cases rd ⟨V,l,g,h⟩ x with
  | none=>rfl
  | some p=>cases p<;>rfl
 ·cases rd ⟨V,l,g,h⟩ x with
  | none=>rfl
  | some p =>
    cases v with
    | list ow es =>
      cases ow with
      | false=>cases p<;>rfl
      | true=>cases p<;>first | rfl | (simp only[an,Bb,show w6 s []=true from rfl,bB,bq,bh,true_and])
    | _=>cases p<;>rfl
@[simp] theorem d1S (s n:Nat) (agg:Bool) (a:PX):opv cf (.loadv s n agg a) ⟨V,l,g,h⟩=match addr ⟨V,l,g,h⟩ a with
  | some (.lptr s' g1 off) =>
    match V[s]? with
    | some (.loc g' cs)=>if s'=s∧g1=g' then(match wq n agg cs off with | some u=>some (u,⟨V,l,g,h⟩) | none=>none) else none
    | _=>none
  | _=>none:=by
 simp only[opv]
 cases addr ⟨V,l,g,h⟩ a with
 | none=>rfl
 | some v =>
   cases v<;>try rfl
   cases V[s]? with
   | none=>rfl
   | some x => cases x <;> try rfl
               simp only
               split
               ·split
                ·rename_i hl; rw[hl]; rfl
                ·rename_i hl; rw[hl]; rfl
               ·rfl
@[simp] theorem d1T (k:Nat) (args:List PX):opv cf (.pcall k args) ⟨V,l,g,h⟩=match rdAll ⟨V,l,g,h⟩ args with
  | some vs=>if wz vs then(match cf k vs [] with | some (r,_)=>if wB r then some (dem r,⟨V,l,g,h⟩) else none | none=>none) else none
  | none=>none:=rfl
@[simp] theorem c9q (k:Nat) (args:List PX):opv cf (.pzcall k args) ⟨V,l,g,h⟩=match rdAll ⟨V,l,g,h⟩ args with
  | some vs=>if wz vs then(match cf k vs [] with | some (r,h')=>(if wB (frz h' r) then some (dem (frz h' r),⟨V,l,g,h⟩) else none) | none=>none) else none
  | none=>none:=rfl
@[simp] theorem c9r (k:Nat) (args:List PX):opv cf (.pcallx k args none) ⟨V,l,g,h⟩=match rdAll ⟨V,l,g,h⟩ args with
  | some vs=>if wz vs then(match cf k (Ah none vs) [] with | some (r,_)=>if wB r then some (r,⟨V,l,g,h⟩) else none | none=>none) else none
  | none=>none:=rfl
@[simp] theorem c7V (k:Nat) (args:List PX) (i:Nat):opv cf (.pcallx k args (some i)) ⟨V,l,g,h⟩=match (match args[i]? with | some x=>tk ⟨V,l,g,h⟩ x | none=>none),rdAll ⟨V,l,g,h⟩ args with
  | some (v,st1),some vs=>if wz (vs.set i v)∧i<vs.length then(match cf k (Ah (some i) (vs.set i v)) [] with | some (r,_)=>if wB r then some (r,st1) else none | none=>none) else none
  | _,_=>none:=by
 simp only[opv]; cases args[i]?<;>rfl
@[simp] theorem c9s (l:List PV):Bd none l=l.map dem:=rfl
@[simp] theorem c9t (i:Nat) (l:List PV):Bd (some i) l=(l.map dem).set i (l.getD i .dead):=rfl
@[simp] theorem d1U:xk ⟨V,l,g,h⟩=⟨V,[],g,h⟩:=rfl
@[simp] theorem b5U (ops:List PO):evL L (.region ops) ⟨V,l,g,h⟩=match yA (wj L) ops ⟨V,l,g,h⟩ with | some st=>some (.normal,xk st) | none=>none:=by
 rw[c00]; cases yA (wj L) ops ⟨V,l,g,h⟩<;>rfl
@[simp] theorem b5V (ops:List PO) (x:PX) (a b:PC):evL L (.branch ops x a b) ⟨V,l,g,h⟩=match yA (wj L) ops ⟨V,l,g,h⟩ with
  | some st=>(match rd st x with | some (.bool t)=>if t then evL L a (xk st) else evL L b (xk st) | _=>none)
  | none=>none:=by
 rw[c01]
 cases yA (wj L) ops ⟨V,l,g,h⟩ with
 | none=>rfl
 | some st =>
   simp only[an]
   cases rd st x with
   | none=>rfl
   | some v => cases v <;> try rfl
               rename_i t; cases t<;>rfl
@[simp] theorem d3S (ob:xX) (j:Nat) (st:St):xI cf ob j [] st=some (none,st):=rfl
noncomputable def EF (cf:wm) (ob:xX) (j:Nat) (os:List PO):Option (Option PV×St)→Option (Option PV×St)
 | some (none,st)=>xI cf ob j os st
 | r=>r
@[simp] theorem d1V (ob:xX) (j:Nat) (os:List PO) (st:St):EF cf ob j os (some (none,st))=xI cf ob j os st:=rfl
@[simp] theorem c9u (ob:xX) (j:Nat) (os:List PO) (v:PV) (st:St):EF cf ob j os (some (some v,st))=some (some v,st):=rfl
@[simp] theorem c9v (ob:xX) (j:Nat) (os:List PO):EF cf ob j os none=none:=rfl
theorem Ik (ob:xX) (j:Nat) (o:PO) (os:List PO) (st:St):xI cf ob j (o::os) st=EF cf ob (j+1) os (yu cf ob j o st):=by
 simp only[xI]
 rcases yu cf ob j o st with _|⟨_|v,st1⟩<;>rfl
def DL (j:Nat) (d:PD):Option (Out×List PObj)→St→Option (Option PV×St)
 | some (.val r,h'),st=>some (none,put { st with heap:=h' } j d (dem r))
 | some (.boom v,h'),st=>some (some v,{ st with heap:=h' })
 | none,_=>none
@[simp] theorem d3T (j:Nat) (d:PD) (r:PV) (h':List PObj):DL j d (some (.val r,h')) ⟨V,l,g,h⟩=some (none,put ⟨V,l,g,h'⟩ j d (dem r)):=rfl
@[simp] theorem d1W (j:Nat) (d:PD) (v:PV) (h':List PObj):DL j d (some (.boom v,h')) ⟨V,l,g,h⟩=some (some v,⟨V,l,g,h'⟩):=rfl
@[simp] theorem d1X (j:Nat) (d:PD) (st:St):DL j d none st=none:=rfl
theorem b8Y (ob:xX) (j k:Nat) (d:PD) (args:List PX):yu cf ob j ⟨d,.h (.bcall k args),none⟩ ⟨V,l,g,h⟩=match rdAll ⟨V,l,g,h⟩ args with
  | some vs=>DL j d (ob k vs h) ⟨V,l,g,h⟩
  | none=>none:=by
 simp only[yu]
 cases rdAll ⟨V,l,g,h⟩ args with
 | none=>rfl
 | some vs=>simp only; rcases ob k vs h with _ | ⟨_ | v,h'⟩<;>rfl
theorem b7s (ob:xX) (j:Nat) (x:PX) (d:PD) (args:List PX):yu cf ob j ⟨d,.h (.bcallv x args),none⟩ ⟨V,l,g,h⟩=match rd ⟨V,l,g,h⟩ x,rdAll ⟨V,l,g,h⟩ args with
  | some (.func k first captured),some vs=>DL j d (ob k (first++vs++captured) h) ⟨V,l,g,h⟩
  | _,_=>none:=by
 simp only[yu]
 cases rd ⟨V,l,g,h⟩ x with
 | none=>rfl
 | some f => cases rdAll ⟨V, l, g, h⟩ args with
   | none=>cases f<;>rfl
   | some vs => cases f <;> try rfl
                rename_i k first captured
                simp only; rcases ob k (first++vs++captured) h with _|⟨_|v,h'⟩<;>rfl
def LI:Option St→Option (Option PV×St)
 | some st=>some (none,st)
 | none=>none
@[simp] theorem c9w (st:St):LI (some st)=some (none,st):=rfl
@[simp] theorem c9x:LI none=none:=rfl
def wH:POp→Bool
 | .h (.bcall ..) | .h (.bcallv ..)=>true
 | _=>false
theorem QX (ob:xX) (j:Nat) (d:PD) (op:POp) (gd:Option (PX×Bool)) (st:St) (hb:wH op=false):yu cf ob j ⟨d,op,gd⟩ st=LI (w9 cf j ⟨d,op,gd⟩ st):=by
 have key:yu cf ob j ⟨d,op,gd⟩ st=(w9 cf j ⟨d,op,gd⟩ st).map λst=>(none,st):=by
  cases op with
  | h o=>cases o<;>first | rfl | simp[wH] at hb
  | _=>rfl
 rw[key]
 cases w9 cf j ⟨d,op,gd⟩ st<;>rfl
@[simp] theorem d1Y (x:PX):wH (.mov x)=false:=id rfl
@[simp] theorem c9y (x:PX):wH (.movs x)=false:=id rfl
@[simp] theorem c9z (x:PX):wH (.take x)=false:=id rfl
@[simp] theorem c9A (c a b:PX):wH (.pick c a b)=false:=id rfl
@[simp] theorem c58 (zero:List PV):wH (.newloc zero)=false:=id rfl
@[simp] theorem c59 (size:Nat) (x:PX):wH (.boxloc size x)=false:=id rfl
@[simp] theorem c7Y (zero:List PV) (parts:List (Nat×Nat×PX)):wH (.build zero parts)=false:=id rfl
@[simp] theorem c4O (size:Nat) (zero:PV) (len:Nat) (parts:List (Nat×PX)):wH (.mkslice size zero len parts)=false:=id rfl
@[simp] theorem c9B (size:Nat) (agg:Bool) (a:PX) (take:Bool):wH (.load size agg a take)=false:=id rfl
@[simp] theorem c7Z (size:Nat) (agg:Bool) (a x:PX):wH (.store size agg a x)=false:=id rfl
@[simp] theorem c70 (off:Nat) (x:PX):wH (.faddr off x)=false:=id rfl
@[simp] theorem c6a (size:Nat) (x i:PX):wH (.iaddrS size x i)=false:=id rfl
@[simp] theorem c6b (len size:Nat) (x i:PX):wH (.iaddrA len size x i)=false:=id rfl
@[simp] theorem c71 (off size:Nat) (agg:Bool) (x:PX):wH (.field off size agg x)=false:=id rfl
@[simp] theorem c3n (x i:PX):wH (.indexStr x i)=false:=id rfl
@[simp] theorem c72 (str:Bool) (size:Nat) (x:PX) (lo hi:Option PX):wH (.slice str size x lo hi)=false:=id rfl
@[simp] theorem c3o (n:Nat) (x:PX):wH (.sliceLoc n x)=false:=id rfl
@[simp] theorem d1Z (op:BinOp) (x y:PX):wH (.bin op x y)=false:=id rfl
@[simp] theorem d3U (neg agg:Bool) (ks:List EK) (x y:PX):wH (.eq neg agg ks x y)=false:=id rfl
@[simp] theorem d3V (op:UnOp) (x:PX):wH (.un op x)=false:=id rfl
@[simp] theorem d10 (b:Bool) (t:Nat) (x:PX):wH (.ifc b t x)=false:=id rfl
@[simp] theorem c4P (t:List (Nat×Nat×Option (Nat×Bool))) (x:PX) (args:List PX):wH (.h (.icall t x args))=false:=id rfl
@[simp] theorem c4Q (k:IntKind) (x:PX):wH (.convInt k x)=false:=id rfl
@[simp] theorem c4R (i:Nat) (x:PX):wH (.extract i x)=false:=id rfl
@[simp] theorem d11 (str:Bool) (x:PX):wH (.len str x)=false:=id rfl
@[simp] theorem c6c (max:Bool) (xs:List PX):wH (.minmax max xs)=false:=id rfl
@[simp] theorem c6d (size bytes:Nat) (s x:PX):wH (.append size bytes s x)=false:=id rfl
@[simp] theorem c6e (s x:PX):wH (.appstr s x)=false:=id rfl
@[simp] theorem d12 (x:PX):wH (.b2s x)=false:=id rfl
@[simp] theorem d13 (x:PX):wH (.s2b x)=false:=id rfl
@[simp] theorem c6f (k:Nat) (args:List PX) (o:Option Nat):wH (.pcallx k args o)=false:=id rfl
@[simp] theorem c73 (s n:Nat) (agg:Bool) (a:PX):wH (.loadv s n agg a)=false:=id rfl
@[simp] theorem c74 (k:Nat) (args:List PX):wH (.pcall k args)=false:=id rfl
@[simp] theorem c75 (x:PX) (args:List PX):wH (.callv x args)=false:=id rfl
@[simp] theorem c3p (zero:List PV):wH (.h (.newobj zero))=false:=id rfl
@[simp] theorem c3q (size:Nat) (x:PX):wH (.h (.boxobj size x))=false:=id rfl
@[simp] theorem c6g (size:Nat) (agg:Bool) (a:PX) (take:Bool):wH (.h (.load size agg a take))=false:=id rfl
@[simp] theorem c3r (size:Nat) (agg:Bool) (a x:PX):wH (.h (.storer size agg a x))=false:=id rfl
@[simp] theorem c4S (size:Nat) (agg:Bool) (a x:PX):wH (.h (.store size agg a x))=false:=id rfl
@[simp] theorem c4T (len size:Nat) (x i:PX):wH (.h (.iaddr len size x i))=false:=id rfl
@[simp] theorem c4U  : wH (.h (.mkmap ))=false:=id rfl
@[simp] theorem c3s (ok take kagg:Bool) (ks:List EK) (zero:PV) (m x:PX):wH (.h (.lookup ok take kagg ks zero m x))=false:=id rfl
@[simp] theorem c6h (kagg:Bool) (ks:List EK) (m k v:PX):wH (.h (.mset kagg ks m k v))=false:=id rfl
@[simp] theorem c6i (m:PX):wH (.h (.mlen m))=false:=id rfl
@[simp] theorem c3t (k:Nat) (first captured:List PX):wH (.h (.mkfunc k first captured))=false:=id rfl
@[simp] theorem c4V (kind:Nat) (neg:Bool) (x:PX):wH (.h (.isnil kind neg x))=false:=id rfl
@[simp] theorem c3u (x:PX):wH (.h (.nilchk x))=false:=id rfl
@[simp] theorem c4W (size:Nat) (agg:Bool) (a:PX):wH (.h (.loadc size agg a))=false:=id rfl
@[simp] theorem c6j (zero:List PV) (parts:List (Nat×Nat×PX)):wH (.h (.barr zero parts))=false:=id rfl
@[simp] theorem c6k (len size:Nat) (agg:Bool) (x i:PX):wH (.h (.idxA len size agg x i))=false:=id rfl
@[simp] theorem c4X (k:Nat) (args:List PX):wH (.h (.rcall k args))=false:=id rfl
@[simp] theorem c4Y (k:Nat) (args:List PX):wH (.h (.zcall k args))=false:=id rfl
@[simp] theorem c4Z (k:Nat) (args:List PX):wH (.h (.lcall k args))=false:=id rfl
@[simp] theorem c6l (k:Nat) (args:List PX):wH (.h (.call k args))=false:=id rfl
@[simp] theorem c40 (x:PX) (args:List PX):wH (.h (.callv x args))=false:=id rfl
@[simp] theorem c3v  : wH (.h (.newbld ))=false:=id rfl
@[simp] theorem c6m (size:Nat) (agg:Bool) (bytes:Nat) (s x:PX):wH (.h (.happ size agg bytes s x))=false:=id rfl
@[simp] theorem c2U (size:Nat) (agg:Bool) (b:Nat) (z:List PV) (x:PX):wH (.h (.mkfresh size agg b z x))=false:=id rfl
@[simp] theorem c3w (js:List Nat) (z:List PV) (ps:List (Nat×Nat×PX)):wH (.h (.buildA js z ps))=false:=id rfl
@[simp] theorem c41 (a:PX):wH (.h (.loadn a))=false:=id rfl
@[simp] theorem c6n (k:Nat) (args:List PX):wH (.pzcall k args)=false:=id rfl
@[simp] theorem c42 (size:Nat) (agg:Bool) (z:PV) (len:Nat) (ps:List (Nat×PX)):wH (.h (.mkrow size agg z len ps))=false:=id rfl
@[simp] theorem c43 (size:Nat) (agg:Bool) (bytes:Nat) (zero:List PV) (x:PX):wH (.h (.mkarr size agg bytes zero x))=false:=id rfl
@[simp] theorem c44 (x:PX):wH (.h (.range x))=false:=id rfl
@[simp] theorem c6o (x:PX):wH (.h (.next x))=false:=id rfl
@[simp] theorem d5c (ob:xX) (j:Nat) (d:PD) (op:POp) (os:List PO) (hb:wH op=false):xI cf ob j (⟨d,op,none⟩::os) ⟨V,l,g,h⟩=match opv cf op ⟨V,l,g,h⟩ with
  | some (v,st)=>xI cf ob (j+1) os (put st j d v)
  | none=>none:=by
 rw[Ik,QX ob j d op none _ hb]
 simp only[w9]
 cases opv cf op ⟨V,l,g,h⟩<;>rfl
@[simp] theorem d3W (ob:xX) (j:Nat) (d:PD) (op:POp) (x:PX) (want:Bool) (os:List PO) (hb:wH op=false):xI cf ob j (⟨d,op,some (x,want)⟩::os) ⟨V,l,g,h⟩=match rd ⟨V,l,g,h⟩ x with
  | some (.bool b)=>if b=want then(match opv cf op ⟨V,l,g,h⟩ with | some (v,st)=>xI cf ob (j+1) os (put st j d v) | none=>none) else xI cf ob (j+1) os (put ⟨V,l,g,h⟩ j d (.tuple []))
  | some (.tuple [])=>xI cf ob (j+1) os (put ⟨V,l,g,h⟩ j d (.tuple []))
  | _=>none:=by
 rw[Ik,QX ob j d op _ _ hb]
 simp only[w9]
 cases rd ⟨V,l,g,h⟩ x with
 | none=>rfl
 | some v =>
   cases v with
   | bool b =>
     simp only
     by_cases hw:b=want
     ·simp only[hw,if_true]; cases opv cf op ⟨V,l,g,h⟩<;>rfl
     ·simp only[hw,if_false]; rfl
   | tuple vs=>cases vs<;>rfl
   | _=>rfl
@[simp] theorem c9C (ob:xX) (j k:Nat) (d:PD) (args:List PX) (os:List PO):xI cf ob j (⟨d,.h (.bcall k args),none⟩::os) ⟨V,l,g,h⟩=match rdAll ⟨V,l,g,h⟩ args with
  | some vs=>EF cf ob (j+1) os (DL j d (ob k vs h) ⟨V,l,g,h⟩)
  | none=>none:=by
 rw[Ik,b8Y]
 cases rdAll ⟨V,l,g,h⟩ args<;>rfl
@[simp] theorem c76 (ob:xX) (j:Nat) (x:PX) (d:PD) (args:List PX) (os:List PO):xI cf ob j (⟨d,.h (.bcallv x args),none⟩::os) ⟨V,l,g,h⟩=match rd ⟨V,l,g,h⟩ x,rdAll ⟨V,l,g,h⟩ args with
  | some (.func k first captured),some vs=>EF cf ob (j+1) os (DL j d (ob k (first++vs++captured) h) ⟨V,l,g,h⟩)
  | _,_=>none:=by
 rw[Ik,b7s]
 cases rd ⟨V,l,g,h⟩ x with
 | none=>rfl
 | some f => cases rdAll ⟨V, l, g, h⟩ args with
   | none=>cases f<;>rfl
   | some vs=>cases f<;>rfl
@[simp] theorem b4x (ops:List PO):evL L (.bregion ops) ⟨V,l,g,h⟩=match xI (wj L) (wK L) 0 ops ⟨V,List.replicate ops.length .dead,g,h⟩ with
  | some (none,st)=>some (.normal,xk st)
  | some (some v,st)=>some (.boom v,xk st)
  | none=>none:=by rw[b8U]; rfl
@[simp] theorem b4y (ops:List PO) (x:PX) (a b:PC):evL L (.bbranch ops x a b) ⟨V,l,g,h⟩=match xI (wj L) (wK L) 0 ops ⟨V,List.replicate ops.length .dead,g,h⟩ with
  | some (none,st)=>(match rd st x with | some (.bool t)=>evL L (if t then a else b) (xk st) | _=>none)
  | some (some v,st)=>some (.boom v,xk st)
  | none=>none:=by rw[b8V]; rfl
@[simp] theorem c46 (st:St):As st []=some []:=rfl
@[simp] theorem c3x (r:PRes) (rs:List PRes):As ⟨V,l,g,h⟩ (r::rs)=match Aj ⟨V,l,g,h⟩ r with
  | some v=>(match As ⟨V,l,g,h⟩ rs with | some vs=>some (v::vs) | none=>none)
  | none=>none:=by
 simp only[As]; cases Aj ⟨V,l,g,h⟩ r<;>simp; cases As ⟨V,l,g,h⟩ rs<;>rfl
def FU:List PV→PV
 | [v]=>v
 | vs => .tuple (vs.map dem)
@[simp] theorem d3X (v:PV):FU [v]=v:=rfl
@[simp] theorem d3Y (v u:PV) (r:List PV):FU (v::u::r) = .tuple ((v::u::r).map dem):=rfl
@[simp] theorem d3Z:FU [] = .tuple []:=rfl
@[simp] theorem c9D (rs:List PRes):xG ⟨V,l,g,h⟩ rs=match As ⟨V,l,g,h⟩ rs with | some vs=>some (FU vs) | none=>none:=by
 simp only[xG]; cases As ⟨V,l,g,h⟩ rs<;>rfl
def Cg (rs:List PRes):Option (PExit×St)→Option (PV×List PObj)
 | some (.normal,st)=>(match xG st rs with | some v=>some (v,w5 st.vars rs st.heap) | none=>none)
 | some (.ret,st)=>(match xG st rs with | some v=>some (v,w5 st.vars rs st.heap) | none=>none)
 | _=>none
attribute [simp] Cg
theorem b5W {f:PFunc} {args:List PV} {hp:List PObj} {r:PV×List PObj} (hr:f.code.isRound=false) (he:Cg f.results (evL L f.code ⟨args.map dem++List.replicate (f.nv - f.params) .dead,[],0,hp⟩)=some r):zw (evL L) (yt L) f args hp=some (.val r.1,r.2):=by
 have key:∀st,(match xG st f.results with | some v=>some (v,w5 st.vars f.results st.heap) | none=>none)=some r→(xG st f.results).map (λr=>(Out.val r,w5 st.vars f.results st.heap))=some (Out.val r.1,r.2):=by
  intro st h
  cases hv:xG st f.results with
  | none=>rw[hv] at h; simp at h
  | some v=>rw[hv] at h; simp only[aa] at h; subst h; rfl
 unfold zw
 split
 ·rename_i h1; rw[h1] at hr; simp[PC.isRound] at hr
 ·generalize evL L f.code ⟨args.map dem++List.replicate (f.nv - f.params) .dead,[],0,hp⟩=q at he ⊢
  rcases q with _|⟨e,st⟩
  ·simp at he
  ·cases e<;>simp only[Cg] at he ⊢
   ·exact key st he
   ·simp at he
   ·exact key st he
   ·simp at he
   ·simp at he
theorem Il {f:PFunc} {args:List PV} {hp:List PObj} {r:PV×List PObj} (hr:f.code.isRound=false) (he:Cg f.results (evL L f.code ⟨args.map dem++List.replicate (f.nv - f.params) .dead,[],0,hp⟩)=some r):zK (evL L) (yt L) f args hp=some r:=by
 unfold zK
 rw[af (by rw[hr]; simp),Gi]
 exact b5W hr he
theorem QY {k:Nat} {f:PFunc} {args:List PV} {hp:List PObj} {r} (hf:L k=some f) (hl:args.length=f.params) (he:Cg f.results (evL L f.code ⟨args.map dem++List.replicate (f.nv - f.params) .dead,[],0,hp⟩)=some r) (hs:f.split=false:=by rfl) (fE:f.prim=none:=by rfl) (hr:f.code.isRound=false:=by rfl):
  wj L k args hp=some r:=by
 rw[Gn,xH,hf]
 simp only[ah hl,hs,fE,bG,aH,if_false]
 exact Il hr he
theorem Kc {k:Nat} {f:PFunc} {p:List PV→List PObj→Option (PV×List PObj)} {args:List PV} {hp:List PObj} (hf:L k=some f) (hl:args.length=f.params) (fE:f.prim=some p):wj L k args hp=match p (args.map dem) hp with | some r=>some (dem r.1,r.2) | none=>none:=by
 rw[Gn,xH,hf]
 simp only[ah hl,fE]
 cases p (args.map dem) hp<;>rfl
theorem b8Z {k:Nat} {f:PFunc} {args:List PV} {hp:List PObj} {r} (hf:L k=some f) (hl:args.length=f.params) (hs:f.split=true) (h0:vague (args.headD .dead)=false→Cg f.results (evL L f.code ⟨args.map dem++List.replicate (f.nv - f.params) .dead,[],0,hp⟩)=some r)
  (h1:vague (args.headD .dead)=true→Cg f.results (evL L f.code ⟨(.nils::args.tail).map dem++List.replicate (f.nv - f.params) .dead,[],0,hp⟩)=some r∧Cg f.results (evL L f.code ⟨(.void::args.tail).map dem++List.replicate (f.nv - f.params) .dead,[],0,hp⟩)=some r) (fE:f.prim=none:=by rfl) (hr:f.code.isRound=false:=by rfl):
  wj L k args hp=some r:=by
 rw[Gn,xH,hf]
 simp only[ah hl,fE]
 cases hv:vague (args.headD .dead) with
 | false=>simp only[Bool.and_false,aH,if_false]; exact Il hr (h0 hv)
 | true =>
   obtain⟨a,b⟩:=h1 hv
   simp only[hs,Bool.and_self,if_true]
   rw[BF]
   exact⟨Il hr a,Il hr b⟩
end
end PI
