import Derived.Test.YtljbhgpanekomaaGreatDoorPiRun
set_option linter.unusedSectionVars false
namespace PI
open Go (IntKind BinOp UnOp)
section
variable {cf:wE} {V l:List PV} {g:Nat} {h:List PObj} {L:Nat→Option PFunc}
@[simp] theorem d6l (i:Nat):raw ⟨V,l,g,h⟩ (.v i)=V[i]? := rfl
@[simp] theorem d6m (i:Nat):raw ⟨V,l,g,h⟩ (.l i)=l[i]? := rfl
@[simp] theorem d6n (p:PV):raw ⟨V,l,g,h⟩ (.c p)=some p:=rfl
@[simp] theorem d6o (x:PX):rd ⟨V,l,g,h⟩ x=match raw ⟨V,l,g,h⟩ x with | some v=>cp v | none=>none:=by
 simp only[rd]; cases raw ⟨V,l,g,h⟩ x<;>rfl
@[simp] theorem d3M (b:Bool):cp (.bool b)=some (.bool b):=rfl
@[simp] theorem d2l (b:Bool):dem (.bool b) = .bool b:=rfl
@[simp] theorem d4B (k:IntKind) (n:Int):cp (.int k n)=some (.int k n):=rfl
@[simp] theorem d3N (k:IntKind) (n:Int):dem (.int k n) = .int k n:=rfl
@[simp] theorem d4C (s:List UInt8):cp (.str s)=some (.str s):=rfl
@[simp] theorem d3O (s:List UInt8):dem (.str s) = .str s:=rfl
@[simp] theorem d4D (cs:List PV):cp (.agg cs)=some (.agg cs):=rfl
@[simp] theorem d3P (cs:List PV):dem (.agg cs) = .agg cs:=rfl
@[simp] theorem d2m (vs:List PV):cp (.tuple vs)=some (.tuple vs):=rfl
@[simp] theorem d0D (vs:List PV):dem (.tuple vs) = .tuple vs:=rfl
@[simp] theorem d0E:cp (.nilptr)=some (.nilptr):=rfl
@[simp] theorem c8B:dem (.nilptr) = .nilptr:=rfl
@[simp] theorem d3Q (cs:List PV):cp (.cptr cs)=some (.cptr cs):=rfl
@[simp] theorem d2n (cs:List PV):dem (.cptr cs) = .cptr cs:=rfl
@[simp] theorem d4E (n o:Nat):cp (.ptr n o)=some (.ptr n o):=rfl
@[simp] theorem d3R (n o:Nat):dem (.ptr n o) = .ptr n o:=rfl
@[simp] theorem d4F (n:Option Nat):cp (.map n)=some (.map n):=rfl
@[simp] theorem d3S (n:Option Nat):dem (.map n) = .map n:=rfl
@[simp] theorem d3T (k:Nat) (a b:List PV):cp (.func k a b)=some (.func k a b):=rfl
@[simp] theorem d2o (k:Nat) (a b:List PV):dem (.func k a b) = .func k a b:=rfl
@[simp] theorem c8C:cp (.nilfunc)=some (.nilfunc):=rfl
@[simp] theorem c7e:dem (.nilfunc) = .nilfunc:=rfl
@[simp] theorem d2p (t:Nat) (v:PV):cp (.iface t v)=some (.iface t v):=rfl
@[simp] theorem d0F (t:Nat) (v:PV):dem (.iface t v) = .iface t v:=rfl
@[simp] theorem c7f:cp (.nilIface)=some (.nilIface):=rfl
@[simp] theorem c5t:dem (.nilIface) = .nilIface:=rfl
@[simp] theorem d3U:cp (.nils)=some (.nils):=rfl
@[simp] theorem d2q:dem (.nils) = .nils:=rfl
@[simp] theorem d3V:cp (.void)=some (.void):=rfl
@[simp] theorem d2r:dem (.void) = .void:=rfl
@[simp] theorem d3W (o:Bool) (es:List PV):cp (.list o es)=some (.list false es):=rfl
@[simp] theorem d2s (o:Bool) (es:List PV):dem (.list o es) = .list false es:=rfl
@[simp] theorem d4G (n:Nat) (cs:List PV):cp (.loc n cs)=none:=rfl
@[simp] theorem d3X (s n o:Nat):cp (.lptr s n o)=none:=rfl
@[simp] theorem d3Y:cp .dead=none:=rfl
@[simp] theorem d3Z (n sz:Nat) (a:Bool) (k:Nat):cp (.rowp n sz a k)=some (.rowp n sz a k):=rfl
@[simp] theorem d2t (n sz:Nat) (a:Bool) (k:Nat):dem (.rowp n sz a k) = .rowp n sz a k:=rfl
@[simp] theorem Qq (n sz:Nat) (a:Bool) (k:Nat):xN (.rowp n sz a k)=some n:=rfl
@[simp] theorem d0G (b:Bool):xN (.bool b)=none:=rfl
@[simp] theorem d2u (k:IntKind) (n:Int):xN (.int k n)=none:=rfl
@[simp] theorem d2v (s:List UInt8):xN (.str s)=none:=rfl
@[simp] theorem d2w (cs:List PV):xN (.agg cs)=none:=rfl
@[simp] theorem c8D (vs:List PV):xN (.tuple vs)=none:=rfl
@[simp] theorem c7g:xN (.nilptr)=none:=rfl
@[simp] theorem d0H (cs:List PV):xN (.cptr cs)=none:=rfl
@[simp] theorem d2x (n o:Nat):xN (.ptr n o)=none:=rfl
@[simp] theorem d2y (n:Option Nat):xN (.map n)=none:=rfl
@[simp] theorem d0I (k:Nat) (a b:List PV):xN (.func k a b)=none:=rfl
@[simp] theorem c5u:xN (.nilfunc)=none:=rfl
@[simp] theorem c8E (t:Nat) (v:PV):xN (.iface t v)=none:=rfl
@[simp] theorem c4s:xN (.nilIface)=none:=rfl
@[simp] theorem d0J:xN (.nils)=none:=rfl
@[simp] theorem d0K:xN (.void)=none:=rfl
@[simp] theorem d0L (o:Bool) (es:List PV):xN (.list o es)=none:=rfl
@[simp] theorem d2z (n:Nat) (cs:List PV):xN (.loc n cs)=none:=rfl
@[simp] theorem d0M (s n o:Nat):xN (.lptr s n o)=none:=rfl
@[simp] theorem d0N:xN (.dead)=none:=rfl
@[simp] theorem d30 (n:Nat) (cs:List PV):dem (.loc n cs) = .loc n cs:=rfl
@[simp] theorem d2A:dem .dead = .dead:=rfl
@[simp] theorem d0O (b:Bool):wR (.bool b)=true:=rfl
@[simp] theorem d2B (k:IntKind) (n:Int):wR (.int k n)=true:=rfl
@[simp] theorem d2C (s:List UInt8):wR (.str s)=true:=rfl
@[simp] theorem d2D (cs:List PV):wR (.agg cs)=wP cs:=rfl
@[simp] theorem c8F (vs:List PV):wR (.tuple vs)=wP vs:=rfl
@[simp] theorem c7h:wR (.nilptr)=true:=rfl
@[simp] theorem d0P (cs:List PV):wR (.cptr cs)=wP cs:=rfl
@[simp] theorem d2E (n o:Nat):wR (.ptr n o)=false:=rfl
@[simp] theorem d2F (n:Option Nat):wR (.map n)=n.isNone:=rfl
@[simp] theorem d0Q (k:Nat) (a b:List PV):wR (.func k a b)=(wP a&&wP b):=rfl
@[simp] theorem c5v:wR (.nilfunc)=true:=rfl
@[simp] theorem c8G (t:Nat) (v:PV):wR (.iface t v)=wR v:=rfl
@[simp] theorem c4t:wR (.nilIface)=true:=rfl
@[simp] theorem d0R:wR (.nils)=true:=rfl
@[simp] theorem d0S:wR (.void)=true:=rfl
@[simp] theorem d0T (o:Bool) (es:List PV):wR (.list o es)=wP es:=rfl
@[simp] theorem d0U:wR (.dead)=false:=rfl
@[simp] theorem d0V (n sz:Nat) (a:Bool) (k:Nat):wR (.rowp n sz a k)=false:=rfl
@[simp] theorem d31 (k:EK) (x y:PV):peq false [k] x y=AB k x y:=rfl
@[simp] theorem d32 (ks:List EK) (xs ys:List PV):peq true ks (.agg xs) (.agg ys)=Ah ks xs ys:=rfl
def tkv:PV→Option (PV×Bool)
 | .list true es=>some (.list true es,true)
 | v => match cp v with
   | some u=>some (u,false)
   | none=>none
@[simp] theorem d2G (b:Bool):tkv (.bool b)=some (.bool b,false):=rfl
@[simp] theorem d33 (k:IntKind) (n:Int):tkv (.int k n)=some (.int k n,false):=rfl
@[simp] theorem d34 (s:List UInt8):tkv (.str s)=some (.str s,false):=rfl
@[simp] theorem d35 (cs:List PV):tkv (.agg cs)=some (.agg cs,false):=rfl
@[simp] theorem d0W (vs:List PV):tkv (.tuple vs)=some (.tuple vs,false):=rfl
@[simp] theorem c8H:tkv (.nilptr)=some (.nilptr,false):=rfl
@[simp] theorem d2H (cs:List PV):tkv (.cptr cs)=some (.cptr cs,false):=rfl
@[simp] theorem d36 (n o:Nat):tkv (.ptr n o)=some (.ptr n o,false):=rfl
@[simp] theorem d37 (n:Option Nat):tkv (.map n)=some (.map n,false):=rfl
@[simp] theorem d2I (k:Nat) (a b:List PV):tkv (.func k a b)=some (.func k a b,false):=rfl
@[simp] theorem c7i:tkv (.nilfunc)=some (.nilfunc,false):=rfl
@[simp] theorem d0X (t:Nat) (v:PV):tkv (.iface t v)=some (.iface t v,false):=rfl
@[simp] theorem c5w:tkv (.nilIface)=some (.nilIface,false):=rfl
@[simp] theorem d2J:tkv (.nils)=some (.nils,false):=rfl
@[simp] theorem d2K:tkv (.void)=some (.void,false):=rfl
@[simp] theorem d38 (es:List PV):tkv (.list true es)=some (.list true es,true):=rfl
@[simp] theorem d2L (es:List PV):tkv (.list false es)=some (.list false es,false):=rfl
@[simp] theorem d39 (n:Nat) (cs:List PV):tkv (.loc n cs)=none:=rfl
@[simp] theorem d2M (s n o:Nat):tkv (.lptr s n o)=none:=rfl
@[simp] theorem d2N:tkv .dead=none:=rfl
@[simp] theorem d2O (n sz:Nat) (a:Bool) (k:Nat):tkv (.rowp n sz a k)=some (.rowp n sz a k,false):=rfl
@[simp] theorem d4a (x:PX):tk ⟨V,l,g,h⟩ x=match raw ⟨V,l,g,h⟩ x with
  | some v => (match tkv v with
    | some (u,true)=>some (u,Bz ⟨V,l,g,h⟩ x (dem v))
    | some (u,false)=>some (u,⟨V,l,g,h⟩)
    | none=>none)
  | none=>none:=by
 unfold tk
 cases raw ⟨V,l,g,h⟩ x with
 | none=>rfl
 | some v => cases v with
   | list ow es=>cases ow<;>rfl
   | _=>rfl
def AJ:PV→Option (List PV)
 | .agg cs=>some cs
 | _=>none
@[simp] theorem c5x (cs:List PV):AJ (.agg cs)=some cs:=rfl
@[simp] theorem d2P (cs:List PV):Aa (.agg cs) = .agg (cs.map dem):=rfl
@[simp] theorem d0Y (b:Bool):Aa (.bool b) = .bool b:=rfl
@[simp] theorem d2Q (k:IntKind) (n:Int):Aa (.int k n) = .int k n:=rfl
@[simp] theorem d2R (s:List UInt8):Aa (.str s) = .str s:=rfl
@[simp] theorem d0Z (o:Bool) (es:List PV):Aa (.list o es) = .list false es:=rfl
@[simp] theorem c4u (n:Nat) (cs:List PV) (off:Nat) (v:PV):wM n true cs off v=match AJ v with
  | some vs=>if vs.length=n∧off+n≤cs.length then some (cs.take off++(vs++cs.drop (off+n))) else none
  | none=>none:=by
 cases v<;>rfl
@[simp] theorem c4v (n:Nat) (cs:List PV) (off:Nat) (v:PV):wM n false cs off v=if off<cs.length∧v.flat=true then some (cs.set off v) else none:=rfl
def LD (h:List PObj):PV→Option PV
 | .rowp n sz agg len=>if agg=true∨sz=1 then(match h[n]? with | some (.cells cs)=>(match zM sz agg cs len 0 with | some es=>some (.list false es) | none=>none) | _=>none) else none
 | _=>none
@[simp] theorem Qr (h:List PObj) (n sz len:Nat) (agg:Bool):LD h (.rowp n sz agg len)=if agg=true∨sz=1 then(match h[n]? with | some (.cells cs)=>(match zM sz agg cs len 0 with | some es=>some (.list false es) | none=>none) | _=>none) else none:=rfl
def Ag:PV→PV
 | .nils => .list false []
 | v=>v
@[simp] theorem d00:Ag .nils = .list false []:=rfl
@[simp] theorem d01 (b:Bool):Ag (.bool b) = .bool b:=rfl
@[simp] theorem d2S (k:IntKind) (n:Int):Ag (.int k n) = .int k n:=rfl
@[simp] theorem d2T (s:List UInt8):Ag (.str s) = .str s:=rfl
@[simp] theorem d2U (cs:List PV):Ag (.agg cs) = .agg cs:=rfl
@[simp] theorem c8I (cs:List PV):Ag (.tuple cs) = .tuple cs:=rfl
@[simp] theorem c7j  : Ag (.nilptr) = .nilptr:=rfl
@[simp] theorem d02 (cs:List PV):Ag (.cptr cs) = .cptr cs:=rfl
@[simp] theorem d2V (n o:Nat):Ag (.ptr n o) = .ptr n o:=rfl
@[simp] theorem d2W (n:Option Nat):Ag (.map n) = .map n:=rfl
@[simp] theorem d03 (k:Nat) (a b:List PV):Ag (.func k a b) = .func k a b:=rfl
@[simp] theorem c5y  : Ag (.nilfunc) = .nilfunc:=rfl
@[simp] theorem c8J (t:Nat) (v:PV):Ag (.iface t v) = .iface t v:=rfl
@[simp] theorem c4w  : Ag (.nilIface) = .nilIface:=rfl
@[simp] theorem d04  : Ag (.void) = .void:=rfl
@[simp] theorem d05 (o:Bool) (es:List PV):Ag (.list o es) = .list o es:=rfl
@[simp] theorem d06  : Ag (.dead) = .dead:=rfl
@[simp] theorem d2X (n:Nat) (cs:List PV):Ag (.loc n cs) = .loc n cs:=rfl
@[simp] theorem c4x (i:Nat):As ⟨V,l,g,h⟩ (.keep i)=match V[i]? with | some v=>cp v | none=>none:=by
 simp only[As]; cases V[i]?<;>rfl
@[simp] theorem c5z (V:List PV) (i:Nat) (rs:List PRes) (h:List PObj):xj V (.keep i::rs) h=xj V rs h:=rfl
@[simp] theorem c5A (i:Nat):As ⟨V,l,g,h⟩ (.var i)=match V[i]? with
  | some v=>(match xN v with | some _=>LD h v | none=>(match tkv v with | some (u,_)=>some (Ag u) | none=>none))
  | none=>none:=by
 simp only[As]
 cases V[i]? with
 | none=>rfl
 | some v => cases v with
   | list ow es=>cases ow<;>rfl
   | rowp n sz agg len =>
     simp only[ar,Qq,Qr]
     split
     ·simp only[xF]
      cases h[n]? with
      | none=>rfl
      | some o => cases o <;> try rfl
                  rename_i cs
                  simp only[ar]
                  cases zM sz agg cs len 0<;>rfl
     ·rfl
   | _=>rfl
@[simp] theorem c8K:B1 []=[]:=rfl
@[simp] theorem c7k (p:PV) (ps:List PV):B1 (p::ps)=match xN p with | some n=>n::B1 ps | none=>B1 ps:=by
 cases p<;>rfl
@[simp] theorem d07 (h:List PObj):AX [] h=h:=rfl
@[simp] theorem c8L (n:Nat) (ns:List Nat) (h:List PObj):AX (n::ns) h=AX ns (h.set n .gone):=rfl
@[simp] theorem c7l (V:List PV) (h:List PObj):xj V [] h=h:=rfl
@[simp] theorem c5B (V:List PV) (i n:Nat) (agg:Bool) (rs:List PRes) (h:List PObj):xj V (.cell i n agg::rs) h=match V[i]? with
  | some (.loc _ cs)=>xj V rs (AX (B1 cs) h)
  | _=>xj V rs h:=by
 simp only[xj,Be]
 cases V[i]? with
 | none=>rfl
 | some v=>cases v<;>rfl
@[simp] theorem c7m (V:List PV) (i:Nat) (rs:List PRes) (h:List PObj):xj V (.var i::rs) h=match V[i]? with
  | some v=>(match xN v with | some n=>xj V rs (h.set n .gone) | none=>xj V rs h)
  | none=>xj V rs h:=by
 simp only[xj,Be,Iy]
 cases V[i]? with
 | none=>rfl
 | some v=>cases v<;>rfl
@[simp] theorem d08 (h:List PObj):AO h []=some []:=rfl
@[simp] theorem c8M (h:List PObj) (p:PV) (ps:List PV):AO h (p::ps)=match xN p with
  | some _=>(match LD h p with | some q=>(match AO h ps with | some qs=>some (q::qs) | none=>none) | none=>none)
  | none=>(match AO h ps with | some qs=>some (p::qs) | none=>none):=by
 simp only[AO]
 cases p with
 | rowp n sz agg len =>
   simp only[Qq,Qr,Dd]
   split
   ·cases h[n]? with
    | none=>rfl
    | some o => cases o <;> try rfl
                rename_i cs
                simp only
                cases zM sz agg cs len 0 with
                | none=>rfl
                | some es=>simp only[az,ar]; cases AO h ps<;>rfl
   ·rfl
 | _=>simp only[Dd,ar]; cases AO h ps<;>rfl
@[simp] theorem d2Y (h:List PObj) (ps:List PV):ym h (.agg ps)=match AO h ps with | some qs=>some (.agg qs) | none=>none:=by
 simp only[ym]; cases AO h ps<;>rfl
@[simp] theorem d09 (h:List PObj) (b:Bool):ym h (.bool b)=some (.bool b):=rfl
@[simp] theorem d2Z (h:List PObj) (k:IntKind) (n:Int):ym h (.int k n)=some (.int k n):=rfl
@[simp] theorem d20 (h:List PObj) (s:List UInt8):ym h (.str s)=some (.str s):=rfl
@[simp] theorem d1a (h:List PObj) (o:Bool) (es:List PV):ym h (.list o es)=some (.list o es):=rfl
@[simp] theorem c7n (h:List PObj)  : ym h (.nilptr)=some (.nilptr):=rfl
@[simp] theorem d1b (h:List PObj) (cs:List PV):ym h (.cptr cs)=some (.cptr cs):=rfl
@[simp] theorem d21 (h:List PObj) (n o:Nat):ym h (.ptr n o)=some (.ptr n o):=rfl
@[simp] theorem d1c (h:List PObj) (n sz:Nat) (a:Bool) (k:Nat):ym h (.rowp n sz a k)=some (.rowp n sz a k):=rfl
@[simp] theorem d22 (h:List PObj) (n:Option Nat):ym h (.map n)=some (.map n):=rfl
@[simp] theorem d1d (h:List PObj) (k:Nat) (a b:List PV):ym h (.func k a b)=some (.func k a b):=rfl
@[simp] theorem c5C (h:List PObj)  : ym h (.nilfunc)=some (.nilfunc):=rfl
@[simp] theorem c8N (h:List PObj) (t:Nat) (v:PV):ym h (.iface t v)=some (.iface t v):=rfl
@[simp] theorem c4y (h:List PObj)  : ym h (.nilIface)=some (.nilIface):=rfl
@[simp] theorem c4z (i n:Nat) (agg:Bool):As ⟨V,l,g,h⟩ (.cell i n agg)=match V[i]? with
  | some (.loc _ cs)=>(match wD n agg cs 0 with | some v=>ym h v | none=>none)
  | some (.ptr m 0)=>(match xF ⟨V,l,g,h⟩ m with | some cs=>wD n agg cs 0 | none=>none)
  | _=>none:=by
 simp only[As]
 cases V[i]? with
 | none=>rfl
 | some v =>
   cases v with
   | loc g cs=>simp only; cases wD n agg cs 0<;>rfl
   | ptr m off =>
     cases off with
     | zero=>simp only; cases xF ⟨V,l,g,h⟩ m<;>rfl
     | succ off=>rfl
   | _=>rfl
attribute [simp] addr rdInt Bz wP EM EO unv bound AB BC
@[simp] theorem d1e (st:St):rdAll st []=some []:=rfl
@[simp] theorem c8O (x:PX) (xs:List PX):rdAll ⟨V,l,g,h⟩ (x::xs)=match rd ⟨V,l,g,h⟩ x with | some v=>(match rdAll ⟨V,l,g,h⟩ xs with | some vs=>some (v::vs) | none=>none) | none=>none:=by
 simp only[rdAll]; cases rd ⟨V,l,g,h⟩ x<;>simp; cases rdAll ⟨V,l,g,h⟩ xs<;>rfl
@[simp] theorem c7o (st:St):rdElems st []=some []:=rfl
@[simp] theorem c5D (i:Nat) (x:PX) (xs:List (Nat×PX)):rdElems ⟨V,l,g,h⟩ ((i,x)::xs)=match rd ⟨V,l,g,h⟩ x with | some v=>(match rdElems ⟨V,l,g,h⟩ xs with | some vs=>some ((i,v)::vs) | none=>none) | none=>none:=by
 simp only[rdElems]; cases rd ⟨V,l,g,h⟩ x<;>simp; cases rdElems ⟨V,l,g,h⟩ xs<;>rfl
@[simp] theorem c7p (st:St):rdParts st []=some []:=rfl
@[simp] theorem c5E (i s:Nat) (x:PX) (xs:List (Nat×Nat×PX)):rdParts ⟨V,l,g,h⟩ ((i,s,x)::xs)=match rd ⟨V,l,g,h⟩ x with | some v=>(match rdParts ⟨V,l,g,h⟩ xs with | some vs=>some ((i,s,v)::vs) | none=>none) | none=>none:=by
 simp only[rdParts]; cases rd ⟨V,l,g,h⟩ x<;>simp; cases rdParts ⟨V,l,g,h⟩ xs<;>rfl
@[simp] theorem d6p (i j:Nat) (v:PV):put ⟨V,l,g,h⟩ j (.v i) v=⟨V.set i v,l,g,h⟩:=rfl
@[simp] theorem d6q (j:Nat) (v:PV):put ⟨V,l,g,h⟩ j .l v=⟨V,l.set j v,g,h⟩:=rfl
@[simp] theorem d6r (j:Nat) (v:PV):put ⟨V,l,g,h⟩ j .n v=⟨V,l,g,h⟩:=rfl
@[simp] theorem c8P (ops:List PO):zd cf ops ⟨V,l,g,h⟩=zj cf 0 ops ⟨V,List.replicate ops.length .dead,g,h⟩:=rfl
@[simp] theorem c5F (j:Nat) (st:St):zj cf j [] st=some st:=rfl
@[simp] theorem c4A (j:Nat) (d:PD) (o:POp) (os:List PO):zj cf j (⟨d,o,none⟩::os) ⟨V,l,g,h⟩ =
  match opv cf o ⟨V,l,g,h⟩ with | some (v,st)=>zj cf (j+1) os (put st j d v) | none=>none:=by
 simp only[zj,xX]; cases opv cf o ⟨V,l,g,h⟩<;>rfl
@[simp] theorem c3u (j:Nat) (d:PD) (o:POp) (x:PX) (want:Bool) (os:List PO):zj cf j (⟨d,o,some (x,want)⟩::os) ⟨V,l,g,h⟩ =
  match rd ⟨V,l,g,h⟩ x with
  | some (.bool b)=>if b=want then(match opv cf o ⟨V,l,g,h⟩ with | some (v,st)=>zj cf (j+1) os (put st j d v) | none=>none) else zj cf (j+1) os (put ⟨V,l,g,h⟩ j d (.tuple []))
  | some (.tuple [])=>zj cf (j+1) os (put ⟨V,l,g,h⟩ j d (.tuple []))
  | _=>none:=by
 simp only[zj,xX]
 cases rd ⟨V,l,g,h⟩ x with
 | none=>rfl
 | some v =>
   cases v<;>try rfl
   ·rename_i b
    simp only
    by_cases hb:b=want
    ·simp only[ah hb]; cases opv cf o ⟨V,l,g,h⟩<;>rfl
    ·simp only[af hb]; rfl
   ·rename_i vs
    cases vs<;>rfl
def sv (r:Option PV) (st:St):Option (PV×St):=match r with | some v=>some (v,st) | none=>none
@[simp] theorem d4c (v:PV) (st:St):sv (some v) st=some (v,st):=rfl
@[simp] theorem d4d (st:St):sv none st=none:=rfl
theorem Bc (r:Option PV) (st:St):r.map (·,st)=sv r st:=by cases r<;>rfl
@[simp] theorem d4e (x:PX):opv cf (.mov x) ⟨V,l,g,h⟩=sv (rd ⟨V,l,g,h⟩ x) ⟨V,l,g,h⟩:=Bc _ _
@[simp] theorem d23 (x:PX):opv cf (.movs x) ⟨V,l,g,h⟩=match rd ⟨V,l,g,h⟩ x with | some (.str s)=>some (.str s,⟨V,l,g,h⟩) | _=>none:=rfl
@[simp] theorem d24 (x:PX):opv cf (.take x) ⟨V,l,g,h⟩=match raw ⟨V,l,g,h⟩ x with
  | some v => (match tkv v with
    | some (u,true)=>some (u,Bz ⟨V,l,g,h⟩ x (dem v))
    | some (u,false)=>some (u,⟨V,l,g,h⟩)
    | none=>none)
  | none=>none:=by
 simp only[opv,d4a]
@[simp] theorem d25 (c a b:PX):opv cf (.pick c a b) ⟨V,l,g,h⟩=match rd ⟨V,l,g,h⟩ c with
  | some (.bool t)=>sv (rd ⟨V,l,g,h⟩ (if t then a else b)) ⟨V,l,g,h⟩
  | _=>none:=by
 simp only[opv,Bc]; rfl
@[simp] theorem c8Q (z:List PV):opv cf (.newloc z) ⟨V,l,g,h⟩=some (.loc g z,⟨V,l,g+1,h⟩):=rfl
@[simp] theorem c8R (s:Nat) (x:PX):opv cf (.boxloc s x) ⟨V,l,g,h⟩=match rd ⟨V,l,g,h⟩ x with
  | some v=>if v.cells.length=s then some (.loc g (v.cells.map dem),⟨V,l,g+1,h⟩) else none
  | none=>none:=rfl
@[simp] theorem c7q (s:Nat) (z:PV) (n:Nat) (ps:List (Nat×PX)):opv cf (.mkslice s z n ps) ⟨V,l,g,h⟩=match rdElems ⟨V,l,g,h⟩ ps with
  | some es=>(match CJ s (List.replicate n z) es with | some es=>some (.list true es,⟨V,l,g,h⟩) | none=>none)
  | none=>none:=by
 simp only[opv]; cases rdElems ⟨V,l,g,h⟩ ps<;>simp; rename_i es; cases CJ s (List.replicate n z) es<;>rfl
@[simp] theorem d1f (z:List PV) (ps:List (Nat×Nat×PX)):opv cf (.build z ps) ⟨V,l,g,h⟩=match rdParts ⟨V,l,g,h⟩ ps with
  | some es=>(match BB z es with | some cs=>some (.agg cs,⟨V,l,g,h⟩) | none=>none)
  | none=>none:=by
 simp only[opv]; cases rdParts ⟨V,l,g,h⟩ ps<;>simp; rename_i es; cases BB z es<;>rfl
@[simp] theorem d26 (s:Nat) (agg:Bool) (a:PX) (t:Bool):opv cf (.load s agg a t) ⟨V,l,g,h⟩=match addr ⟨V,l,g,h⟩ a with
  | some (.cptr cs)=>sv (wD s agg cs 0) ⟨V,l,g,h⟩
  | some (.lptr s' g0 off) =>
    match V[s']? with
    | some (.loc g' cs) =>
      if g0=g' then
       match t && !agg,cs[off]? with
       | true,some (.list true es)=>some (.list true es,⟨V.set s' (.loc g0 (cs.set off (.list false es))),l,g,h⟩)
       | _,_=>sv (wD s agg cs off) ⟨V,l,g,h⟩
      else none
    | _=>none
  | _=>none:=by simp only[opv,Bc]; rfl
@[simp] theorem d1g (s:Nat) (agg:Bool) (a x:PX):opv cf (.store s agg a x) ⟨V,l,g,h⟩=match addr ⟨V,l,g,h⟩ a,tk ⟨V,l,g,h⟩ x with
  | some (.lptr s' g0 off), some (v, ⟨V, l, g, h⟩) =>
    match V[s']? with
    | some (.loc g' cs)=>if g0=g' then(match wM s agg cs off v with | some cs=>some (.dead,⟨V.set s' (.loc g0 cs),l,g,h⟩) | none=>none) else none
    | _=>none
  | _,_=>none:=by
 simp only[opv]
 cases addr ⟨V,l,g,h⟩ a with
 | none=>rfl
 | some p => cases p <;> try rfl
             cases tk ⟨V,l,g,h⟩ x with
             | none=>rfl
             | some r => obtain ⟨v, ⟨V2, l2, g2, h2⟩⟩ := r
                         simp only
                         rename_i s1 g1 o1
                         cases V2[s1]? with
                         | none=>rfl
                         | some q => cases q <;> try rfl
                                     rename_i g' cs
                                     simp only
                                     by_cases hg:g1=g'
                                     ·simp only[ah hg]; cases wM s agg cs o1 v<;>rfl
                                     ·simp only[af hg]
@[simp] theorem d1h (off:Nat) (x:PX):opv cf (.faddr off x) ⟨V,l,g,h⟩=match addr ⟨V,l,g,h⟩ x with
  | some (.cptr cs)=>some (.cptr (cs.drop off),⟨V,l,g,h⟩)
  | some (.lptr s g0 o)=>some (.lptr s g0 (o+off),⟨V,l,g,h⟩)
  | some (.ptr n o)=>some (.ptr n (o+off),⟨V,l,g,h⟩)
  | _=>none:=rfl
@[simp] theorem c8S (s:Nat) (x i:PX):opv cf (.iaddrS s x i) ⟨V,l,g,h⟩=match rd ⟨V,l,g,h⟩ x,rdInt ⟨V,l,g,h⟩ i with
  | some (.list _ es), some n =>
    if 0≤n then
     match es[n.toNat]? with
     | some e=>if e.cells.length=s then some (.cptr e.cells,⟨V,l,g,h⟩) else none
     | none=>none
    else none
  | some (.rowp m sz _ len),some n=>if sz=s∧0≤n∧n<len then some (.ptr m (n.toNat*s),⟨V,l,g,h⟩) else none
  | _,_=>none:=rfl
@[simp] theorem c8T (n' s:Nat) (x i:PX):opv cf (.iaddrA n' s x i) ⟨V,l,g,h⟩=match addr ⟨V,l,g,h⟩ x,rdInt ⟨V,l,g,h⟩ i with
  | some (.lptr s' g0 o),some n=>if 0≤n∧n<n' then some (.lptr s' g0 (o+n.toNat*s),⟨V,l,g,h⟩) else none
  | some (.cptr cs),some n=>if 0≤n∧n<n' then some (.cptr (cs.drop (n.toNat*s)),⟨V,l,g,h⟩) else none
  | _,_=>none:=rfl
@[simp] theorem d1i (off s:Nat) (agg:Bool) (x:PX):opv cf (.field off s agg x) ⟨V,l,g,h⟩=match rd ⟨V,l,g,h⟩ x with
  | some v=>(match AJ v with | some cs=>sv (wD s agg cs off) ⟨V,l,g,h⟩ | none=>none)
  | none=>none:=by
 simp only[opv,Bc]
 cases rd ⟨V,l,g,h⟩ x with
 | none=>rfl
 | some v=>cases v<;>rfl
@[simp] theorem c5G (x i:PX):opv cf (.indexStr x i) ⟨V,l,g,h⟩=match rd ⟨V,l,g,h⟩ x,rdInt ⟨V,l,g,h⟩ i with
  | some (.str s), some n =>
    if 0≤n then
     match s[n.toNat]? with
     | some b=>some (.int .u8 b.toNat,⟨V,l,g,h⟩)
     | none=>none
    else none
  | _,_=>none:=rfl
@[simp] theorem c5H (n:Nat) (i:Nat):opv cf (.sliceLoc n (.v i)) ⟨V,l,g,h⟩=match V[i]? with
  | some (.loc _ cs)=>if cs.length=n then some (.list true cs,⟨V.set i .dead,l,g,h⟩) else none
  | _=>none:=by
 simp only[opv,raw]
 cases V[i]? with
 | none=>rfl
 | some q=>cases q<;>rfl
@[simp] theorem d4f (op:BinOp) (x y:PX):opv cf (.bin op x y) ⟨V,l,g,h⟩=match rd ⟨V,l,g,h⟩ x,rd ⟨V,l,g,h⟩ y with
  | some a,some b=>sv (BA op a b) ⟨V,l,g,h⟩
  | _,_=>none:=by simp only[opv,Bc]; rfl
@[simp] theorem d4H (neg agg:Bool) (ks:List EK) (x y:PX):opv cf (.eq neg agg ks x y) ⟨V,l,g,h⟩=match rd ⟨V,l,g,h⟩ x,rd ⟨V,l,g,h⟩ y with
  | some a,some b=>(match peq agg ks a b with | some t=>some (.bool (if neg then !t else t),⟨V,l,g,h⟩) | none=>none)
  | _,_=>none:=by
 simp only[opv]
 cases rd ⟨V,l,g,h⟩ x with
 | none=>rfl
 | some a => cases rd ⟨V, l, g, h⟩ y with
   | none=>rfl
   | some b=>simp only; cases peq agg ks a b<;>rfl
@[simp] theorem d4I (op:UnOp) (x:PX):opv cf (.un op x) ⟨V,l,g,h⟩=match rd ⟨V,l,g,h⟩ x with
  | some a=>sv (unv op a) ⟨V,l,g,h⟩
  | none=>none:=by simp only[opv,Bc]; rfl
@[simp] theorem c7r (k:IntKind) (x:PX):opv cf (.convInt k x) ⟨V,l,g,h⟩=match rdInt ⟨V,l,g,h⟩ x with
  | some n=>some (.int k (k.wrap n),⟨V,l,g,h⟩)
  | none=>none:=by simp only[opv]; cases rdInt ⟨V,l,g,h⟩ x<;>rfl
@[simp] theorem c7s (i:Nat) (x:PX):opv cf (.extract i x) ⟨V,l,g,h⟩=match rd ⟨V,l,g,h⟩ x with
  | some (.tuple vs)=>(match vs[i]? with | some v=>sv (cp v) ⟨V,l,g,h⟩ | none=>none)
  | _=>none:=by
 simp only[opv]
 cases rd ⟨V,l,g,h⟩ x with
 | none=>rfl
 | some a => cases a <;> try rfl
             rename_i vs; simp only; cases vs[i]?<;>simp[Bc]
@[simp] theorem d4g (str:Bool) (x:PX):opv cf (.len str x) ⟨V,l,g,h⟩=match str,rd ⟨V,l,g,h⟩ x with
  | true,some (.str s)=>some (.int .i64 s.length,⟨V,l,g,h⟩)
  | false,some (.list _ es)=>some (.int .i64 es.length,⟨V,l,g,h⟩)
  | false,some (.rowp _ _ _ n)=>some (.int .i64 n,⟨V,l,g,h⟩)
  | false,some .nils=>some (.int .i64 0,⟨V,l,g,h⟩)
  | false,some .void=>some (.int .i64 0,⟨V,l,g,h⟩)
  | _,_=>none:=rfl
@[simp] theorem d4h (x:PX):opv cf (.cap x) ⟨V,l,g,h⟩=match rd ⟨V,l,g,h⟩ x with
  | some .nils=>some (.int .i64 0,⟨V,l,g,h⟩)
  | _=>none:=rfl
@[simp] theorem c8U (y x:PX):opv cf (.appstr y x) ⟨V,l,g,h⟩=match rd ⟨V,l,g,h⟩ x,tk ⟨V,l,g,h⟩ y with
  | some (.str xs),some (.list true es,st)=>if xq 1 es∧es.length+xs.length≤140737488355328 then some (.list true (es++AN xs),st) else none
  | _,_=>none:=rfl
@[simp] theorem d4i (x:PX):opv cf (.b2s x) ⟨V,l,g,h⟩=match rd ⟨V,l,g,h⟩ x with
  | some (.list _ es)=>(match bytesOf es with | some s=>some (.str s,⟨V,l,g,h⟩) | none=>none)
  | some .nils=>some (.str [],⟨V,l,g,h⟩)
  | some .void=>some (.str [],⟨V,l,g,h⟩)
  | _=>none:=by
 simp only[opv]
 cases rd ⟨V,l,g,h⟩ x with
 | none=>rfl
 | some p => cases p <;> try rfl
             rename_i o es
             simp only[ar,Bd]
             cases bytesOf es<;>rfl
@[simp] theorem d4j (x:PX):opv cf (.s2b x) ⟨V,l,g,h⟩=match rd ⟨V,l,g,h⟩ x with
  | some (.str s)=>if s.length≤140737488355328 then some (.list (!s.isEmpty) (AN s),⟨V,l,g,h⟩) else none
  | _=>none:=rfl
@[simp] theorem c8V (mx:Bool) (xs:List PX):opv cf (.minmax mx xs) ⟨V,l,g,h⟩=match rdAll ⟨V,l,g,h⟩ xs with
  | some (v::vs)=>sv (BC mx v vs) ⟨V,l,g,h⟩
  | _=>none:=by simp only[opv,Bc]; rfl
@[simp] theorem c8W (s b:Nat) (y x:PX):opv cf (.append s b y x) ⟨V,l,g,h⟩=match rd ⟨V,l,g,h⟩ x,tk ⟨V,l,g,h⟩ y with
  | some (.list _ xs), some (.list true es, st) =>
    if xq s es∧xq s xs∧((es.length+xs.length≤2147483648∧b≤16384)∨(es.length+xs.length≤9223372036854775807∧(es.length+xs.length)*b≤140737488355328)) then some (.list true (es++xs),st) else none
  | some .nils,some (.list true es,st)=>if xq s es∧((es.length≤2147483648∧b≤16384)∨(es.length≤9223372036854775807∧es.length*b≤140737488355328)) then some (.list true es,st) else none
  | some .void,some (.list true es,st)=>if xq s es∧((es.length≤2147483648∧b≤16384)∨(es.length≤9223372036854775807∧es.length*b≤140737488355328)) then some (.list true es,st) else none
  | _,_=>none:=by
 simp only[opv]
 generalize tk ⟨V,l,g,h⟩ y=q
 rcases q with _|⟨v,st⟩
 ·cases rd ⟨V,l,g,h⟩ x with
  | none=>rfl
  | some p=>cases p<;>rfl
 ·cases rd ⟨V,l,g,h⟩ x with
  | none=>rfl
  | some p =>
    cases v with
    | list ow es =>
      cases ow with
      | false=>cases p<;>rfl
      | true=>cases p<;>first | rfl | (simp only[ar,Bd,show xq s []=true from rfl,cj,br,aL,true_and])
    | _=>cases p<;>rfl
@[simp] theorem d1j (s n:Nat) (agg:Bool) (a:PX):opv cf (.loadv s n agg a) ⟨V,l,g,h⟩=match addr ⟨V,l,g,h⟩ a with
  | some (.lptr s' g1 off) =>
    match V[s]? with
    | some (.loc g' cs)=>if s'=s∧g1=g' then(match wD n agg cs off with | some u=>some (u,⟨V,l,g,h⟩) | none=>none) else none
    | _=>none
  | _=>none:=by
 simp only[opv]
 cases addr ⟨V,l,g,h⟩ a with
 | none=>rfl
 | some v =>
   cases v<;>try rfl
   cases V[s]? with
   | none=>rfl
   | some x => cases x <;> try rfl
               simp only
               split
               ·split
                ·rename_i hl; rw[hl]; rfl
                ·rename_i hl; rw[hl]; rfl
               ·rfl
@[simp] theorem d1k (k:Nat) (args:List PX):opv cf (.pcall k args) ⟨V,l,g,h⟩=match rdAll ⟨V,l,g,h⟩ args with
  | some vs=>if wP vs then(match cf k vs [] with | some (r,_)=>if wR r then some (dem r,⟨V,l,g,h⟩) else none | none=>none) else none
  | none=>none:=rfl
@[simp] theorem c8X (k:Nat) (args:List PX):opv cf (.pcallx k args none) ⟨V,l,g,h⟩=match rdAll ⟨V,l,g,h⟩ args with
  | some vs=>if wP vs then(match cf k (Ar none vs) [] with | some (r,_)=>if wR r then some (r,⟨V,l,g,h⟩) else none | none=>none) else none
  | none=>none:=rfl
@[simp] theorem c7t (k:Nat) (args:List PX) (i:Nat):opv cf (.pcallx k args (some i)) ⟨V,l,g,h⟩=match (match args[i]? with | some x=>tk ⟨V,l,g,h⟩ x | none=>none),rdAll ⟨V,l,g,h⟩ args with
  | some (v,st1),some vs=>if wP (vs.set i v)∧i<vs.length then(match cf k (Ar (some i) (vs.set i v)) [] with | some (r,_)=>if wR r then some (r,st1) else none | none=>none) else none
  | _,_=>none:=by
 simp only[opv]; cases args[i]?<;>rfl
@[simp] theorem c8Y (l:List PV):BD none l=l.map dem:=rfl
@[simp] theorem c8Z (i:Nat) (l:List PV):BD (some i) l=(l.map dem).set i (l.getD i .dead):=rfl
@[simp] theorem d1l:xP ⟨V,l,g,h⟩=⟨V,[],g,h⟩:=rfl
@[simp] theorem b6p (ops:List PO):evL L (.region ops) ⟨V,l,g,h⟩=match zd (wr L) ops ⟨V,l,g,h⟩ with | some st=>some (.normal,xP st) | none=>none:=by
 rw[c0v]; cases zd (wr L) ops ⟨V,l,g,h⟩<;>rfl
@[simp] theorem b6q (ops:List PO) (x:PX) (a b:PC):evL L (.branch ops x a b) ⟨V,l,g,h⟩=match zd (wr L) ops ⟨V,l,g,h⟩ with
  | some st=>(match rd st x with | some (.bool t)=>if t then evL L a (xP st) else evL L b (xP st) | _=>none)
  | none=>none:=by
 rw[c0w]
 cases zd (wr L) ops ⟨V,l,g,h⟩ with
 | none=>rfl
 | some st =>
   simp only[ar]
   cases rd st x with
   | none=>rfl
   | some v => cases v <;> try rfl
               rename_i t; cases t<;>rfl
@[simp] theorem d27 (ob:yq) (j:Nat) (st:St):yd cf ob j [] st=some (none,st):=rfl
noncomputable def EG (cf:wE) (ob:yq) (j:Nat) (os:List PO):Option (Option PV×St)→Option (Option PV×St)
 | some (none,st)=>yd cf ob j os st
 | r=>r
@[simp] theorem d1m (ob:yq) (j:Nat) (os:List PO) (st:St):EG cf ob j os (some (none,st))=yd cf ob j os st:=rfl
@[simp] theorem c80 (ob:yq) (j:Nat) (os:List PO) (v:PV) (st:St):EG cf ob j os (some (some v,st))=some (some v,st):=rfl
@[simp] theorem c81 (ob:yq) (j:Nat) (os:List PO):EG cf ob j os none=none:=rfl
theorem Id (ob:yq) (j:Nat) (o:PO) (os:List PO) (st:St):yd cf ob j (o::os) st=EG cf ob (j+1) os (yV cf ob j o st):=by
 simp only[yd]
 rcases yV cf ob j o st with _|⟨_|v,st1⟩<;>rfl
def DQ (j:Nat) (d:PD):Option (Out×List PObj)→St→Option (Option PV×St)
 | some (.val r,h'),st=>some (none,put { st with heap:=h' } j d (dem r))
 | some (.boom v,h'),st=>some (some v,{ st with heap:=h' })
 | none,_=>none
@[simp] theorem d28 (j:Nat) (d:PD) (r:PV) (h':List PObj):DQ j d (some (.val r,h')) ⟨V,l,g,h⟩=some (none,put ⟨V,l,g,h'⟩ j d (dem r)):=rfl
@[simp] theorem d1n (j:Nat) (d:PD) (v:PV) (h':List PObj):DQ j d (some (.boom v,h')) ⟨V,l,g,h⟩=some (some v,⟨V,l,g,h'⟩):=rfl
@[simp] theorem d1o (j:Nat) (d:PD) (st:St):DQ j d none st=none:=rfl
theorem b9c (ob:yq) (j k:Nat) (d:PD) (args:List PX):yV cf ob j ⟨d,.h (.bcall k args),none⟩ ⟨V,l,g,h⟩=match rdAll ⟨V,l,g,h⟩ args with
  | some vs=>DQ j d (ob k vs h) ⟨V,l,g,h⟩
  | none=>none:=by
 simp only[yV]
 cases rdAll ⟨V,l,g,h⟩ args with
 | none=>rfl
 | some vs=>simp only; rcases ob k vs h with _ | ⟨_ | v,h'⟩<;>rfl
theorem b70 (ob:yq) (j:Nat) (x:PX) (d:PD) (args:List PX):yV cf ob j ⟨d,.h (.bcallv x args),none⟩ ⟨V,l,g,h⟩=match rd ⟨V,l,g,h⟩ x,rdAll ⟨V,l,g,h⟩ args with
  | some (.func k first captured),some vs=>DQ j d (ob k (first++vs++captured) h) ⟨V,l,g,h⟩
  | _,_=>none:=by
 simp only[yV]
 cases rd ⟨V,l,g,h⟩ x with
 | none=>rfl
 | some f => cases rdAll ⟨V, l, g, h⟩ args with
   | none=>cases f<;>rfl
   | some vs => cases f <;> try rfl
                rename_i k first captured
                simp only; rcases ob k (first++vs++captured) h with _|⟨_|v,h'⟩<;>rfl
def LE:Option St→Option (Option PV×St)
 | some st=>some (none,st)
 | none=>none
@[simp] theorem c82 (st:St):LE (some st)=some (none,st):=rfl
@[simp] theorem c83:LE none=none:=rfl
def wY:POp→Bool
 | .h (.bcall ..) | .h (.bcallv ..)=>true
 | _=>false
theorem Qs (ob:yq) (j:Nat) (d:PD) (op:POp) (gd:Option (PX×Bool)) (st:St) (hb:wY op=false):yV cf ob j ⟨d,op,gd⟩ st=LE (xX cf j ⟨d,op,gd⟩ st):=by
 have key:yV cf ob j ⟨d,op,gd⟩ st=(xX cf j ⟨d,op,gd⟩ st).map λst=>(none,st):=by
  cases op with
  | h o=>cases o<;>first | rfl | simp[wY] at hb
  | _=>rfl
 rw[key]
 cases xX cf j ⟨d,op,gd⟩ st<;>rfl
@[simp] theorem d1p (x:PX):wY (.mov x)=false:=id rfl
@[simp] theorem c84 (x:PX):wY (.movs x)=false:=id rfl
@[simp] theorem c85 (x:PX):wY (.take x)=false:=id rfl
@[simp] theorem c86 (c a b:PX):wY (.pick c a b)=false:=id rfl
@[simp] theorem c5I (zero:List PV):wY (.newloc zero)=false:=id rfl
@[simp] theorem c5J (size:Nat) (x:PX):wY (.boxloc size x)=false:=id rfl
@[simp] theorem c7w (zero:List PV) (parts:List (Nat×Nat×PX)):wY (.build zero parts)=false:=id rfl
@[simp] theorem c4B (size:Nat) (zero:PV) (len:Nat) (parts:List (Nat×PX)):wY (.mkslice size zero len parts)=false:=id rfl
@[simp] theorem c87 (size:Nat) (agg:Bool) (a:PX) (take:Bool):wY (.load size agg a take)=false:=id rfl
@[simp] theorem c7x (size:Nat) (agg:Bool) (a x:PX):wY (.store size agg a x)=false:=id rfl
@[simp] theorem c7y (off:Nat) (x:PX):wY (.faddr off x)=false:=id rfl
@[simp] theorem c5K (size:Nat) (x i:PX):wY (.iaddrS size x i)=false:=id rfl
@[simp] theorem c5L (len size:Nat) (x i:PX):wY (.iaddrA len size x i)=false:=id rfl
@[simp] theorem c7z (off size:Nat) (agg:Bool) (x:PX):wY (.field off size agg x)=false:=id rfl
@[simp] theorem c3v (x i:PX):wY (.indexStr x i)=false:=id rfl
@[simp] theorem c7A (str:Bool) (size:Nat) (x:PX) (lo hi:Option PX):wY (.slice str size x lo hi)=false:=id rfl
@[simp] theorem c3w (n:Nat) (x:PX):wY (.sliceLoc n x)=false:=id rfl
@[simp] theorem d1q (op:BinOp) (x y:PX):wY (.bin op x y)=false:=id rfl
@[simp] theorem d29 (neg agg:Bool) (ks:List EK) (x y:PX):wY (.eq neg agg ks x y)=false:=id rfl
@[simp] theorem d3a (op:UnOp) (x:PX):wY (.un op x)=false:=id rfl
@[simp] theorem c4C (k:IntKind) (x:PX):wY (.convInt k x)=false:=id rfl
@[simp] theorem c4D (i:Nat) (x:PX):wY (.extract i x)=false:=id rfl
@[simp] theorem d1r (str:Bool) (x:PX):wY (.len str x)=false:=id rfl
@[simp] theorem c5M (max:Bool) (xs:List PX):wY (.minmax max xs)=false:=id rfl
@[simp] theorem c5N (size bytes:Nat) (s x:PX):wY (.append size bytes s x)=false:=id rfl
@[simp] theorem c5O (s x:PX):wY (.appstr s x)=false:=id rfl
@[simp] theorem d1s (x:PX):wY (.b2s x)=false:=id rfl
@[simp] theorem d1t (x:PX):wY (.s2b x)=false:=id rfl
@[simp] theorem c5P (k:Nat) (args:List PX) (o:Option Nat):wY (.pcallx k args o)=false:=id rfl
@[simp] theorem c7B (s n:Nat) (agg:Bool) (a:PX):wY (.loadv s n agg a)=false:=id rfl
@[simp] theorem c7C (k:Nat) (args:List PX):wY (.pcall k args)=false:=id rfl
@[simp] theorem c7D (x:PX) (args:List PX):wY (.callv x args)=false:=id rfl
@[simp] theorem c3x (zero:List PV):wY (.h (.newobj zero))=false:=id rfl
@[simp] theorem c3y (size:Nat) (x:PX):wY (.h (.boxobj size x))=false:=id rfl
@[simp] theorem c5Q (size:Nat) (agg:Bool) (a:PX) (take:Bool):wY (.h (.load size agg a take))=false:=id rfl
@[simp] theorem c3z (size:Nat) (agg:Bool) (a x:PX):wY (.h (.storer size agg a x))=false:=id rfl
@[simp] theorem c4E (size:Nat) (agg:Bool) (a x:PX):wY (.h (.store size agg a x))=false:=id rfl
@[simp] theorem c4F (len size:Nat) (x i:PX):wY (.h (.iaddr len size x i))=false:=id rfl
@[simp] theorem c4G  : wY (.h (.mkmap ))=false:=id rfl
@[simp] theorem c3A (ok take kagg:Bool) (ks:List EK) (zero:PV) (m x:PX):wY (.h (.lookup ok take kagg ks zero m x))=false:=id rfl
@[simp] theorem c5R (kagg:Bool) (ks:List EK) (m k v:PX):wY (.h (.mset kagg ks m k v))=false:=id rfl
@[simp] theorem c5S (m:PX):wY (.h (.mlen m))=false:=id rfl
@[simp] theorem c3B (k:Nat) (first captured:List PX):wY (.h (.mkfunc k first captured))=false:=id rfl
@[simp] theorem c4H (kind:Nat) (neg:Bool) (x:PX):wY (.h (.isnil kind neg x))=false:=id rfl
@[simp] theorem c3C (x:PX):wY (.h (.nilchk x))=false:=id rfl
@[simp] theorem c4I (size:Nat) (agg:Bool) (a:PX):wY (.h (.loadc size agg a))=false:=id rfl
@[simp] theorem c5T (zero:List PV) (parts:List (Nat×Nat×PX)):wY (.h (.barr zero parts))=false:=id rfl
@[simp] theorem c5U (len size:Nat) (agg:Bool) (x i:PX):wY (.h (.idxA len size agg x i))=false:=id rfl
@[simp] theorem c4J (k:Nat) (args:List PX):wY (.h (.rcall k args))=false:=id rfl
@[simp] theorem c5V (k:Nat) (args:List PX):wY (.h (.call k args))=false:=id rfl
@[simp] theorem c4K (x:PX) (args:List PX):wY (.h (.callv x args))=false:=id rfl
@[simp] theorem c3D  : wY (.h (.newbld ))=false:=id rfl
@[simp] theorem c5W (size:Nat) (agg:Bool) (bytes:Nat) (s x:PX):wY (.h (.happ size agg bytes s x))=false:=id rfl
@[simp] theorem c4L (size:Nat) (agg:Bool) (bytes:Nat) (zero:List PV) (x:PX):wY (.h (.mkarr size agg bytes zero x))=false:=id rfl
@[simp] theorem c4M (x:PX):wY (.h (.range x))=false:=id rfl
@[simp] theorem c5X (x:PX):wY (.h (.next x))=false:=id rfl
@[simp] theorem d4k (ob:yq) (j:Nat) (d:PD) (op:POp) (os:List PO) (hb:wY op=false):yd cf ob j (⟨d,op,none⟩::os) ⟨V,l,g,h⟩=match opv cf op ⟨V,l,g,h⟩ with
  | some (v,st)=>yd cf ob (j+1) os (put st j d v)
  | none=>none:=by
 rw[Id,Qs ob j d op none _ hb]
 simp only[xX]
 cases opv cf op ⟨V,l,g,h⟩<;>rfl
@[simp] theorem d3b (ob:yq) (j:Nat) (d:PD) (op:POp) (x:PX) (want:Bool) (os:List PO) (hb:wY op=false):yd cf ob j (⟨d,op,some (x,want)⟩::os) ⟨V,l,g,h⟩=match rd ⟨V,l,g,h⟩ x with
  | some (.bool b)=>if b=want then(match opv cf op ⟨V,l,g,h⟩ with | some (v,st)=>yd cf ob (j+1) os (put st j d v) | none=>none) else yd cf ob (j+1) os (put ⟨V,l,g,h⟩ j d (.tuple []))
  | some (.tuple [])=>yd cf ob (j+1) os (put ⟨V,l,g,h⟩ j d (.tuple []))
  | _=>none:=by
 rw[Id,Qs ob j d op _ _ hb]
 simp only[xX]
 cases rd ⟨V,l,g,h⟩ x with
 | none=>rfl
 | some v =>
   cases v with
   | bool b =>
     simp only
     by_cases hw:b=want
     ·simp only[hw,if_true]; cases opv cf op ⟨V,l,g,h⟩<;>rfl
     ·simp only[hw,if_false]; rfl
   | tuple vs=>cases vs<;>rfl
   | _=>rfl
@[simp] theorem c88 (ob:yq) (j k:Nat) (d:PD) (args:List PX) (os:List PO):yd cf ob j (⟨d,.h (.bcall k args),none⟩::os) ⟨V,l,g,h⟩=match rdAll ⟨V,l,g,h⟩ args with
  | some vs=>EG cf ob (j+1) os (DQ j d (ob k vs h) ⟨V,l,g,h⟩)
  | none=>none:=by
 rw[Id,b9c]
 cases rdAll ⟨V,l,g,h⟩ args<;>rfl
@[simp] theorem c7E (ob:yq) (j:Nat) (x:PX) (d:PD) (args:List PX) (os:List PO):yd cf ob j (⟨d,.h (.bcallv x args),none⟩::os) ⟨V,l,g,h⟩=match rd ⟨V,l,g,h⟩ x,rdAll ⟨V,l,g,h⟩ args with
  | some (.func k first captured),some vs=>EG cf ob (j+1) os (DQ j d (ob k (first++vs++captured) h) ⟨V,l,g,h⟩)
  | _,_=>none:=by
 rw[Id,b70]
 cases rd ⟨V,l,g,h⟩ x with
 | none=>rfl
 | some f => cases rdAll ⟨V, l, g, h⟩ args with
   | none=>cases f<;>rfl
   | some vs=>cases f<;>rfl
@[simp] theorem b46 (ops:List PO):evL L (.bregion ops) ⟨V,l,g,h⟩=match yd (wr L) (wQ L) 0 ops ⟨V,List.replicate ops.length .dead,g,h⟩ with
  | some (none,st)=>some (.normal,xP st)
  | some (some v,st)=>some (.boom v,xP st)
  | none=>none:=by rw[b8L]; rfl
@[simp] theorem b47 (ops:List PO) (x:PX) (a b:PC):evL L (.bbranch ops x a b) ⟨V,l,g,h⟩=match yd (wr L) (wQ L) 0 ops ⟨V,List.replicate ops.length .dead,g,h⟩ with
  | some (none,st)=>(match rd st x with | some (.bool t)=>evL L (if t then a else b) (xP st) | _=>none)
  | some (some v,st)=>some (.boom v,xP st)
  | none=>none:=by rw[b8M]; rfl
@[simp] theorem c4N (st:St):AC st []=some []:=rfl
@[simp] theorem c3E (r:PRes) (rs:List PRes):AC ⟨V,l,g,h⟩ (r::rs)=match As ⟨V,l,g,h⟩ r with
  | some v=>(match AC ⟨V,l,g,h⟩ rs with | some vs=>some (v::vs) | none=>none)
  | none=>none:=by
 simp only[AC]; cases As ⟨V,l,g,h⟩ r<;>simp; cases AC ⟨V,l,g,h⟩ rs<;>rfl
def Gb:List PV→PV
 | [v]=>v
 | vs => .tuple (vs.map dem)
@[simp] theorem d3c (v:PV):Gb [v]=v:=rfl
@[simp] theorem d3d (v u:PV) (r:List PV):Gb (v::u::r) = .tuple ((v::u::r).map dem):=rfl
@[simp] theorem d3e:Gb [] = .tuple []:=rfl
@[simp] theorem c89 (rs:List PRes):x9 ⟨V,l,g,h⟩ rs=match AC ⟨V,l,g,h⟩ rs with | some vs=>some (Gb vs) | none=>none:=by
 simp only[x9]; cases AC ⟨V,l,g,h⟩ rs<;>rfl
def Cs (rs:List PRes):Option (PExit×St)→Option (PV×List PObj)
 | some (.normal,st)=>(match x9 st rs with | some v=>some (v,xj st.vars rs st.heap) | none=>none)
 | some (.ret,st)=>(match x9 st rs with | some v=>some (v,xj st.vars rs st.heap) | none=>none)
 | _=>none
attribute [simp] Cs
theorem b6r {f:PFunc} {args:List PV} {hp:List PObj} {r:PV×List PObj} (hr:f.code.isRound=false) (he:Cs f.results (evL L f.code ⟨args.map dem++List.replicate (f.nv - f.params) .dead,[],0,hp⟩)=some r):zN (evL L) (yU L) f args hp=some (.val r.1,r.2):=by
 have key:∀st,(match x9 st f.results with | some v=>some (v,xj st.vars f.results st.heap) | none=>none)=some r→(x9 st f.results).map (λr=>(Out.val r,xj st.vars f.results st.heap))=some (Out.val r.1,r.2):=by
  intro st h
  cases hv:x9 st f.results with
  | none=>rw[hv] at h; simp at h
  | some v=>rw[hv] at h; simp only[aa] at h; subst h; rfl
 unfold zN
 split
 ·rename_i h1; rw[h1] at hr; simp[PC.isRound] at hr
 ·generalize evL L f.code ⟨args.map dem++List.replicate (f.nv - f.params) .dead,[],0,hp⟩=q at he ⊢
  rcases q with _|⟨e,st⟩
  ·simp at he
  ·cases e<;>simp only[Cs] at he ⊢
   ·exact key st he
   ·simp at he
   ·exact key st he
   ·simp at he
   ·simp at he
theorem Ie {f:PFunc} {args:List PV} {hp:List PObj} {r:PV×List PObj} (hr:f.code.isRound=false) (he:Cs f.results (evL L f.code ⟨args.map dem++List.replicate (f.nv - f.params) .dead,[],0,hp⟩)=some r):Ac (evL L) (yU L) f args hp=some r:=by
 unfold Ac
 rw[af (by rw[hr]; simp),Fg]
 exact b6r hr he
theorem Qt {k:Nat} {f:PFunc} {args:List PV} {hp:List PObj} {r} (hf:L k=some f) (hl:args.length=f.params) (he:Cs f.results (evL L f.code ⟨args.map dem++List.replicate (f.nv - f.params) .dead,[],0,hp⟩)=some r) (hs:f.split=false:=by rfl) (fD:f.prim=none:=by rfl) (hr:f.code.isRound=false:=by rfl):
  wr L k args hp=some r:=by
 rw[Fl,yc,hf]
 simp only[ah hl,hs,fD,bK,ay,if_false]
 exact Ie hr he
theorem c1e {k:Nat} {f:PFunc} {p:List PV→List PObj→Option (PV×List PObj)} {args:List PV} {hp:List PObj} (hf:L k=some f) (hl:args.length=f.params) (fD:f.prim=some p):wr L k args hp=match p (args.map dem) hp with | some r=>some (dem r.1,r.2) | none=>none:=by
 rw[Fl,yc,hf]
 simp only[ah hl,fD]
 cases p (args.map dem) hp<;>rfl
theorem b9d {k:Nat} {f:PFunc} {args:List PV} {hp:List PObj} {r} (hf:L k=some f) (hl:args.length=f.params) (hs:f.split=true) (h0:vague (args.headD .dead)=false→Cs f.results (evL L f.code ⟨args.map dem++List.replicate (f.nv - f.params) .dead,[],0,hp⟩)=some r)
  (h1:vague (args.headD .dead)=true→Cs f.results (evL L f.code ⟨(.nils::args.tail).map dem++List.replicate (f.nv - f.params) .dead,[],0,hp⟩)=some r∧Cs f.results (evL L f.code ⟨(.void::args.tail).map dem++List.replicate (f.nv - f.params) .dead,[],0,hp⟩)=some r) (fD:f.prim=none:=by rfl) (hr:f.code.isRound=false:=by rfl):
  wr L k args hp=some r:=by
 rw[Fl,yc,hf]
 simp only[ah hl,fD]
 cases hv:vague (args.headD .dead) with
 | false=>simp only[Bool.and_false,ay,if_false]; exact Ie hr (h0 hv)
 | true =>
   obtain⟨a,b⟩:=h1 hv
   simp only[hs,Bool.and_self,if_true]
   rw[BG]
   exact⟨Ie hr a,Ie hr b⟩
end
end PI
