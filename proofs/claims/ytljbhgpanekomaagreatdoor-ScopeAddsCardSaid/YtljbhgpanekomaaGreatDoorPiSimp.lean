import Derived.Test.YtljbhgpanekomaaGreatDoorPiRun
set_option linter.unusedSectionVars false
namespace PI
open Go (IntKind BinOp UnOp)
section
variable {cf:wu} {V l:List PV} {g:Nat} {h:List PObj} {L:Nat→Option PFunc}
@[simp] theorem d4q (i:Nat):raw ⟨V,l,g,h⟩ (.v i)=V[i]? := rfl
@[simp] theorem d4r (i:Nat):raw ⟨V,l,g,h⟩ (.l i)=l[i]? := rfl
@[simp] theorem d4s (p:PV):raw ⟨V,l,g,h⟩ (.c p)=some p:=rfl
@[simp] theorem d4t (x:PX):rd ⟨V,l,g,h⟩ x=match raw ⟨V,l,g,h⟩ x with | some v=>cp v | none=>none:=by
 simp only[rd]; cases raw ⟨V,l,g,h⟩ x<;>rfl
@[simp] theorem d2p (b:Bool):cp (.bool b)=some (.bool b):=rfl
@[simp] theorem d00 (b:Bool):dem (.bool b) = .bool b:=rfl
@[simp] theorem d3a (k:IntKind) (n:Int):cp (.int k n)=some (.int k n):=rfl
@[simp] theorem d2q (k:IntKind) (n:Int):dem (.int k n) = .int k n:=rfl
@[simp] theorem d3b (s:List UInt8):cp (.str s)=some (.str s):=rfl
@[simp] theorem d2r (s:List UInt8):dem (.str s) = .str s:=rfl
@[simp] theorem d3c (cs:List PV):cp (.agg cs)=some (.agg cs):=rfl
@[simp] theorem d2s (cs:List PV):dem (.agg cs) = .agg cs:=rfl
@[simp] theorem d01 (vs:List PV):cp (.tuple vs)=some (.tuple vs):=rfl
@[simp] theorem c9h (vs:List PV):dem (.tuple vs) = .tuple vs:=rfl
@[simp] theorem c9i:cp (.nilptr)=some (.nilptr):=rfl
@[simp] theorem c69:dem (.nilptr) = .nilptr:=rfl
@[simp] theorem d2t (cs:List PV):cp (.cptr cs)=some (.cptr cs):=rfl
@[simp] theorem d02 (cs:List PV):dem (.cptr cs) = .cptr cs:=rfl
@[simp] theorem d3d (n o:Nat):cp (.ptr n o)=some (.ptr n o):=rfl
@[simp] theorem d2u (n o:Nat):dem (.ptr n o) = .ptr n o:=rfl
@[simp] theorem d3e (n:Option Nat):cp (.map n)=some (.map n):=rfl
@[simp] theorem d2v (n:Option Nat):dem (.map n) = .map n:=rfl
@[simp] theorem d2w (k:Nat) (a b:List PV):cp (.func k a b)=some (.func k a b):=rfl
@[simp] theorem d03 (k:Nat) (a b:List PV):dem (.func k a b) = .func k a b:=rfl
@[simp] theorem c7a:cp (.nilfunc)=some (.nilfunc):=rfl
@[simp] theorem c5J:dem (.nilfunc) = .nilfunc:=rfl
@[simp] theorem d04 (t:Nat) (v:PV):cp (.iface t v)=some (.iface t v):=rfl
@[simp] theorem c9j (t:Nat) (v:PV):dem (.iface t v) = .iface t v:=rfl
@[simp] theorem c5K:cp (.nilIface)=some (.nilIface):=rfl
@[simp] theorem c3U:dem (.nilIface) = .nilIface:=rfl
@[simp] theorem d2x:cp (.nils)=some (.nils):=rfl
@[simp] theorem d05:dem (.nils) = .nils:=rfl
@[simp] theorem d2y:cp (.void)=some (.void):=rfl
@[simp] theorem d06:dem (.void) = .void:=rfl
@[simp] theorem d2z (o:Bool) (es:List PV):cp (.list o es)=some (.list false es):=rfl
@[simp] theorem d07 (o:Bool) (es:List PV):dem (.list o es) = .list false es:=rfl
@[simp] theorem d3f (n:Nat) (cs:List PV):cp (.loc n cs)=none:=rfl
@[simp] theorem d2A (s n o:Nat):cp (.lptr s n o)=none:=rfl
@[simp] theorem d2B:cp .dead=none:=rfl
@[simp] theorem d2C (n sz:Nat) (a:Bool) (k:Nat):cp (.rowp n sz a k)=some (.rowp n sz a k):=rfl
@[simp] theorem d08 (n sz:Nat) (a:Bool) (k:Nat):dem (.rowp n sz a k) = .rowp n sz a k:=rfl
@[simp] theorem Pp (n sz:Nat) (a:Bool) (k:Nat):xt (.rowp n sz a k)=some n:=rfl
@[simp] theorem c9k (b:Bool):xt (.bool b)=none:=rfl
@[simp] theorem d09 (k:IntKind) (n:Int):xt (.int k n)=none:=rfl
@[simp] theorem d1a (s:List UInt8):xt (.str s)=none:=rfl
@[simp] theorem d1b (cs:List PV):xt (.agg cs)=none:=rfl
@[simp] theorem c7b (vs:List PV):xt (.tuple vs)=none:=rfl
@[simp] theorem c5L:xt (.nilptr)=none:=rfl
@[simp] theorem c9l (cs:List PV):xt (.cptr cs)=none:=rfl
@[simp] theorem d1c (n o:Nat):xt (.ptr n o)=none:=rfl
@[simp] theorem d1d (n:Option Nat):xt (.map n)=none:=rfl
@[simp] theorem c9m (k:Nat) (a b:List PV):xt (.func k a b)=none:=rfl
@[simp] theorem c3V:xt (.nilfunc)=none:=rfl
@[simp] theorem c7c (t:Nat) (v:PV):xt (.iface t v)=none:=rfl
@[simp] theorem c2P:xt (.nilIface)=none:=rfl
@[simp] theorem c9n:xt (.nils)=none:=rfl
@[simp] theorem c9o:xt (.void)=none:=rfl
@[simp] theorem c9p (o:Bool) (es:List PV):xt (.list o es)=none:=rfl
@[simp] theorem d1e (n:Nat) (cs:List PV):xt (.loc n cs)=none:=rfl
@[simp] theorem c9q (s n o:Nat):xt (.lptr s n o)=none:=rfl
@[simp] theorem c9r:xt (.dead)=none:=rfl
@[simp] theorem d2D (n:Nat) (cs:List PV):dem (.loc n cs) = .loc n cs:=rfl
@[simp] theorem d1f:dem .dead = .dead:=rfl
@[simp] theorem c9s (b:Bool):wN (.bool b)=true:=rfl
@[simp] theorem d1g (k:IntKind) (n:Int):wN (.int k n)=true:=rfl
@[simp] theorem d1h (s:List UInt8):wN (.str s)=true:=rfl
@[simp] theorem d1i (cs:List PV):wN (.agg cs)=wK cs:=rfl
@[simp] theorem c7d (vs:List PV):wN (.tuple vs)=wK vs:=rfl
@[simp] theorem c5M:wN (.nilptr)=true:=rfl
@[simp] theorem c9t (cs:List PV):wN (.cptr cs)=wK cs:=rfl
@[simp] theorem d1j (n o:Nat):wN (.ptr n o)=false:=rfl
@[simp] theorem d1k (n:Option Nat):wN (.map n)=n.isNone:=rfl
@[simp] theorem c9u (k:Nat) (a b:List PV):wN (.func k a b)=(wK a&&wK b):=rfl
@[simp] theorem c3W:wN (.nilfunc)=true:=rfl
@[simp] theorem c7e (t:Nat) (v:PV):wN (.iface t v)=wN v:=rfl
@[simp] theorem c2Q:wN (.nilIface)=true:=rfl
@[simp] theorem c9v:wN (.nils)=true:=rfl
@[simp] theorem c9w:wN (.void)=true:=rfl
@[simp] theorem c9x (o:Bool) (es:List PV):wN (.list o es)=wK es:=rfl
@[simp] theorem c9y:wN (.dead)=false:=rfl
@[simp] theorem c9z (n sz:Nat) (a:Bool) (k:Nat):wN (.rowp n sz a k)=false:=rfl
@[simp] theorem d2E (k:EK) (x y:PV):peq false [k] x y=Ac k x y:=rfl
@[simp] theorem d2F (ks:List EK) (xs ys:List PV):peq true ks (.agg xs) (.agg ys)=zD ks xs ys:=rfl
def tkv:PV→Option (PV×Bool)
 | .list true es=>some (.list true es,true)
 | v => match cp v with
   | some u=>some (u,false)
   | none=>none
@[simp] theorem d1l (b:Bool):tkv (.bool b)=some (.bool b,false):=rfl
@[simp] theorem d2G (k:IntKind) (n:Int):tkv (.int k n)=some (.int k n,false):=rfl
@[simp] theorem d2H (s:List UInt8):tkv (.str s)=some (.str s,false):=rfl
@[simp] theorem d2I (cs:List PV):tkv (.agg cs)=some (.agg cs,false):=rfl
@[simp] theorem c9A (vs:List PV):tkv (.tuple vs)=some (.tuple vs,false):=rfl
@[simp] theorem c7f:tkv (.nilptr)=some (.nilptr,false):=rfl
@[simp] theorem d1m (cs:List PV):tkv (.cptr cs)=some (.cptr cs,false):=rfl
@[simp] theorem d2J (n o:Nat):tkv (.ptr n o)=some (.ptr n o,false):=rfl
@[simp] theorem d2K (n:Option Nat):tkv (.map n)=some (.map n,false):=rfl
@[simp] theorem d1n (k:Nat) (a b:List PV):tkv (.func k a b)=some (.func k a b,false):=rfl
@[simp] theorem c5N:tkv (.nilfunc)=some (.nilfunc,false):=rfl
@[simp] theorem c9B (t:Nat) (v:PV):tkv (.iface t v)=some (.iface t v,false):=rfl
@[simp] theorem c3X:tkv (.nilIface)=some (.nilIface,false):=rfl
@[simp] theorem d1o:tkv (.nils)=some (.nils,false):=rfl
@[simp] theorem d1p:tkv (.void)=some (.void,false):=rfl
@[simp] theorem d2L (es:List PV):tkv (.list true es)=some (.list true es,true):=rfl
@[simp] theorem d1q (es:List PV):tkv (.list false es)=some (.list false es,false):=rfl
@[simp] theorem d2M (n:Nat) (cs:List PV):tkv (.loc n cs)=none:=rfl
@[simp] theorem d1r (s n o:Nat):tkv (.lptr s n o)=none:=rfl
@[simp] theorem d1s:tkv .dead=none:=rfl
@[simp] theorem d1t (n sz:Nat) (a:Bool) (k:Nat):tkv (.rowp n sz a k)=some (.rowp n sz a k,false):=rfl
@[simp] theorem d2N (x:PX):tk ⟨V,l,g,h⟩ x=match raw ⟨V,l,g,h⟩ x with
  | some v => (match tkv v with
    | some (u,true)=>some (u,Bd ⟨V,l,g,h⟩ x (dem v))
    | some (u,false)=>some (u,⟨V,l,g,h⟩)
    | none=>none)
  | none=>none:=by
 unfold tk
 cases raw ⟨V,l,g,h⟩ x with
 | none=>rfl
 | some v => cases v with
   | list ow es=>cases ow<;>rfl
   | _=>rfl
def An:PV→Option (List PV)
 | .agg cs=>some cs
 | _=>none
@[simp] theorem c3Y (cs:List PV):An (.agg cs)=some cs:=rfl
@[simp] theorem d1u (cs:List PV):zy (.agg cs) = .agg (cs.map dem):=rfl
@[simp] theorem c9C (b:Bool):zy (.bool b) = .bool b:=rfl
@[simp] theorem d1v (k:IntKind) (n:Int):zy (.int k n) = .int k n:=rfl
@[simp] theorem d1w (s:List UInt8):zy (.str s) = .str s:=rfl
@[simp] theorem c9D (o:Bool) (es:List PV):zy (.list o es) = .list false es:=rfl
@[simp] theorem c2R (n:Nat) (cs:List PV) (off:Nat) (v:PV):wS n true cs off v=match An v with
  | some vs=>if vs.length=n∧off+n≤cs.length then some (cs.take off++(vs++cs.drop (off+n))) else none
  | none=>none:=by
 cases v<;>rfl
@[simp] theorem c2S (n:Nat) (cs:List PV) (off:Nat) (v:PV):wS n false cs off v=if off<cs.length∧v.flat=true then some (cs.set off v) else none:=rfl
def KF (h:List PObj):PV→Option PV
 | .rowp n sz agg len=>if agg=true∨sz=1 then(match h[n]? with | some (.cells cs)=>(match zj sz agg cs len 0 with | some es=>some (.list false es) | none=>none) | _=>none) else none
 | _=>none
@[simp] theorem Pq (h:List PObj) (n sz len:Nat) (agg:Bool):KF h (.rowp n sz agg len)=if agg=true∨sz=1 then(match h[n]? with | some (.cells cs)=>(match zj sz agg cs len 0 with | some es=>some (.list false es) | none=>none) | _=>none) else none:=rfl
def zC:PV→PV
 | .nils => .list false []
 | v=>v
@[simp] theorem c9E:zC .nils = .list false []:=rfl
@[simp] theorem c9F (b:Bool):zC (.bool b) = .bool b:=rfl
@[simp] theorem d1x (k:IntKind) (n:Int):zC (.int k n) = .int k n:=rfl
@[simp] theorem d1y (s:List UInt8):zC (.str s) = .str s:=rfl
@[simp] theorem d1z (cs:List PV):zC (.agg cs) = .agg cs:=rfl
@[simp] theorem c7g (cs:List PV):zC (.tuple cs) = .tuple cs:=rfl
@[simp] theorem c5O  : zC (.nilptr) = .nilptr:=rfl
@[simp] theorem c9G (cs:List PV):zC (.cptr cs) = .cptr cs:=rfl
@[simp] theorem d1A (n o:Nat):zC (.ptr n o) = .ptr n o:=rfl
@[simp] theorem d1B (n:Option Nat):zC (.map n) = .map n:=rfl
@[simp] theorem c9H (k:Nat) (a b:List PV):zC (.func k a b) = .func k a b:=rfl
@[simp] theorem c3Z  : zC (.nilfunc) = .nilfunc:=rfl
@[simp] theorem c7h (t:Nat) (v:PV):zC (.iface t v) = .iface t v:=rfl
@[simp] theorem c2T  : zC (.nilIface) = .nilIface:=rfl
@[simp] theorem c9I  : zC (.void) = .void:=rfl
@[simp] theorem c9J (o:Bool) (es:List PV):zC (.list o es) = .list o es:=rfl
@[simp] theorem c9K  : zC (.dead) = .dead:=rfl
@[simp] theorem d1C (n:Nat) (cs:List PV):zC (.loc n cs) = .loc n cs:=rfl
@[simp] theorem c2U (i:Nat):ym ⟨V,l,g,h⟩ (.keep i)=match V[i]? with | some v=>cp v | none=>none:=by
 simp only[ym]; cases V[i]?<;>rfl
@[simp] theorem c30 (V:List PV) (i:Nat) (rs:List PRes) (h:List PObj):wM V (.keep i::rs) h=wM V rs h:=rfl
@[simp] theorem c31 (i:Nat):ym ⟨V,l,g,h⟩ (.var i)=match V[i]? with
  | some v=>(match xt v with | some _=>KF h v | none=>(match tkv v with | some (u,_)=>some (zC u) | none=>none))
  | none=>none:=by
 simp only[ym]
 cases V[i]? with
 | none=>rfl
 | some v => cases v with
   | list ow es=>cases ow<;>rfl
   | rowp n sz agg len =>
     simp only[aw,Pp,Pq]
     split
     ·simp only[xh]
      cases h[n]? with
      | none=>rfl
      | some o => cases o <;> try rfl
                  rename_i cs
                  simp only[aw]
                  cases zj sz agg cs len 0<;>rfl
     ·rfl
   | _=>rfl
@[simp] theorem c7i:Bh []=[]:=rfl
@[simp] theorem c5P (p:PV) (ps:List PV):Bh (p::ps)=match xt p with | some n=>n::Bh ps | none=>Bh ps:=by
 cases p<;>rfl
@[simp] theorem c9L (h:List PObj):AE [] h=h:=rfl
@[simp] theorem c7j (n:Nat) (ns:List Nat) (h:List PObj):AE (n::ns) h=AE ns (h.set n .gone):=rfl
@[simp] theorem c5Q (V:List PV) (h:List PObj):wM V [] h=h:=rfl
@[simp] theorem c32 (V:List PV) (i n:Nat) (agg:Bool) (rs:List PRes) (h:List PObj):wM V (.cell i n agg::rs) h=match V[i]? with
  | some (.loc _ cs)=>wM V rs (AE (Bh cs) h)
  | _=>wM V rs h:=by
 simp only[wM,AT]
 cases V[i]? with
 | none=>rfl
 | some v=>cases v<;>rfl
@[simp] theorem c5R (V:List PV) (i:Nat) (rs:List PRes) (h:List PObj):wM V (.var i::rs) h=match V[i]? with
  | some v=>(match xt v with | some n=>wM V rs (h.set n .gone) | none=>wM V rs h)
  | none=>wM V rs h:=by
 simp only[wM,AT,HY]
 cases V[i]? with
 | none=>rfl
 | some v=>cases v<;>rfl
@[simp] theorem c9M (h:List PObj):Ad h []=some []:=rfl
@[simp] theorem c7k (h:List PObj) (p:PV) (ps:List PV):Ad h (p::ps)=match xt p with
  | some _=>(match KF h p with | some q=>(match Ad h ps with | some qs=>some (q::qs) | none=>none) | none=>none)
  | none=>(match Ad h ps with | some qs=>some (p::qs) | none=>none):=by
 simp only[Ad]
 cases p with
 | rowp n sz agg len =>
   simp only[Pp,Pq,BF]
   split
   ·cases h[n]? with
    | none=>rfl
    | some o => cases o <;> try rfl
                rename_i cs
                simp only
                cases zj sz agg cs len 0 with
                | none=>rfl
                | some es=>simp only[aA,aw]; cases Ad h ps<;>rfl
   ·rfl
 | _=>simp only[BF,aw]; cases Ad h ps<;>rfl
@[simp] theorem d1D (h:List PObj) (ps:List PV):xF h (.agg ps)=match Ad h ps with | some qs=>some (.agg qs) | none=>none:=by
 simp only[xF]; cases Ad h ps<;>rfl
@[simp] theorem c9N (h:List PObj) (b:Bool):xF h (.bool b)=some (.bool b):=rfl
@[simp] theorem d1E (h:List PObj) (k:IntKind) (n:Int):xF h (.int k n)=some (.int k n):=rfl
@[simp] theorem d1F (h:List PObj) (s:List UInt8):xF h (.str s)=some (.str s):=rfl
@[simp] theorem c9O (h:List PObj) (o:Bool) (es:List PV):xF h (.list o es)=some (.list o es):=rfl
@[simp] theorem c5S (h:List PObj)  : xF h (.nilptr)=some (.nilptr):=rfl
@[simp] theorem c9P (h:List PObj) (cs:List PV):xF h (.cptr cs)=some (.cptr cs):=rfl
@[simp] theorem d1G (h:List PObj) (n o:Nat):xF h (.ptr n o)=some (.ptr n o):=rfl
@[simp] theorem c9Q (h:List PObj) (n sz:Nat) (a:Bool) (k:Nat):xF h (.rowp n sz a k)=some (.rowp n sz a k):=rfl
@[simp] theorem d1H (h:List PObj) (n:Option Nat):xF h (.map n)=some (.map n):=rfl
@[simp] theorem c9R (h:List PObj) (k:Nat) (a b:List PV):xF h (.func k a b)=some (.func k a b):=rfl
@[simp] theorem c33 (h:List PObj)  : xF h (.nilfunc)=some (.nilfunc):=rfl
@[simp] theorem c7l (h:List PObj) (t:Nat) (v:PV):xF h (.iface t v)=some (.iface t v):=rfl
@[simp] theorem c2V (h:List PObj)  : xF h (.nilIface)=some (.nilIface):=rfl
@[simp] theorem c2W (i n:Nat) (agg:Bool):ym ⟨V,l,g,h⟩ (.cell i n agg)=match V[i]? with
  | some (.loc _ cs)=>(match wz n agg cs 0 with | some v=>xF h v | none=>none)
  | some (.ptr m 0)=>(match xh ⟨V,l,g,h⟩ m with | some cs=>wz n agg cs 0 | none=>none)
  | _=>none:=by
 simp only[ym]
 cases V[i]? with
 | none=>rfl
 | some v =>
   cases v with
   | loc g cs=>simp only; cases wz n agg cs 0<;>rfl
   | ptr m off =>
     cases off with
     | zero=>simp only; cases xh ⟨V,l,g,h⟩ m<;>rfl
     | succ off=>rfl
   | _=>rfl
attribute [simp] addr rdInt Bd wK Es Et unv bound Ac BE
@[simp] theorem c9S (st:St):rdAll st []=some []:=rfl
@[simp] theorem c7m (x:PX) (xs:List PX):rdAll ⟨V,l,g,h⟩ (x::xs)=match rd ⟨V,l,g,h⟩ x with | some v=>(match rdAll ⟨V,l,g,h⟩ xs with | some vs=>some (v::vs) | none=>none) | none=>none:=by
 simp only[rdAll]; cases rd ⟨V,l,g,h⟩ x<;>simp; cases rdAll ⟨V,l,g,h⟩ xs<;>rfl
@[simp] theorem c5T (st:St):rdElems st []=some []:=rfl
@[simp] theorem c34 (i:Nat) (x:PX) (xs:List (Nat×PX)):rdElems ⟨V,l,g,h⟩ ((i,x)::xs)=match rd ⟨V,l,g,h⟩ x with | some v=>(match rdElems ⟨V,l,g,h⟩ xs with | some vs=>some ((i,v)::vs) | none=>none) | none=>none:=by
 simp only[rdElems]; cases rd ⟨V,l,g,h⟩ x<;>simp; cases rdElems ⟨V,l,g,h⟩ xs<;>rfl
@[simp] theorem c5U (st:St):rdParts st []=some []:=rfl
@[simp] theorem c35 (i s:Nat) (x:PX) (xs:List (Nat×Nat×PX)):rdParts ⟨V,l,g,h⟩ ((i,s,x)::xs)=match rd ⟨V,l,g,h⟩ x with | some v=>(match rdParts ⟨V,l,g,h⟩ xs with | some vs=>some ((i,s,v)::vs) | none=>none) | none=>none:=by
 simp only[rdParts]; cases rd ⟨V,l,g,h⟩ x<;>simp; cases rdParts ⟨V,l,g,h⟩ xs<;>rfl
@[simp] theorem d4u (i j:Nat) (v:PV):put ⟨V,l,g,h⟩ j (.v i) v=⟨V.set i v,l,g,h⟩:=rfl
@[simp] theorem d4v (j:Nat) (v:PV):put ⟨V,l,g,h⟩ j .l v=⟨V,l.set j v,g,h⟩:=rfl
@[simp] theorem d4w (j:Nat) (v:PV):put ⟨V,l,g,h⟩ j .n v=⟨V,l,g,h⟩:=rfl
@[simp] theorem c7n (ops:List PO):yx cf ops ⟨V,l,g,h⟩=yB cf 0 ops ⟨V,List.replicate ops.length .dead,g,h⟩:=rfl
@[simp] theorem c36 (j:Nat) (st:St):yB cf j [] st=some st:=rfl
@[simp] theorem c2X (j:Nat) (d:PD) (o:POp) (os:List PO):yB cf j (⟨d,o,none⟩::os) ⟨V,l,g,h⟩ =
  match opv cf o ⟨V,l,g,h⟩ with | some (v,st)=>yB cf (j+1) os (put st j d v) | none=>none:=by
 simp only[yB,xG]; cases opv cf o ⟨V,l,g,h⟩<;>rfl
@[simp] theorem c1F (j:Nat) (d:PD) (o:POp) (x:PX) (want:Bool) (os:List PO):yB cf j (⟨d,o,some (x,want)⟩::os) ⟨V,l,g,h⟩ =
  match rd ⟨V,l,g,h⟩ x with
  | some (.bool b)=>if b=want then(match opv cf o ⟨V,l,g,h⟩ with | some (v,st)=>yB cf (j+1) os (put st j d v) | none=>none) else yB cf (j+1) os (put ⟨V,l,g,h⟩ j d (.tuple []))
  | some (.tuple [])=>yB cf (j+1) os (put ⟨V,l,g,h⟩ j d (.tuple []))
  | _=>none:=by
 simp only[yB,xG]
 cases rd ⟨V,l,g,h⟩ x with
 | none=>rfl
 | some v =>
   cases v<;>try rfl
   ·rename_i b
    simp only
    by_cases hb:b=want
    ·simp only[ah hb]; cases opv cf o ⟨V,l,g,h⟩<;>rfl
    ·simp only[af hb]; rfl
   ·rename_i vs
    cases vs<;>rfl
def sv (r:Option PV) (st:St):Option (PV×St):=match r with | some v=>some (v,st) | none=>none
@[simp] theorem d2P (v:PV) (st:St):sv (some v) st=some (v,st):=rfl
@[simp] theorem d2Q (st:St):sv none st=none:=rfl
theorem AQ (r:Option PV) (st:St):r.map (·,st)=sv r st:=by cases r<;>rfl
@[simp] theorem d2R (x:PX):opv cf (.mov x) ⟨V,l,g,h⟩=sv (rd ⟨V,l,g,h⟩ x) ⟨V,l,g,h⟩:=AQ _ _
@[simp] theorem d1I (x:PX):opv cf (.movs x) ⟨V,l,g,h⟩=match rd ⟨V,l,g,h⟩ x with | some (.str s)=>some (.str s,⟨V,l,g,h⟩) | _=>none:=rfl
@[simp] theorem d1J (x:PX):opv cf (.take x) ⟨V,l,g,h⟩=match raw ⟨V,l,g,h⟩ x with
  | some v => (match tkv v with
    | some (u,true)=>some (u,Bd ⟨V,l,g,h⟩ x (dem v))
    | some (u,false)=>some (u,⟨V,l,g,h⟩)
    | none=>none)
  | none=>none:=by
 simp only[opv,d2N]
@[simp] theorem d1K (c a b:PX):opv cf (.pick c a b) ⟨V,l,g,h⟩=match rd ⟨V,l,g,h⟩ c with
  | some (.bool t)=>sv (rd ⟨V,l,g,h⟩ (if t then a else b)) ⟨V,l,g,h⟩
  | _=>none:=by
 simp only[opv,AQ]; rfl
@[simp] theorem c7o (z:List PV):opv cf (.newloc z) ⟨V,l,g,h⟩=some (.loc g z,⟨V,l,g+1,h⟩):=rfl
@[simp] theorem c7p (s:Nat) (x:PX):opv cf (.boxloc s x) ⟨V,l,g,h⟩=match rd ⟨V,l,g,h⟩ x with
  | some v=>if v.cells.length=s then some (.loc g (v.cells.map dem),⟨V,l,g+1,h⟩) else none
  | none=>none:=rfl
@[simp] theorem c5V (s:Nat) (z:PV) (n:Nat) (ps:List (Nat×PX)):opv cf (.mkslice s z n ps) ⟨V,l,g,h⟩=match rdElems ⟨V,l,g,h⟩ ps with
  | some es=>(match Cs s (List.replicate n z) es with | some es=>some (.list true es,⟨V,l,g,h⟩) | none=>none)
  | none=>none:=by
 simp only[opv]; cases rdElems ⟨V,l,g,h⟩ ps<;>simp; rename_i es; cases Cs s (List.replicate n z) es<;>rfl
@[simp] theorem c9T (z:List PV) (ps:List (Nat×Nat×PX)):opv cf (.build z ps) ⟨V,l,g,h⟩=match rdParts ⟨V,l,g,h⟩ ps with
  | some es=>(match Bf z es with | some cs=>some (.agg cs,⟨V,l,g,h⟩) | none=>none)
  | none=>none:=by
 simp only[opv]; cases rdParts ⟨V,l,g,h⟩ ps<;>simp; rename_i es; cases Bf z es<;>rfl
@[simp] theorem d1L (s:Nat) (agg:Bool) (a:PX) (t:Bool):opv cf (.load s agg a t) ⟨V,l,g,h⟩=match addr ⟨V,l,g,h⟩ a with
  | some (.cptr cs)=>sv (wz s agg cs 0) ⟨V,l,g,h⟩
  | some (.lptr s' g0 off) =>
    match V[s']? with
    | some (.loc g' cs) =>
      if g0=g' then
       match t && !agg,cs[off]? with
       | true,some (.list true es)=>some (.list true es,⟨V.set s' (.loc g0 (cs.set off (.list false es))),l,g,h⟩)
       | _,_=>sv (wz s agg cs off) ⟨V,l,g,h⟩
      else none
    | _=>none
  | _=>none:=by simp only[opv,AQ]; rfl
@[simp] theorem c9U (s:Nat) (agg:Bool) (a x:PX):opv cf (.store s agg a x) ⟨V,l,g,h⟩=match addr ⟨V,l,g,h⟩ a,tk ⟨V,l,g,h⟩ x with
  | some (.lptr s' g0 off), some (v, ⟨V, l, g, h⟩) =>
    match V[s']? with
    | some (.loc g' cs)=>if g0=g' then(match wS s agg cs off v with | some cs=>some (.dead,⟨V.set s' (.loc g0 cs),l,g,h⟩) | none=>none) else none
    | _=>none
  | _,_=>none:=by
 simp only[opv]
 cases addr ⟨V,l,g,h⟩ a with
 | none=>rfl
 | some p => cases p <;> try rfl
             cases tk ⟨V,l,g,h⟩ x with
             | none=>rfl
             | some r => obtain ⟨v, ⟨V2, l2, g2, h2⟩⟩ := r
                         simp only
                         rename_i s1 g1 o1
                         cases V2[s1]? with
                         | none=>rfl
                         | some q => cases q <;> try rfl
                                     rename_i g' cs
                                     simp only
                                     by_cases hg:g1=g'
                                     ·simp only[ah hg]; cases wS s agg cs o1 v<;>rfl
                                     ·simp only[af hg]
@[simp] theorem c9V (off:Nat) (x:PX):opv cf (.faddr off x) ⟨V,l,g,h⟩=match addr ⟨V,l,g,h⟩ x with
  | some (.cptr cs)=>some (.cptr (cs.drop off),⟨V,l,g,h⟩)
  | some (.lptr s g0 o)=>some (.lptr s g0 (o+off),⟨V,l,g,h⟩)
  | some (.ptr n o)=>some (.ptr n (o+off),⟨V,l,g,h⟩)
  | _=>none:=rfl
@[simp] theorem c7q (s:Nat) (x i:PX):opv cf (.iaddrS s x i) ⟨V,l,g,h⟩=match rd ⟨V,l,g,h⟩ x,rdInt ⟨V,l,g,h⟩ i with
  | some (.list _ es), some n =>
    if 0≤n then
     match es[n.toNat]? with
     | some e=>if e.cells.length=s then some (.cptr e.cells,⟨V,l,g,h⟩) else none
     | none=>none
    else none
  | some (.rowp m sz _ len),some n=>if sz=s∧0≤n∧n<len then some (.ptr m (n.toNat*s),⟨V,l,g,h⟩) else none
  | _,_=>none:=rfl
@[simp] theorem c7r (n' s:Nat) (x i:PX):opv cf (.iaddrA n' s x i) ⟨V,l,g,h⟩=match addr ⟨V,l,g,h⟩ x,rdInt ⟨V,l,g,h⟩ i with
  | some (.lptr s' g0 o),some n=>if 0≤n∧n<n' then some (.lptr s' g0 (o+n.toNat*s),⟨V,l,g,h⟩) else none
  | some (.cptr cs),some n=>if 0≤n∧n<n' then some (.cptr (cs.drop (n.toNat*s)),⟨V,l,g,h⟩) else none
  | _,_=>none:=rfl
@[simp] theorem c9W (off s:Nat) (agg:Bool) (x:PX):opv cf (.field off s agg x) ⟨V,l,g,h⟩=match rd ⟨V,l,g,h⟩ x with
  | some v=>(match An v with | some cs=>sv (wz s agg cs off) ⟨V,l,g,h⟩ | none=>none)
  | none=>none:=by
 simp only[opv,AQ]
 cases rd ⟨V,l,g,h⟩ x with
 | none=>rfl
 | some v=>cases v<;>rfl
@[simp] theorem c37 (x i:PX):opv cf (.indexStr x i) ⟨V,l,g,h⟩=match rd ⟨V,l,g,h⟩ x,rdInt ⟨V,l,g,h⟩ i with
  | some (.str s), some n =>
    if 0≤n then
     match s[n.toNat]? with
     | some b=>some (.int .u8 b.toNat,⟨V,l,g,h⟩)
     | none=>none
    else none
  | _,_=>none:=rfl
@[simp] theorem c38 (n:Nat) (i:Nat):opv cf (.sliceLoc n (.v i)) ⟨V,l,g,h⟩=match V[i]? with
  | some (.loc _ cs)=>if cs.length=n then some (.list true cs,⟨V.set i .dead,l,g,h⟩) else none
  | _=>none:=by
 simp only[opv,raw]
 cases V[i]? with
 | none=>rfl
 | some q=>cases q<;>rfl
@[simp] theorem d2S (op:BinOp) (x y:PX):opv cf (.bin op x y) ⟨V,l,g,h⟩=match rd ⟨V,l,g,h⟩ x,rd ⟨V,l,g,h⟩ y with
  | some a,some b=>sv (Be op a b) ⟨V,l,g,h⟩
  | _,_=>none:=by simp only[opv,AQ]; rfl
@[simp] theorem d3g (neg agg:Bool) (ks:List EK) (x y:PX):opv cf (.eq neg agg ks x y) ⟨V,l,g,h⟩=match rd ⟨V,l,g,h⟩ x,rd ⟨V,l,g,h⟩ y with
  | some a,some b=>(match peq agg ks a b with | some t=>some (.bool (if neg then !t else t),⟨V,l,g,h⟩) | none=>none)
  | _,_=>none:=by
 simp only[opv]
 cases rd ⟨V,l,g,h⟩ x with
 | none=>rfl
 | some a => cases rd ⟨V, l, g, h⟩ y with
   | none=>rfl
   | some b=>simp only; cases peq agg ks a b<;>rfl
@[simp] theorem d3h (op:UnOp) (x:PX):opv cf (.un op x) ⟨V,l,g,h⟩=match rd ⟨V,l,g,h⟩ x with
  | some a=>sv (unv op a) ⟨V,l,g,h⟩
  | none=>none:=by simp only[opv,AQ]; rfl
@[simp] theorem c5W (k:IntKind) (x:PX):opv cf (.convInt k x) ⟨V,l,g,h⟩=match rdInt ⟨V,l,g,h⟩ x with
  | some n=>some (.int k (k.wrap n),⟨V,l,g,h⟩)
  | none=>none:=by simp only[opv]; cases rdInt ⟨V,l,g,h⟩ x<;>rfl
@[simp] theorem c5X (i:Nat) (x:PX):opv cf (.extract i x) ⟨V,l,g,h⟩=match rd ⟨V,l,g,h⟩ x with
  | some (.tuple vs)=>(match vs[i]? with | some v=>sv (cp v) ⟨V,l,g,h⟩ | none=>none)
  | _=>none:=by
 simp only[opv]
 cases rd ⟨V,l,g,h⟩ x with
 | none=>rfl
 | some a => cases a <;> try rfl
             rename_i vs; simp only; cases vs[i]?<;>simp[AQ]
@[simp] theorem d2T (str:Bool) (x:PX):opv cf (.len str x) ⟨V,l,g,h⟩=match str,rd ⟨V,l,g,h⟩ x with
  | true,some (.str s)=>some (.int .i64 s.length,⟨V,l,g,h⟩)
  | false,some (.list _ es)=>some (.int .i64 es.length,⟨V,l,g,h⟩)
  | false,some (.rowp _ _ _ n)=>some (.int .i64 n,⟨V,l,g,h⟩)
  | false,some .nils=>some (.int .i64 0,⟨V,l,g,h⟩)
  | false,some .void=>some (.int .i64 0,⟨V,l,g,h⟩)
  | _,_=>none:=rfl
@[simp] theorem d2U (x:PX):opv cf (.cap x) ⟨V,l,g,h⟩=match rd ⟨V,l,g,h⟩ x with
  | some .nils=>some (.int .i64 0,⟨V,l,g,h⟩)
  | _=>none:=rfl
@[simp] theorem c7s (y x:PX):opv cf (.appstr y x) ⟨V,l,g,h⟩=match rd ⟨V,l,g,h⟩ x,tk ⟨V,l,g,h⟩ y with
  | some (.str xs),some (.list true es,st)=>if xf 1 es∧es.length+xs.length≤140737488355328 then some (.list true (es++Ar xs),st) else none
  | _,_=>none:=rfl
@[simp] theorem d2V (x:PX):opv cf (.b2s x) ⟨V,l,g,h⟩=match rd ⟨V,l,g,h⟩ x with
  | some (.list _ es)=>(match bytesOf es with | some s=>some (.str s,⟨V,l,g,h⟩) | none=>none)
  | some .nils=>some (.str [],⟨V,l,g,h⟩)
  | some .void=>some (.str [],⟨V,l,g,h⟩)
  | _=>none:=by
 simp only[opv]
 cases rd ⟨V,l,g,h⟩ x with
 | none=>rfl
 | some p => cases p <;> try rfl
             rename_i o es
             simp only[aw,AR]
             cases bytesOf es<;>rfl
@[simp] theorem d2W (x:PX):opv cf (.s2b x) ⟨V,l,g,h⟩=match rd ⟨V,l,g,h⟩ x with
  | some (.str s)=>if s.length≤140737488355328 then some (.list (!s.isEmpty) (Ar s),⟨V,l,g,h⟩) else none
  | _=>none:=rfl
@[simp] theorem c7t (mx:Bool) (xs:List PX):opv cf (.minmax mx xs) ⟨V,l,g,h⟩=match rdAll ⟨V,l,g,h⟩ xs with
  | some (v::vs)=>sv (BE mx v vs) ⟨V,l,g,h⟩
  | _=>none:=by simp only[opv,AQ]; rfl
@[simp] theorem c7u (s b:Nat) (y x:PX):opv cf (.append s b y x) ⟨V,l,g,h⟩=match rd ⟨V,l,g,h⟩ x,tk ⟨V,l,g,h⟩ y with
  | some (.list _ xs), some (.list true es, st) =>
    if xf s es∧xf s xs∧((es.length+xs.length≤2147483648∧b≤16384)∨(es.length+xs.length≤9223372036854775807∧(es.length+xs.length)*b≤140737488355328)) then some (.list true (es++xs),st) else none
  | some .nils,some (.list true es,st)=>if xf s es∧((es.length≤2147483648∧b≤16384)∨(es.length≤9223372036854775807∧es.length*b≤140737488355328)) then some (.list true es,st) else none
  | some .void,some (.list true es,st)=>if xf s es∧((es.length≤2147483648∧b≤16384)∨(es.length≤9223372036854775807∧es.length*b≤140737488355328)) then some (.list true es,st) else none
  | _,_=>none:=by
 simp only[opv]
 generalize tk ⟨V,l,g,h⟩ y=q
 rcases q with _|⟨v,st⟩
 ·cases rd ⟨V,l,g,h⟩ x with
  | none=>rfl
  | some p=>cases p<;>rfl
 ·cases rd ⟨V,l,g,h⟩ x with
  | none=>rfl
  | some p =>
    cases v with
    | list ow es =>
      cases ow with
      | false=>cases p<;>rfl
      | true=>cases p<;>first | rfl | (simp only[aw,AR,show xf s []=true from rfl,bF,bp,aV,true_and])
    | _=>cases p<;>rfl
@[simp] theorem c9X (s n:Nat) (agg:Bool) (a:PX):opv cf (.loadv s n agg a) ⟨V,l,g,h⟩=match addr ⟨V,l,g,h⟩ a with
  | some (.lptr s' g1 off) =>
    match V[s]? with
    | some (.loc g' cs)=>if s'=s∧g1=g' then(match wz n agg cs off with | some u=>some (u,⟨V,l,g,h⟩) | none=>none) else none
    | _=>none
  | _=>none:=by
 simp only[opv]
 cases addr ⟨V,l,g,h⟩ a with
 | none=>rfl
 | some v =>
   cases v<;>try rfl
   cases V[s]? with
   | none=>rfl
   | some x => cases x <;> try rfl
               simp only
               split
               ·split
                ·rename_i hl; rw[hl]; rfl
                ·rename_i hl; rw[hl]; rfl
               ·rfl
@[simp] theorem c9Y (k:Nat) (args:List PX):opv cf (.pcall k args) ⟨V,l,g,h⟩=match rdAll ⟨V,l,g,h⟩ args with
  | some vs=>if wK vs then(match cf k vs [] with | some (r,_)=>if wN r then some (dem r,⟨V,l,g,h⟩) else none | none=>none) else none
  | none=>none:=rfl
@[simp] theorem c7v (k:Nat) (args:List PX):opv cf (.pcallx k args none) ⟨V,l,g,h⟩=match rdAll ⟨V,l,g,h⟩ args with
  | some vs=>if wK vs then(match cf k (Bg none vs) [] with | some (r,_)=>if wN r then some (r,⟨V,l,g,h⟩) else none | none=>none) else none
  | none=>none:=rfl
@[simp] theorem c5Y (k:Nat) (args:List PX) (i:Nat):opv cf (.pcallx k args (some i)) ⟨V,l,g,h⟩=match (match args[i]? with | some x=>tk ⟨V,l,g,h⟩ x | none=>none),rdAll ⟨V,l,g,h⟩ args with
  | some (v,st1),some vs=>if wK (vs.set i v)∧i<vs.length then(match cf k (Bg (some i) (vs.set i v)) [] with | some (r,_)=>if wN r then some (r,st1) else none | none=>none) else none
  | _,_=>none:=by
 simp only[opv]; cases args[i]?<;>rfl
@[simp] theorem c7w (l:List PV):Cw none l=l.map dem:=rfl
@[simp] theorem c7x (i:Nat) (l:List PV):Cw (some i) l=(l.map dem).set i (l.getD i .dead):=rfl
@[simp] theorem c9Z:xu ⟨V,l,g,h⟩=⟨V,[],g,h⟩:=rfl
@[simp] theorem b4J (ops:List PO):evL L (.region ops) ⟨V,l,g,h⟩=match yx (wn L) ops ⟨V,l,g,h⟩ with | some st=>some (.normal,xu st) | none=>none:=by
 rw[b8Z]; cases yx (wn L) ops ⟨V,l,g,h⟩<;>rfl
@[simp] theorem b4K (ops:List PO) (x:PX) (a b:PC):evL L (.branch ops x a b) ⟨V,l,g,h⟩=match yx (wn L) ops ⟨V,l,g,h⟩ with
  | some st=>(match rd st x with | some (.bool t)=>if t then evL L a (xu st) else evL L b (xu st) | _=>none)
  | none=>none:=by
 rw[b80]
 cases yx (wn L) ops ⟨V,l,g,h⟩ with
 | none=>rfl
 | some st =>
   simp only[aw]
   cases rd st x with
   | none=>rfl
   | some v => cases v <;> try rfl
               rename_i t; cases t<;>rfl
@[simp] theorem d1M (ob:xX) (j:Nat) (st:St):xJ cf ob j [] st=some (none,st):=rfl
noncomputable def En (cf:wu) (ob:xX) (j:Nat) (os:List PO):Option (Option PV×St)→Option (Option PV×St)
 | some (none,st)=>xJ cf ob j os st
 | r=>r
@[simp] theorem c90 (ob:xX) (j:Nat) (os:List PO) (st:St):En cf ob j os (some (none,st))=xJ cf ob j os st:=rfl
@[simp] theorem c7y (ob:xX) (j:Nat) (os:List PO) (v:PV) (st:St):En cf ob j os (some (some v,st))=some (some v,st):=rfl
@[simp] theorem c7z (ob:xX) (j:Nat) (os:List PO):En cf ob j os none=none:=rfl
theorem HC (ob:xX) (j:Nat) (o:PO) (os:List PO) (st:St):xJ cf ob j (o::os) st=En cf ob (j+1) os (yq cf ob j o st):=by
 simp only[xJ]
 rcases yq cf ob j o st with _|⟨_|v,st1⟩<;>rfl
def Du (j:Nat) (d:PD):Option (Out×List PObj)→St→Option (Option PV×St)
 | some (.val r,h'),st=>some (none,put { st with heap:=h' } j d (dem r))
 | some (.boom v,h'),st=>some (some v,{ st with heap:=h' })
 | none,_=>none
@[simp] theorem d1N (j:Nat) (d:PD) (r:PV) (h':List PObj):Du j d (some (.val r,h')) ⟨V,l,g,h⟩=some (none,put ⟨V,l,g,h'⟩ j d (dem r)):=rfl
@[simp] theorem c91 (j:Nat) (d:PD) (v:PV) (h':List PObj):Du j d (some (.boom v,h')) ⟨V,l,g,h⟩=some (some v,⟨V,l,g,h'⟩):=rfl
@[simp] theorem c92 (j:Nat) (d:PD) (st:St):Du j d none st=none:=rfl
theorem b7B (ob:xX) (j k:Nat) (d:PD) (args:List PX):yq cf ob j ⟨d,.h (.bcall k args),none⟩ ⟨V,l,g,h⟩=match rdAll ⟨V,l,g,h⟩ args with
  | some vs=>Du j d (ob k vs h) ⟨V,l,g,h⟩
  | none=>none:=by
 simp only[yq]
 cases rdAll ⟨V,l,g,h⟩ args with
 | none=>rfl
 | some vs=>simp only; rcases ob k vs h with _ | ⟨_ | v,h'⟩<;>rfl
theorem b6k (ob:xX) (j:Nat) (x:PX) (d:PD) (args:List PX):yq cf ob j ⟨d,.h (.bcallv x args),none⟩ ⟨V,l,g,h⟩=match rd ⟨V,l,g,h⟩ x,rdAll ⟨V,l,g,h⟩ args with
  | some (.func k first captured),some vs=>Du j d (ob k (first++vs++captured) h) ⟨V,l,g,h⟩
  | _,_=>none:=by
 simp only[yq]
 cases rd ⟨V,l,g,h⟩ x with
 | none=>rfl
 | some f => cases rdAll ⟨V, l, g, h⟩ args with
   | none=>cases f<;>rfl
   | some vs => cases f <;> try rfl
                rename_i k first captured
                simp only; rcases ob k (first++vs++captured) h with _|⟨_|v,h'⟩<;>rfl
def KG:Option St→Option (Option PV×St)
 | some st=>some (none,st)
 | none=>none
@[simp] theorem c7A (st:St):KG (some st)=some (none,st):=rfl
@[simp] theorem c7B:KG none=none:=rfl
def wR:POp→Bool
 | .h (.bcall ..) | .h (.bcallv ..)=>true
 | _=>false
theorem Pr (ob:xX) (j:Nat) (d:PD) (op:POp) (gd:Option (PX×Bool)) (st:St) (hb:wR op=false):yq cf ob j ⟨d,op,gd⟩ st=KG (xG cf j ⟨d,op,gd⟩ st):=by
 have key:yq cf ob j ⟨d,op,gd⟩ st=(xG cf j ⟨d,op,gd⟩ st).map λst=>(none,st):=by
  cases op with
  | h o=>cases o<;>first | rfl | simp[wR] at hb
  | _=>rfl
 rw[key]
 cases xG cf j ⟨d,op,gd⟩ st<;>rfl
@[simp] theorem c93 (x:PX):wR (.mov x)=false:=id rfl
@[simp] theorem c7C (x:PX):wR (.movs x)=false:=id rfl
@[simp] theorem c7D (x:PX):wR (.take x)=false:=id rfl
@[simp] theorem c7E (c a b:PX):wR (.pick c a b)=false:=id rfl
@[simp] theorem c39 (zero:List PV):wR (.newloc zero)=false:=id rfl
@[simp] theorem c4a (size:Nat) (x:PX):wR (.boxloc size x)=false:=id rfl
@[simp] theorem c51 (zero:List PV) (parts:List (Nat×Nat×PX)):wR (.build zero parts)=false:=id rfl
@[simp] theorem c2Y (size:Nat) (zero:PV) (len:Nat) (parts:List (Nat×PX)):wR (.mkslice size zero len parts)=false:=id rfl
@[simp] theorem c7F (size:Nat) (agg:Bool) (a:PX) (take:Bool):wR (.load size agg a take)=false:=id rfl
@[simp] theorem c52 (size:Nat) (agg:Bool) (a x:PX):wR (.store size agg a x)=false:=id rfl
@[simp] theorem c53 (off:Nat) (x:PX):wR (.faddr off x)=false:=id rfl
@[simp] theorem c4b (size:Nat) (x i:PX):wR (.iaddrS size x i)=false:=id rfl
@[simp] theorem c4c (len size:Nat) (x i:PX):wR (.iaddrA len size x i)=false:=id rfl
@[simp] theorem c54 (off size:Nat) (agg:Bool) (x:PX):wR (.field off size agg x)=false:=id rfl
@[simp] theorem c1G (x i:PX):wR (.indexStr x i)=false:=id rfl
@[simp] theorem c55 (str:Bool) (size:Nat) (x:PX) (lo hi:Option PX):wR (.slice str size x lo hi)=false:=id rfl
@[simp] theorem c1H (n:Nat) (x:PX):wR (.sliceLoc n x)=false:=id rfl
@[simp] theorem c94 (op:BinOp) (x y:PX):wR (.bin op x y)=false:=id rfl
@[simp] theorem d1O (neg agg:Bool) (ks:List EK) (x y:PX):wR (.eq neg agg ks x y)=false:=id rfl
@[simp] theorem d1P (op:UnOp) (x:PX):wR (.un op x)=false:=id rfl
@[simp] theorem c2Z (k:IntKind) (x:PX):wR (.convInt k x)=false:=id rfl
@[simp] theorem c20 (i:Nat) (x:PX):wR (.extract i x)=false:=id rfl
@[simp] theorem c95 (str:Bool) (x:PX):wR (.len str x)=false:=id rfl
@[simp] theorem c4d (max:Bool) (xs:List PX):wR (.minmax max xs)=false:=id rfl
@[simp] theorem c4e (size bytes:Nat) (s x:PX):wR (.append size bytes s x)=false:=id rfl
@[simp] theorem c4f (s x:PX):wR (.appstr s x)=false:=id rfl
@[simp] theorem c96 (x:PX):wR (.b2s x)=false:=id rfl
@[simp] theorem c97 (x:PX):wR (.s2b x)=false:=id rfl
@[simp] theorem c4g (k:Nat) (args:List PX) (o:Option Nat):wR (.pcallx k args o)=false:=id rfl
@[simp] theorem c56 (s n:Nat) (agg:Bool) (a:PX):wR (.loadv s n agg a)=false:=id rfl
@[simp] theorem c57 (k:Nat) (args:List PX):wR (.pcall k args)=false:=id rfl
@[simp] theorem c58 (x:PX) (args:List PX):wR (.callv x args)=false:=id rfl
@[simp] theorem c1I (zero:List PV):wR (.h (.newobj zero))=false:=id rfl
@[simp] theorem c1J (size:Nat) (x:PX):wR (.h (.boxobj size x))=false:=id rfl
@[simp] theorem c4h (size:Nat) (agg:Bool) (a:PX) (take:Bool):wR (.h (.load size agg a take))=false:=id rfl
@[simp] theorem c1K (size:Nat) (agg:Bool) (a x:PX):wR (.h (.storer size agg a x))=false:=id rfl
@[simp] theorem c21 (size:Nat) (agg:Bool) (a x:PX):wR (.h (.store size agg a x))=false:=id rfl
@[simp] theorem c22 (len size:Nat) (x i:PX):wR (.h (.iaddr len size x i))=false:=id rfl
@[simp] theorem c23  : wR (.h (.mkmap ))=false:=id rfl
@[simp] theorem c1L (ok take kagg:Bool) (ks:List EK) (zero:PV) (m x:PX):wR (.h (.lookup ok take kagg ks zero m x))=false:=id rfl
@[simp] theorem c4j (kagg:Bool) (ks:List EK) (m k v:PX):wR (.h (.mset kagg ks m k v))=false:=id rfl
@[simp] theorem c4k (m:PX):wR (.h (.mlen m))=false:=id rfl
@[simp] theorem c1M (k:Nat) (first captured:List PX):wR (.h (.mkfunc k first captured))=false:=id rfl
@[simp] theorem c24 (kind:Nat) (neg:Bool) (x:PX):wR (.h (.isnil kind neg x))=false:=id rfl
@[simp] theorem c1N (x:PX):wR (.h (.nilchk x))=false:=id rfl
@[simp] theorem c25 (size:Nat) (agg:Bool) (a:PX):wR (.h (.loadc size agg a))=false:=id rfl
@[simp] theorem c4l (zero:List PV) (parts:List (Nat×Nat×PX)):wR (.h (.barr zero parts))=false:=id rfl
@[simp] theorem c4m (len size:Nat) (agg:Bool) (x i:PX):wR (.h (.idxA len size agg x i))=false:=id rfl
@[simp] theorem c26 (k:Nat) (args:List PX):wR (.h (.rcall k args))=false:=id rfl
@[simp] theorem c27 (k:Nat) (args:List PX):wR (.h (.lcall k args))=false:=id rfl
@[simp] theorem c4o (k:Nat) (args:List PX):wR (.h (.call k args))=false:=id rfl
@[simp] theorem c28 (x:PX) (args:List PX):wR (.h (.callv x args))=false:=id rfl
@[simp] theorem c1O  : wR (.h (.newbld ))=false:=id rfl
@[simp] theorem c4p (size:Nat) (agg:Bool) (bytes:Nat) (s x:PX):wR (.h (.happ size agg bytes s x))=false:=id rfl
@[simp] theorem c29 (size:Nat) (agg:Bool) (bytes:Nat) (zero:List PV) (x:PX):wR (.h (.mkarr size agg bytes zero x))=false:=id rfl
@[simp] theorem c3a (x:PX):wR (.h (.range x))=false:=id rfl
@[simp] theorem c4q (x:PX):wR (.h (.next x))=false:=id rfl
@[simp] theorem d2X (ob:xX) (j:Nat) (d:PD) (op:POp) (os:List PO) (hb:wR op=false):xJ cf ob j (⟨d,op,none⟩::os) ⟨V,l,g,h⟩=match opv cf op ⟨V,l,g,h⟩ with
  | some (v,st)=>xJ cf ob (j+1) os (put st j d v)
  | none=>none:=by
 rw[HC,Pr ob j d op none _ hb]
 simp only[xG]
 cases opv cf op ⟨V,l,g,h⟩<;>rfl
@[simp] theorem d1Q (ob:xX) (j:Nat) (d:PD) (op:POp) (x:PX) (want:Bool) (os:List PO) (hb:wR op=false):xJ cf ob j (⟨d,op,some (x,want)⟩::os) ⟨V,l,g,h⟩=match rd ⟨V,l,g,h⟩ x with
  | some (.bool b)=>if b=want then(match opv cf op ⟨V,l,g,h⟩ with | some (v,st)=>xJ cf ob (j+1) os (put st j d v) | none=>none) else xJ cf ob (j+1) os (put ⟨V,l,g,h⟩ j d (.tuple []))
  | some (.tuple [])=>xJ cf ob (j+1) os (put ⟨V,l,g,h⟩ j d (.tuple []))
  | _=>none:=by
 rw[HC,Pr ob j d op _ _ hb]
 simp only[xG]
 cases rd ⟨V,l,g,h⟩ x with
 | none=>rfl
 | some v =>
   cases v with
   | bool b =>
     simp only
     by_cases hw:b=want
     ·simp only[hw,if_true]; cases opv cf op ⟨V,l,g,h⟩<;>rfl
     ·simp only[hw,if_false]; rfl
   | tuple vs=>cases vs<;>rfl
   | _=>rfl
@[simp] theorem c7G (ob:xX) (j k:Nat) (d:PD) (args:List PX) (os:List PO):xJ cf ob j (⟨d,.h (.bcall k args),none⟩::os) ⟨V,l,g,h⟩=match rdAll ⟨V,l,g,h⟩ args with
  | some vs=>En cf ob (j+1) os (Du j d (ob k vs h) ⟨V,l,g,h⟩)
  | none=>none:=by
 rw[HC,b7B]
 cases rdAll ⟨V,l,g,h⟩ args<;>rfl
@[simp] theorem c59 (ob:xX) (j:Nat) (x:PX) (d:PD) (args:List PX) (os:List PO):xJ cf ob j (⟨d,.h (.bcallv x args),none⟩::os) ⟨V,l,g,h⟩=match rd ⟨V,l,g,h⟩ x,rdAll ⟨V,l,g,h⟩ args with
  | some (.func k first captured),some vs=>En cf ob (j+1) os (Du j d (ob k (first++vs++captured) h) ⟨V,l,g,h⟩)
  | _,_=>none:=by
 rw[HC,b6k]
 cases rd ⟨V,l,g,h⟩ x with
 | none=>rfl
 | some f => cases rdAll ⟨V, l, g, h⟩ args with
   | none=>cases f<;>rfl
   | some vs=>cases f<;>rfl
@[simp] theorem b3k (ops:List PO):evL L (.bregion ops) ⟨V,l,g,h⟩=match xJ (wn L) (wF L) 0 ops ⟨V,List.replicate ops.length .dead,g,h⟩ with
  | some (none,st)=>some (.normal,xu st)
  | some (some v,st)=>some (.boom v,xu st)
  | none=>none:=by rw[b65]; rfl
@[simp] theorem b3l (ops:List PO) (x:PX) (a b:PC):evL L (.bbranch ops x a b) ⟨V,l,g,h⟩=match xJ (wn L) (wF L) 0 ops ⟨V,List.replicate ops.length .dead,g,h⟩ with
  | some (none,st)=>(match rd st x with | some (.bool t)=>evL L (if t then a else b) (xu st) | _=>none)
  | some (some v,st)=>some (.boom v,xu st)
  | none=>none:=by rw[b66]; rfl
@[simp] theorem c3b (st:St):xT st []=some []:=rfl
@[simp] theorem c1P (r:PRes) (rs:List PRes):xT ⟨V,l,g,h⟩ (r::rs)=match ym ⟨V,l,g,h⟩ r with
  | some v=>(match xT ⟨V,l,g,h⟩ rs with | some vs=>some (v::vs) | none=>none)
  | none=>none:=by
 simp only[xT]; cases ym ⟨V,l,g,h⟩ r<;>simp; cases xT ⟨V,l,g,h⟩ rs<;>rfl
def FK:List PV→PV
 | [v]=>v
 | vs => .tuple (vs.map dem)
@[simp] theorem d1R (v:PV):FK [v]=v:=rfl
@[simp] theorem d1S (v u:PV) (r:List PV):FK (v::u::r) = .tuple ((v::u::r).map dem):=rfl
@[simp] theorem d1T:FK [] = .tuple []:=rfl
@[simp] theorem c7H (rs:List PRes):xa ⟨V,l,g,h⟩ rs=match xT ⟨V,l,g,h⟩ rs with | some vs=>some (FK vs) | none=>none:=by
 simp only[xa]; cases xT ⟨V,l,g,h⟩ rs<;>rfl
def B6 (rs:List PRes):Option (PExit×St)→Option (PV×List PObj)
 | some (.normal,st)=>(match xa st rs with | some v=>some (v,wM st.vars rs st.heap) | none=>none)
 | some (.ret,st)=>(match xa st rs with | some v=>some (v,wM st.vars rs st.heap) | none=>none)
 | _=>none
attribute [simp] B6
theorem b4L {f:PFunc} {args:List PV} {hp:List PObj} {r:PV×List PObj} (hr:f.code.isRound=false) (he:B6 f.results (evL L f.code ⟨args.map dem++List.replicate (f.nv - f.params) .dead,[],0,hp⟩)=some r):yX (evL L) (yp L) f args hp=some (.val r.1,r.2):=by
 have key:∀st,(match xa st f.results with | some v=>some (v,wM st.vars f.results st.heap) | none=>none)=some r→(xa st f.results).map (λr=>(Out.val r,wM st.vars f.results st.heap))=some (Out.val r.1,r.2):=by
  intro st h
  cases hv:xa st f.results with
  | none=>rw[hv] at h; simp at h
  | some v=>rw[hv] at h; simp only[aa] at h; subst h; rfl
 unfold yX
 split
 ·rename_i h1; rw[h1] at hr; simp[PC.isRound] at hr
 ·generalize evL L f.code ⟨args.map dem++List.replicate (f.nv - f.params) .dead,[],0,hp⟩=q at he ⊢
  rcases q with _|⟨e,st⟩
  ·simp at he
  ·cases e<;>simp only[B6] at he ⊢
   ·exact key st he
   ·simp at he
   ·exact key st he
   ·simp at he
   ·simp at he
theorem HD {f:PFunc} {args:List PV} {hp:List PObj} {r:PV×List PObj} (hr:f.code.isRound=false) (he:B6 f.results (evL L f.code ⟨args.map dem++List.replicate (f.nv - f.params) .dead,[],0,hp⟩)=some r):zA (evL L) (yp L) f args hp=some r:=by
 unfold zA
 rw[af (by rw[hr]; simp),EX]
 exact b4L hr he
theorem Pt {k:Nat} {f:PFunc} {args:List PV} {hp:List PObj} {r} (hf:L k=some f) (hl:args.length=f.params) (he:B6 f.results (evL L f.code ⟨args.map dem++List.replicate (f.nv - f.params) .dead,[],0,hp⟩)=some r) (hs:f.split=false:=by rfl) (fw:f.prim=none:=by rfl) (hr:f.code.isRound=false:=by rfl):
  wn L k args hp=some r:=by
 rw[Gl,xO,hf]
 simp only[ah hl,hs,fw,bL,aH,if_false]
 exact HD hr he
theorem Ob {k:Nat} {f:PFunc} {p:List PV→List PObj→Option (PV×List PObj)} {args:List PV} {hp:List PObj} (hf:L k=some f) (hl:args.length=f.params) (fw:f.prim=some p):wn L k args hp=match p (args.map dem) hp with | some r=>some (dem r.1,r.2) | none=>none:=by
 rw[Gl,xO,hf]
 simp only[ah hl,fw]
 cases p (args.map dem) hp<;>rfl
theorem b7C {k:Nat} {f:PFunc} {args:List PV} {hp:List PObj} {r} (hf:L k=some f) (hl:args.length=f.params) (hs:f.split=true) (h0:vague (args.headD .dead)=false→B6 f.results (evL L f.code ⟨args.map dem++List.replicate (f.nv - f.params) .dead,[],0,hp⟩)=some r)
  (h1:vague (args.headD .dead)=true→B6 f.results (evL L f.code ⟨(.nils::args.tail).map dem++List.replicate (f.nv - f.params) .dead,[],0,hp⟩)=some r∧B6 f.results (evL L f.code ⟨(.void::args.tail).map dem++List.replicate (f.nv - f.params) .dead,[],0,hp⟩)=some r) (fw:f.prim=none:=by rfl) (hr:f.code.isRound=false:=by rfl):
  wn L k args hp=some r:=by
 rw[Gl,xO,hf]
 simp only[ah hl,fw]
 cases hv:vague (args.headD .dead) with
 | false=>simp only[Bool.and_false,aH,if_false]; exact HD hr (h0 hv)
 | true =>
   obtain⟨a,b⟩:=h1 hv
   simp only[hs,Bool.and_self,if_true]
   rw[Bk]
   exact⟨HD hr a,HD hr b⟩
end
end PI
