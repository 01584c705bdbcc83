import Derived.Test.YtljbhgpanekomaaGreatDoorPiRun
set_option linter.unusedSectionVars false
namespace PI
open Go (IntKind BinOp UnOp)
section
variable {cf:vZ} {V l:List PV} {g:Nat} {h:List PObj} {L:Nat→Option PFunc}
@[simp] theorem d3U (i:Nat):raw ⟨V,l,g,h⟩ (.v i)=V[i]? := rfl
@[simp] theorem d3V (i:Nat):raw ⟨V,l,g,h⟩ (.l i)=l[i]? := rfl
@[simp] theorem d3W (p:PV):raw ⟨V,l,g,h⟩ (.c p)=some p:=rfl
@[simp] theorem d3X (x:PX):rd ⟨V,l,g,h⟩ x=match raw ⟨V,l,g,h⟩ x with | some v=>cp v | none=>none:=by
 simp only[rd]; cases raw ⟨V,l,g,h⟩ x<;>rfl
@[simp] theorem d1T (b:Bool):cp (.bool b)=some (.bool b):=rfl
@[simp] theorem d0u (b:Bool):dem (.bool b) = .bool b:=rfl
@[simp] theorem d2E (k:IntKind) (n:Int):cp (.int k n)=some (.int k n):=rfl
@[simp] theorem d1U (k:IntKind) (n:Int):dem (.int k n) = .int k n:=rfl
@[simp] theorem d2F (s:List UInt8):cp (.str s)=some (.str s):=rfl
@[simp] theorem d1V (s:List UInt8):dem (.str s) = .str s:=rfl
@[simp] theorem d2G (cs:List PV):cp (.agg cs)=some (.agg cs):=rfl
@[simp] theorem d1W (cs:List PV):dem (.agg cs) = .agg cs:=rfl
@[simp] theorem d0v (vs:List PV):cp (.tuple vs)=some (.tuple vs):=rfl
@[simp] theorem c8M (vs:List PV):dem (.tuple vs) = .tuple vs:=rfl
@[simp] theorem c8N:cp (.nilptr)=some (.nilptr):=rfl
@[simp] theorem c6A:dem (.nilptr) = .nilptr:=rfl
@[simp] theorem d1X (cs:List PV):cp (.cptr cs)=some (.cptr cs):=rfl
@[simp] theorem d0w (cs:List PV):dem (.cptr cs) = .cptr cs:=rfl
@[simp] theorem d2H (n o:Nat):cp (.ptr n o)=some (.ptr n o):=rfl
@[simp] theorem d1Y (n o:Nat):dem (.ptr n o) = .ptr n o:=rfl
@[simp] theorem d2I (n:Option Nat):cp (.map n)=some (.map n):=rfl
@[simp] theorem d1Z (n:Option Nat):dem (.map n) = .map n:=rfl
@[simp] theorem d10 (k:Nat) (a b:List PV):cp (.func k a b)=some (.func k a b):=rfl
@[simp] theorem d0x (k:Nat) (a b:List PV):dem (.func k a b) = .func k a b:=rfl
@[simp] theorem c6B:cp (.nilfunc)=some (.nilfunc):=rfl
@[simp] theorem c5c:dem (.nilfunc) = .nilfunc:=rfl
@[simp] theorem d0y (t:Nat) (v:PV):cp (.iface t v)=some (.iface t v):=rfl
@[simp] theorem c8O (t:Nat) (v:PV):dem (.iface t v) = .iface t v:=rfl
@[simp] theorem c5d:cp (.nilIface)=some (.nilIface):=rfl
@[simp] theorem c3o:dem (.nilIface) = .nilIface:=rfl
@[simp] theorem d11:cp (.nils)=some (.nils):=rfl
@[simp] theorem d0z:dem (.nils) = .nils:=rfl
@[simp] theorem d12:cp (.void)=some (.void):=rfl
@[simp] theorem d0A:dem (.void) = .void:=rfl
@[simp] theorem d13 (o:Bool) (es:List PV):cp (.list o es)=some (.list false es):=rfl
@[simp] theorem d0B (o:Bool) (es:List PV):dem (.list o es) = .list false es:=rfl
@[simp] theorem d2J (n:Nat) (cs:List PV):cp (.loc n cs)=none:=rfl
@[simp] theorem d14 (s n o:Nat):cp (.lptr s n o)=none:=rfl
@[simp] theorem d15:cp .dead=none:=rfl
@[simp] theorem d16 (n sz:Nat) (a:Bool) (k:Nat):cp (.rowp n sz a k)=some (.rowp n sz a k):=rfl
@[simp] theorem d0C (n sz:Nat) (a:Bool) (k:Nat):dem (.rowp n sz a k) = .rowp n sz a k:=rfl
@[simp] theorem OG (n sz:Nat) (a:Bool) (k:Nat):w9 (.rowp n sz a k)=some n:=rfl
@[simp] theorem c8P (b:Bool):w9 (.bool b)=none:=rfl
@[simp] theorem d0D (k:IntKind) (n:Int):w9 (.int k n)=none:=rfl
@[simp] theorem d0E (s:List UInt8):w9 (.str s)=none:=rfl
@[simp] theorem d0F (cs:List PV):w9 (.agg cs)=none:=rfl
@[simp] theorem c6C (vs:List PV):w9 (.tuple vs)=none:=rfl
@[simp] theorem c5e:w9 (.nilptr)=none:=rfl
@[simp] theorem c8Q (cs:List PV):w9 (.cptr cs)=none:=rfl
@[simp] theorem d0G (n o:Nat):w9 (.ptr n o)=none:=rfl
@[simp] theorem d0H (n:Option Nat):w9 (.map n)=none:=rfl
@[simp] theorem c8R (k:Nat) (a b:List PV):w9 (.func k a b)=none:=rfl
@[simp] theorem c3p:w9 (.nilfunc)=none:=rfl
@[simp] theorem c6D (t:Nat) (v:PV):w9 (.iface t v)=none:=rfl
@[simp] theorem c2j:w9 (.nilIface)=none:=rfl
@[simp] theorem c8S:w9 (.nils)=none:=rfl
@[simp] theorem c8T:w9 (.void)=none:=rfl
@[simp] theorem c8U (o:Bool) (es:List PV):w9 (.list o es)=none:=rfl
@[simp] theorem d0I (n:Nat) (cs:List PV):w9 (.loc n cs)=none:=rfl
@[simp] theorem c8V (s n o:Nat):w9 (.lptr s n o)=none:=rfl
@[simp] theorem c8W:w9 (.dead)=none:=rfl
@[simp] theorem d17 (n:Nat) (cs:List PV):dem (.loc n cs) = .loc n cs:=rfl
@[simp] theorem d0J:dem .dead = .dead:=rfl
@[simp] theorem c8X (b:Bool):wr (.bool b)=true:=rfl
@[simp] theorem d0K (k:IntKind) (n:Int):wr (.int k n)=true:=rfl
@[simp] theorem d0L (s:List UInt8):wr (.str s)=true:=rfl
@[simp] theorem d0M (cs:List PV):wr (.agg cs)=wu cs:=rfl
@[simp] theorem c6E (vs:List PV):wr (.tuple vs)=wu vs:=rfl
@[simp] theorem c5f:wr (.nilptr)=true:=rfl
@[simp] theorem c8Y (cs:List PV):wr (.cptr cs)=wu cs:=rfl
@[simp] theorem d0N (n o:Nat):wr (.ptr n o)=false:=rfl
@[simp] theorem d0O (n:Option Nat):wr (.map n)=n.isNone:=rfl
@[simp] theorem c8Z (k:Nat) (a b:List PV):wr (.func k a b)=(wu a&&wu b):=rfl
@[simp] theorem c3q:wr (.nilfunc)=true:=rfl
@[simp] theorem c6F (t:Nat) (v:PV):wr (.iface t v)=wr v:=rfl
@[simp] theorem c2k:wr (.nilIface)=true:=rfl
@[simp] theorem c80:wr (.nils)=true:=rfl
@[simp] theorem c81:wr (.void)=true:=rfl
@[simp] theorem c82 (o:Bool) (es:List PV):wr (.list o es)=wu es:=rfl
@[simp] theorem c83:wr (.dead)=false:=rfl
@[simp] theorem c84 (n sz:Nat) (a:Bool) (k:Nat):wr (.rowp n sz a k)=false:=rfl
@[simp] theorem d18 (k:EK) (x y:PV):peq false [k] x y=zZ k x y:=rfl
@[simp] theorem d19 (ks:List EK) (xs ys:List PV):peq true ks (.agg xs) (.agg ys)=zA ks xs ys:=rfl
def tkv:PV→Option (PV×Bool)
 | .list true es=>some (.list true es,true)
 | v => match cp v with
   | some u=>some (u,false)
   | none=>none
@[simp] theorem d0P (b:Bool):tkv (.bool b)=some (.bool b,false):=rfl
@[simp] theorem d2a (k:IntKind) (n:Int):tkv (.int k n)=some (.int k n,false):=rfl
@[simp] theorem d2b (s:List UInt8):tkv (.str s)=some (.str s,false):=rfl
@[simp] theorem d2c (cs:List PV):tkv (.agg cs)=some (.agg cs,false):=rfl
@[simp] theorem c85 (vs:List PV):tkv (.tuple vs)=some (.tuple vs,false):=rfl
@[simp] theorem c6G:tkv (.nilptr)=some (.nilptr,false):=rfl
@[simp] theorem d0Q (cs:List PV):tkv (.cptr cs)=some (.cptr cs,false):=rfl
@[simp] theorem d2d (n o:Nat):tkv (.ptr n o)=some (.ptr n o,false):=rfl
@[simp] theorem d2e (n:Option Nat):tkv (.map n)=some (.map n,false):=rfl
@[simp] theorem d0R (k:Nat) (a b:List PV):tkv (.func k a b)=some (.func k a b,false):=rfl
@[simp] theorem c5g:tkv (.nilfunc)=some (.nilfunc,false):=rfl
@[simp] theorem c86 (t:Nat) (v:PV):tkv (.iface t v)=some (.iface t v,false):=rfl
@[simp] theorem c3r:tkv (.nilIface)=some (.nilIface,false):=rfl
@[simp] theorem d0S:tkv (.nils)=some (.nils,false):=rfl
@[simp] theorem d0T:tkv (.void)=some (.void,false):=rfl
@[simp] theorem d2f (es:List PV):tkv (.list true es)=some (.list true es,true):=rfl
@[simp] theorem d0U (es:List PV):tkv (.list false es)=some (.list false es,false):=rfl
@[simp] theorem d2g (n:Nat) (cs:List PV):tkv (.loc n cs)=none:=rfl
@[simp] theorem d0V (s n o:Nat):tkv (.lptr s n o)=none:=rfl
@[simp] theorem d0W:tkv .dead=none:=rfl
@[simp] theorem d0X (n sz:Nat) (a:Bool) (k:Nat):tkv (.rowp n sz a k)=some (.rowp n sz a k,false):=rfl
@[simp] theorem d2h (x:PX):tk ⟨V,l,g,h⟩ x=match raw ⟨V,l,g,h⟩ x with
  | some v => (match tkv v with
    | some (u,true)=>some (u,AS ⟨V,l,g,h⟩ x (dem v))
    | some (u,false)=>some (u,⟨V,l,g,h⟩)
    | none=>none)
  | none=>none:=by
 unfold tk
 cases raw ⟨V,l,g,h⟩ x with
 | none=>rfl
 | some v => cases v with
   | list ow es=>cases ow<;>rfl
   | _=>rfl
def zU:PV→Option (List PV)
 | .agg cs=>some cs
 | _=>none
@[simp] theorem c3s (cs:List PV):zU (.agg cs)=some cs:=rfl
@[simp] theorem d0Y (cs:List PV):yZ (.agg cs) = .agg (cs.map dem):=rfl
@[simp] theorem c87 (b:Bool):yZ (.bool b) = .bool b:=rfl
@[simp] theorem d0Z (k:IntKind) (n:Int):yZ (.int k n) = .int k n:=rfl
@[simp] theorem d00 (s:List UInt8):yZ (.str s) = .str s:=rfl
@[simp] theorem c88 (o:Bool) (es:List PV):yZ (.list o es) = .list false es:=rfl
@[simp] theorem c2l (n:Nat) (cs:List PV) (off:Nat) (v:PV):wz n true cs off v=match zU v with
  | some vs=>if vs.length=n∧off+n≤cs.length then some (cs.take off++(vs++cs.drop (off+n))) else none
  | none=>none:=by
 cases v<;>rfl
@[simp] theorem c2m (n:Nat) (cs:List PV) (off:Nat) (v:PV):wz n false cs off v=if off<cs.length∧v.flat=true then some (cs.set off v) else none:=rfl
def J8 (h:List PObj):PV→Option PV
 | .rowp n sz agg len=>if agg=true∨sz=1 then(match h[n]? with | some (.cells cs)=>(match yk sz agg cs len 0 with | some es=>some (.list false es) | none=>none) | _=>none) else none
 | _=>none
@[simp] theorem OH (h:List PObj) (n sz len:Nat) (agg:Bool):J8 h (.rowp n sz agg len)=if agg=true∨sz=1 then(match h[n]? with | some (.cells cs)=>(match yk sz agg cs len 0 with | some es=>some (.list false es) | none=>none) | _=>none) else none:=rfl
def zh:PV→PV
 | .nils => .list false []
 | v=>v
@[simp] theorem c89:zh .nils = .list false []:=rfl
@[simp] theorem c9a (b:Bool):zh (.bool b) = .bool b:=rfl
@[simp] theorem d01 (k:IntKind) (n:Int):zh (.int k n) = .int k n:=rfl
@[simp] theorem d02 (s:List UInt8):zh (.str s) = .str s:=rfl
@[simp] theorem d03 (cs:List PV):zh (.agg cs) = .agg cs:=rfl
@[simp] theorem c6H (cs:List PV):zh (.tuple cs) = .tuple cs:=rfl
@[simp] theorem c5h  : zh (.nilptr) = .nilptr:=rfl
@[simp] theorem c9b (cs:List PV):zh (.cptr cs) = .cptr cs:=rfl
@[simp] theorem d04 (n o:Nat):zh (.ptr n o) = .ptr n o:=rfl
@[simp] theorem d05 (n:Option Nat):zh (.map n) = .map n:=rfl
@[simp] theorem c9c (k:Nat) (a b:List PV):zh (.func k a b) = .func k a b:=rfl
@[simp] theorem c3t  : zh (.nilfunc) = .nilfunc:=rfl
@[simp] theorem c6I (t:Nat) (v:PV):zh (.iface t v) = .iface t v:=rfl
@[simp] theorem c2n  : zh (.nilIface) = .nilIface:=rfl
@[simp] theorem c9d  : zh (.void) = .void:=rfl
@[simp] theorem c9e (o:Bool) (es:List PV):zh (.list o es) = .list o es:=rfl
@[simp] theorem c9f  : zh (.dead) = .dead:=rfl
@[simp] theorem d06 (n:Nat) (cs:List PV):zh (.loc n cs) = .loc n cs:=rfl
@[simp] theorem c2o (i:Nat):zi ⟨V,l,g,h⟩ (.keep i)=match V[i]? with | some v=>cp v | none=>none:=by
 simp only[zi]; cases V[i]?<;>rfl
@[simp] theorem c3u (V:List PV) (i:Nat) (rs:List PRes) (h:List PObj):wI V (.keep i::rs) h=wI V rs h:=rfl
@[simp] theorem c3v (i:Nat):zi ⟨V,l,g,h⟩ (.var i)=match V[i]? with
  | some v=>(match w9 v with | some _=>J8 h v | none=>(match tkv v with | some (u,_)=>some (zh u) | none=>none))
  | none=>none:=by
 simp only[zi]
 cases V[i]? with
 | none=>rfl
 | some v => cases v with
   | list ow es=>cases ow<;>rfl
   | rowp n sz agg len =>
     simp only[ar,OG,OH]
     split
     ·simp only[wU]
      cases h[n]? with
      | none=>rfl
      | some o => cases o <;> try rfl
                  rename_i cs
                  simp only[ar]
                  cases yk sz agg cs len 0<;>rfl
     ·rfl
   | _=>rfl
@[simp] theorem c6J:Bh []=[]:=rfl
@[simp] theorem c5j (p:PV) (ps:List PV):Bh (p::ps)=match w9 p with | some n=>n::Bh ps | none=>Bh ps:=by
 cases p<;>rfl
@[simp] theorem c9g (h:List PObj):Ao [] h=h:=rfl
@[simp] theorem c6K (n:Nat) (ns:List Nat) (h:List PObj):Ao (n::ns) h=Ao ns (h.set n .gone):=rfl
@[simp] theorem c5k (V:List PV) (h:List PObj):wI V [] h=h:=rfl
@[simp] theorem c3w (V:List PV) (i n:Nat) (agg:Bool) (rs:List PRes) (h:List PObj):wI V (.cell i n agg::rs) h=match V[i]? with
  | some (.loc _ cs)=>wI V rs (Ao (Bh cs) h)
  | _=>wI V rs h:=by
 simp only[wI,AC]
 cases V[i]? with
 | none=>rfl
 | some v=>cases v<;>rfl
@[simp] theorem c5l (V:List PV) (i:Nat) (rs:List PRes) (h:List PObj):wI V (.var i::rs) h=match V[i]? with
  | some v=>(match w9 v with | some n=>wI V rs (h.set n .gone) | none=>wI V rs h)
  | none=>wI V rs h:=by
 simp only[wI,AC,Ho]
 cases V[i]? with
 | none=>rfl
 | some v=>cases v<;>rfl
@[simp] theorem c9h (h:List PObj):Aa h []=some []:=rfl
@[simp] theorem c6L (h:List PObj) (p:PV) (ps:List PV):Aa h (p::ps)=match w9 p with
  | some _=>(match J8 h p with | some q=>(match Aa h ps with | some qs=>some (q::qs) | none=>none) | none=>none)
  | none=>(match Aa h ps with | some qs=>some (p::qs) | none=>none):=by
 simp only[Aa]
 cases p with
 | rowp n sz agg len =>
   simp only[OG,OH,Cw]
   split
   ·cases h[n]? with
    | none=>rfl
    | some o => cases o <;> try rfl
                rename_i cs
                simp only
                cases yk sz agg cs len 0 with
                | none=>rfl
                | some es=>simp only[ay,ar]; cases Aa h ps<;>rfl
   ·rfl
 | _=>simp only[Cw,ar]; cases Aa h ps<;>rfl
@[simp] theorem d07 (h:List PObj) (ps:List PV):xC h (.agg ps)=match Aa h ps with | some qs=>some (.agg qs) | none=>none:=by
 simp only[xC]; cases Aa h ps<;>rfl
@[simp] theorem c9i (h:List PObj) (b:Bool):xC h (.bool b)=some (.bool b):=rfl
@[simp] theorem d08 (h:List PObj) (k:IntKind) (n:Int):xC h (.int k n)=some (.int k n):=rfl
@[simp] theorem d09 (h:List PObj) (s:List UInt8):xC h (.str s)=some (.str s):=rfl
@[simp] theorem c9j (h:List PObj) (o:Bool) (es:List PV):xC h (.list o es)=some (.list o es):=rfl
@[simp] theorem c5m (h:List PObj)  : xC h (.nilptr)=some (.nilptr):=rfl
@[simp] theorem c9k (h:List PObj) (cs:List PV):xC h (.cptr cs)=some (.cptr cs):=rfl
@[simp] theorem d1a (h:List PObj) (n o:Nat):xC h (.ptr n o)=some (.ptr n o):=rfl
@[simp] theorem c9l (h:List PObj) (n sz:Nat) (a:Bool) (k:Nat):xC h (.rowp n sz a k)=some (.rowp n sz a k):=rfl
@[simp] theorem d1b (h:List PObj) (n:Option Nat):xC h (.map n)=some (.map n):=rfl
@[simp] theorem c9m (h:List PObj) (k:Nat) (a b:List PV):xC h (.func k a b)=some (.func k a b):=rfl
@[simp] theorem c3x (h:List PObj)  : xC h (.nilfunc)=some (.nilfunc):=rfl
@[simp] theorem c6M (h:List PObj) (t:Nat) (v:PV):xC h (.iface t v)=some (.iface t v):=rfl
@[simp] theorem c2p (h:List PObj)  : xC h (.nilIface)=some (.nilIface):=rfl
@[simp] theorem c2q (i n:Nat) (agg:Bool):zi ⟨V,l,g,h⟩ (.cell i n agg)=match V[i]? with
  | some (.loc _ cs)=>(match wh n agg cs 0 with | some v=>xC h v | none=>none)
  | some (.ptr m 0)=>(match wU ⟨V,l,g,h⟩ m with | some cs=>wh n agg cs 0 | none=>none)
  | _=>none:=by
 simp only[zi]
 cases V[i]? with
 | none=>rfl
 | some v =>
   cases v with
   | loc g cs=>simp only; cases wh n agg cs 0<;>rfl
   | ptr m off =>
     cases off with
     | zero=>simp only; cases wU ⟨V,l,g,h⟩ m<;>rfl
     | succ off=>rfl
   | _=>rfl
attribute [simp] addr rdInt AS wu DY DZ unv bound zZ AA
@[simp] theorem c9n (st:St):rdAll st []=some []:=rfl
@[simp] theorem c6N (x:PX) (xs:List PX):rdAll ⟨V,l,g,h⟩ (x::xs)=match rd ⟨V,l,g,h⟩ x with | some v=>(match rdAll ⟨V,l,g,h⟩ xs with | some vs=>some (v::vs) | none=>none) | none=>none:=by
 simp only[rdAll]; cases rd ⟨V,l,g,h⟩ x<;>simp; cases rdAll ⟨V,l,g,h⟩ xs<;>rfl
@[simp] theorem c5n (st:St):rdElems st []=some []:=rfl
@[simp] theorem c3y (i:Nat) (x:PX) (xs:List (Nat×PX)):rdElems ⟨V,l,g,h⟩ ((i,x)::xs)=match rd ⟨V,l,g,h⟩ x with | some v=>(match rdElems ⟨V,l,g,h⟩ xs with | some vs=>some ((i,v)::vs) | none=>none) | none=>none:=by
 simp only[rdElems]; cases rd ⟨V,l,g,h⟩ x<;>simp; cases rdElems ⟨V,l,g,h⟩ xs<;>rfl
@[simp] theorem c5o (st:St):rdParts st []=some []:=rfl
@[simp] theorem c3z (i s:Nat) (x:PX) (xs:List (Nat×Nat×PX)):rdParts ⟨V,l,g,h⟩ ((i,s,x)::xs)=match rd ⟨V,l,g,h⟩ x with | some v=>(match rdParts ⟨V,l,g,h⟩ xs with | some vs=>some ((i,s,v)::vs) | none=>none) | none=>none:=by
 simp only[rdParts]; cases rd ⟨V,l,g,h⟩ x<;>simp; cases rdParts ⟨V,l,g,h⟩ xs<;>rfl
@[simp] theorem d3Y (i j:Nat) (v:PV):put ⟨V,l,g,h⟩ j (.v i) v=⟨V.set i v,l,g,h⟩:=rfl
@[simp] theorem d3Z (j:Nat) (v:PV):put ⟨V,l,g,h⟩ j .l v=⟨V,l.set j v,g,h⟩:=rfl
@[simp] theorem d30 (j:Nat) (v:PV):put ⟨V,l,g,h⟩ j .n v=⟨V,l,g,h⟩:=rfl
@[simp] theorem c6O (ops:List PO):x6 cf ops ⟨V,l,g,h⟩=yc cf 0 ops ⟨V,List.replicate ops.length .dead,g,h⟩:=rfl
@[simp] theorem c3A (j:Nat) (st:St):yc cf j [] st=some st:=rfl
@[simp] theorem c2r (j:Nat) (d:PD) (o:POp) (os:List PO):yc cf j (⟨d,o,none⟩::os) ⟨V,l,g,h⟩ =
  match opv cf o ⟨V,l,g,h⟩ with | some (v,st)=>yc cf (j+1) os (put st j d v) | none=>none:=by
 simp only[yc,xn]; cases opv cf o ⟨V,l,g,h⟩<;>rfl
@[simp] theorem c1a (j:Nat) (d:PD) (o:POp) (x:PX) (want:Bool) (os:List PO):yc cf j (⟨d,o,some (x,want)⟩::os) ⟨V,l,g,h⟩ =
  match rd ⟨V,l,g,h⟩ x with
  | some (.bool b)=>if b=want then(match opv cf o ⟨V,l,g,h⟩ with | some (v,st)=>yc cf (j+1) os (put st j d v) | none=>none) else yc cf (j+1) os (put ⟨V,l,g,h⟩ j d (.tuple []))
  | some (.tuple [])=>yc cf (j+1) os (put ⟨V,l,g,h⟩ j d (.tuple []))
  | _=>none:=by
 simp only[yc,xn]
 cases rd ⟨V,l,g,h⟩ x with
 | none=>rfl
 | some v =>
   cases v<;>try rfl
   ·rename_i b
    simp only
    by_cases hb:b=want
    ·simp only[ah hb]; cases opv cf o ⟨V,l,g,h⟩<;>rfl
    ·simp only[ae hb]; rfl
   ·rename_i vs
    cases vs<;>rfl
def sv (r:Option PV) (st:St):Option (PV×St):=match r with | some v=>some (v,st) | none=>none
@[simp] theorem d2j (v:PV) (st:St):sv (some v) st=some (v,st):=rfl
@[simp] theorem d2k (st:St):sv none st=none:=rfl
theorem Az (r:Option PV) (st:St):r.map (·,st)=sv r st:=by cases r<;>rfl
@[simp] theorem d2l (x:PX):opv cf (.mov x) ⟨V,l,g,h⟩=sv (rd ⟨V,l,g,h⟩ x) ⟨V,l,g,h⟩:=Az _ _
@[simp] theorem d1c (x:PX):opv cf (.movs x) ⟨V,l,g,h⟩=match rd ⟨V,l,g,h⟩ x with | some (.str s)=>some (.str s,⟨V,l,g,h⟩) | _=>none:=rfl
@[simp] theorem d1d (x:PX):opv cf (.take x) ⟨V,l,g,h⟩=match raw ⟨V,l,g,h⟩ x with
  | some v => (match tkv v with
    | some (u,true)=>some (u,AS ⟨V,l,g,h⟩ x (dem v))
    | some (u,false)=>some (u,⟨V,l,g,h⟩)
    | none=>none)
  | none=>none:=by
 simp only[opv,d2h]
@[simp] theorem d1e (c a b:PX):opv cf (.pick c a b) ⟨V,l,g,h⟩=match rd ⟨V,l,g,h⟩ c with
  | some (.bool t)=>sv (rd ⟨V,l,g,h⟩ (if t then a else b)) ⟨V,l,g,h⟩
  | _=>none:=by
 simp only[opv,Az]; rfl
@[simp] theorem c6P (z:List PV):opv cf (.newloc z) ⟨V,l,g,h⟩=some (.loc g z,⟨V,l,g+1,h⟩):=rfl
@[simp] theorem c6Q (s:Nat) (x:PX):opv cf (.boxloc s x) ⟨V,l,g,h⟩=match rd ⟨V,l,g,h⟩ x with
  | some v=>if v.cells.length=s then some (.loc g (v.cells.map dem),⟨V,l,g+1,h⟩) else none
  | none=>none:=rfl
@[simp] theorem c5p (s:Nat) (z:PV) (n:Nat) (ps:List (Nat×PX)):opv cf (.mkslice s z n ps) ⟨V,l,g,h⟩=match rdElems ⟨V,l,g,h⟩ ps with
  | some es=>(match BZ s (List.replicate n z) es with | some es=>some (.list true es,⟨V,l,g,h⟩) | none=>none)
  | none=>none:=by
 simp only[opv]; cases rdElems ⟨V,l,g,h⟩ ps<;>simp; rename_i es; cases BZ s (List.replicate n z) es<;>rfl
@[simp] theorem c9o (z:List PV) (ps:List (Nat×Nat×PX)):opv cf (.build z ps) ⟨V,l,g,h⟩=match rdParts ⟨V,l,g,h⟩ ps with
  | some es=>(match AU z es with | some cs=>some (.agg cs,⟨V,l,g,h⟩) | none=>none)
  | none=>none:=by
 simp only[opv]; cases rdParts ⟨V,l,g,h⟩ ps<;>simp; rename_i es; cases AU z es<;>rfl
@[simp] theorem d1f (s:Nat) (agg:Bool) (a:PX) (t:Bool):opv cf (.load s agg a t) ⟨V,l,g,h⟩=match addr ⟨V,l,g,h⟩ a with
  | some (.cptr cs)=>sv (wh s agg cs 0) ⟨V,l,g,h⟩
  | some (.lptr s' g0 off) =>
    match V[s']? with
    | some (.loc g' cs) =>
      if g0=g' then
       match t && !agg,cs[off]? with
       | true,some (.list true es)=>some (.list true es,⟨V.set s' (.loc g0 (cs.set off (.list false es))),l,g,h⟩)
       | _,_=>sv (wh s agg cs off) ⟨V,l,g,h⟩
      else none
    | _=>none
  | _=>none:=by simp only[opv,Az]; rfl
@[simp] theorem c9p (s:Nat) (agg:Bool) (a x:PX):opv cf (.store s agg a x) ⟨V,l,g,h⟩=match addr ⟨V,l,g,h⟩ a,tk ⟨V,l,g,h⟩ x with
  | some (.lptr s' g0 off), some (v, ⟨V, l, g, h⟩) =>
    match V[s']? with
    | some (.loc g' cs)=>if g0=g' then(match wz s agg cs off v with | some cs=>some (.dead,⟨V.set s' (.loc g0 cs),l,g,h⟩) | none=>none) else none
    | _=>none
  | _,_=>none:=by
 simp only[opv]
 cases addr ⟨V,l,g,h⟩ a with
 | none=>rfl
 | some p => cases p <;> try rfl
             cases tk ⟨V,l,g,h⟩ x with
             | none=>rfl
             | some r => obtain ⟨v, ⟨V2, l2, g2, h2⟩⟩ := r
                         simp only
                         rename_i s1 g1 o1
                         cases V2[s1]? with
                         | none=>rfl
                         | some q => cases q <;> try rfl
                                     rename_i g' cs
                                     simp only
                                     by_cases hg:g1=g'
                                     ·simp only[ah hg]; cases wz s agg cs o1 v<;>rfl
                                     ·simp only[ae hg]
@[simp] theorem c9q (off:Nat) (x:PX):opv cf (.faddr off x) ⟨V,l,g,h⟩=match addr ⟨V,l,g,h⟩ x with
  | some (.cptr cs)=>some (.cptr (cs.drop off),⟨V,l,g,h⟩)
  | some (.lptr s g0 o)=>some (.lptr s g0 (o+off),⟨V,l,g,h⟩)
  | some (.ptr n o)=>some (.ptr n (o+off),⟨V,l,g,h⟩)
  | _=>none:=rfl
@[simp] theorem c6R (s:Nat) (x i:PX):opv cf (.iaddrS s x i) ⟨V,l,g,h⟩=match rd ⟨V,l,g,h⟩ x,rdInt ⟨V,l,g,h⟩ i with
  | some (.list _ es), some n =>
    if 0≤n then
     match es[n.toNat]? with
     | some e=>if e.cells.length=s then some (.cptr e.cells,⟨V,l,g,h⟩) else none
     | none=>none
    else none
  | some (.rowp m sz _ len),some n=>if sz=s∧0≤n∧n<len then some (.ptr m (n.toNat*s),⟨V,l,g,h⟩) else none
  | _,_=>none:=rfl
@[simp] theorem c6S (n' s:Nat) (x i:PX):opv cf (.iaddrA n' s x i) ⟨V,l,g,h⟩=match addr ⟨V,l,g,h⟩ x,rdInt ⟨V,l,g,h⟩ i with
  | some (.lptr s' g0 o),some n=>if 0≤n∧n<n' then some (.lptr s' g0 (o+n.toNat*s),⟨V,l,g,h⟩) else none
  | some (.cptr cs),some n=>if 0≤n∧n<n' then some (.cptr (cs.drop (n.toNat*s)),⟨V,l,g,h⟩) else none
  | _,_=>none:=rfl
@[simp] theorem c9r (off s:Nat) (agg:Bool) (x:PX):opv cf (.field off s agg x) ⟨V,l,g,h⟩=match rd ⟨V,l,g,h⟩ x with
  | some v=>(match zU v with | some cs=>sv (wh s agg cs off) ⟨V,l,g,h⟩ | none=>none)
  | none=>none:=by
 simp only[opv,Az]
 cases rd ⟨V,l,g,h⟩ x with
 | none=>rfl
 | some v=>cases v<;>rfl
@[simp] theorem c3B (x i:PX):opv cf (.indexStr x i) ⟨V,l,g,h⟩=match rd ⟨V,l,g,h⟩ x,rdInt ⟨V,l,g,h⟩ i with
  | some (.str s), some n =>
    if 0≤n then
     match s[n.toNat]? with
     | some b=>some (.int .u8 b.toNat,⟨V,l,g,h⟩)
     | none=>none
    else none
  | _,_=>none:=rfl
@[simp] theorem c3C (n:Nat) (i:Nat):opv cf (.sliceLoc n (.v i)) ⟨V,l,g,h⟩=match V[i]? with
  | some (.loc _ cs)=>if cs.length=n then some (.list true cs,⟨V.set i .dead,l,g,h⟩) else none
  | _=>none:=by
 simp only[opv,raw]
 cases V[i]? with
 | none=>rfl
 | some q=>cases q<;>rfl
@[simp] theorem d2m (op:BinOp) (x y:PX):opv cf (.bin op x y) ⟨V,l,g,h⟩=match rd ⟨V,l,g,h⟩ x,rd ⟨V,l,g,h⟩ y with
  | some a,some b=>sv (AT op a b) ⟨V,l,g,h⟩
  | _,_=>none:=by simp only[opv,Az]; rfl
@[simp] theorem d2K (neg agg:Bool) (ks:List EK) (x y:PX):opv cf (.eq neg agg ks x y) ⟨V,l,g,h⟩=match rd ⟨V,l,g,h⟩ x,rd ⟨V,l,g,h⟩ y with
  | some a,some b=>(match peq agg ks a b with | some t=>some (.bool (if neg then !t else t),⟨V,l,g,h⟩) | none=>none)
  | _,_=>none:=by
 simp only[opv]
 cases rd ⟨V,l,g,h⟩ x with
 | none=>rfl
 | some a => cases rd ⟨V, l, g, h⟩ y with
   | none=>rfl
   | some b=>simp only; cases peq agg ks a b<;>rfl
@[simp] theorem d2L (op:UnOp) (x:PX):opv cf (.un op x) ⟨V,l,g,h⟩=match rd ⟨V,l,g,h⟩ x with
  | some a=>sv (unv op a) ⟨V,l,g,h⟩
  | none=>none:=by simp only[opv,Az]; rfl
@[simp] theorem c5q (k:IntKind) (x:PX):opv cf (.convInt k x) ⟨V,l,g,h⟩=match rdInt ⟨V,l,g,h⟩ x with
  | some n=>some (.int k (k.wrap n),⟨V,l,g,h⟩)
  | none=>none:=by simp only[opv]; cases rdInt ⟨V,l,g,h⟩ x<;>rfl
@[simp] theorem c5r (i:Nat) (x:PX):opv cf (.extract i x) ⟨V,l,g,h⟩=match rd ⟨V,l,g,h⟩ x with
  | some (.tuple vs)=>(match vs[i]? with | some v=>sv (cp v) ⟨V,l,g,h⟩ | none=>none)
  | _=>none:=by
 simp only[opv]
 cases rd ⟨V,l,g,h⟩ x with
 | none=>rfl
 | some a => cases a <;> try rfl
             rename_i vs; simp only; cases vs[i]?<;>simp[Az]
@[simp] theorem d2n (str:Bool) (x:PX):opv cf (.len str x) ⟨V,l,g,h⟩=match str,rd ⟨V,l,g,h⟩ x with
  | true,some (.str s)=>some (.int .i64 s.length,⟨V,l,g,h⟩)
  | false,some (.list _ es)=>some (.int .i64 es.length,⟨V,l,g,h⟩)
  | false,some (.rowp _ _ _ n)=>some (.int .i64 n,⟨V,l,g,h⟩)
  | false,some .nils=>some (.int .i64 0,⟨V,l,g,h⟩)
  | false,some .void=>some (.int .i64 0,⟨V,l,g,h⟩)
  | _,_=>none:=rfl
@[simp] theorem d2o (x:PX):opv cf (.cap x) ⟨V,l,g,h⟩=match rd ⟨V,l,g,h⟩ x with
  | some .nils=>some (.int .i64 0,⟨V,l,g,h⟩)
  | _=>none:=rfl
@[simp] theorem c6T (y x:PX):opv cf (.appstr y x) ⟨V,l,g,h⟩=match rd ⟨V,l,g,h⟩ x,tk ⟨V,l,g,h⟩ y with
  | some (.str xs),some (.list true es,st)=>if wL 1 es∧es.length+xs.length≤140737488355328 then some (.list true (es++z8 xs),st) else none
  | _,_=>none:=rfl
@[simp] theorem d2p (x:PX):opv cf (.b2s x) ⟨V,l,g,h⟩=match rd ⟨V,l,g,h⟩ x with
  | some (.list _ es)=>(match bytesOf es with | some s=>some (.str s,⟨V,l,g,h⟩) | none=>none)
  | some .nils=>some (.str [],⟨V,l,g,h⟩)
  | some .void=>some (.str [],⟨V,l,g,h⟩)
  | _=>none:=by
 simp only[opv]
 cases rd ⟨V,l,g,h⟩ x with
 | none=>rfl
 | some p => cases p <;> try rfl
             rename_i o es
             simp only[ar,AB]
             cases bytesOf es<;>rfl
@[simp] theorem d2q (x:PX):opv cf (.s2b x) ⟨V,l,g,h⟩=match rd ⟨V,l,g,h⟩ x with
  | some (.str s)=>if s.length≤140737488355328 then some (.list (!s.isEmpty) (z8 s),⟨V,l,g,h⟩) else none
  | _=>none:=rfl
@[simp] theorem c6U (mx:Bool) (xs:List PX):opv cf (.minmax mx xs) ⟨V,l,g,h⟩=match rdAll ⟨V,l,g,h⟩ xs with
  | some (v::vs)=>sv (AA mx v vs) ⟨V,l,g,h⟩
  | _=>none:=by simp only[opv,Az]; rfl
@[simp] theorem c6V (s b:Nat) (y x:PX):opv cf (.append s b y x) ⟨V,l,g,h⟩=match rd ⟨V,l,g,h⟩ x,tk ⟨V,l,g,h⟩ y with
  | some (.list _ xs), some (.list true es, st) =>
    if wL s es∧wL s xs∧((es.length+xs.length≤2147483648∧b≤16384)∨(es.length+xs.length≤9223372036854775807∧(es.length+xs.length)*b≤140737488355328)) then some (.list true (es++xs),st) else none
  | some .nils,some (.list true es,st)=>if wL s es∧((es.length≤2147483648∧b≤16384)∨(es.length≤9223372036854775807∧es.length*b≤140737488355328)) then some (.list true es,st) else none
  | some .void,some (.list true es,st)=>if wL s es∧((es.length≤2147483648∧b≤16384)∨(es.length≤9223372036854775807∧es.length*b≤140737488355328)) then some (.list true es,st) else none
  | _,_=>none:=by
 simp only[opv]
 generalize tk ⟨V,l,g,h⟩ y=q
 rcases q with _|⟨v,st⟩
 ·cases rd ⟨V,l,g,h⟩ x with
  | none=>rfl
  | some p=>cases p<;>rfl
 ·cases rd ⟨V,l,g,h⟩ x with
  | none=>rfl
  | some p =>
    cases v with
    | list ow es =>
      cases ow with
      | false=>cases p<;>rfl
      | true=>cases p<;>first | rfl | (simp only[ar,AB,show wL s []=true from rfl,bO,bo,aW,true_and])
    | _=>cases p<;>rfl
@[simp] theorem c9s (s n:Nat) (agg:Bool) (a:PX):opv cf (.loadv s n agg a) ⟨V,l,g,h⟩=match addr ⟨V,l,g,h⟩ a with
  | some (.lptr s' g1 off) =>
    match V[s]? with
    | some (.loc g' cs)=>if s'=s∧g1=g' then(match wh n agg cs off with | some u=>some (u,⟨V,l,g,h⟩) | none=>none) else none
    | _=>none
  | _=>none:=by
 simp only[opv]
 cases addr ⟨V,l,g,h⟩ a with
 | none=>rfl
 | some v =>
   cases v<;>try rfl
   cases V[s]? with
   | none=>rfl
   | some x => cases x <;> try rfl
               simp only
               split
               ·split
                ·rename_i hl; rw[hl]; rfl
                ·rename_i hl; rw[hl]; rfl
               ·rfl
@[simp] theorem c9t (k:Nat) (args:List PX):opv cf (.pcall k args) ⟨V,l,g,h⟩=match rdAll ⟨V,l,g,h⟩ args with
  | some vs=>if wu vs then(match cf k vs [] with | some (r,_)=>if wr r then some (dem r,⟨V,l,g,h⟩) else none | none=>none) else none
  | none=>none:=rfl
@[simp] theorem c6W (k:Nat) (args:List PX):opv cf (.pcallx k args none) ⟨V,l,g,h⟩=match rdAll ⟨V,l,g,h⟩ args with
  | some vs=>if wu vs then(match cf k (AV none vs) [] with | some (r,_)=>if wr r then some (r,⟨V,l,g,h⟩) else none | none=>none) else none
  | none=>none:=rfl
@[simp] theorem c5s (k:Nat) (args:List PX) (i:Nat):opv cf (.pcallx k args (some i)) ⟨V,l,g,h⟩=match (match args[i]? with | some x=>tk ⟨V,l,g,h⟩ x | none=>none),rdAll ⟨V,l,g,h⟩ args with
  | some (v,st1),some vs=>if wu (vs.set i v)∧i<vs.length then(match cf k (AV (some i) (vs.set i v)) [] with | some (r,_)=>if wr r then some (r,st1) else none | none=>none) else none
  | _,_=>none:=by
 simp only[opv]; cases args[i]?<;>rfl
@[simp] theorem c6X (l:List PV):B2 none l=l.map dem:=rfl
@[simp] theorem c6Y (i:Nat) (l:List PV):B2 (some i) l=(l.map dem).set i (l.getD i .dead):=rfl
@[simp] theorem c9u:xc ⟨V,l,g,h⟩=⟨V,[],g,h⟩:=rfl
@[simp] theorem b4j (ops:List PO):evL L (.region ops) ⟨V,l,g,h⟩=match x6 (vU L) ops ⟨V,l,g,h⟩ with | some st=>some (.normal,xc st) | none=>none:=by
 rw[b8y]; cases x6 (vU L) ops ⟨V,l,g,h⟩<;>rfl
@[simp] theorem b4k (ops:List PO) (x:PX) (a b:PC):evL L (.branch ops x a b) ⟨V,l,g,h⟩=match x6 (vU L) ops ⟨V,l,g,h⟩ with
  | some st=>(match rd st x with | some (.bool t)=>if t then evL L a (xc st) else evL L b (xc st) | _=>none)
  | none=>none:=by
 rw[b8z]
 cases x6 (vU L) ops ⟨V,l,g,h⟩ with
 | none=>rfl
 | some st =>
   simp only[ar]
   cases rd st x with
   | none=>rfl
   | some v => cases v <;> try rfl
               rename_i t; cases t<;>rfl
@[simp] theorem d1g (ob:xF) (j:Nat) (st:St):xt cf ob j [] st=some (none,st):=rfl
noncomputable def DS (cf:vZ) (ob:xF) (j:Nat) (os:List PO):Option (Option PV×St)→Option (Option PV×St)
 | some (none,st)=>xt cf ob j os st
 | r=>r
@[simp] theorem c9v (ob:xF) (j:Nat) (os:List PO) (st:St):DS cf ob j os (some (none,st))=xt cf ob j os st:=rfl
@[simp] theorem c6Z (ob:xF) (j:Nat) (os:List PO) (v:PV) (st:St):DS cf ob j os (some (some v,st))=some (some v,st):=rfl
@[simp] theorem c60 (ob:xF) (j:Nat) (os:List PO):DS cf ob j os none=none:=rfl
theorem GX (ob:xF) (j:Nat) (o:PO) (os:List PO) (st:St):xt cf ob j (o::os) st=DS cf ob (j+1) os (xX cf ob j o st):=by
 simp only[xt]
 rcases xX cf ob j o st with _|⟨_|v,st1⟩<;>rfl
def C5 (j:Nat) (d:PD):Option (Out×List PObj)→St→Option (Option PV×St)
 | some (.val r,h'),st=>some (none,put { st with heap:=h' } j d (dem r))
 | some (.boom v,h'),st=>some (some v,{ st with heap:=h' })
 | none,_=>none
@[simp] theorem d1h (j:Nat) (d:PD) (r:PV) (h':List PObj):C5 j d (some (.val r,h')) ⟨V,l,g,h⟩=some (none,put ⟨V,l,g,h'⟩ j d (dem r)):=rfl
@[simp] theorem c9w (j:Nat) (d:PD) (v:PV) (h':List PObj):C5 j d (some (.boom v,h')) ⟨V,l,g,h⟩=some (some v,⟨V,l,g,h'⟩):=rfl
@[simp] theorem c9x (j:Nat) (d:PD) (st:St):C5 j d none st=none:=rfl
theorem b7a (ob:xF) (j k:Nat) (d:PD) (args:List PX):xX cf ob j ⟨d,.h (.bcall k args),none⟩ ⟨V,l,g,h⟩=match rdAll ⟨V,l,g,h⟩ args with
  | some vs=>C5 j d (ob k vs h) ⟨V,l,g,h⟩
  | none=>none:=by
 simp only[xX]
 cases rdAll ⟨V,l,g,h⟩ args with
 | none=>rfl
 | some vs=>simp only; rcases ob k vs h with _ | ⟨_ | v,h'⟩<;>rfl
theorem b5S (ob:xF) (j:Nat) (x:PX) (d:PD) (args:List PX):xX cf ob j ⟨d,.h (.bcallv x args),none⟩ ⟨V,l,g,h⟩=match rd ⟨V,l,g,h⟩ x,rdAll ⟨V,l,g,h⟩ args with
  | some (.func k first captured),some vs=>C5 j d (ob k (first++vs++captured) h) ⟨V,l,g,h⟩
  | _,_=>none:=by
 simp only[xX]
 cases rd ⟨V,l,g,h⟩ x with
 | none=>rfl
 | some f => cases rdAll ⟨V, l, g, h⟩ args with
   | none=>cases f<;>rfl
   | some vs => cases f <;> try rfl
                rename_i k first captured
                simp only; rcases ob k (first++vs++captured) h with _|⟨_|v,h'⟩<;>rfl
def J9:Option St→Option (Option PV×St)
 | some st=>some (none,st)
 | none=>none
@[simp] theorem c61 (st:St):J9 (some st)=some (none,st):=rfl
@[simp] theorem c62:J9 none=none:=rfl
def wC:POp→Bool
 | .h (.bcall ..) | .h (.bcallv ..)=>true
 | _=>false
theorem OI (ob:xF) (j:Nat) (d:PD) (op:POp) (gd:Option (PX×Bool)) (st:St) (hb:wC op=false):xX cf ob j ⟨d,op,gd⟩ st=J9 (xn cf j ⟨d,op,gd⟩ st):=by
 have key:xX cf ob j ⟨d,op,gd⟩ st=(xn cf j ⟨d,op,gd⟩ st).map λst=>(none,st):=by
  cases op with
  | h o=>cases o<;>first | rfl | simp[wC] at hb
  | _=>rfl
 rw[key]
 cases xn cf j ⟨d,op,gd⟩ st<;>rfl
@[simp] theorem c9y (x:PX):wC (.mov x)=false:=id rfl
@[simp] theorem c63 (x:PX):wC (.movs x)=false:=id rfl
@[simp] theorem c64 (x:PX):wC (.take x)=false:=id rfl
@[simp] theorem c65 (c a b:PX):wC (.pick c a b)=false:=id rfl
@[simp] theorem c3D (zero:List PV):wC (.newloc zero)=false:=id rfl
@[simp] theorem c3E (size:Nat) (x:PX):wC (.boxloc size x)=false:=id rfl
@[simp] theorem c5v (zero:List PV) (parts:List (Nat×Nat×PX)):wC (.build zero parts)=false:=id rfl
@[simp] theorem c2s (size:Nat) (zero:PV) (len:Nat) (parts:List (Nat×PX)):wC (.mkslice size zero len parts)=false:=id rfl
@[simp] theorem c66 (size:Nat) (agg:Bool) (a:PX) (take:Bool):wC (.load size agg a take)=false:=id rfl
@[simp] theorem c5w (size:Nat) (agg:Bool) (a x:PX):wC (.store size agg a x)=false:=id rfl
@[simp] theorem c5x (off:Nat) (x:PX):wC (.faddr off x)=false:=id rfl
@[simp] theorem c3F (size:Nat) (x i:PX):wC (.iaddrS size x i)=false:=id rfl
@[simp] theorem c3G (len size:Nat) (x i:PX):wC (.iaddrA len size x i)=false:=id rfl
@[simp] theorem c5y (off size:Nat) (agg:Bool) (x:PX):wC (.field off size agg x)=false:=id rfl
@[simp] theorem c1b (x i:PX):wC (.indexStr x i)=false:=id rfl
@[simp] theorem c5z (str:Bool) (size:Nat) (x:PX) (lo hi:Option PX):wC (.slice str size x lo hi)=false:=id rfl
@[simp] theorem c1c (n:Nat) (x:PX):wC (.sliceLoc n x)=false:=id rfl
@[simp] theorem c9z (op:BinOp) (x y:PX):wC (.bin op x y)=false:=id rfl
@[simp] theorem d1i (neg agg:Bool) (ks:List EK) (x y:PX):wC (.eq neg agg ks x y)=false:=id rfl
@[simp] theorem d1j (op:UnOp) (x:PX):wC (.un op x)=false:=id rfl
@[simp] theorem c2t (k:IntKind) (x:PX):wC (.convInt k x)=false:=id rfl
@[simp] theorem c2u (i:Nat) (x:PX):wC (.extract i x)=false:=id rfl
@[simp] theorem c9A (str:Bool) (x:PX):wC (.len str x)=false:=id rfl
@[simp] theorem c3H (max:Bool) (xs:List PX):wC (.minmax max xs)=false:=id rfl
@[simp] theorem c3I (size bytes:Nat) (s x:PX):wC (.append size bytes s x)=false:=id rfl
@[simp] theorem c3J (s x:PX):wC (.appstr s x)=false:=id rfl
@[simp] theorem c9B (x:PX):wC (.b2s x)=false:=id rfl
@[simp] theorem c9C (x:PX):wC (.s2b x)=false:=id rfl
@[simp] theorem c3K (k:Nat) (args:List PX) (o:Option Nat):wC (.pcallx k args o)=false:=id rfl
@[simp] theorem c5A (s n:Nat) (agg:Bool) (a:PX):wC (.loadv s n agg a)=false:=id rfl
@[simp] theorem c5B (k:Nat) (args:List PX):wC (.pcall k args)=false:=id rfl
@[simp] theorem c5C (x:PX) (args:List PX):wC (.callv x args)=false:=id rfl
@[simp] theorem c1d (zero:List PV):wC (.h (.newobj zero))=false:=id rfl
@[simp] theorem c1e (size:Nat) (x:PX):wC (.h (.boxobj size x))=false:=id rfl
@[simp] theorem c3L (size:Nat) (agg:Bool) (a:PX) (take:Bool):wC (.h (.load size agg a take))=false:=id rfl
@[simp] theorem c1f (size:Nat) (agg:Bool) (a x:PX):wC (.h (.storer size agg a x))=false:=id rfl
@[simp] theorem c2v (size:Nat) (agg:Bool) (a x:PX):wC (.h (.store size agg a x))=false:=id rfl
@[simp] theorem c2w (len size:Nat) (x i:PX):wC (.h (.iaddr len size x i))=false:=id rfl
@[simp] theorem c2x  : wC (.h (.mkmap ))=false:=id rfl
@[simp] theorem c1g (ok take kagg:Bool) (ks:List EK) (zero:PV) (m x:PX):wC (.h (.lookup ok take kagg ks zero m x))=false:=id rfl
@[simp] theorem c3M (kagg:Bool) (ks:List EK) (m k v:PX):wC (.h (.mset kagg ks m k v))=false:=id rfl
@[simp] theorem c3N (m:PX):wC (.h (.mlen m))=false:=id rfl
@[simp] theorem c1h (k:Nat) (first captured:List PX):wC (.h (.mkfunc k first captured))=false:=id rfl
@[simp] theorem c2y (kind:Nat) (neg:Bool) (x:PX):wC (.h (.isnil kind neg x))=false:=id rfl
@[simp] theorem c1j (x:PX):wC (.h (.nilchk x))=false:=id rfl
@[simp] theorem c2z (size:Nat) (agg:Bool) (a:PX):wC (.h (.loadc size agg a))=false:=id rfl
@[simp] theorem c3O (zero:List PV) (parts:List (Nat×Nat×PX)):wC (.h (.barr zero parts))=false:=id rfl
@[simp] theorem c3P (len size:Nat) (agg:Bool) (x i:PX):wC (.h (.idxA len size agg x i))=false:=id rfl
@[simp] theorem c2A (k:Nat) (args:List PX):wC (.h (.rcall k args))=false:=id rfl
@[simp] theorem c3Q (k:Nat) (args:List PX):wC (.h (.call k args))=false:=id rfl
@[simp] theorem c2B (x:PX) (args:List PX):wC (.h (.callv x args))=false:=id rfl
@[simp] theorem c1k  : wC (.h (.newbld ))=false:=id rfl
@[simp] theorem c3R (size:Nat) (agg:Bool) (bytes:Nat) (s x:PX):wC (.h (.happ size agg bytes s x))=false:=id rfl
@[simp] theorem c2C (size:Nat) (agg:Bool) (bytes:Nat) (zero:List PV) (x:PX):wC (.h (.mkarr size agg bytes zero x))=false:=id rfl
@[simp] theorem c2D (x:PX):wC (.h (.range x))=false:=id rfl
@[simp] theorem c3S (x:PX):wC (.h (.next x))=false:=id rfl
@[simp] theorem d2r (ob:xF) (j:Nat) (d:PD) (op:POp) (os:List PO) (hb:wC op=false):xt cf ob j (⟨d,op,none⟩::os) ⟨V,l,g,h⟩=match opv cf op ⟨V,l,g,h⟩ with
  | some (v,st)=>xt cf ob (j+1) os (put st j d v)
  | none=>none:=by
 rw[GX,OI ob j d op none _ hb]
 simp only[xn]
 cases opv cf op ⟨V,l,g,h⟩<;>rfl
@[simp] theorem d1k (ob:xF) (j:Nat) (d:PD) (op:POp) (x:PX) (want:Bool) (os:List PO) (hb:wC op=false):xt cf ob j (⟨d,op,some (x,want)⟩::os) ⟨V,l,g,h⟩=match rd ⟨V,l,g,h⟩ x with
  | some (.bool b)=>if b=want then(match opv cf op ⟨V,l,g,h⟩ with | some (v,st)=>xt cf ob (j+1) os (put st j d v) | none=>none) else xt cf ob (j+1) os (put ⟨V,l,g,h⟩ j d (.tuple []))
  | some (.tuple [])=>xt cf ob (j+1) os (put ⟨V,l,g,h⟩ j d (.tuple []))
  | _=>none:=by
 rw[GX,OI ob j d op _ _ hb]
 simp only[xn]
 cases rd ⟨V,l,g,h⟩ x with
 | none=>rfl
 | some v =>
   cases v with
   | bool b =>
     simp only
     by_cases hw:b=want
     ·simp only[hw,if_true]; cases opv cf op ⟨V,l,g,h⟩<;>rfl
     ·simp only[hw,if_false]; rfl
   | tuple vs=>cases vs<;>rfl
   | _=>rfl
@[simp] theorem c68 (ob:xF) (j k:Nat) (d:PD) (args:List PX) (os:List PO):xt cf ob j (⟨d,.h (.bcall k args),none⟩::os) ⟨V,l,g,h⟩=match rdAll ⟨V,l,g,h⟩ args with
  | some vs=>DS cf ob (j+1) os (C5 j d (ob k vs h) ⟨V,l,g,h⟩)
  | none=>none:=by
 rw[GX,b7a]
 cases rdAll ⟨V,l,g,h⟩ args<;>rfl
@[simp] theorem c5D (ob:xF) (j:Nat) (x:PX) (d:PD) (args:List PX) (os:List PO):xt cf ob j (⟨d,.h (.bcallv x args),none⟩::os) ⟨V,l,g,h⟩=match rd ⟨V,l,g,h⟩ x,rdAll ⟨V,l,g,h⟩ args with
  | some (.func k first captured),some vs=>DS cf ob (j+1) os (C5 j d (ob k (first++vs++captured) h) ⟨V,l,g,h⟩)
  | _,_=>none:=by
 rw[GX,b5S]
 cases rd ⟨V,l,g,h⟩ x with
 | none=>rfl
 | some f => cases rdAll ⟨V, l, g, h⟩ args with
   | none=>cases f<;>rfl
   | some vs=>cases f<;>rfl
@[simp] theorem b24 (ops:List PO):evL L (.bregion ops) ⟨V,l,g,h⟩=match xt (vU L) (wm L) 0 ops ⟨V,List.replicate ops.length .dead,g,h⟩ with
  | some (none,st)=>some (.normal,xc st)
  | some (some v,st)=>some (.boom v,xc st)
  | none=>none:=by rw[b6C]; rfl
@[simp] theorem b25 (ops:List PO) (x:PX) (a b:PC):evL L (.bbranch ops x a b) ⟨V,l,g,h⟩=match xt (vU L) (wm L) 0 ops ⟨V,List.replicate ops.length .dead,g,h⟩ with
  | some (none,st)=>(match rd st x with | some (.bool t)=>evL L (if t then a else b) (xc st) | _=>none)
  | some (some v,st)=>some (.boom v,xc st)
  | none=>none:=by rw[b6D]; rfl
@[simp] theorem c2E (st:St):yq st []=some []:=rfl
@[simp] theorem c1l (r:PRes) (rs:List PRes):yq ⟨V,l,g,h⟩ (r::rs)=match zi ⟨V,l,g,h⟩ r with
  | some v=>(match yq ⟨V,l,g,h⟩ rs with | some vs=>some (v::vs) | none=>none)
  | none=>none:=by
 simp only[yq]; cases zi ⟨V,l,g,h⟩ r<;>simp; cases yq ⟨V,l,g,h⟩ rs<;>rfl
def Fe:List PV→PV
 | [v]=>v
 | vs => .tuple (vs.map dem)
@[simp] theorem d1l (v:PV):Fe [v]=v:=rfl
@[simp] theorem d1m (v u:PV) (r:List PV):Fe (v::u::r) = .tuple ((v::u::r).map dem):=rfl
@[simp] theorem d1n:Fe [] = .tuple []:=rfl
@[simp] theorem c69 (rs:List PRes):wY ⟨V,l,g,h⟩ rs=match yq ⟨V,l,g,h⟩ rs with | some vs=>some (Fe vs) | none=>none:=by
 simp only[wY]; cases yq ⟨V,l,g,h⟩ rs<;>rfl
def BF (rs:List PRes):Option (PExit×St)→Option (PV×List PObj)
 | some (.normal,st)=>(match wY st rs with | some v=>some (v,wI st.vars rs st.heap) | none=>none)
 | some (.ret,st)=>(match wY st rs with | some v=>some (v,wI st.vars rs st.heap) | none=>none)
 | _=>none
attribute [simp] BF
theorem b4l {f:PFunc} {args:List PV} {hp:List PObj} {r:PV×List PObj} (hr:f.code.isRound=false) (he:BF f.results (evL L f.code ⟨args.map dem++List.replicate (f.nv - f.params) .dead,[],0,hp⟩)=some r):yA (evL L) (xW L) f args hp=some (.val r.1,r.2):=by
 have key:∀st,(match wY st f.results with | some v=>some (v,wI st.vars f.results st.heap) | none=>none)=some r→(wY st f.results).map (λr=>(Out.val r,wI st.vars f.results st.heap))=some (Out.val r.1,r.2):=by
  intro st h
  cases hv:wY st f.results with
  | none=>rw[hv] at h; simp at h
  | some v=>rw[hv] at h; simp only[aa] at h; subst h; rfl
 unfold yA
 split
 ·rename_i h1; rw[h1] at hr; simp[PC.isRound] at hr
 ·generalize evL L f.code ⟨args.map dem++List.replicate (f.nv - f.params) .dead,[],0,hp⟩=q at he ⊢
  rcases q with _|⟨e,st⟩
  ·simp at he
  ·cases e<;>simp only[BF] at he ⊢
   ·exact key st he
   ·simp at he
   ·exact key st he
   ·simp at he
   ·simp at he
theorem GY {f:PFunc} {args:List PV} {hp:List PObj} {r:PV×List PObj} (hr:f.code.isRound=false) (he:BF f.results (evL L f.code ⟨args.map dem++List.replicate (f.nv - f.params) .dead,[],0,hp⟩)=some r):zd (evL L) (xW L) f args hp=some r:=by
 unfold zd
 rw[ae (by rw[hr]; simp),Ep]
 exact b4l hr he
theorem OJ {k:Nat} {f:PFunc} {args:List PV} {hp:List PObj} {r} (hf:L k=some f) (hl:args.length=f.params) (he:BF f.results (evL L f.code ⟨args.map dem++List.replicate (f.nv - f.params) .dead,[],0,hp⟩)=some r) (hs:f.split=false:=by rfl) (fm:f.prim=none:=by rfl) (hr:f.code.isRound=false:=by rfl):
  vU L k args hp=some r:=by
 rw[FT,xx,hf]
 simp only[ah hl,hs,fm,bI,aH,if_false]
 exact GY hr he
theorem JR {k:Nat} {f:PFunc} {p:List PV→List PObj→Option (PV×List PObj)} {args:List PV} {hp:List PObj} (hf:L k=some f) (hl:args.length=f.params) (fm:f.prim=some p):vU L k args hp=match p (args.map dem) hp with | some r=>some (dem r.1,r.2) | none=>none:=by
 rw[FT,xx,hf]
 simp only[ah hl,fm]
 cases p (args.map dem) hp<;>rfl
theorem b7b {k:Nat} {f:PFunc} {args:List PV} {hp:List PObj} {r} (hf:L k=some f) (hl:args.length=f.params) (hs:f.split=true) (h0:vague (args.headD .dead)=false→BF f.results (evL L f.code ⟨args.map dem++List.replicate (f.nv - f.params) .dead,[],0,hp⟩)=some r)
  (h1:vague (args.headD .dead)=true→BF f.results (evL L f.code ⟨(.nils::args.tail).map dem++List.replicate (f.nv - f.params) .dead,[],0,hp⟩)=some r∧BF f.results (evL L f.code ⟨(.void::args.tail).map dem++List.replicate (f.nv - f.params) .dead,[],0,hp⟩)=some r) (fm:f.prim=none:=by rfl) (hr:f.code.isRound=false:=by rfl):
  vU L k args hp=some r:=by
 rw[FT,xx,hf]
 simp only[ah hl,fm]
 cases hv:vague (args.headD .dead) with
 | false=>simp only[Bool.and_false,aH,if_false]; exact GY hr (h0 hv)
 | true =>
   obtain⟨a,b⟩:=h1 hv
   simp only[hs,Bool.and_self,if_true]
   rw[AY]
   exact⟨GY hr a,GY hr b⟩
end
end PI
