import GoSem.Core.View
import GoSem.Op.String
import GoSem.Core.Utf8
set_option maxHeartbeats 1000000
namespace PI
abbrev aa.{u}:=@Option.some.injEq.{u}
abbrev ab.{u_1,u_2}:=@Option.map_eq_some_iff.{u_1,u_2}
abbrev ac.{u_1}:=@List.getElem_mem.{u_1}
abbrev ae.{u,v}:=@Prod.mk.injEq.{u,v}
abbrev af.{u}:=@if_pos.{u}
abbrev ah.{u}:=@if_neg.{u}
abbrev ai.{u_1}:=@List.getElem?_set_ne.{u_1}
abbrev aj.{u_1}:=@List.getElem?_eq_some_iff.{u_1}
abbrev ak.{u_1,u_2}:=@Option.bind_eq_some_iff.{u_1,u_2}
abbrev al.{u_1}:=@List.getElem?_eq_getElem.{u_1}
abbrev am:=@decide_eq_true_eq
abbrev an:=@Nat.le_refl
abbrev ao.{u}:=@List.length_append.{u}
abbrev ap.{u_1}:=@List.getElem?_append_left.{u_1}
abbrev aq.{u_1}:=@List.mem_append.{u_1}
abbrev ar:=@Bool.and_eq_true
abbrev av.{u_1}:=@List.getElem?_append_right.{u_1}
abbrev aw.{u_1,u_2}:=@Option.bind_some.{u_1,u_2}
abbrev ax.{u_1}:=@List.getElem?_set_self.{u_1}
abbrev ay.{u_1}:=@List.mem_of_getElem?.{u_1}
abbrev az.{u,v}:=@List.map_cons.{u,v}
abbrev a8.{u_1}:=@List.mem_cons.{u_1}
abbrev ba.{u_1}:=@List.take_length.{u_1}
abbrev bc.{u_1}:=@List.mem_singleton.{u_1}
abbrev be.{u}:=@List.length_cons.{u}
abbrev bg:=@Nat.le_trans
abbrev bh.{u}:=@List.append_assoc.{u}
abbrev bj.{u,v}:=@List.flatMap_cons.{u,v}
abbrev bk:=@Bool.false_eq_true
abbrev bl.{u}:=@List.cons_append.{u}
abbrev bp.{u_1,u_2}:=@List.length_map.{u_1,u_2}
abbrev bq.{u_1,u_2}:=@Option.map_some.{u_1,u_2}
abbrev br.{u_1,u_2}:=@List.getElem?_map.{u_1,u_2}
abbrev bu:=@Nat.zero_add
abbrev bw.{u_1}:=@List.drop_eq_getElem_cons.{u_1}
abbrev bx.{u,v}:=@congrArg.{u,v}
abbrev bz.{u_1}:=@List.all_eq_true.{u_1}
abbrev b8:=@Bool.eq_iff_iff
abbrev b9.{u_1,u_2,u_3}:=@Option.map_map.{u_1,u_2,u_3}
abbrev cd.{u_1}:=@List.mem_iff_getElem.{u_1}
abbrev cg.{u}:=@List.append_nil.{u}
abbrev ci:=@Nat.lt_of_lt_of_le
abbrev cj:=@Nat.add_mul
abbrev cm.{u_1}:=@List.getElem?_set.{u_1}
abbrev co.{u_1}:=@List.length_take.{u_1}
abbrev cq:=@decide_eq_false_iff_not
abbrev cu.{u_1,u_2}:=@List.map_append.{u_1,u_2}
abbrev cw.{u_1,u_2}:=@List.mem_map.{u_1,u_2}
abbrev cy.{u_1}:=@Array.getD_eq_getD_getElem?.{u_1}
abbrev cz.{u_1}:=@Array.getElem?_eq_some_iff.{u_1}
abbrev da.{u}:=@List.length_set.{u}
abbrev db.{u}:=@List.drop_eq_nil_of_le.{u}
abbrev dc.{u_1}:=@List.take_add_one.{u_1}
abbrev de.{u}:=@List.nil_append.{u}
abbrev dg:=@Bool.not_eq_true'
abbrev dh.{u_1}:=@List.getElem?_drop.{u_1}
abbrev di.{u,v}:=@List.flatMap_append.{u,v}
abbrev dj.{u_1}:=@List.length_eq_zero_iff.{u_1}
abbrev dl:=@not_true_eq_false
abbrev dm.{u_1}:=@List.mem_cons_of_mem.{u_1}
abbrev dq.{u_1}:=@List.getElem?_take.{u_1}
abbrev dr.{u_1}:=@List.mem_iff_getElem?.{u_1}
abbrev dt.{u}:=@List.length_nil.{u}
abbrev du.{u_1}:=@List.length_pos_iff.{u_1}
abbrev dx.{u_1}:=@beq_iff_eq.{u_1}
abbrev dy.{u_1}:=@List.getElem_cons_zero.{u_1}
abbrev dz:=@Nat.mul_le_mul_right
abbrev dM.{u}:=@List.pairwise_cons.{u}
abbrev dN.{u_1}:=@List.getElem_take.{u_1}
abbrev dO:=@Nat.add_zero
abbrev dP.{u_1,u_2}:=@List.flatMap_singleton.{u_1,u_2}
abbrev dQ.{u_1}:=@Array.length_toList.{u_1}
abbrev dR:=@Nat.le_max_left
abbrev dS.{u}:=@List.mem_append_left.{u}
abbrev dT.{u_1}:=@List.ext_getElem.{u_1}
abbrev dU.{u_1}:=@Array.getElem?_setIfInBounds.{u_1}
abbrev dV:=@Nat.le_max_right
abbrev dW:=@Nat.zero_le
abbrev dX.{u_1}:=@List.nodup_append.{u_1}
abbrev dY.{u}:=@List.cons.injEq.{u}
abbrev dZ:=@Classical.byContradiction
abbrev d7.{u_1}:=@Option.getD_some.{u_1}
abbrev d8.{u,v}:=@List.map_nil.{u,v}
abbrev d9.{u_1}:=@List.nodup_cons.{u_1}
abbrev ec.{u_1}:=@List.ext_getElem?.{u_1}
abbrev ee:=@Bool.or_eq_true
abbrev ef.{u_1}:=@List.getElem?_modify.{u_1}
abbrev ei.{u_1}:=@List.mem_cons_self.{u_1}
abbrev ej.{u_1}:=@List.pairwise_append.{u_1}
abbrev el.{u_1,u_2}:=@List.mem_flatMap.{u_1,u_2}
abbrev em.{u_1,u_2}:=@Option.map_none.{u_1,u_2}
abbrev eo:=@Nat.mod_lt
abbrev ep.{u_1}:=@List.take_of_length_le.{u_1}
abbrev ev.{u_1}:=@List.take_append_drop.{u_1}
abbrev ey:=@Bool.and_true
abbrev ez.{u}:=@List.take_zero.{u}
abbrev eA.{u}:=@List.mem_append_right.{u}
abbrev eB.{u_1}:=@List.getElem_cons_succ.{u_1}
abbrev eC:=@Bool.not_eq_false'
abbrev eD.{u_1}:=@Option.isNone_iff_eq_none.{u_1}
abbrev eF:=@Nat.add_assoc
abbrev eG.{u_1}:=@List.mem_of_mem_drop.{u_1}
abbrev eH.{u_1,u_2,u_3}:=@List.map_map.{u_1,u_2,u_3}
abbrev eI.{u}:=@Array.getElem?_toList.{u}
abbrev eJ.{u_1}:=@List.take_left'.{u_1}
abbrev eK.{u_1}:=@List.take_append_of_le_length.{u_1}
abbrev eL.{u,v}:=@List.foldl_cons.{u,v}
abbrev eM.{u_1}:=@List.getElem?_replicate.{u_1}
abbrev eN.{u_1}:=@List.getD_eq_getElem?_getD.{u_1}
abbrev eO.{u_1}:=@List.getElem?_take_of_lt.{u_1}
abbrev eP.{u_1}:=@List.all_append.{u_1}
abbrev eQ:=@Bool.false_and
abbrev eS.{u_1}:=@Array.getElem?_append_left.{u_1}
abbrev eT.{u_1,u_2}:=@Array.getElem?_map.{u_1,u_2}
abbrev eU.{u_1}:=@List.nodup_nil.{u_1}
abbrev eV.{u_1,u_2}:=@List.foldl_append.{u_1,u_2}
abbrev eW.{u_1}:=@List.getElem_append_left.{u_1}
abbrev eX.{u_1}:=@List.length_filter_le.{u_1}
abbrev eY:=@List.range_succ
abbrev eZ.{u}:=@List.length_singleton.{u}
abbrev fc.{u_1}:=@List.getElem?_eq_none.{u_1}
abbrev fe.{u_1}:=@List.getElem?_cons_succ.{u_1}
abbrev ff.{u_1}:=@List.length_drop.{u_1}
abbrev fg.{u}:=@List.getElem?_toArray.{u}
abbrev fj.{u}:=@List.size_toArray.{u}
abbrev fk.{u_1}:=@List.mem_of_mem_take.{u_1}
abbrev fl.{u_1,u_2}:=@List.mem_map_of_mem.{u_1,u_2}
abbrev fm:=@List.range_eq_range'
abbrev fo.{u_1}:=@Array.getElem?_append_right.{u_1}
abbrev fp.{u_1}:=@Array.getElem?_eq_getElem.{u_1}
open Go(IntKind BinOp UnOp)
inductive PV where|bool(b:Bool)|int(k:IntKind)(n:Int)|str(s:List UInt8)|list(own:Bool)(es:List PV)|nils|void|agg(cs:List PV)|tuple(vs:List PV)|nilptr|cptr(cs:List PV)|loc(g:Nat)(cs:List PV)|lptr(s g off:Nat)|ptr(n off:Nat)|rowp(n sz:Nat)(agg:Bool)(len:Nat)|rows(n sz:Nat)(agg:Bool)(off len:Nat)|fresh(sz:Nat)(agg:Bool)(len:Nat)(cs:List PV)|room(sz:Nat)|map(n:Option Nat)|func(k:Nat)(first captured:List PV)|nilfunc|iface(t:Nat)(v:PV)|nilIface|dead deriving Inhabited
mutual def PV.beq:PV->PV->Bool|.bool a,.bool b=>a==b|.int k a,.int l b=>decide (k=l)&&a==b|.str a,.str b=>a==b|.list a x,.list b y=>a==b&&GM x y|.nils,.nils=>true|.void,.void=>true|.agg x,.agg y=>GM x y|.tuple x,.tuple y=>GM x y|.nilptr,.nilptr=>true|.cptr x,.cptr y=>GM x y|.loc g x,.loc h y=>g==h&&GM x y|.lptr a b c,.lptr d e f=>a==d&&b==e&&c==f|.ptr a b,.ptr d e=>a==d&&b==e|.rowp a b c d,.rowp e f g h=>a==e&&b==f&&c==g&&d==h|.rows a b c d i,.rows e f g h j=>a==e&&b==f&&c==g&&d==h&&i==j|.room a,.room b=>a==b|.fresh a b c x,.fresh d e f y=>a==d&&b==e&&c==f&&GM x y|.map a,.map b=>a==b|.func a x y,.func b z u=>a==b&&GM x z&&GM y u|.nilfunc,.nilfunc=>true|.iface a x,.iface b y=>a==b&&x.beq y|.nilIface,.nilIface=>true|.dead,.dead=>true|_,_=>false def GM:List PV->List PV->Bool|[],[]=>true|x::xs,y::ys=>x.beq y&&GM xs ys|_,_=>false end
mutual theorem PV.beq_iff:∀a b:PV,a.beq b=true↔a=b|.bool _,b|.int _ _,b|.str _,b|.room _,b|.nils,b|.void,b|.nilptr,b|.lptr _ _ _,b|.ptr _ _,b|.rowp _ _ _ _,b|.rows _ _ _ _ _,b|.map _,b|.nilfunc,b|.nilIface,b|.dead,b=>by cases b<;>simp[PV.beq,and_assoc]|.list _ x,b|.agg x,b|.tuple x,b|.cptr x,b|.loc _ x,b=>by cases b<;>simp[PV.beq,K3 x]|.fresh _ _ _ x,b=>by cases b<;>simp[PV.beq,K3 x,and_assoc]|.func _ x y,b=>by cases b<;>simp[PV.beq,K3 x,K3 y,and_assoc]|.iface _ x,b=>by cases b<;>simp[PV.beq,PV.beq_iff x]theorem K3:∀a b:List PV,GM a b=true↔a=b|[],b=>by cases b<;>simp[GM]|x::xs,b=>by cases b<;>simp[GM,PV.beq_iff x,K3 xs]end
instance:DecidableEq PV:=λa b=>decidable_of_iff _ (PV.beq_iff a b)
def PV.cells:PV->List PV|.agg a=>a|.tuple _=>[]|v=>[v]
def PV.flat:PV->Bool|.agg _|.tuple _=>false|_=>true
inductive PObj where|cells(cs:List PV)|map(es:List (PV×PV))|gone|loop(ready:Bool)|over(id:Option Nat)deriving Inhabited,DecidableEq
inductive PX where|v(i:Nat)|l(j:Nat)|c(x:PV)deriving Inhabited
inductive EK where|b|i|s deriving DecidableEq,Inhabited
inductive HOp where|newobj(zero:List PV)|boxobj(size:Nat)(x:PX)|load(size:Nat)(agg:Bool)(a:PX)(take:Bool)|store(size:Nat)(agg:Bool)(a x:PX)|storer(size:Nat)(agg:Bool)(a x:PX)|mkmap|lookup(ok take kagg:Bool)(ks:List EK)(zero:PV)(m x:PX)|mset(kagg:Bool)(ks:List EK)(m k v:PX)|mkfunc(k:Nat)(first captured:List PX)|isnil(kind:Nat)(neg:Bool)(x:PX)|nilchk(x:PX)|loadc(size:Nat)(agg:Bool)(a:PX)|call(k:Nat)(args:List PX)|callv(x:PX)(args:List PX)|rcall(k:Nat)(args:List PX)|zcall(k:Nat)(args:List PX)|icall(tab:List (Nat×Nat×Option (Nat×Bool)))(x:PX)(args:List PX)|bcall(k:Nat)(args:List PX)|bcallv(x:PX)(args:List PX)|happ(size:Nat)(agg:Bool)(bytes:Nat)(s x:PX)|happz(size:Nat)(agg:Bool)(bytes:Nat)(zero:List PV)(s x:PX)|clear(size:Nat)(x:PX)|mkarr(size:Nat)(agg:Bool)(bytes:Nat)(zero:List PV)(x:PX)|mkrow(size:Nat)(agg:Bool)(zero:PV)(len:Nat)(parts:List (Nat×PX))|mkfresh(size:Nat)(agg:Bool)(bytes:Nat)(zero:List PV)(x:PX)|buildA(js:List Nat)(zero:List PV)(parts:List (Nat×Nat×PX))|loadn(a:PX)deriving Inhabited
inductive POp where|h(o:HOp)|mov(x:PX)|take(x:PX)|pick(c a b:PX)|newloc(zero:List PV)|boxloc(size:Nat)(x:PX)|build(zero:List PV)(parts:List (Nat×Nat×PX))|mkslice(size:Nat)(zero:PV)(len:Nat)(parts:List (Nat×PX))|load(size:Nat)(agg:Bool)(a:PX)(take:Bool)|store(size:Nat)(agg:Bool)(a x:PX)|loadv(s size:Nat)(agg:Bool)(a:PX)|faddr(off:Nat)(x:PX)|iaddrS(size:Nat)(x i:PX)|indexStr(x i:PX)|slice(str:Bool)(size:Nat)(x:PX)(lo hi:Option PX)|sliceT(size:Nat)(x lo:PX)|bin(op:BinOp)(x y:PX)|eq(neg agg:Bool)(ks:List EK)(x y:PX)|un(op:UnOp)(x:PX)|convInt(k:IntKind)(x:PX)|ifc(mk:Bool)(t:Nat)(x:PX)|extract(i:Nat)(x:PX)|len(str:Bool)(x:PX)|cap(x:PX)|minmax(max:Bool)(xs:List PX)|append(size bytes:Nat)(s x:PX)|pcall(k:Nat)(args:List PX)|pcallx(k:Nat)(args:List PX)(own:Option Nat)|pzcall(k:Nat)(args:List PX)|callv(x:PX)(args:List PX)deriving Inhabited
inductive PD where|v(i:Nat)|l|n deriving Inhabited
structure PO where
 dst:PD
 op:POp
 guard:Option (PX×Bool):=none deriving Inhabited
inductive PC where|skip|region(ops:List PO)|branch(ops:List PO)(x:PX)(a b:PC)|seq(a b:PC)|block(id:Nat)(c:PC)|loop(c:PC)|exit(id:Nat)|ret|bregion(ops:List PO)|bbranch(ops:List PO)(x:PX)(a b:PC)|raise(ops:List PO)(t:Nat)(x:PX)|rangeF(x:PX)(kb:Nat)(caps:List PX)|round(a b:PC)|guarded(kd:Nat)(caps:List PX)(c:PC)deriving Inhabited
inductive PRes where|var(i:Nat)|keep(i:Nat)|cell(i size:Nat)(agg:Bool)deriving Inhabited
structure PFunc where
 params:Nat
 nv:Nat
 code:PC
 results:List PRes
 split:Bool:=false
 prim:Option (List PV->List PObj->Option (PV×List PObj)):=none
 defer:Option (List PV->List PObj->Option (List PObj)):=none deriving Inhabited
structure St where
 vars:List PV
 locs:List PV
 gen:Nat
 heap:List PObj deriving Inhabited
inductive PExit where|normal|exit(id:Nat)|ret|boom(v:PV)|after(kd:Nat)(caps:List PV)(v:Option PV)deriving Inhabited
inductive Out where|val(r:PV)|boom(v:PV)deriving Inhabited
def cp:PV->Option PV|.loc ..=>none|.lptr ..=>none|.dead=>none|.fresh ..=>none|.room _=>some (.list false [])|.list _ es=>some (.list false es)|v=>some v
def dem:PV->PV|.list _ es=>.list false es|.room _=>.list false []|v=>v
def raw(st:St):PX->Option PV|.v i=>st.vars[i]?|.l j=>st.locs[j]?|.c x=>some x
def rd(st:St)(x:PX):Option PV:=(raw st x).bind cp
def Gb(st:St)(x:PX)(u:PV):St:=match x with|.v i=>{st with vars:=st.vars.set i u}|.l j=>{st with locs:=st.locs.set j u}|.c _=>st
def tk(st:St)(x:PX):Option (PV×St):=match raw st x with|some (.list true es)=>some (.list true es,Gb st x (.list false es))|some (.room s)=>some (.room s,Gb st x (.list false []))|some v=>(cp v).map λu=>(u,st)|none=>none
def addr(st:St)(x:PX):Option PV:=match x,raw st x with|.v i,some (.loc g _)=>some (.lptr i g 0)|_,some (.lptr s g off)=>some (.lptr s g off)|_,some v=>cp v|_,none=>none
def rdInt(st:St)(x:PX):Option Int:=match rd st x with|some (.int _ n)=>some n|_=>none
def rdAll(st:St):List PX->Option (List PV)|[]=>some []|x::a=>(rd st x).bind λv=>(rdAll st a).map (v::·)
mutual def BQ:PV->Bool|.loc ..|.lptr ..|.ptr ..|.rowp ..|.rows ..|.fresh ..|.room _|.dead=>false|.map n=>n.isNone|.list _ es=>BN es|.agg cs=>BN cs|.tuple vs=>BN vs|.cptr cs=>BN cs|.func _ a b=>BN a&&BN b|.iface _ v=>BQ v|_=>true def BN:List PV->Bool|[]=>true|v::vs=>BQ v&&BN vs end
def La(op:BinOp)(k:IntKind)(a b:Int):Option PV:=match op with|.add=>some (.int k (k.wrap (a+b)))|.sub=>some (.int k (k.wrap (a-b)))|.mul=>some (.int k (k.wrap (a*b)))|.quo=>if b=0 then none else some (.int k (k.wrap (a.tdiv b)))|.rem=>if b=0 then none else some (.int k (a.tmod b))|.and=>some (.int k (k.wrap (BitVec.ofInt k.bits a&&&BitVec.ofInt k.bits b).toNat))|.or=>some (.int k (k.wrap (BitVec.ofInt k.bits a|||BitVec.ofInt k.bits b).toNat))|.xor=>some (.int k (k.wrap (BitVec.ofInt k.bits a^^^BitVec.ofInt k.bits b).toNat))|.eql=>some (.bool (a==b))|.neq=>some (.bool (a !=b))|.lss=>some (.bool (a<b))|.leq=>some (.bool (a<=b))|.gtr=>some (.bool (a>b))|.geq=>some (.bool (a>=b))|_=>none
open Go.Op(bytesLess)
def Lb(op:BinOp)(a b:List UInt8):Option PV:=match op with|.add=>if a.length+b.length<=4611686018427387904 then some (.str (a++b))else none|.eql=>some (.bool (a==b))|.neq=>some (.bool !(a==b))|.lss=>some (.bool (bytesLess a b))|.leq=>some (.bool (bytesLess a b||a==b))|.gtr=>some (.bool !(bytesLess a b||a==b))|.geq=>some (.bool !(bytesLess a b))|_=>none
def Hb(op:BinOp)(x y:PV):Option PV:=match x,y with|.int k a,.int c b=>(match op with|.shl=>if b<0 then none else some (.int k (k.wrap (a*2^(min b.toNat k.bits))))|.shr=>if b<0 then none else some (.int k (a.fdiv (2^(min b.toNat k.bits))))|_=>if k=c then La op k a b else none)|.str a,.str b=>Lb op a b|_,_=>none
def EI:EK->PV->PV->Option Bool|.b,.bool a,.bool b=>some (a==b)|.i,.int k a,.int c b=>if k=c then some (a==b)else none|.s,.str a,.str b=>some (a==b)|_,_,_=>none
def Eq:List EK->List PV->List PV->Option Bool|[],[],[]=>some true|k::d,x::a,y::e=>(EI k x y).bind λb=>(Eq d a e).map λc=>b&&c|_,_,_=>none
def peq(agg:Bool)(a:List EK)(x y:PV):Option Bool:=if agg then match x,y with|.agg b,.agg c=>Eq a b c|_,_=>none else match a with|[k]=>EI k x y|_=>none
def unv(op:UnOp)(x:PV):Option PV:=match op,x with|.not,.bool b=>some (.bool !b)|.neg,.int k n=>some (.int k (k.wrap (0-n)))|_,_=>none
def B0(size:Nat):List PV->Bool|[]=>true|e::_=>e.cells.length==size
def FY(cs:List PV):List (Nat×Nat×PV)->Option (List PV)|[]=>some cs|(off,size,v)::a=>if v.cells.length=size/\off+size<=cs.length then FY (cs.take off++(v.cells.map dem++cs.drop (off+size))) a else none
def Eh:PV->PV|.agg a=>.agg (a.map dem)|v=>dem v
def FZ(size:Nat)(es:List PV):List (Nat×PV)->Option (List PV)|[]=>some es|(i,v)::a=>if v.cells.length=size/\i<es.length then FZ size (es.set i (Eh v)) a else none
def rdParts(st:St):List (Nat×Nat×PX)->Option (List (Nat×Nat×PV))|[]=>some []|(off,size,x)::r=>(rd st x).bind λv=>(rdParts st r).map ((off,size,v)::·)
def rdElems(st:St):List (Nat×PX)->Option (List (Nat×PV))|[]=>some []|(i,x)::r=>(rd st x).bind λv=>(rdElems st r).map ((i,v)::·)
def BE(size:Nat)(agg:Bool)(cs:List PV)(off:Nat):Option PV:=if agg then(if off+size<=cs.length then some (.agg (((cs.drop off).take size).map dem))else none)else match cs[off]? with|some v=>cp v|none=>none
def BV(size:Nat)(agg:Bool)(cs:List PV)(off:Nat)(v:PV):Option (List PV):=if agg then match v with|.agg a=>if a.length=size/\off+size<=cs.length then some (cs.take off++(a++cs.drop (off+size)))else none|_=>none else if off<cs.length/\v.flat=true then some (cs.set off v)else none
def Ii(mx:Bool):PV->List PV->Option PV|v,[]=>some v|.int k a,.int c b::r=>if k=c then Ii mx (.int k (if mx then(if b>a then b else a)else(if b<a then b else a))) r else none|_,_=>none
def bound(st:St)(x:Option PX)(a:Nat)(b:Nat):Option Nat:=match x with|none=>some a|some x=>match rdInt st x with|some n=>if 0<=n/\n<=b then some n.toNat else none|none=>none
def PK:Option Nat->PV|none=>.nilptr|some i=>.int .i64 i
def Lc:PV->Option Nat|.int _ n=>some n.toNat|_=>none
def pad:List PV:=List.replicate 1000 .nilptr
theorem d1A:pad.length=1000:=List.length_replicate
def EJ(own:Option Nat)(vs:List PV):List PV:=.dead::(pad++PK own::vs)
abbrev BJ:=Nat->List PV->List PObj->Option (PV×List PObj)
def B9(st:St)(n:Nat):Option (List PV):=match st.heap[n]? with|some (.cells a)=>some a|_=>none
def BW(st:St)(n:Nat)(ob:PObj):St:={st with heap:=st.heap.set n ob}
def CQ(st:St)(n:Option Nat):Option (List (PV×PV)):=match n with|none=>some []|some n=>match st.heap[n]? with|some (.map es)=>some es|_=>none
def C0(agg:Bool)(a:List EK)(k:PV):List (PV×PV)->Nat->Option (Option (Nat×PV))|[],_=>(match agg,k with|false,_=>some none|true,.agg c=>if c.length=a.length then some none else none|true,_=>none)|e::es,i=>(peq agg a k e.1).bind λb=>if b then some (some (i,e.2))else C0 agg a k es (i+1)
def Dw:PV->Bool|.list _ _=>true|_=>false
def M3:PV->Bool|.list true _=>true|_=>false
def Fb(st:St)(x:PX):Option (PV×St):=match x,raw st x with|.v i,some (.loc _ a)=>some (.cptr (a.map dem),{st with vars:=st.vars.set i (.cptr (a.map dem))})|_,_=>(rd st x).map (·,st)
def Dx(st:St):List PX->Option (List PV×St)|[]=>some ([],st)|x::a=>(Fb st x).bind λr=>(Dx r.2 a).map λq=>(r.1::q.1,q.2)
def IH:Nat->PV->Option Bool|0,.nils=>some true|0,.void=>some false|0,.list _ (_::_)=>some false|1,.nilptr=>some true|1,.ptr ..=>some false|1,.cptr _=>some false|2,.map n=>some n.isNone|3,.nilfunc=>some true|3,.func ..=>some false|4,.nilIface=>some true|4,.iface ..=>some false|_,_=>none
def GN:PV->Option (List PV)|.list _ es=>some es|.nils|.void=>some []|_=>none
def DU(size:Nat)(agg:Bool)(cs:List PV):Nat->Nat->Option (List PV)|0,_=>some []|n+1,off=>(BE size agg cs off).bind λe=>(DU size agg cs n (off+size)).map (e::·)
def b5X(st:St)(x:PX):Option (List PV):=match rd st x with|some (.rowp n sz agg len)=>if agg=true\/sz=1 then(B9 st n).bind λa=>DU sz agg a len 0 else none|some p=>GN p|none=>none
def bytesOf:List PV->Option (List UInt8)|[]=>some []|.int .u8 n::r=>if 0<=n/\n<256 then(bytesOf r).map (UInt8.ofNat n.toNat::·)else none|_=>none
def Ld:PV->Option (Nat×Nat×Nat)|.rows n sz _ off _=>some (n,sz,off)|.rowp n sz _ _=>some (n,sz,0)|_=>none
def same(st:St)(r:PV×List PObj):Option (PV×St):=if r.2=st.heap then some (dem r.1,st)else none
def Gd(h:List PObj):PV->Option PV|.rowp n sz agg len=>if agg=true\/sz=1 then(match h[n]? with|some (.cells a)=>(DU sz agg a len 0).map (.list false)|_=>none)else none|v=>some v
def Ge(h:List PObj):List PV->Option (List PV)|[]=>some []|p::a=>(Gd h p).bind λq=>(Ge h a).map (q::·)
def Dl(h:List PObj):PV->Option PV|.agg a=>(Ge h a).map .agg|v=>some v
mutual def frz(h:List PObj):PV->PV|.list o es=>.list o (Fs h es)|.agg cs=>.agg (Fs h cs)|.tuple vs=>.tuple (Fs h vs)|.rowp n sz agg len=>(Gd h (.rowp n sz agg len)).getD (.rowp n sz agg len)|v=>v def Fs(h:List PObj):List PV->List PV|[]=>[]|v::vs=>frz h v::Fs h vs end
mutual def Gf:PV->List Nat|.list _ es=>HA es|.agg cs=>HA cs|.tuple vs=>HA vs|.rowp n _ _ _=>[n]|_=>[]def HA:List PV->List Nat|[]=>[]|v::vs=>Gf v++HA vs end
def FB:List Nat->List PObj->List PObj|[],h=>h|n::ns,h=>FB ns (h.set n .gone)
def Gg(t:Nat):List (Nat×Nat×Option (Nat×Bool))->Option (Nat×Option (Nat×Bool))|[]=>none|r::rs=>if r.1=t then some r.2 else Gg t rs
def Gt(st:St)(v:PV):Option (Nat×Bool)->Option PV|none=>some (dem v)|some (n,agg)=>match v with|.ptr m off=>(B9 st m).bind λa=>BE n agg a off|_=>none
def FC(st:St)(tab:List (Nat×Nat×Option (Nat×Bool))):Option PV->Option (Nat×PV)|some (.iface t v)=>(Gg t tab).bind λr=>(Gt st v r.2).map λu=>(r.1,u)|_=>none
def adoptAll:List Nat->St->Option St|[],st=>some st|j::b,st=>match st.locs[j]? with|some (.fresh sz agg len a)=>adoptAll b {st with locs:=st.locs.set j (.rowp st.heap.length sz agg len),heap:=st.heap++[.cells a]}|_=>none
def BC(cf:BJ)(o:HOp)(st:St):Option (PV×St):=match o with|.happ size agg h s x=>(match b5X st x,raw st s with|some p,some (.rowp n sz A len)=>(match st.heap[n]? with|some (.cells j)=>if sz=size/\A=agg/\len*size<=j.length/\B0 size p/\len+p.length<=2147483648/\h<=16384 then some (.rowp st.heap.length size agg (len+p.length),{st with heap:=st.heap.set n .gone++[.cells (j.take (len*size)++(p.flatMap PV.cells).map dem)]})else none|_=>none)|some p,some (.list true [])=>if p=[]then some (.list true [],st)else if B0 size p/\p.length<=2147483648/\h<=16384 then some (.rowp st.heap.length size agg p.length,{st with heap:=st.heap++[.cells ((p.flatMap PV.cells).map dem)]})else none|some p,some .nils=>if p=[]then some (.nils,st)else if B0 size p/\p.length<=2147483648/\h<=16384 then some (.rowp st.heap.length size agg p.length,{st with heap:=st.heap++[.cells ((p.flatMap PV.cells).map dem)]})else none|_,_=>none)|.happz size agg h d s x=>(match rdInt st x,rd st s with|some n,some .nils=>if 0<n/\n<=2147483648/\h<=16384 then some (.rowp st.heap.length size agg n.toNat,{st with heap:=st.heap++[.cells (List.replicate n.toNat (d.map dem)).flatten]})else none|_,_=>none)|.clear size x=>(match(rd st x).bind Ld with|some (n,sz,off)=>(match st.heap[n]? with|some (.cells j)=>if sz=size/\off*size<=j.length then some (.dead,{st with heap:=st.heap.set n (.cells (j.take (off*size)))})else none|_=>none)|_=>none)|.mkarr size agg h d x=>(match rdInt st x with|some n=>if 0<=n/\h*n<=281474976710656/\n<=9223372036854775807 then some (.rowp st.heap.length size agg n.toNat,{st with heap:=st.heap++[.cells (List.replicate n.toNat d).flatten]})else none|none=>none)|.mkfresh size agg h d x=>(match rdInt st x with|some n=>if 0<=n/\h*n<=281474976710656/\n<=9223372036854775807 then some (.fresh size agg n.toNat (List.replicate n.toNat (d.map dem)).flatten,st)else none|none=>none)|.buildA B d parts=>(adoptAll B st).bind λst=>((rdParts st parts).bind (FY d)).map λj=>(.agg j,st)|.loadn a=>(match addr st a with|some (.ptr n off)=>((B9 st n).bind fun j=>match j[off]? with|some (.list true es)=>some (.list true es,BW st n (.cells (j.set off (.list false es))))|some .nils=>some (.list true [],st)|_=>none)|_=>none)|.mkrow size agg d len parts=>((rdElems st parts).bind (FZ size (List.replicate len d))).map λes=>(.rowp st.heap.length size agg es.length,{st with heap:=st.heap++[.cells ((es.flatMap PV.cells).map dem)]})|.newobj d=>some (.ptr st.heap.length 0,{st with heap:=st.heap++[.cells d]})|.boxobj size x=>(match rd st x with|some v=>if v.cells.length=size then some (.ptr st.heap.length 0,{st with heap:=st.heap++[.cells v.cells]})else none|none=>none)|.load size agg a take=>(match addr st a with|some (.cptr j)=>(BE size agg j 0).map (·,st)|some (.ptr n off)=>((B9 st n).bind λj=>match take&&!agg,j[off]? with|true,some (.list true es)=>some (.list true es,BW st n (.cells (j.set off (.list false es))))|_,_=>(BE size agg j off).map (·,st))|_=>none)|.store size agg a x=>(match addr st a,tk st x with|some (.ptr n off),some (v,st)=>(B9 st n).bind λj=>(BV size agg j off v).map λj=>(.dead,BW st n (.cells j))|_,_=>none)|.storer size agg a x=>(match addr st a,rd st x with|some (.ptr n off),some v=>if Dw v then none else(B9 st n).bind λj=>(BV size agg j off v).map λj=>(.dead,BW st n (.cells j))|_,_=>none)|.mkmap=>some (.map (some st.heap.length),{st with heap:=st.heap++[.map []]})|.lookup z take u w d m x=>(match rd st m,rd st x with|some (.map n),some k=>((CQ st n).bind λes=>(C0 u w k es 0).bind λr=>match r with|some (i,v)=>if take&&!z&&M3 v then some (v,BW st (n.getD 0) (.map (es.modify i λe=>(e.1,dem e.2))))else some (if z then .tuple [dem v,.bool true]else dem v,st)|none=>some (if z then .tuple [d,.bool false]else d,st))|_,_=>none)|.mset u w m k v=>(match rd st m,rd st k,tk st v with|some (.map (some n)),some k,some (v,st)=>((CQ st (some n)).bind λes=>(C0 u w k es 0).map λr=>match r with|some (i,_)=>(.dead,BW st n (.map (es.set i (k,v))))|none=>(.dead,BW st n (.map (es++[(k,v)]))))|_,_,_=>none)|.mkfunc k q l=>(Dx st q).bind λf=>(Dx f.2 l).map λc=>(.func k f.1 c.1,c.2)|.isnil kind y x=>((rd st x).bind (IH kind)).map λb=>(.bool (if y then !b else b),st)|.nilchk x=>(match addr st x with|some (.ptr n o)=>some (.ptr n o,st)|some (.cptr j)=>some (.cptr j,st)|some (.lptr s g o)=>some (.lptr s g o,st)|_=>none)|.loadc size agg a=>(match rd st a with|some (.cptr j)=>(BE size agg j 0).map (·,st)|_=>none)|.call k args=>(rdAll st args).bind λt=>(cf k t st.heap).map λr=>(dem r.1,{st with heap:=r.2})|.callv x args=>(match rd st x,rdAll st args with|some (.func k q l),some t=>(cf k (q++t++l) st.heap).map λr=>(dem r.1,{st with heap:=r.2})|_,_=>none)|.rcall k args=>(rdAll st args).bind λt=>(cf k t st.heap).bind (same st)|.zcall k args=>(rdAll st args).bind λt=>if BN (Fs st.heap t)then(cf k (Fs st.heap t) []).bind λr=>if BQ (frz r.2 r.1)then some (dem (frz r.2 r.1),{st with heap:=FB (HA t) st.heap})else none else none|.icall tab x args=>(FC st tab (rd st x)).bind λm=>(rdAll st args).bind λt=>(cf m.1 (m.2::t) st.heap).map λr=>(dem r.1,{st with heap:=r.2})|.bcall _ _=>none|.bcallv _ _=>none
def opv(cf:BJ)(o:POp)(st:St):Option (PV×St):=match o with|.h o=>BC cf o st|.mov x=>(rd st x).map (·,st)|.take x=>tk st x|.pick c a b=>(match rd st c with|some (.bool t)=>(rd st (if t then a else b)).map (·,st)|_=>none)|.newloc p=>some (.loc st.gen p,{st with gen:=st.gen+1})|.boxloc size x=>(match rd st x with|some v=>if v.cells.length=size then some (.loc st.gen (v.cells.map dem),{st with gen:=st.gen+1})else none|none=>none)|.build p parts=>((rdParts st parts).bind (FY p)).map λq=>(.agg q,st)|.mkslice size p len parts=>((rdElems st parts).bind (FZ size (List.replicate len p))).map λes=>(.list true es,st)|.load size agg a take=>(match addr st a with|some (.cptr q)=>(BE size agg q 0).map (·,st)|some (.lptr s g off)=>(match st.vars[s]? with|some (.loc A q)=>if g=A then match take&&!agg,q[off]? with|true,some (.list true es)=>some (.list true es,{st with vars:=st.vars.set s (.loc g (q.set off (.list false es)))})|_,_=>(BE size agg q off).map (·,st)else none|_=>none)|_=>none)|.store size agg a x=>(match addr st a,tk st x with|some (.lptr s g off),some (v,st)=>(match st.vars[s]? with|some (.loc A q)=>if g=A then(BV size agg q off v).map λq=>(.dead,{st with vars:=st.vars.set s (.loc g q)})else none|_=>none)|_,_=>none)|.loadv s size agg a=>(match addr st a with|some (.lptr F g off)=>(match st.vars[s]? with|some (.loc A q)=>if F=s/\g=A then(BE size agg q off).map (·,st)else none|_=>none)|_=>none)|.faddr off x=>(match addr st x with|some (.cptr q)=>some (.cptr (q.drop off),st)|some (.lptr s g o)=>some (.lptr s g (o+off),st)|some (.ptr n o)=>some (.ptr n (o+off),st)|_=>none)|.iaddrS size x i=>(match rd st x,rdInt st i with|some (.list _ es),some n=>if 0<=n then match es[n.toNat]? with|some e=>if e.cells.length=size then some (.cptr e.cells,st)else none|none=>none else none|some (.rowp m sz _ len),some n=>if sz=size/\0<=n/\n<len then some (.ptr m (n.toNat*size),st)else none|some (.rows m sz _ off len),some n=>if sz=size/\0<=n/\n<len then some (.ptr m ((off+n.toNat)*size),st)else none|_,_=>none)|.indexStr x i=>(match rd st x,rdInt st i with|some (.str s),some n=>if 0<=n then match s[n.toNat]? with|some b=>some (.int .u8 b.toNat,st)|none=>none else none|_,_=>none)|.slice str size x lo hi=>(match str,rd st x with|true,some (.str s)=>(bound st hi s.length s.length).bind λh=>(bound st lo 0 h).map λl=>(.str ((s.take h).drop l),st)|false,some (.list _ es)=>if B0 size es then(bound st hi es.length es.length).bind λh=>(bound st lo 0 h).map λl=>(.list false ((es.take h).drop l),st)else none|false,some .nils=>(bound st hi 0 0).bind λh=>(bound st lo 0 h).map λ_=>(.nils,st)|false,some (.rowp n sz agg len)=>if sz=size then(bound st hi len len).bind λh=>(bound st lo 0 h).map λl=>(if l=0 then .rowp n sz agg h else .rows n sz agg l (h-l),st)else none|_,_=>none)|.sliceT size x lo=>(match tk st x,rdInt st lo with|some (.list true es,D),some l=>if B0 size es/\0<=l/\l.toNat<=es.length/\es≠[]then some (if l.toNat<es.length then .list true (es.drop l.toNat)else .room size,D)else none|_,_=>none)|.bin op x y=>(match rd st x,rd st y with|some a,some b=>(Hb op a b).map (·,st)|_,_=>none)|.eq B agg H x y=>(match rd st x,rd st y with|some a,some b=>(peq agg H a b).map λt=>(.bool (if B then !t else t),st)|_,_=>none)|.un op x=>(match rd st x with|some a=>(unv op a).map (·,st)|none=>none)|.convInt k x=>(rdInt st x).map λn=>(.int k (k.wrap n),st)|.ifc mk t x=>(match mk,rd st x with|true,some v=>some (.iface t v,st)|false,some (.iface I v)=>if I=t then some (dem v,st)else none|_,_=>none)|.extract i x=>(match rd st x with|some (.tuple f)=>(f[i]?.bind cp).map (·,st)|_=>none)|.len str x=>(match str,rd st x with|true,some (.str s)=>some (.int .i64 s.length,st)|false,some (.list _ es)=>some (.int .i64 es.length,st)|false,some (.rowp _ _ _ n)=>some (.int .i64 n,st)|false,some (.rows _ _ _ _ n)=>some (.int .i64 n,st)|false,some .nils=>some (.int .i64 0,st)|false,some .void=>some (.int .i64 0,st)|_,_=>none)|.cap x=>(match rd st x with|some .nils=>some (.int .i64 0,st)|_=>none)|.minmax G u=>(match rdAll st u with|some (v::f)=>(Ii G v f).map (·,st)|_=>none)|.append size j s x=>(match(rd st x).bind GN,tk st s with|some u,some (.list true es,st)=>if B0 size es/\B0 size u/\((es.length+u.length<=2147483648/\j<=16384)\/(es.length+u.length<=9223372036854775807/\(es.length+u.length)*j<=140737488355328))then some (.list true (es++u),st)else none|some u,some (.room z,st)=>if z=size/\u≠[]/\B0 size u/\((u.length<=2147483648/\j<=16384)\/(u.length<=9223372036854775807/\u.length*j<=140737488355328))then some (.list true u,st)else none|_,_=>none)|.pcall k args=>(match rdAll st args with|some f=>if BN f then match cf k f []with|some (r,_)=>if BQ r then some (dem r,st)else none|none=>none else none|none=>none)|.pzcall k args=>(match rdAll st args with|some f=>if BN f then match cf k f []with|some (r,E)=>if BQ (frz E r)then some (dem (frz E r),st)else none|none=>none else none|none=>none)|.pcallx k args own=>(match own with|none=>(match rdAll st args with|some f=>if BN f then match cf k (EJ none f) []with|some (r,_)=>if BQ r then some (r,st)else none|none=>none else none|none=>none)|some i=>match(args[i]?).bind (tk st),rdAll st args with|some (v,C),some f=>if BN (f.set i v)/\i<f.length then match cf k (EJ (some i) (f.set i v)) []with|some (r,_)=>if BQ r then some (r,C)else none|none=>none else none|_,_=>none)|.callv x args=>match rd st x,rdAll st args with|some (.func k w d),some f=>if BN (w++f++d)then match cf k (w++f++d) []with|some (r,_)=>if BQ r then some (dem r,st)else none|none=>none else none|_,_=>none
def put(st:St)(j:Nat)(d:PD)(v:PV):St:=match d with|.v i=>{st with vars:=st.vars.set i v}|.l=>{st with locs:=st.locs.set j v}|.n=>st
def CF(cf:BJ)(j:Nat)(o:PO)(st:St):Option St:=match o.guard with|none=>(opv cf o.op st).map λr=>put r.2 j o.dst r.1|some (x,a)=>match rd st x with|some (.bool b)=>if b=a then(opv cf o.op st).map λr=>put r.2 j o.dst r.1 else some (put st j o.dst (.tuple []))|some (.tuple [])=>some (put st j o.dst (.tuple []))|_=>none
def Ei(cf:BJ):Nat->List PO->St->Option St|_,[],st=>some st|j,o::os,st=>(CF cf j o st).bind (Ei cf (j+1) os)
def Gu(n:Nat)(st:St):St:={st with locs:=List.replicate n .dead}
def D7(cf:BJ)(a:List PO)(st:St):Option St:=Ei cf 0 a (Gu a.length st)
def closed(st:St):St:={st with locs:=[]}
def FM(st:St):PRes->Option PV|.var i=>(st.vars[i]?.bind fun v=>match v with|.list true es=>some (.list true es)|.rowp n sz agg len=>if agg=true\/sz=1 then(B9 st n).bind λa=>(DU sz agg a len 0).map (.list false)else none|.nils=>some (.list false [])|v=>cp v)|.keep i=>st.vars[i]?.bind cp|.cell i size agg=>match st.vars[i]? with|some (.loc _ a)=>(BE size agg a 0).bind (Dl st.heap)|some (.ptr n 0)=>(B9 st n).bind λa=>BE size agg a 0|_=>none
def F0(st:St):List PRes->Option (List PV)|[]=>some []|r::rs=>(FM st r).bind λv=>(F0 st rs).map (v::·)
def Dy(st:St)(rs:List PRes):Option PV:=(F0 st rs).map λa=>match a with|[v]=>v|a=>.tuple (a.map dem)
def CY:PV->Option Nat|.rowp n _ _ _=>some n|_=>none
def PL(vars:List PV)(i:Nat):Option Nat:=vars[i]?.bind CY
def HC:List PV->List Nat|[]=>[]|p::a=>(CY p).toList++HC a
def Hc(vars:List PV):PRes->List Nat|.var i=>(PL vars i).toList|.keep _=>[]|.cell i _ _=>match vars[i]? with|some (.loc _ a)=>HC a|_=>[]
def Cu(vars:List PV):List PRes->List PObj->List PObj|[],h=>h|r::rs,h=>Cu vars rs (FB (Hc vars r) h)
def M4:Option (Out×List PObj)->Option (PV×List PObj)|some (.val r,h)=>some (r,h)|_=>none
def HE(ex:PC->St->Option (PExit×St))(nv:Nat)(a b:PC)(args:List PV)(h:List PObj):Option (Out×List PObj):=match args with|.ptr n 0::as=>(match h[n]?,ex a {vars:=as.map dem++List.replicate (nv-as.length) .dead,locs:=[],gen:=0,heap:=h}with|some (.loop true),some (.normal,d)=>(match d.heap[n]?,ex b {d with heap:=d.heap.set n (.loop false)}with|some (.loop true),some (.normal,c)=>(match c.heap[n]? with|some (.loop false)=>some (.val (.bool true),c.heap.set n (.loop true))|_=>none)|some (.loop true),some (.boom v,c)=>some (.boom v,c.heap)|some (.loop true),some (.exit id,c)=>(match c.heap[n]? with|some (.loop false)=>some (.val (.bool false),c.heap.set n (.over (some id)))|_=>none)|some (.loop true),some (.ret,c)=>(match c.heap[n]? with|some (.loop false)=>some (.val (.bool false),c.heap.set n (.over none))|_=>none)|_,_=>none)|_,_=>none)|_=>none
def PC.NR:PC->Bool|.rangeF ..=>false|.seq a b|.branch _ _ a b|.bbranch _ _ a b|.round a b=>a.NR&&b.NR|.block _ c|.loop c|.guarded _ _ c=>c.NR|_=>true
def PC.RO:PC->Bool|.rangeF ..|.guarded ..=>false|.seq a b|.branch _ _ a b|.bbranch _ _ a b|.round a b=>a.RO&&b.RO|.block _ c|.loop c=>c.RO|_=>true
def PC.isRound:PC->Bool|.round _ _=>true|_=>false
def II(L:Nat->Option PFunc)(k:Nat):Bool:=match L k with|some f=>!f.code.isRound|none=>false
def Gh(own:Option Nat)(args:List PV):List PV:=match own with|none=>args.map dem|some i=>(args.map dem).set i (args.getD i .dead)
def EY(ex:PC->St->Option (PExit×St))(dfr:Nat->List PV->List PObj->Option (List PObj))(f:PFunc)(args:List PV)(h:List PObj):Option (Out×List PObj):=match f.code with|.round a b=>HE ex f.nv a b args h|c=>match ex c {vars:=args.map dem++List.replicate (f.nv-f.params) .dead,locs:=[],gen:=0,heap:=h}with|some (.normal,st)=>(Dy st f.results).map λr=>(.val r,Cu st.vars f.results st.heap)|some (.ret,st)=>(Dy st f.results).map λr=>(.val r,Cu st.vars f.results st.heap)|some (.boom v,st)=>some (.boom v,st.heap)|some (.after g d v,st)=>if c.NR=false then none else(dfr g (v.getD .nilIface::d) st.heap).bind λe=>(Dy {st with heap:=e} f.results).map λr=>(.val r,Cu st.vars f.results e)|_=>none
def Ft(ex:PC->St->Option (PExit×St))(dfr:Nat->List PV->List PObj->Option (List PObj))(f:PFunc)(args:List PV)(h:List PObj):Option (PV×List PObj):=if f.code.isRound then none else M4 (EY ex dfr f args h)
def EZ(ex:PC->St->Option (PExit×St))(f:PFunc)(own:Option Nat)(args:List PV)(h:List PObj):Option (PV×List PObj):=if f.code.isRound then none else match ex f.code {vars:=Gh own args++List.replicate (f.nv-f.params) .dead,locs:=[],gen:=0,heap:=h}with|some (.normal,st)=>(Dy st f.results).map λr=>(r,Cu st.vars f.results st.heap)|some (.ret,st)=>(Dy st f.results).map λr=>(r,Cu st.vars f.results st.heap)|_=>none
def IJ(r a:Option (PV×List PObj)):Option (PV×List PObj):=if r=a then r else none
def vague:PV->Bool|.list _ []=>true|_=>false
def D1(L:Nat->Option PFunc)(k:Nat)(args:List PV)(h:List PObj):Option (List PObj):=match L k with|some f=>(match f.defer with|some g=>g args h|none=>none)|none=>none
def Gv(ex:PC->St->Option (PExit×St))(f:PFunc):List PV->List PObj->Option (PV×List PObj)|.dead::a,h=>(match a.drop pad.length with|o::args=>if args.length=f.params/\f.prim=none then if f.split&&vague (args.headD .dead)then IJ (EZ ex f (Lc o) (.nils::args.tail) h) (EZ ex f (Lc o) (.void::args.tail) h)else EZ ex f (Lc o) args h else none|[]=>none)|_,_=>none
def Dn(ex:PC->St->Option (PExit×St))(L:Nat->Option PFunc):BJ:=λk args h=>match L k with|none=>none|some f=>if args.length=f.params then match f.prim with|some g=>(g (args.map dem) h).map λr=>(dem r.1,r.2)|none=>if f.split&&vague (args.headD .dead)then IJ (Ft ex (D1 L) f (.nils::args.tail) h) (Ft ex (D1 L) f (.void::args.tail) h)else Ft ex (D1 L) f args h else Gv ex f args h
abbrev Dz:=Nat->List PV->List PObj->Option (Out×List PObj)
def D2(ex:PC->St->Option (PExit×St))(L:Nat->Option PFunc):Dz:=λk args h=>match L k with|none=>none|some f=>if args.length=f.params/\f.split=false then match f.prim with|some g=>(g (args.map dem) h).map λr=>(.val (dem r.1),r.2)|none=>EY ex (D1 L) f args h else none
def D8(cf:BJ)(ob:Dz)(j:Nat)(o:PO)(st:St):Option (Option PV×St):=match o.op,o.guard with|.h (.bcall k args),none=>(match rdAll st args with|some d=>(match ob k d st.heap with|some (.val r,c)=>some (none,put {st with heap:=c} j o.dst (dem r))|some (.boom v,c)=>some (some v,{st with heap:=c})|none=>none)|none=>none)|.h (.bcallv x args),none=>(match rd st x,rdAll st args with|some (.func k b a),some d=>(match ob k (b++d++a) st.heap with|some (.val r,c)=>some (none,put {st with heap:=c} j o.dst (dem r))|some (.boom v,c)=>some (some v,{st with heap:=c})|none=>none)|_,_=>none)|.h (.bcall _ _),_|.h (.bcallv _ _),_=>none|_,_=>(CF cf j o st).map λst=>(none,st)
def Di(cf:BJ)(ob:Dz):Nat->List PO->St->Option (Option PV×St)|_,[],st=>some (none,st)|j,o::os,st=>match D8 cf ob j o st with|some (none,st)=>Di cf ob (j+1) os st|r=>r
def BH(L:Nat->Option PFunc):Nat->PC->St->Option (PExit×St)|0,_,_=>none|n+1,c,st=>match c with|.skip=>some (.normal,st)|.region d=>(D7 (Dn (BH L n) L) d st).map λst=>(.normal,closed st)|.branch d x a b=>(match D7 (Dn (BH L n) L) d st with|some st=>(match rd st x with|some (.bool t)=>BH L n (if t then a else b) (closed st)|_=>none)|none=>none)|.seq a b=>(match BH L n a st with|some (.normal,st)=>BH L n b st|some (.after _ _ _,_)=>none|r=>r)|.block id c=>(match BH L n c st with|some (.exit i,st)=>if i=id then some (.normal,st)else some (.exit i,st)|some (.after _ _ _,_)=>none|r=>r)|.loop c=>(match BH L n c st with|some (.normal,st)=>BH L n (.loop c) st|some (.after _ _ _,_)=>none|r=>r)|.exit id=>some (.exit id,st)|.ret=>some (.ret,st)|.bregion d=>(match Di (Dn (BH L n) L) (D2 (BH L n) L) 0 d (Gu d.length st)with|some (none,st)=>some (.normal,closed st)|some (some v,st)=>some (.boom v,closed st)|none=>none)|.bbranch d x a b=>(match Di (Dn (BH L n) L) (D2 (BH L n) L) 0 d (Gu d.length st)with|some (none,st)=>(match rd st x with|some (.bool t)=>BH L n (if t then a else b) (closed st)|_=>none)|some (some v,st)=>some (.boom v,closed st)|none=>none)|.raise d t x=>(match D7 (Dn (BH L n) L) d st with|some st=>(rd st x).map λp=>(.boom (.iface t p),closed st)|none=>none)|.rangeF x m f=>(match rd st x,rdAll st f with|some (.func k g e),some j=>(if II L k=false then none else match D2 (BH L n) L k (g++.func m (.ptr st.heap.length 0::j) []::e) (st.heap++[.loop true])with|some (.val _,h)=>(match h[st.heap.length]? with|some (.loop true)=>some (.normal,{st with heap:=h.set st.heap.length .gone})|some (.over (some id))=>some (.exit id,{st with heap:=h.set st.heap.length .gone})|some (.over none)=>some (.ret,{st with heap:=h.set st.heap.length .gone})|_=>none)|some (.boom v,h)=>some (.boom v,{st with heap:=h})|none=>none)|_,_=>none)|.round _ _=>none|.guarded l f c=>if c.NR=false then none else match rdAll st f with|some j=>(match BH L n c st with|some (.normal,st)=>some (.after l j none,st)|some (.ret,st)=>some (.after l j none,st)|some (.boom v,st)=>some (.after l j (some v),st)|_=>none)|none=>none
def call(L:Nat->Option PFunc)(n:Nat):BJ:=Dn (BH L n) L
end PI
