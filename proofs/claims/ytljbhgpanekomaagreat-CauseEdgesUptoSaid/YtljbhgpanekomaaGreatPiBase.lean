import GoSem.Core.View
import GoSem.Op.String
import GoSem.Core.Utf8
namespace PI
abbrev aa.{u}:=@Option.some.injEq.{u}
abbrev ab.{u_1,u_2}:=@Option.map_eq_some_iff.{u_1,u_2}
abbrev ac.{u,v}:=@Prod.mk.injEq.{u,v}
abbrev ae.{u_1}:=@List.getElem_mem.{u_1}
abbrev af.{u_1,u_2}:=@Option.bind_eq_some_iff.{u_1,u_2}
abbrev ah.{u}:=@if_pos.{u}
abbrev ai.{u}:=@if_neg.{u}
abbrev aj.{u_1}:=@List.getElem?_eq_some_iff.{u_1}
abbrev ak.{u_1}:=@List.getElem?_set_ne.{u_1}
abbrev al:=@decide_eq_true_eq
abbrev am.{u_1}:=@List.getElem?_eq_getElem.{u_1}
abbrev an.{u}:=@List.length_append.{u}
abbrev ao:=@Nat.le_refl
abbrev ap.{u_1}:=@List.getElem?_append_left.{u_1}
abbrev aq:=@Bool.and_eq_true
abbrev ar.{u_1}:=@List.getElem?_append_right.{u_1}
abbrev av.{u_1,u_2}:=@Option.bind_some.{u_1,u_2}
abbrev aw.{u_1}:=@List.mem_of_getElem?.{u_1}
abbrev ax.{u,v}:=@List.map_cons.{u,v}
abbrev ay.{u_1}:=@List.mem_append.{u_1}
abbrev az.{u_1}:=@List.getElem?_set_self.{u_1}
abbrev a8.{u_1}:=@List.take_length.{u_1}
abbrev ba.{u_1}:=@List.mem_cons.{u_1}
abbrev bb.{u}:=@List.length_cons.{u}
abbrev bc.{u,v}:=@List.flatMap_cons.{u,v}
abbrev be.{u}:=@List.append_assoc.{u}
abbrev bg:=@Nat.le_trans
abbrev bh:=@Bool.false_eq_true
abbrev bi.{u_1,u_2}:=@List.length_map.{u_1,u_2}
abbrev bj.{u}:=@List.cons_append.{u}
abbrev bk.{u,v}:=@congrArg.{u,v}
abbrev bl:=@Nat.zero_add
abbrev bm.{u_1}:=@List.drop_eq_getElem_cons.{u_1}
abbrev bo.{u_1}:=@List.all_eq_true.{u_1}
abbrev bp.{u_1,u_2}:=@Option.map_some.{u_1,u_2}
abbrev bq:=@Bool.eq_iff_iff
abbrev br.{u_1,u_2}:=@List.getElem?_map.{u_1,u_2}
abbrev bu.{u_1,u_2,u_3}:=@Option.map_map.{u_1,u_2,u_3}
abbrev bw:=@Nat.lt_of_lt_of_le
abbrev bx.{u}:=@List.append_nil.{u}
abbrev bz.{u_1}:=@List.mem_iff_getElem.{u_1}
abbrev b8.{u_1}:=@List.getElem?_set.{u_1}
abbrev b9.{u_1}:=@List.length_take.{u_1}
abbrev cd.{u_1,u_2}:=@List.mem_map.{u_1,u_2}
abbrev cg.{u_1,u_2}:=@List.map_append.{u_1,u_2}
abbrev ci:=@decide_eq_false_iff_not
abbrev cj.{u_1}:=@Array.getD_eq_getD_getElem?.{u_1}
abbrev cm.{u_1}:=@Array.getElem?_eq_some_iff.{u_1}
abbrev co.{u}:=@List.drop_eq_nil_of_le.{u}
abbrev cq:=@Nat.add_mul
abbrev cu.{u_1}:=@List.take_add_one.{u_1}
abbrev cw.{u}:=@List.length_set.{u}
abbrev cy:=@Bool.not_eq_true'
abbrev cz.{u}:=@List.nil_append.{u}
abbrev da.{u_1}:=@List.mem_singleton.{u_1}
abbrev db.{u,v}:=@List.flatMap_append.{u,v}
abbrev dc.{u_1}:=@List.length_eq_zero_iff.{u_1}
abbrev de.{u_1}:=@List.getElem?_drop.{u_1}
abbrev dg:=@not_true_eq_false
abbrev dh.{u_1}:=@List.getElem?_take.{u_1}
abbrev di.{u_1}:=@List.mem_iff_getElem?.{u_1}
abbrev dj.{u_1}:=@beq_iff_eq.{u_1}
abbrev dl.{u_1}:=@List.getElem_cons_zero.{u_1}
abbrev dm:=@Nat.mul_le_mul_right
abbrev dp:=@Nat.add_zero
abbrev dq.{u_1}:=@List.getElem_take.{u_1}
abbrev dr.{u_1}:=@List.length_pos_iff.{u_1}
abbrev dt.{u}:=@List.length_nil.{u}
abbrev du.{u_1,u_2}:=@List.flatMap_singleton.{u_1,u_2}
abbrev dx:=@Nat.le_max_left
abbrev dy.{u_1}:=@Array.getElem?_setIfInBounds.{u_1}
abbrev dz.{u_1}:=@Array.length_toList.{u_1}
abbrev dM:=@Nat.le_max_right
abbrev dN.{u_1}:=@List.mem_cons_of_mem.{u_1}
abbrev dO.{u}:=@List.cons.injEq.{u}
abbrev dP.{u_1}:=@Option.getD_some.{u_1}
abbrev dQ.{u,v}:=@List.map_nil.{u,v}
abbrev dR.{u_1}:=@List.ext_getElem?.{u_1}
abbrev dS:=@Bool.or_eq_true
abbrev dT.{u_1}:=@List.getElem?_modify.{u_1}
abbrev dU.{u}:=@List.pairwise_cons.{u}
abbrev dV:=@Nat.zero_le
abbrev dW.{u_1,u_2}:=@List.mem_flatMap.{u_1,u_2}
abbrev dX.{u_1}:=@List.nodup_cons.{u_1}
abbrev dY.{u_1}:=@List.getD_eq_getElem?_getD.{u_1}
abbrev dZ:=@Nat.mod_lt
abbrev d4.{u_1}:=@List.take_of_length_le.{u_1}
abbrev d7:=@Classical.byContradiction
abbrev d8.{u_1}:=@List.take_append_drop.{u_1}
abbrev d9.{u}:=@List.take_zero.{u}
abbrev ec.{u_1,u_2,u_3}:=@List.map_map.{u_1,u_2,u_3}
abbrev ee.{u_1}:=@List.nodup_append.{u_1}
abbrev ef.{u}:=@List.mem_append_left.{u}
abbrev ei.{u_1}:=@List.getElem_cons_succ.{u_1}
abbrev ej:=@Bool.not_eq_false'
abbrev ek.{u_1}:=@Option.isNone_iff_eq_none.{u_1}
abbrev el.{u_1,u_2}:=@Option.map_none.{u_1,u_2}
abbrev em.{u}:=@Array.getElem?_toList.{u}
abbrev ep.{u_1}:=@List.mem_cons_self.{u_1}
abbrev ev.{u_1}:=@List.take_append_of_le_length.{u_1}
abbrev ey.{u,v}:=@List.foldl_cons.{u,v}
abbrev ez.{u_1}:=@List.getElem?_replicate.{u_1}
abbrev eA.{u_1}:=@List.ext_getElem.{u_1}
abbrev eB.{u}:=@List.mem_append_right.{u}
abbrev eC.{u_1}:=@List.getElem?_take_of_lt.{u_1}
abbrev eD.{u_1}:=@List.all_append.{u_1}
abbrev eF:=@Bool.false_and
abbrev eG.{u_1}:=@Array.getElem?_append_left.{u_1}
abbrev eH.{u_1,u_2}:=@Array.getElem?_map.{u_1,u_2}
abbrev eI:=@Nat.add_assoc
abbrev eJ.{u_1}:=@List.take_left'.{u_1}
abbrev eK.{u_1}:=@List.nodup_nil.{u_1}
abbrev eL.{u_1,u_2}:=@List.foldl_append.{u_1,u_2}
abbrev eM.{u_1}:=@List.length_filter_le.{u_1}
abbrev eN:=@List.range_succ
abbrev eO.{u_1}:=@List.getElem?_eq_none.{u_1}
abbrev eP.{u_1}:=@List.getElem?_cons_succ.{u_1}
abbrev eQ.{u_1}:=@List.mem_of_mem_take.{u_1}
abbrev eS.{u_1}:=@List.mem_of_mem_drop.{u_1}
abbrev eT.{u_1}:=@List.getElem_append_left.{u_1}
abbrev eU.{u_1,u_2}:=@List.mem_map_of_mem.{u_1,u_2}
abbrev eV:=@List.range_eq_range'
abbrev eW.{u}:=@List.getElem?_toArray.{u}
abbrev eX.{u}:=@List.length_singleton.{u}
abbrev eY.{u}:=@List.size_toArray.{u}
abbrev eZ.{u_1}:=@Array.getElem?_append_right.{u_1}
abbrev fc.{u_1}:=@Array.getElem?_eq_getElem.{u_1}
open Go(IntKind BinOp UnOp)
inductive PV where|bool(b:Bool)|int(k:IntKind)(n:Int)|str(s:List UInt8)|list(own:Bool)(es:List PV)|nils|void|agg(cs:List PV)|tuple(vs:List PV)|nilptr|cptr(cs:List PV)|loc(g:Nat)(cs:List PV)|lptr(s g off:Nat)|ptr(n off:Nat)|rowp(n sz:Nat)(agg:Bool)(len:Nat)|rows(n sz:Nat)(agg:Bool)(off len:Nat)|fresh(sz:Nat)(agg:Bool)(len:Nat)(cs:List PV)|map(n:Option Nat)|func(k:Nat)(first captured:List PV)|nilfunc|iface(t:Nat)(v:PV)|nilIface|dead deriving Inhabited
mutual def PV.beq:PV->PV->Bool|.bool a,.bool b=>a==b|.int k a,.int l b=>decide (k=l)&&a==b|.str a,.str b=>a==b|.list a x,.list b y=>a==b&&Fi x y|.nils,.nils=>true|.void,.void=>true|.agg x,.agg y=>Fi x y|.tuple x,.tuple y=>Fi x y|.nilptr,.nilptr=>true|.cptr x,.cptr y=>Fi x y|.loc g x,.loc h y=>g==h&&Fi x y|.lptr a b c,.lptr d e f=>a==d&&b==e&&c==f|.ptr a b,.ptr d e=>a==d&&b==e|.rowp a b c d,.rowp e f g h=>a==e&&b==f&&c==g&&d==h|.rows a b c d i,.rows e f g h j=>a==e&&b==f&&c==g&&d==h&&i==j|.fresh a b c x,.fresh d e f y=>a==d&&b==e&&c==f&&Fi x y|.map a,.map b=>a==b|.func a x y,.func b z u=>a==b&&Fi x z&&Fi y u|.nilfunc,.nilfunc=>true|.iface a x,.iface b y=>a==b&&x.beq y|.nilIface,.nilIface=>true|.dead,.dead=>true|_,_=>false def Fi:List PV->List PV->Bool|[],[]=>true|x::xs,y::ys=>x.beq y&&Fi xs ys|_,_=>false end
mutual theorem PV.beq_iff:∀a b:PV,a.beq b=true↔a=b|.bool _,b|.int _ _,b|.str _,b|.nils,b|.void,b|.nilptr,b|.lptr _ _ _,b|.ptr _ _,b|.rowp _ _ _ _,b|.rows _ _ _ _ _,b|.map _,b|.nilfunc,b|.nilIface,b|.dead,b=>by cases b<;>simp[PV.beq,and_assoc]|.list _ x,b|.agg x,b|.tuple x,b|.cptr x,b|.loc _ x,b=>by cases b<;>simp[PV.beq,JD x]|.fresh _ _ _ x,b=>by cases b<;>simp[PV.beq,JD x,and_assoc]|.func _ x y,b=>by cases b<;>simp[PV.beq,JD x,JD y,and_assoc]|.iface _ x,b=>by cases b<;>simp[PV.beq,PV.beq_iff x]theorem JD:∀a b:List PV,Fi a b=true↔a=b|[],b=>by grind[Fi]|x::xs,b=>by cases b<;>simp[Fi,PV.beq_iff x,JD xs]end
instance:DecidableEq PV:=λa b=>decidable_of_iff _ (PV.beq_iff a b)
def PV.cells:PV->List PV|.agg cs=>cs|.tuple _=>[]|v=>[v]
def PV.flat:PV->Bool|.agg _|.tuple _=>false|_=>true
inductive PObj where|cells(cs:List PV)|map(es:List (PV×PV))|gone|loop(ready:Bool)|over(id:Option Nat)deriving Inhabited,DecidableEq
inductive PX where|v(i:Nat)|l(j:Nat)|c(x:PV)deriving Inhabited
inductive EK where|b|i|s deriving DecidableEq,Inhabited
inductive HOp where|newobj(zero:List PV)|boxobj(size:Nat)(x:PX)|load(size:Nat)(agg:Bool)(a:PX)(take:Bool)|store(size:Nat)(agg:Bool)(a x:PX)|storer(size:Nat)(agg:Bool)(a x:PX)|mkmap|lookup(ok take kagg:Bool)(ks:List EK)(zero:PV)(m x:PX)|mset(kagg:Bool)(ks:List EK)(m k v:PX)|mkfunc(k:Nat)(first captured:List PX)|isnil(kind:Nat)(neg:Bool)(x:PX)|nilchk(x:PX)|loadc(size:Nat)(agg:Bool)(a:PX)|call(k:Nat)(args:List PX)|callv(x:PX)(args:List PX)|rcall(k:Nat)(args:List PX)|zcall(k:Nat)(args:List PX)|icall(tab:List (Nat×Nat×Option (Nat×Bool)))(x:PX)(args:List PX)|bcall(k:Nat)(args:List PX)|bcallv(x:PX)(args:List PX)|happ(size:Nat)(agg:Bool)(bytes:Nat)(s x:PX)|happz(size:Nat)(agg:Bool)(bytes:Nat)(zero:List PV)(s x:PX)|clear(size:Nat)(x:PX)|mkarr(size:Nat)(agg:Bool)(bytes:Nat)(zero:List PV)(x:PX)|mkrow(size:Nat)(agg:Bool)(zero:PV)(len:Nat)(parts:List (Nat×PX))|mkfresh(size:Nat)(agg:Bool)(bytes:Nat)(zero:List PV)(x:PX)|buildA(js:List Nat)(zero:List PV)(parts:List (Nat×Nat×PX))|loadn(a:PX)deriving Inhabited
inductive POp where|h(o:HOp)|mov(x:PX)|take(x:PX)|pick(c a b:PX)|newloc(zero:List PV)|boxloc(size:Nat)(x:PX)|build(zero:List PV)(parts:List (Nat×Nat×PX))|mkslice(size:Nat)(zero:PV)(len:Nat)(parts:List (Nat×PX))|load(size:Nat)(agg:Bool)(a:PX)(take:Bool)|store(size:Nat)(agg:Bool)(a x:PX)|loadv(s size:Nat)(agg:Bool)(a:PX)|faddr(off:Nat)(x:PX)|iaddrS(size:Nat)(x i:PX)|indexStr(x i:PX)|slice(str:Bool)(size:Nat)(x:PX)(lo hi:Option PX)|bin(op:BinOp)(x y:PX)|eq(neg agg:Bool)(ks:List EK)(x y:PX)|un(op:UnOp)(x:PX)|convInt(k:IntKind)(x:PX)|ifc(mk:Bool)(t:Nat)(x:PX)|extract(i:Nat)(x:PX)|len(str:Bool)(x:PX)|cap(x:PX)|minmax(max:Bool)(xs:List PX)|append(size bytes:Nat)(s x:PX)|pcall(k:Nat)(args:List PX)|pcallx(k:Nat)(args:List PX)(own:Option Nat)|pzcall(k:Nat)(args:List PX)|callv(x:PX)(args:List PX)deriving Inhabited
inductive PD where|v(i:Nat)|l|n deriving Inhabited
structure PO where
 dst:PD
 op:POp
 guard:Option (PX×Bool):=none deriving Inhabited
inductive PC where|skip|region(ops:List PO)|branch(ops:List PO)(x:PX)(a b:PC)|seq(a b:PC)|block(id:Nat)(c:PC)|loop(c:PC)|exit(id:Nat)|ret|bregion(ops:List PO)|bbranch(ops:List PO)(x:PX)(a b:PC)|raise(ops:List PO)(t:Nat)(x:PX)|rangeF(x:PX)(kb:Nat)(caps:List PX)|round(a b:PC)|guarded(kd:Nat)(caps:List PX)(c:PC)deriving Inhabited
inductive PRes where|var(i:Nat)|keep(i:Nat)|cell(i size:Nat)(agg:Bool)deriving Inhabited
structure PFunc where
 params:Nat
 nv:Nat
 code:PC
 results:List PRes
 split:Bool:=false
 prim:Option (List PV->List PObj->Option (PV×List PObj)):=none
 defer:Option (List PV->List PObj->Option (List PObj)):=none deriving Inhabited
structure St where
 vars:List PV
 locs:List PV
 gen:Nat
 heap:List PObj deriving Inhabited
inductive PExit where|normal|exit(id:Nat)|ret|boom(v:PV)|after(kd:Nat)(caps:List PV)(v:Option PV)deriving Inhabited
inductive Out where|val(r:PV)|boom(v:PV)deriving Inhabited
def cp:PV->Option PV|.loc ..=>none|.lptr ..=>none|.dead=>none|.fresh ..=>none|.list _ es=>some (.list false es)|v=>some v
def dem:PV->PV|.list _ es=>.list false es|v=>v
def raw(st:St):PX->Option PV|.v i=>st.vars[i]?|.l j=>st.locs[j]?|.c x=>some x
def rd(st:St)(x:PX):Option PV:=(raw st x).bind cp
def FC(st:St)(x:PX)(u:PV):St:=match x with|.v i=>{st with vars:=st.vars.set i u}|.l j=>{st with locs:=st.locs.set j u}|.c _=>st
def tk(st:St)(x:PX):Option (PV×St):=match raw st x with|some (.list true es)=>some (.list true es,FC st x (.list false es))|some v=>(cp v).map λu=>(u,st)|none=>none
def addr(st:St)(x:PX):Option PV:=match x,raw st x with|.v i,some (.loc g _)=>some (.lptr i g 0)|_,some (.lptr s g off)=>some (.lptr s g off)|_,some v=>cp v|_,none=>none
def rdInt(st:St)(x:PX):Option Int:=match rd st x with|some (.int _ n)=>some n|_=>none
def rdAll(st:St):List PX->Option (List PV)|[]=>some []|x::xs=>(rd st x).bind λv=>(rdAll st xs).map (v::·)
mutual def AE:PV->Bool|.loc ..|.lptr ..|.ptr ..|.rowp ..|.rows ..|.fresh ..|.dead=>false|.map n=>n.isNone|.list _ es=>AD es|.agg cs=>AD cs|.tuple vs=>AD vs|.cptr cs=>AD cs|.func _ a b=>AD a&&AD b|.iface _ v=>AE v|_=>true def AD:List PV->Bool|[]=>true|v::vs=>AE v&&AD vs end
def JE(op:BinOp)(k:IntKind)(a b:Int):Option PV:=match op with|.add=>some (.int k (k.wrap (a+b)))|.sub=>some (.int k (k.wrap (a-b)))|.mul=>some (.int k (k.wrap (a*b)))|.quo=>if b=0 then none else some (.int k (k.wrap (a.tdiv b)))|.rem=>if b=0 then none else some (.int k (a.tmod b))|.and=>some (.int k (k.wrap (BitVec.ofInt k.bits a&&&BitVec.ofInt k.bits b).toNat))|.or=>some (.int k (k.wrap (BitVec.ofInt k.bits a|||BitVec.ofInt k.bits b).toNat))|.xor=>some (.int k (k.wrap (BitVec.ofInt k.bits a^^^BitVec.ofInt k.bits b).toNat))|.eql=>some (.bool (a==b))|.neq=>some (.bool (a !=b))|.lss=>some (.bool (a<b))|.leq=>some (.bool (a<=b))|.gtr=>some (.bool (a>b))|.geq=>some (.bool (a>=b))|_=>none
open Go.Op(bytesLess)
def JF(op:BinOp)(a b:List UInt8):Option PV:=match op with|.add=>if a.length+b.length<=4611686018427387904 then some (.str (a++b))else none|.eql=>some (.bool (a==b))|.neq=>some (.bool !(a==b))|.lss=>some (.bool (bytesLess a b))|.leq=>some (.bool (bytesLess a b||a==b))|.gtr=>some (.bool !(bytesLess a b||a==b))|.geq=>some (.bool !(bytesLess a b))|_=>none
def FD(op:BinOp)(x y:PV):Option PV:=match x,y with|.int k a,.int k' b=>(match op with|.shl=>if b<0 then none else some (.int k (k.wrap (a*2^(min b.toNat k.bits))))|.shr=>if b<0 then none else some (.int k (a.fdiv (2^(min b.toNat k.bits))))|_=>if k=k' then JE op k a b else none)|.str a,.str b=>JF op a b|_,_=>none
def Dp:EK->PV->PV->Option Bool|.b,.bool a,.bool b=>some (a==b)|.i,.int k a,.int k' b=>if k=k' then some (a==b)else none|.s,.str a,.str b=>some (a==b)|_,_,_=>none
def C1:List EK->List PV->List PV->Option Bool|[],[],[]=>some true|k::ks,x::xs,y::ys=>(Dp k x y).bind λb=>(C1 ks xs ys).map λc=>b&&c|_,_,_=>none
def peq(agg:Bool)(ks:List EK)(x y:PV):Option Bool:=if agg then match x,y with|.agg xs,.agg ys=>C1 ks xs ys|_,_=>none else match ks with|[k]=>Dp k x y|_=>none
def unv(op:UnOp)(x:PV):Option PV:=match op,x with|.not,.bool b=>some (.bool !b)|.neg,.int k n=>some (.int k (k.wrap (0-n)))|_,_=>none
def A9(size:Nat):List PV->Bool|[]=>true|e::_=>e.cells.length==size
def EX(cs:List PV):List (Nat×Nat×PV)->Option (List PV)|[]=>some cs|(off,size,v)::rest=>if v.cells.length=size/\off+size<=cs.length then EX (cs.take off++(v.cells.map dem++cs.drop (off+size))) rest else none
def Dq:PV->PV|.agg cs=>.agg (cs.map dem)|v=>dem v
def EI(size:Nat)(es:List PV):List (Nat×PV)->Option (List PV)|[]=>some es|(i,v)::rest=>if v.cells.length=size/\i<es.length then EI size (es.set i (Dq v)) rest else none
def rdParts(st:St):List (Nat×Nat×PX)->Option (List (Nat×Nat×PV))|[]=>some []|(off,size,x)::r=>(rd st x).bind λv=>(rdParts st r).map ((off,size,v)::·)
def rdElems(st:St):List (Nat×PX)->Option (List (Nat×PV))|[]=>some []|(i,x)::r=>(rd st x).bind λv=>(rdElems st r).map ((i,v)::·)
def Au(size:Nat)(agg:Bool)(cs:List PV)(off:Nat):Option PV:=if agg then(if off+size<=cs.length then some (.agg (((cs.drop off).take size).map dem))else none)else match cs[off]? with|some v=>cp v|none=>none
def AI(size:Nat)(agg:Bool)(cs:List PV)(off:Nat)(v:PV):Option (List PV):=if agg then match v with|.agg vs=>if vs.length=size/\off+size<=cs.length then some (cs.take off++(vs++cs.drop (off+size)))else none|_=>none else if off<cs.length/\v.flat=true then some (cs.set off v)else none
def Gy(mx:Bool):PV->List PV->Option PV|v,[]=>some v|.int k a,.int k' b::r=>if k=k' then Gy mx (.int k (if mx then(if b>a then b else a)else(if b<a then b else a))) r else none|_,_=>none
def bound(st:St)(x:Option PX)(dflt:Nat)(most:Nat):Option Nat:=match x with|none=>some dflt|some x=>match rdInt st x with|some n=>if 0<=n/\n<=most then some n.toNat else none|none=>none
def N1:Option Nat->PV|none=>.nilptr|some i=>.int .i64 i
def JG:PV->Option Nat|.int _ n=>some n.toNat|_=>none
def pad:List PV:=List.replicate 1000 .nilptr
theorem d0Y:pad.length=1000:=List.length_replicate
def Dr(own:Option Nat)(vs:List PV):List PV:=.dead::(pad++N1 own::vs)
abbrev Ax:=Nat->List PV->List PObj->Option (PV×List PObj)
def AT(st:St)(n:Nat):Option (List PV):=match st.heap[n]? with|some (.cells cs)=>some cs|_=>none
def AK(st:St)(n:Nat)(ob:PObj):St:={st with heap:=st.heap.set n ob}
def Bw(st:St)(n:Option Nat):Option (List (PV×PV)):=match n with|none=>some []|some n=>match st.heap[n]? with|some (.map es)=>some es|_=>none
def BG(agg:Bool)(ks:List EK)(k:PV):List (PV×PV)->Nat->Option (Option (Nat×PV))|[],_=>(match agg,k with|false,_=>some none|true,.agg cs=>if cs.length=ks.length then some none else none|true,_=>none)|e::es,i=>(peq agg ks k e.1).bind λb=>if b then some (some (i,e.2))else BG agg ks k es (i+1)
def Ea:PV->Bool|.list _ _=>true|_=>false
def Lw:PV->Bool|.list true _=>true|_=>false
def DN(st:St)(x:PX):Option (PV×St):=match x,raw st x with|.v i,some (.loc _ cs)=>some (.cptr (cs.map dem),{st with vars:=st.vars.set i (.cptr (cs.map dem))})|_,_=>(rd st x).map (·,st)
def B8(st:St):List PX->Option (List PV×St)|[]=>some ([],st)|x::xs=>(DN st x).bind λr=>(B8 r.2 xs).map λq=>(r.1::q.1,q.2)
def GY:Nat->PV->Option Bool|0,.nils=>some true|0,.void=>some false|0,.list _ (_::_)=>some false|1,.nilptr=>some true|1,.ptr ..=>some false|1,.cptr _=>some false|2,.map n=>some n.isNone|3,.nilfunc=>some true|3,.func ..=>some false|4,.nilIface=>some true|4,.iface ..=>some false|_,_=>none
def FZ:PV->Option (List PV)|.list _ es=>some es|.nils|.void=>some []|_=>none
def Cu(size:Nat)(agg:Bool)(cs:List PV):Nat->Nat->Option (List PV)|0,_=>some []|n+1,off=>(Au size agg cs off).bind λe=>(Cu size agg cs n (off+size)).map (e::·)
def b5D(st:St)(x:PX):Option (List PV):=match rd st x with|some (.rowp n sz agg len)=>if agg=true\/sz=1 then(AT st n).bind λcs=>Cu sz agg cs len 0 else none|some p=>FZ p|none=>none
def bytesOf:List PV->Option (List UInt8)|[]=>some []|.int .u8 n::r=>if 0<=n/\n<256 then(bytesOf r).map (UInt8.ofNat n.toNat::·)else none|_=>none
def JH:PV->Option (Nat×Nat×Nat)|.rows n sz _ off _=>some (n,sz,off)|.rowp n sz _ _=>some (n,sz,0)|_=>none
def same(st:St)(r:PV×List PObj):Option (PV×St):=if r.2=st.heap then some (dem r.1,st)else none
def EJ(h:List PObj):PV->Option PV|.rowp n sz agg len=>if agg=true\/sz=1 then(match h[n]? with|some (.cells cs)=>(Cu sz agg cs len 0).map (.list false)|_=>none)else none|v=>some v
def EL(h:List PObj):List PV->Option (List PV)|[]=>some []|p::ps=>(EJ h p).bind λq=>(EL h ps).map (q::·)
def BZ(h:List PObj):PV->Option PV|.agg ps=>(EL h ps).map .agg|v=>some v
mutual def frz(h:List PObj):PV->PV|.list o es=>.list o (D3 h es)|.agg cs=>.agg (D3 h cs)|.tuple vs=>.tuple (D3 h vs)|.rowp n sz agg len=>(EJ h (.rowp n sz agg len)).getD (.rowp n sz agg len)|v=>v def D3(h:List PObj):List PV->List PV|[]=>[]|v::vs=>frz h v::D3 h vs end
mutual def EM:PV->List Nat|.list _ es=>F0 es|.agg cs=>F0 cs|.tuple vs=>F0 vs|.rowp n _ _ _=>[n]|_=>[]def F0:List PV->List Nat|[]=>[]|v::vs=>EM v++F0 vs end
def Eb:List Nat->List PObj->List PObj|[],h=>h|n::ns,h=>Eb ns (h.set n .gone)
def EO(t:Nat):List (Nat×Nat×Option (Nat×Bool))->Option (Nat×Option (Nat×Bool))|[]=>none|r::rs=>if r.1=t then some r.2 else EO t rs
def EY(st:St)(v:PV):Option (Nat×Bool)->Option PV|none=>some (dem v)|some (n,agg)=>match v with|.ptr m off=>(AT st m).bind λcs=>Au n agg cs off|_=>none
def Ec(st:St)(tab:List (Nat×Nat×Option (Nat×Bool))):Option PV->Option (Nat×PV)|some (.iface t v)=>(EO t tab).bind λr=>(EY st v r.2).map λu=>(r.1,u)|_=>none
def adoptAll:List Nat->St->Option St|[],st=>some st|j::js,st=>match st.locs[j]? with|some (.fresh sz agg len cs)=>adoptAll js {st with locs:=st.locs.set j (.rowp st.heap.length sz agg len),heap:=st.heap++[.cells cs]}|_=>none
def Ar(cf:Ax)(o:HOp)(st:St):Option (PV×St):=match o with|.happ size agg bytes s x=>(match b5D st x,raw st s with|some xs,some (.rowp n sz ag len)=>(match st.heap[n]? with|some (.cells cs)=>if sz=size/\ag=agg/\len*size<=cs.length/\A9 size xs/\len+xs.length<=2147483648/\bytes<=16384 then some (.rowp st.heap.length size agg (len+xs.length),{st with heap:=st.heap.set n .gone++[.cells (cs.take (len*size)++(xs.flatMap PV.cells).map dem)]})else none|_=>none)|some xs,some (.list true [])=>if xs=[]then some (.list true [],st)else if A9 size xs/\xs.length<=2147483648/\bytes<=16384 then some (.rowp st.heap.length size agg xs.length,{st with heap:=st.heap++[.cells ((xs.flatMap PV.cells).map dem)]})else none|some xs,some .nils=>if xs=[]then some (.nils,st)else if A9 size xs/\xs.length<=2147483648/\bytes<=16384 then some (.rowp st.heap.length size agg xs.length,{st with heap:=st.heap++[.cells ((xs.flatMap PV.cells).map dem)]})else none|_,_=>none)|.happz size agg bytes zero s x=>(match rdInt st x,rd st s with|some n,some .nils=>if 0<n/\n<=2147483648/\bytes<=16384 then some (.rowp st.heap.length size agg n.toNat,{st with heap:=st.heap++[.cells (List.replicate n.toNat (zero.map dem)).flatten]})else none|_,_=>none)|.clear size x=>(match(rd st x).bind JH with|some (n,sz,off)=>(match st.heap[n]? with|some (.cells cs)=>if sz=size/\off*size<=cs.length then some (.dead,{st with heap:=st.heap.set n (.cells (cs.take (off*size)))})else none|_=>none)|_=>none)|.mkarr size agg bytes zero x=>(match rdInt st x with|some n=>if 0<=n/\bytes*n<=281474976710656/\n<=9223372036854775807 then some (.rowp st.heap.length size agg n.toNat,{st with heap:=st.heap++[.cells (List.replicate n.toNat zero).flatten]})else none|none=>none)|.mkfresh size agg bytes zero x=>(match rdInt st x with|some n=>if 0<=n/\bytes*n<=281474976710656/\n<=9223372036854775807 then some (.fresh size agg n.toNat (List.replicate n.toNat (zero.map dem)).flatten,st)else none|none=>none)|.buildA js zero parts=>(adoptAll js st).bind λst=>((rdParts st parts).bind (EX zero)).map λcs=>(.agg cs,st)|.loadn a=>(match addr st a with|some (.ptr n off)=>((AT st n).bind fun cs=>match cs[off]? with|some (.list true es)=>some (.list true es,AK st n (.cells (cs.set off (.list false es))))|some .nils=>some (.list true [],st)|_=>none)|_=>none)|.mkrow size agg zero len parts=>((rdElems st parts).bind (EI size (List.replicate len zero))).map λes=>(.rowp st.heap.length size agg es.length,{st with heap:=st.heap++[.cells ((es.flatMap PV.cells).map dem)]})|.newobj zero=>some (.ptr st.heap.length 0,{st with heap:=st.heap++[.cells zero]})|.boxobj size x=>(match rd st x with|some v=>if v.cells.length=size then some (.ptr st.heap.length 0,{st with heap:=st.heap++[.cells v.cells]})else none|none=>none)|.load size agg a take=>(match addr st a with|some (.cptr cs)=>(Au size agg cs 0).map (·,st)|some (.ptr n off)=>((AT st n).bind λcs=>match take&&!agg,cs[off]? with|true,some (.list true es)=>some (.list true es,AK st n (.cells (cs.set off (.list false es))))|_,_=>(Au size agg cs off).map (·,st))|_=>none)|.store size agg a x=>(match addr st a,tk st x with|some (.ptr n off),some (v,st)=>(AT st n).bind λcs=>(AI size agg cs off v).map λcs=>(.dead,AK st n (.cells cs))|_,_=>none)|.storer size agg a x=>(match addr st a,rd st x with|some (.ptr n off),some v=>if Ea v then none else(AT st n).bind λcs=>(AI size agg cs off v).map λcs=>(.dead,AK st n (.cells cs))|_,_=>none)|.mkmap=>some (.map (some st.heap.length),{st with heap:=st.heap++[.map []]})|.lookup ok take kagg ks zero m x=>(match rd st m,rd st x with|some (.map n),some k=>((Bw st n).bind λes=>(BG kagg ks k es 0).bind λr=>match r with|some (i,v)=>if take&&!ok&&Lw v then some (v,AK st (n.getD 0) (.map (es.modify i λe=>(e.1,dem e.2))))else some (if ok then .tuple [dem v,.bool true]else dem v,st)|none=>some (if ok then .tuple [zero,.bool false]else zero,st))|_,_=>none)|.mset kagg ks m k v=>(match rd st m,rd st k,tk st v with|some (.map (some n)),some k,some (v,st)=>((Bw st (some n)).bind λes=>(BG kagg ks k es 0).map λr=>match r with|some (i,_)=>(.dead,AK st n (.map (es.set i (k,v))))|none=>(.dead,AK st n (.map (es++[(k,v)]))))|_,_,_=>none)|.mkfunc k first captured=>(B8 st first).bind λf=>(B8 f.2 captured).map λc=>(.func k f.1 c.1,c.2)|.isnil kind neg x=>((rd st x).bind (GY kind)).map λb=>(.bool (if neg then !b else b),st)|.nilchk x=>(match addr st x with|some (.ptr n o)=>some (.ptr n o,st)|some (.cptr cs)=>some (.cptr cs,st)|some (.lptr s g o)=>some (.lptr s g o,st)|_=>none)|.loadc size agg a=>(match rd st a with|some (.cptr cs)=>(Au size agg cs 0).map (·,st)|_=>none)|.call k args=>(rdAll st args).bind λvs=>(cf k vs st.heap).map λr=>(dem r.1,{st with heap:=r.2})|.callv x args=>(match rd st x,rdAll st args with|some (.func k first captured),some vs=>(cf k (first++vs++captured) st.heap).map λr=>(dem r.1,{st with heap:=r.2})|_,_=>none)|.rcall k args=>(rdAll st args).bind λvs=>(cf k vs st.heap).bind (same st)|.zcall k args=>(rdAll st args).bind λvs=>if AD (D3 st.heap vs)then(cf k (D3 st.heap vs) []).bind λr=>if AE (frz r.2 r.1)then some (dem (frz r.2 r.1),{st with heap:=Eb (F0 vs) st.heap})else none else none|.icall tab x args=>(Ec st tab (rd st x)).bind λm=>(rdAll st args).bind λvs=>(cf m.1 (m.2::vs) st.heap).map λr=>(dem r.1,{st with heap:=r.2})|.bcall _ _=>none|.bcallv _ _=>none
def opv(cf:Ax)(o:POp)(st:St):Option (PV×St):=match o with|.h o=>Ar cf o st|.mov x=>(rd st x).map (·,st)|.take x=>tk st x|.pick c a b=>(match rd st c with|some (.bool t)=>(rd st (if t then a else b)).map (·,st)|_=>none)|.newloc zero=>some (.loc st.gen zero,{st with gen:=st.gen+1})|.boxloc size x=>(match rd st x with|some v=>if v.cells.length=size then some (.loc st.gen (v.cells.map dem),{st with gen:=st.gen+1})else none|none=>none)|.build zero parts=>((rdParts st parts).bind (EX zero)).map λcs=>(.agg cs,st)|.mkslice size zero len parts=>((rdElems st parts).bind (EI size (List.replicate len zero))).map λes=>(.list true es,st)|.load size agg a take=>(match addr st a with|some (.cptr cs)=>(Au size agg cs 0).map (·,st)|some (.lptr s g off)=>(match st.vars[s]? with|some (.loc g' cs)=>if g=g' then match take&&!agg,cs[off]? with|true,some (.list true es)=>some (.list true es,{st with vars:=st.vars.set s (.loc g (cs.set off (.list false es)))})|_,_=>(Au size agg cs off).map (·,st)else none|_=>none)|_=>none)|.store size agg a x=>(match addr st a,tk st x with|some (.lptr s g off),some (v,st)=>(match st.vars[s]? with|some (.loc g' cs)=>if g=g' then(AI size agg cs off v).map λcs=>(.dead,{st with vars:=st.vars.set s (.loc g cs)})else none|_=>none)|_,_=>none)|.loadv s size agg a=>(match addr st a with|some (.lptr s' g off)=>(match st.vars[s]? with|some (.loc g' cs)=>if s'=s/\g=g' then(Au size agg cs off).map (·,st)else none|_=>none)|_=>none)|.faddr off x=>(match addr st x with|some (.cptr cs)=>some (.cptr (cs.drop off),st)|some (.lptr s g o)=>some (.lptr s g (o+off),st)|some (.ptr n o)=>some (.ptr n (o+off),st)|_=>none)|.iaddrS size x i=>(match rd st x,rdInt st i with|some (.list _ es),some n=>if 0<=n then match es[n.toNat]? with|some e=>if e.cells.length=size then some (.cptr e.cells,st)else none|none=>none else none|some (.rowp m sz _ len),some n=>if sz=size/\0<=n/\n<len then some (.ptr m (n.toNat*size),st)else none|some (.rows m sz _ off len),some n=>if sz=size/\0<=n/\n<len then some (.ptr m ((off+n.toNat)*size),st)else none|_,_=>none)|.indexStr x i=>(match rd st x,rdInt st i with|some (.str s),some n=>if 0<=n then match s[n.toNat]? with|some b=>some (.int .u8 b.toNat,st)|none=>none else none|_,_=>none)|.slice str size x lo hi=>(match str,rd st x with|true,some (.str s)=>(bound st hi s.length s.length).bind λh=>(bound st lo 0 h).map λl=>(.str ((s.take h).drop l),st)|false,some (.list _ es)=>if A9 size es then(bound st hi es.length es.length).bind λh=>(bound st lo 0 h).map λl=>(.list false ((es.take h).drop l),st)else none|false,some .nils=>(bound st hi 0 0).bind λh=>(bound st lo 0 h).map λ_=>(.nils,st)|false,some (.rowp n sz agg len)=>if sz=size then(bound st hi len len).bind λh=>(bound st lo 0 h).map λl=>(if l=0 then .rowp n sz agg h else .rows n sz agg l (h-l),st)else none|_,_=>none)|.bin op x y=>(match rd st x,rd st y with|some a,some b=>(FD op a b).map (·,st)|_,_=>none)|.eq neg agg ks x y=>(match rd st x,rd st y with|some a,some b=>(peq agg ks a b).map λt=>(.bool (if neg then !t else t),st)|_,_=>none)|.un op x=>(match rd st x with|some a=>(unv op a).map (·,st)|none=>none)|.convInt k x=>(rdInt st x).map λn=>(.int k (k.wrap n),st)|.ifc mk t x=>(match mk,rd st x with|true,some v=>some (.iface t v,st)|false,some (.iface t' v)=>if t'=t then some (dem v,st)else none|_,_=>none)|.extract i x=>(match rd st x with|some (.tuple vs)=>(vs[i]?.bind cp).map (·,st)|_=>none)|.len str x=>(match str,rd st x with|true,some (.str s)=>some (.int .i64 s.length,st)|false,some (.list _ es)=>some (.int .i64 es.length,st)|false,some (.rowp _ _ _ n)=>some (.int .i64 n,st)|false,some (.rows _ _ _ _ n)=>some (.int .i64 n,st)|false,some .nils=>some (.int .i64 0,st)|false,some .void=>some (.int .i64 0,st)|_,_=>none)|.cap x=>(match rd st x with|some .nils=>some (.int .i64 0,st)|_=>none)|.minmax mx xs=>(match rdAll st xs with|some (v::vs)=>(Gy mx v vs).map (·,st)|_=>none)|.append size bytes s x=>(match(rd st x).bind FZ,tk st s with|some xs,some (.list true es,st)=>if A9 size es/\A9 size xs/\((es.length+xs.length<=2147483648/\bytes<=16384)\/(es.length+xs.length<=9223372036854775807/\(es.length+xs.length)*bytes<=140737488355328))then some (.list true (es++xs),st)else none|_,_=>none)|.pcall k args=>(match rdAll st args with|some vs=>if AD vs then match cf k vs []with|some (r,_)=>if AE r then some (dem r,st)else none|none=>none else none|none=>none)|.pzcall k args=>(match rdAll st args with|some vs=>if AD vs then match cf k vs []with|some (r,h')=>if AE (frz h' r)then some (dem (frz h' r),st)else none|none=>none else none|none=>none)|.pcallx k args own=>(match own with|none=>(match rdAll st args with|some vs=>if AD vs then match cf k (Dr none vs) []with|some (r,_)=>if AE r then some (r,st)else none|none=>none else none|none=>none)|some i=>match(args[i]?).bind (tk st),rdAll st args with|some (v,st1),some vs=>if AD (vs.set i v)/\i<vs.length then match cf k (Dr (some i) (vs.set i v)) []with|some (r,_)=>if AE r then some (r,st1)else none|none=>none else none|_,_=>none)|.callv x args=>match rd st x,rdAll st args with|some (.func k first captured),some vs=>if AD (first++vs++captured)then match cf k (first++vs++captured) []with|some (r,_)=>if AE r then some (dem r,st)else none|none=>none else none|_,_=>none
def put(st:St)(j:Nat)(d:PD)(v:PV):St:=match d with|.v i=>{st with vars:=st.vars.set i v}|.l=>{st with locs:=st.locs.set j v}|.n=>st
def Bm(cf:Ax)(j:Nat)(o:PO)(st:St):Option St:=match o.guard with|none=>(opv cf o.op st).map λr=>put r.2 j o.dst r.1|some (x,want)=>match rd st x with|some (.bool b)=>if b=want then(opv cf o.op st).map λr=>put r.2 j o.dst r.1 else some (put st j o.dst (.tuple []))|some (.tuple [])=>some (put st j o.dst (.tuple []))|_=>none
def CU(cf:Ax):Nat->List PO->St->Option St|_,[],st=>some st|j,o::os,st=>(Bm cf j o st).bind (CU cf (j+1) os)
def EZ(n:Nat)(st:St):St:={st with locs:=List.replicate n .dead}
def CG(cf:Ax)(ops:List PO)(st:St):Option St:=CU cf 0 ops (EZ ops.length st)
def closed(st:St):St:={st with locs:=[]}
def El(st:St):PRes->Option PV|.var i=>(st.vars[i]?.bind fun v=>match v with|.list true es=>some (.list true es)|.rowp n sz agg len=>if agg=true\/sz=1 then(AT st n).bind λcs=>(Cu sz agg cs len 0).map (.list false)else none|.nils=>some (.list false [])|v=>cp v)|.keep i=>st.vars[i]?.bind cp|.cell i size agg=>match st.vars[i]? with|some (.loc _ cs)=>(Au size agg cs 0).bind (BZ st.heap)|some (.ptr n 0)=>(AT st n).bind λcs=>Au size agg cs 0|_=>none
def Ew(st:St):List PRes->Option (List PV)|[]=>some []|r::rs=>(El st r).bind λv=>(Ew st rs).map (v::·)
def B9(st:St)(rs:List PRes):Option PV:=(Ew st rs).map λvs=>match vs with|[v]=>v|vs=>.tuple (vs.map dem)
def BE:PV->Option Nat|.rowp n _ _ _=>some n|_=>none
def N2(vars:List PV)(i:Nat):Option Nat:=vars[i]?.bind BE
def F1:List PV->List Nat|[]=>[]|p::ps=>(BE p).toList++F1 ps
def FE(vars:List PV):PRes->List Nat|.var i=>(N2 vars i).toList|.keep _=>[]|.cell i _ _=>match vars[i]? with|some (.loc _ cs)=>F1 cs|_=>[]
def Be(vars:List PV):List PRes->List PObj->List PObj|[],h=>h|r::rs,h=>Be vars rs (Eb (FE vars r) h)
def Lx:Option (Out×List PObj)->Option (PV×List PObj)|some (.val r,h)=>some (r,h)|_=>none
def F2(ex:PC->St->Option (PExit×St))(nv:Nat)(a b:PC)(args:List PV)(h:List PObj):Option (Out×List PObj):=match args with|.ptr n 0::as=>(match h[n]?,ex a {vars:=as.map dem++List.replicate (nv-as.length) .dead,locs:=[],gen:=0,heap:=h}with|some (.loop true),some (.normal,st1)=>(match st1.heap[n]?,ex b {st1 with heap:=st1.heap.set n (.loop false)}with|some (.loop true),some (.normal,st2)=>(match st2.heap[n]? with|some (.loop false)=>some (.val (.bool true),st2.heap.set n (.loop true))|_=>none)|some (.loop true),some (.boom v,st2)=>some (.boom v,st2.heap)|some (.loop true),some (.exit id,st2)=>(match st2.heap[n]? with|some (.loop false)=>some (.val (.bool false),st2.heap.set n (.over (some id)))|_=>none)|some (.loop true),some (.ret,st2)=>(match st2.heap[n]? with|some (.loop false)=>some (.val (.bool false),st2.heap.set n (.over none))|_=>none)|_,_=>none)|_,_=>none)|_=>none
def PC.NR:PC->Bool|.rangeF ..=>false|.seq a b|.branch _ _ a b|.bbranch _ _ a b|.round a b=>a.NR&&b.NR|.block _ c|.loop c|.guarded _ _ c=>c.NR|_=>true
def PC.RO:PC->Bool|.rangeF ..|.guarded ..=>false|.seq a b|.branch _ _ a b|.bbranch _ _ a b|.round a b=>a.RO&&b.RO|.block _ c|.loop c=>c.RO|_=>true
def PC.isRound:PC->Bool|.round _ _=>true|_=>false
def GZ(L:Nat->Option PFunc)(k:Nat):Bool:=match L k with|some f=>!f.code.isRound|none=>false
def EP(own:Option Nat)(args:List PV):List PV:=match own with|none=>args.map dem|some i=>(args.map dem).set i (args.getD i .dead)
def DC(ex:PC->St->Option (PExit×St))(dfr:Nat->List PV->List PObj->Option (List PObj))(f:PFunc)(args:List PV)(h:List PObj):Option (Out×List PObj):=match f.code with|.round a b=>F2 ex f.nv a b args h|c=>match ex c {vars:=args.map dem++List.replicate (f.nv-f.params) .dead,locs:=[],gen:=0,heap:=h}with|some (.normal,st)=>(B9 st f.results).map λr=>(.val r,Be st.vars f.results st.heap)|some (.ret,st)=>(B9 st f.results).map λr=>(.val r,Be st.vars f.results st.heap)|some (.boom v,st)=>some (.boom v,st.heap)|some (.after kd caps v,st)=>if c.NR=false then none else(dfr kd (v.getD .nilIface::caps) st.heap).bind λh'=>(B9 {st with heap:=h'} f.results).map λr=>(.val r,Be st.vars f.results h')|_=>none
def D4(ex:PC->St->Option (PExit×St))(dfr:Nat->List PV->List PObj->Option (List PObj))(f:PFunc)(args:List PV)(h:List PObj):Option (PV×List PObj):=if f.code.isRound then none else Lx (DC ex dfr f args h)
def DD(ex:PC->St->Option (PExit×St))(f:PFunc)(own:Option Nat)(args:List PV)(h:List PObj):Option (PV×List PObj):=if f.code.isRound then none else match ex f.code {vars:=EP own args++List.replicate (f.nv-f.params) .dead,locs:=[],gen:=0,heap:=h}with|some (.normal,st)=>(B9 st f.results).map λr=>(r,Be st.vars f.results st.heap)|some (.ret,st)=>(B9 st f.results).map λr=>(r,Be st.vars f.results st.heap)|_=>none
def G5(r r':Option (PV×List PObj)):Option (PV×List PObj):=if r=r' then r else none
def vague:PV->Bool|.list _ []=>true|_=>false
def CA(L:Nat->Option PFunc)(k:Nat)(args:List PV)(h:List PObj):Option (List PObj):=match L k with|some f=>(match f.defer with|some g=>g args h|none=>none)|none=>none
def E0(ex:PC->St->Option (PExit×St))(f:PFunc):List PV->List PObj->Option (PV×List PObj)|.dead::rest,h=>(match rest.drop pad.length with|o::args=>if args.length=f.params/\f.prim=none then if f.split&&vague (args.headD .dead)then G5 (DD ex f (JG o) (.nils::args.tail) h) (DD ex f (JG o) (.void::args.tail) h)else DD ex f (JG o) args h else none|[]=>none)|_,_=>none
def B0(ex:PC->St->Option (PExit×St))(L:Nat->Option PFunc):Ax:=λk args h=>match L k with|none=>none|some f=>if args.length=f.params then match f.prim with|some g=>(g (args.map dem) h).map λr=>(dem r.1,r.2)|none=>if f.split&&vague (args.headD .dead)then G5 (D4 ex (CA L) f (.nils::args.tail) h) (D4 ex (CA L) f (.void::args.tail) h)else D4 ex (CA L) f args h else E0 ex f args h
abbrev Ca:=Nat->List PV->List PObj->Option (Out×List PObj)
def CB(ex:PC->St->Option (PExit×St))(L:Nat->Option PFunc):Ca:=λk args h=>match L k with|none=>none|some f=>if args.length=f.params/\f.split=false then match f.prim with|some g=>(g (args.map dem) h).map λr=>(.val (dem r.1),r.2)|none=>DC ex (CA L) f args h else none
def CH(cf:Ax)(ob:Ca)(j:Nat)(o:PO)(st:St):Option (Option PV×St):=match o.op,o.guard with|.h (.bcall k args),none=>(match rdAll st args with|some vs=>(match ob k vs st.heap with|some (.val r,h')=>some (none,put {st with heap:=h'} j o.dst (dem r))|some (.boom v,h')=>some (some v,{st with heap:=h'})|none=>none)|none=>none)|.h (.bcallv x args),none=>(match rd st x,rdAll st args with|some (.func k first captured),some vs=>(match ob k (first++vs++captured) st.heap with|some (.val r,h')=>some (none,put {st with heap:=h'} j o.dst (dem r))|some (.boom v,h')=>some (some v,{st with heap:=h'})|none=>none)|_,_=>none)|.h (.bcall _ _),_|.h (.bcallv _ _),_=>none|_,_=>(Bm cf j o st).map λst=>(none,st)
def BW(cf:Ax)(ob:Ca):Nat->List PO->St->Option (Option PV×St)|_,[],st=>some (none,st)|j,o::os,st=>match CH cf ob j o st with|some (none,st)=>BW cf ob (j+1) os st|r=>r
def Aw(L:Nat->Option PFunc):Nat->PC->St->Option (PExit×St)|0,_,_=>none|n+1,c,st=>match c with|.skip=>some (.normal,st)|.region ops=>(CG (B0 (Aw L n) L) ops st).map λst=>(.normal,closed st)|.branch ops x a b=>(match CG (B0 (Aw L n) L) ops st with|some st=>(match rd st x with|some (.bool t)=>Aw L n (if t then a else b) (closed st)|_=>none)|none=>none)|.seq a b=>(match Aw L n a st with|some (.normal,st)=>Aw L n b st|some (.after _ _ _,_)=>none|r=>r)|.block id c=>(match Aw L n c st with|some (.exit i,st)=>if i=id then some (.normal,st)else some (.exit i,st)|some (.after _ _ _,_)=>none|r=>r)|.loop c=>(match Aw L n c st with|some (.normal,st)=>Aw L n (.loop c) st|some (.after _ _ _,_)=>none|r=>r)|.exit id=>some (.exit id,st)|.ret=>some (.ret,st)|.bregion ops=>(match BW (B0 (Aw L n) L) (CB (Aw L n) L) 0 ops (EZ ops.length st)with|some (none,st)=>some (.normal,closed st)|some (some v,st)=>some (.boom v,closed st)|none=>none)|.bbranch ops x a b=>(match BW (B0 (Aw L n) L) (CB (Aw L n) L) 0 ops (EZ ops.length st)with|some (none,st)=>(match rd st x with|some (.bool t)=>Aw L n (if t then a else b) (closed st)|_=>none)|some (some v,st)=>some (.boom v,closed st)|none=>none)|.raise ops t x=>(match CG (B0 (Aw L n) L) ops st with|some st=>(rd st x).map λp=>(.boom (.iface t p),closed st)|none=>none)|.rangeF x kb caps=>(match rd st x,rdAll st caps with|some (.func k first captured),some cs=>(if GZ L k=false then none else match CB (Aw L n) L k (first++.func kb (.ptr st.heap.length 0::cs) []::captured) (st.heap++[.loop true])with|some (.val _,h')=>(match h'[st.heap.length]? with|some (.loop true)=>some (.normal,{st with heap:=h'.set st.heap.length .gone})|some (.over (some id))=>some (.exit id,{st with heap:=h'.set st.heap.length .gone})|some (.over none)=>some (.ret,{st with heap:=h'.set st.heap.length .gone})|_=>none)|some (.boom v,h')=>some (.boom v,{st with heap:=h'})|none=>none)|_,_=>none)|.round _ _=>none|.guarded kd caps c=>if c.NR=false then none else match rdAll st caps with|some cs=>(match Aw L n c st with|some (.normal,st)=>some (.after kd cs none,st)|some (.ret,st)=>some (.after kd cs none,st)|some (.boom v,st)=>some (.after kd cs (some v),st)|_=>none)|none=>none
def call(L:Nat->Option PFunc)(n:Nat):Ax:=B0 (Aw L n) L
end PI
