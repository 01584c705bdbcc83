import Derived.Test.YtljbhgpanekomaaGreatDoorPiFunc
import Derived.Test.YtljbhgpanekomaaGreatDoorPiBase
import Derived.Lib.Join
import Derived.Lib.ItoaNum
import Derived.Lib.AtoiAll
import Derived.Lib.Bytealg
set_option linter.unusedSimpArgs false
set_option linter.unusedVariables false
set_option linter.unusedSectionVars false
namespace PI
open Go Go.RowKit
def HU (fn:Func) (pf:PFunc) (vs:List Tmp):Bool:=
 decide (pf.params<1000)&&decide vs.Nodup&&vs.all (λt=>decide (t<fn.ntmps))&&vs.length==pf.nv&&decide (pf.params≤pf.nv)&&vs.take pf.params==List.range pf.params
def yOf (fn:Func) (fid:FuncId) (j:Nat) (vars:List Tmp):Option YL:=(fn.body.bind λc=>(xU c)[j]?).map λx=>⟨fid,x.1,x.2.1,x.2.2,vars,fn.ntmps⟩
def LpsOK (N:Nm) (fn:Func) (fid:FuncId) (pss:List (Array Tmp)):List (Array Tmp×Nat×List Tmp)→Prop
 | []=>True
 | x::xs=>(∃j,N.yl x.2.1=yOf fn fid j x.2.2∧pss[j]? = some x.1)∧LpsOK N fn fid pss xs
theorem LpsOK.mem {N:Nm} {fn:Func} {fid:FuncId} {pss:List (Array Tmp)}:∀{l:List (Array Tmp×Nat×List Tmp)},LpsOK N fn fid pss l→∀x∈l,∃j,N.yl x.2.1=yOf fn fid j x.2.2∧pss[j]? = some x.1
 | [],_,x,hx=>by simp at hx
 | y :: l, h, x, hx => by
   rcases ay.1 hx with rfl|hx
   ·exact h.1
   ·exact LpsOK.mem h.2 x hx
section
variable {E:Env} {N:Nm} {k:Nat} {pf:PFunc} {fn:Func} {fid:FuncId}
theorem Dt (vs:List Tmp) (o:Opts) (pss:List (Array Tmp)) (hf:E.P.funcs[fid]? = some fn) (h:(fn.body.map (λc=>yd (E.opt o) fn.ntmps vs c),AV E.P o.kp vs fn.results.toList,HU fn pf vs,fn.body.map λc=>(xU c).map (·.1))=(some pf.code,some pf.results,true,some pss))
  (hn:fn.name ≠ "runtime.NumGoroutine") (dl:pss.Nodup) (hl:LpsOK N fn fid pss o.lps)
  (fp:N.fn k=fid:=by rfl) (hy:N.yl k=none:=by rfl) (hr:pf.code.isRound=false:=by rfl) (hp:pf.prim=none:=by rfl) (hd:pf.defer=none:=by rfl):FnS E N k pf:=by
 simp only[ac] at h
 obtain⟨h1,h2,h3,h4⟩:=h
 simp only[HU,al,aq,bo,aD] at h3
 obtain⟨⟨⟨⟨⟨a0,a1⟩,a2⟩,a3⟩,a4⟩,a5⟩:=h3
 refine .inl ⟨hy,hr,a0,.inl ⟨hp,hd,fn,vs,by rw[fp]; exact hf,hn,a1,a2,a3,a4,?_,o,h1,.inr ?_,h2⟩⟩
 ·intro i hi
  have:(vs.take pf.params)[i]? = some i:=by rw[a5]; simp[hi]
  rwa [aS,ah hi] at this
 ·intro c hc ps kb vars hm z hz ue
  obtain⟨j,j1,j2⟩:=hl.mem _ hm
  rw[hc] at h4
  simp only[aA,aa] at h4
  subst h4
  obtain⟨i,hi⟩:=bh.1 hz
  have nB:i=j:=by
   have it:((xU c).map (·.1))[i]? = some ps:=by simp[hi,ue]
   obtain⟨b1,b2⟩:=aj.1 it
   obtain⟨b3,b4⟩:=aj.1 j2
   refine cC λda =>?_
   rcases Nat.lt_or_gt_of_ne da with cQ|cQ
   ·exact List.pairwise_iff_getElem.1 dl i j b1 b3 cQ (b2.trans b4.symm)
   ·exact List.pairwise_iff_getElem.1 dl j i b3 b1 cQ (b4.trans b2.symm)
  subst nB
  rw[fp]
  simp only at j1
  rw[j1]
  simp[yOf,hc,hi,ue]
theorem fnS (vs:List Tmp) (o:Opts) (hf:E.P.funcs[fid]? = some fn) (h:(fn.body.map (λc=>yd (E.opt o) fn.ntmps vs c),AV E.P o.kp vs fn.results.toList,HU fn pf vs)=(some pf.code,some pf.results,true))
  (hn:fn.name ≠ "runtime.NumGoroutine") (hl:o.lps=[]:=by rfl)
  (fp:N.fn k=fid:=by rfl) (hy:N.yl k=none:=by rfl) (hr:pf.code.isRound=false:=by rfl) (hp:pf.prim=none:=by rfl) (hd:pf.defer=none:=by rfl):FnS E N k pf:=by
 simp only[ac] at h
 obtain⟨h1,h2,h3⟩:=h
 simp only[HU,al,aq,bo,aD] at h3
 obtain⟨⟨⟨⟨⟨a0,a1⟩,a2⟩,a3⟩,a4⟩,a5⟩:=h3
 refine .inl ⟨hy,hr,a0,.inl ⟨hp,hd,fn,vs,by rw[fp]; exact hf,hn,a1,a2,a3,a4,?_,o,h1,.inl hl,h2⟩⟩
 intro i hi
 have:(vs.take pf.params)[i]? = some i:=by rw[a5]; simp[hi]
 rwa [aS,ah hi] at this
def Qg (nt:Nat) (pf:PFunc) (vars:List Tmp) (ps:Array Tmp) (vs:List Tmp) (a b:PC):Bool:=
 a.RO&&b.RO&&decide vs.Nodup&&vs.all (λt=>decide (t<nt))&&vs.length==pf.nv&&pf.params==1+(vars.length+ps.size)&&vs.take (vars.length+ps.size)==vars++ps.toList
theorem rdS (vars vs:List Tmp) (o:Opts) (j:Nat) (ps:Array Tmp) {a b:PC} (ig:pf.code = .round a b) (hf:E.P.funcs[fid]? = some fn)
  (h:((fn.body.bind λc=>(xU c)[j]?).map λz=>(z.1,yd (E.opt o) fn.ntmps vs z.2.1,yd (E.opt o) fn.ntmps vs z.2.2))=some (ps,a,b)) (pV:Qg fn.ntmps pf vars ps vs a b=true)
  (hn:fn.name ≠ "runtime.NumGoroutine") (hy:N.yl k=yOf fn fid j vars:=by rfl) (fp:N.fn k=fid:=by rfl) (hl:o.lps=[]:=by rfl) (hp:pf.prim=none:=by rfl) (hd:pf.defer=none:=by rfl):FnS E N k pf:=by
 simp only[ab,ae,ac] at h
 obtain⟨z,⟨c,hc,hz⟩,rfl,h2,h3⟩:=h
 simp only[Qg,al,aq,bo,aD] at pV
 obtain⟨⟨⟨⟨⟨⟨a0,a1⟩,a2⟩,a3⟩,a4⟩,a5⟩,a6⟩:=pV
 refine .inr ⟨⟨fid,z.1,z.2.1,z.2.2,vars,fn.ntmps⟩,fn,vs,o,a,b,⟨by rw[hy]; simp[yOf,hc,hz],ig,a0,a1,hp,hd,hf,fp,hn,by simp[hc],a2,a3,a4,a5,a6,hl,h2,h3⟩⟩
def AllFn (E:Env) (N:Nm):Nat→List (Option PFunc)→Prop
 | _,[]=>True
 | n,none::fs=>AllFn E N (n+1) fs
 | n,some f::fs=>FnS E N n f∧AllFn E N (n+1) fs
theorem AllFn.get:∀{fs:List (Option PFunc)} {n:Nat},AllFn E N n fs→∀{k:Nat} {f:PFunc},fs[k]?.join=some f→FnS E N (n+k) f
 | [],n,_,k,f,hk=>by simp at hk
 | o :: fs, n, h, 0, f, hk => by
   simp at hk; subst hk
   exact h.1
 | o :: fs, n, h, k + 1, f, hk => by
   have h':AllFn E N (n+1) fs:=by cases o with
    | none=>exact h
    | some g=>exact h.2
   have:=AllFn.get h' (k:=k) (f:=f) (by simpa using hk)
   rwa [show n+1+k=n+(k+1) by omega] at this
end
end PI
namespace PI
open Go (IntKind BinOp UnOp)
def L9:List PV→Option (List (List UInt8))
 | []=>some []
 | .str s::r=>(L9 r).map (s::·)
 | _=>none
def d3n (args:List PV) (h:List PObj):Option (PV×List PObj):=
 match args with
 | [.list _ es,.str sep]=>(L9 es).bind λxs=>if xs.length≤140737488355328∧(Go.Lib.join xs sep).length≤140737488355328 then some (.str (Go.Lib.join xs sep),h) else none
 | _=>none
def Gf (args:List PV) (h:List PObj):Option (PV×List PObj):=
 match args with
 | [.str s,.int .u8 c]=>some (.int .i64 (Go.Lib.indexByte s c.toNat.toUInt8),h)
 | _=>none
def DR (args:List PV) (h:List PObj):Option (PV×List PObj):=
 match args with
 | [.int .i64 n]=>if -9223372036854775808≤n∧n≤9223372036854775807 then some (.str (Go.Lib.itoa n),h) else none
 | _=>none
def c3B (args:List PV) (h:List PObj):Option (PV×List PObj):=
 match args with
 | [.ptr n 0, .str s] =>
   match h[n]? with
   | some (.bld bs)=>if bs.length+s.length≤140737488355328 then some (.tuple [.int .i64 s.length,.nilIface],h.set n (.bld (bs++s))) else none
   | _=>none
 | _=>none
def ET:List PV→Option (List Int)
 | []=>some []
 | .int .i64 n::r=>(ET r).map (n::·)
 | _=>none
def Gg (args:List PV) (h:List PObj):Option (PV×List PObj):=
 match args with
 | [.rowp n 1 false len] =>
   match h[n]? with
   | some (.cells cs)=>if len≤cs.length∧len<4611686018427387904 then(ET (cs.take len)).map λzs=>(.tuple [],h.set n (.cells ((zs.mergeSort λx y=>decide (x≤y)).map (.int .i64 ·)++cs.drop len))) else none
   | _=>none
 | [.list _ []]=>some (.tuple [],h)
 | _=>none
end PI
