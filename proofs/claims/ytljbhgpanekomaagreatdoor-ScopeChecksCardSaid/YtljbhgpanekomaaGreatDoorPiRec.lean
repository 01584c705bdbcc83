import Derived.Test.YtljbhgpanekomaaGreatDoorPiFunc
import Derived.Test.YtljbhgpanekomaaGreatDoorPiWp
import Derived.RecoverIn
set_option linter.unusedSimpArgs false
set_option linter.unusedVariables false
set_option linter.unusedSectionVars false
namespace PI
open Go Go.RowKit
def A0 (t:Nat) (args:List PV) (h:List PObj):Option (List PObj):=
 match args with
 | [.nilIface,.ptr _ 0,.ptr _ 0]=>some h
 | [.iface t' (.agg [.int k1 a, .int k2 b, .int k3 c]), .ptr n 0, .ptr m 0] =>
   if t'=t∧n≠m then
    match h[n]?,h[m]? with
    | some (.cells [_,_]),some (.cells [_])=>some ((h.set n (.cells [.int k1 a,.int k2 b])).set m (.cells [.int k3 c]))
    | _,_=>none
   else none
 | _=>none
def Fe (o:Oper):Bool:=
 match o.op with
 | .move _ | .assign _ | .extract _ _ | .alloc _ | .store _ _ _ | .load _ _ | .fieldAddr _ _ _=>true
 | _=>false
section
variable {P:Program} {w:World}
theorem c16 {o:Oper} (h:Fe o=true) {ρ:Operand→Value}:(∀r w',(execOp ρ o).run P w = .ok r w'→(∃v,r = .value v)∨r = .skip)∧True:=by
 refine⟨?_,trivial⟩
 intro r w' hr
 have val:∀(s:Sem Value),(do pure (.value (← s)):Sem Next).run P w = .ok r w'→∃v,r = .value v:=by
  intro s hs
  rw[Sem.run_bind] at hs
  cases hx:s.run P w with
  | ok v w1=>rw[hx] at hs; simp only[Result.andThen_ok,Sem.run_pure,Result.ok.injEq] at hs; exact⟨v,hs.1.symm⟩
  | halt x w1=>rw[hx] at hs; simp[Result.andThen] at hs
 have unit:∀(s:Sem Unit),(do s; pure .skip:Sem Next).run P w = .ok r w'→r = .skip:=by
  intro s hs
  rw[Sem.run_bind] at hs
  cases hx:s.run P w with
  | ok v w1=>rw[hx] at hs; simp only[Result.andThen_ok,Sem.run_pure,Result.ok.injEq] at hs; exact hs.1.symm
  | halt x w1=>rw[hx] at hs; simp[Result.andThen] at hs
 unfold Fe at h
 unfold execOp at hr
 cases cK:o.op<;>rw[cK] at h hr<;>simp only[reduceCtorEq,ay] at h
 all_goals first
  | exact .inl (val _ hr)
  | exact .inr (unit _ hr)
  | (simp only[Sem.run_pure,Result.ok.injEq] at hr; exact .inl ⟨_,hr.1.symm⟩)
theorem Ff {ops:Array Oper} {Q:Exit→Act→List Frame→World→Prop} {cs:List Frame}:∀{l:List Nat} {a:Act} {w:World},(∀i∈l,∀o,ops[i]? = some o→Fe o=true)→¬LetsOut (λe a w=>Q e a cs w) →
  wpOps P ops (λe a w=>Q e a cs w) l a w→wpOpsSIn (W none) 0 P ops Q l a cs w
 | [],a,w,_,_,h=>h
 | i :: l, a, w, hp, hQ, h => by
   simp only[wpOps] at h
   simp only[wpOpsSIn]
   cases ho:ops[i]? with
   | none=>simp only[ho] at h ⊢; exact Ff (λj hj=>hp j (by simp[hj])) hQ h
   | some o =>
     simp only[ho] at h ⊢
     refine⟨λ_ _=>AE _,?_⟩
     split at h
     ·rename_i hw
      rw[ah hw]
      rcases h with h|⟨_,h⟩
      ·unfold Oper.wp at h
       have gl:=(c16 (P:=P) (w:=w) (hp i (by simp) o ho) (ρ:=a.eval)).1
       generalize (execOp a.eval o).run P w=res at h gl
       cases res with
       | ok r w' =>
         rcases gl r w' rfl with⟨v,rfl⟩|rfl
         ·exact Ff (λj hj=>hp j (by simp[hj])) hQ h
         ·exact Ff (λj hj=>hp j (by simp[hj])) hQ h
       | halt x w'=>cases x<;>simp only[Oper.upon] at h ⊢<;>first | exact h | exact h.elim
      ·exact absurd h hQ
     ·rename_i hw
      rw[af hw]
      exact Ff (λj hj=>hp j (by simp[hj])) hQ h
theorem b7f {c:Code} {Q:Exit→Act→List Frame→World→Prop} {a:Act} {cs:List Frame} (h:∀fid,wpN none fid P c (λe a w=>Q e a cs w) a w):c.wpSIn (W none) 0 P Q a cs w:=by
 intro b k _ hr _ _
 obtain⟨e,a',w',q,r⟩:=h b.fn b k cs hr rfl
 exact⟨e,a',cs,w',rfl,q,r⟩
end
section
variable {E:Env} {N:Nm} {P:Program}
def L0:Nat→Option PFunc:=λ_=>none
theorem M9 (n:Nat):Runs N P L0 n:=by
 refine⟨⟨?_,?_⟩,?_,?_,?_⟩
 ·intro k args r h h' hc; simp[yc,L0] at hc
 ·intro k own args r h' hc; simp[yc,L0] at hc
 ·intro k args o h h' hc; simp[yB,L0] at hc
 ·intro k y n l tmps caps args o h h' _ hc; simp[yB,L0] at hc
 ·intro k hk; simp[CL,L0] at hk
theorem Na:ze N P L0:=by intro k f h; simp[L0] at h
theorem c17 (hE:EnvOk E N) (hP:E.P=P) (dy:P.follows .mixedOrders=true) (mP:E.lps=[]) {k:Nat} {fn:Func} {id0:Nat} {ops0:Array Oper} {c2:Code} {vs:List Tmp} {pos0:List PO} {d5 d6:Tmp} {tA T t:Nat} {z:PV} {nv q:Nat} {o0 o1:Oper} {g:List PV→List PObj→Option (List PObj)}
  (hf:P.funcs[N.fn k]? = some fn) (hb:fn.body=some (.seq (.region id0 ops0 false) c2)) (dl:fn.results = #[])
  (h0:ops0[0]? = some o0) (oA:∃ts,o0.op = .call { callee := .builtin .recover,args := #[],argTypes:=ts }) (rk:o0.dst=some d5) (rm:o0.guard=none)
  (h1:ops0[1]? = some o1) (rn:o1.op = .typeAssert (.tmp d5) tA T true) (ro:o1.dst=some d6) (rp:o1.guard=none) (hT:N.ty t=T) (mQ:∃fs,P.underlying T=some (.struct fs)) (hz:D3 P T=some z)
  (jf:∀i,2≤i→∀o,ops0[i]? = some o→Fe o=true) (uN:d5<fn.ntmps) (oB:(yt d5 vs 0).isNone=true) (qe:vs[q]? = some d6)
  (dk:vs.Nodup) (cO:∀t∈vs,t<fn.ntmps) (hnv:vs.length=nv) (hq:2≤q) (jt:vs[0]? = some 0) (jb:vs[1]? = some 1)
  (kA:BE E fn.ntmps vs ops0 false=some pos0) (iy:(yC E fn.ntmps vs c2).NR=true)
  (cL:∀p caps h h',g (p::caps) h=some h'→caps.length=2∧∃tup:PV,(p = .nilIface∧tup = .tuple [z,.bool false]∨∃v,p = .iface t v∧tup = .tuple [v,.bool true]) ∧
   ∃n st1 x st2,yD (yc (wB L0 0) L0) pos0 (List.range' 2 (ops0.size - 2)) { vars:=(caps.map dem++List.replicate (nv - 2) PV.dead).set q tup,locs:=List.replicate pos0.length .dead,gen:=0,heap:=h }=some st1∧wB L0 n (yC E fn.ntmps vs c2) (xP st1)=some (x,st2)∧(x = .normal∨x = .ret)∧st2.heap=h'):
  CY N P k g:=by
 intro p caps h h' hg w G vals d7 cQ cR u hu
 obtain⟨dm,tup,oC,n,st1,x,st2,rq,rr,hx,dX⟩:=cL p caps h h' hg
 refine callsDIn_of_wpSIn (F:=W none) hf hb (AE _) ?_
 intro c₀ cs kB
 refine wpSIn_seq (wpSIn_region ?_)
 have eX:2≤ops0.size:=by have:=(aX.1 h1).1; omega
 have iY:List.range ops0.size=0::1::List.range' 2 (ops0.size - 2):=by
  obtain⟨m,hm⟩:∃m,ops0.size=m+2:=⟨ops0.size - 2,by omega⟩
  rw[hm,cC,List.range'_succ,List.range'_succ]
  rfl
 rw[iY]
 obtain⟨rv,u',cs',d8,wV,jg,oD⟩:∃rv u',∃cs':List Frame,(match recoverD (c₀::cs) with | some (v,cs')=>(v,cs') | none=>(.nilIface,c₀::cs))=(rv,cs')∧settle u' = .returning∧cs'={ c₀ with mode:=u' }::cs∧VR N w G.fix G.heap rv p:=by
  rcases hu with⟨rfl,rfl⟩|⟨v,rfl,hv⟩
  ·refine⟨.nilIface,.returning,c₀::cs,?_,rfl,by rw[← kB],.nilIface⟩
   simp[recoverD,kB]
  ·refine⟨v,.panicking [{ v,recovered:=true }],_,?_,rfl,rfl,hv⟩
   simp[recoverD,kB]
 let a0:Act:={ tmps:=vals++Array.replicate (fn.ntmps - vals.size) undef,defers:=[] }
 have step0:∀{Q:Exit→Act→List Frame→World→Prop} {rest:List Nat},wpOpsSIn (W none) 0 P ops0 Q rest (a0.put (some d5) rv) cs' w→wpOpsSIn (W none) 0 P ops0 Q (0::rest) a0 (c₀::cs) w:=by
  intro Q rest hw
  obtain⟨ts,oA⟩:=oA
  simp only[wpOpsSIn,h0]
  refine⟨λ_ _=>AE _,?_⟩
  have oE:(execOp a0.eval o0).run P w = .ok .recover w:=by
   simp[execOp,oA,resolve,invoke,builtin]
  simp only[Region.wanted,rm,if_true,oE,rk]
  cases hr:recoverD (c₀::cs) with
  | none=>rw[hr] at d8; simp only[ac] at d8; obtain⟨rfl,rfl⟩:=d8; exact hw
  | some y=>obtain⟨v,cs2⟩:=y; rw[hr] at d8; simp only[ac] at d8; obtain⟨rfl,rfl⟩:=d8; exact hw
 refine step0 ?_
 have fY:a0.tmps.size≥fn.ntmps:=by
  simp only[a0,bL,cw]; omega
 have rt:(a0.put (some d5) rv).eval (.tmp d5)=rv:=by
  have:d5<a0.tmps.size:=aO uN fY
  simp[Act.eval,Act.put,aM,aY,this]
 obtain⟨tv,uO,ru⟩:∃tv,(Instr.typeAssert rv tA T true).run P w = .ok tv w∧VR N w G.fix G.heap tv tup:=by
  obtain⟨fs,mQ⟩:=mQ
  rcases oC with⟨rfl,rfl⟩|⟨v,rfl,rfl⟩
  ·cases oD
   obtain⟨zv,z1,z2,_⟩:=Nb (P:=P) (N:=N) (w:=w) (fix:=G.fix) (hp:=G.heap) hz
   refine⟨.tuple #[zv,.bool false],by simp[Instr.typeAssert,Sem.run_bind,run_underlying mQ,Result.andThen_ok,z1],.tuple _ _ rfl ?_⟩
   intro i c p hc hp
   match i,hc,hp with
   | 0,hc,hp=>simp at hc hp; subst hc hp; exact z2
   | 1,hc,hp=>simp at hc hp; subst hc hp; exact .bool _
  ·cases oD with
   | iface _ v' _ hv =>
     refine⟨.tuple #[v',.bool true],by simp[Instr.typeAssert,Sem.run_bind,run_underlying mQ,Result.andThen_ok,hT],.tuple _ _ rfl ?_⟩
     intro i c p hc hp
     match i,hc,hp with
     | 0,hc,hp=>simp at hc hp; subst hc hp; exact hv
     | 1,hc,hp=>simp at hc hp; subst hc hp; exact .bool _
 let a2:Act:=(a0.put (some d5) rv).put (some d6) tv
 have xX:∀{Q:Exit→Act→List Frame→World→Prop} {rest:List Nat},wpOpsSIn (W none) 0 P ops0 Q rest a2 cs' w→wpOpsSIn (W none) 0 P ops0 Q (1::rest) (a0.put (some d5) rv) cs' w:=by
  intro Q rest hw
  simp only[wpOpsSIn,h1]
  refine⟨λ_ _=>AE _,?_⟩
  have kc:(execOp (a0.put (some d5) rv).eval o1).run P w = .ok (.value tv) w:=by
   simp only[execOp,rn,rt,Sem.run_bind,uO,Result.andThen_ok,Sem.run_pure]
  simp only[Region.wanted,rp,if_true,kc,ro]
  exact hw
 refine xX ?_
 have cP:CO vs ops0.toList=true∧ET fn.ntmps ops0.toList=true∧Cw E vs ops0.toList ops0.toList=some pos0:=by
  unfold BE at kA
  split at kA
  ·rename_i hc
   simp only[al] at hc
   simp only[ai] at kA
   obtain⟨pos',h1,h2⟩:=kA
   simp only[bK,ay,if_false,aa] at h2
   subst h2
   exact⟨hc.1.1,hc.1.2,h1⟩
  ·simp at kA
 obtain⟨oF,dZ,oG⟩:=cP
 have nm:=Gw dk oF
 let G0:GS:={ G with df:=[] }
 have fU:FI N w G0 { vars:=(caps.map dem++List.replicate (nv - 2) PV.dead).set q tup,locs:=List.replicate pos0.length .dead,gen:=0,heap:=h } a2 vs (wq vs ops0.toList):=by
  have jL:a2.tmps.size=a0.tmps.size:=by simp[a2,Act.put]
  refine⟨?_,?_,?_,?_,?_,rfl,(by intro g b h; have h:G.box g=some b:=h; rw[d7.only.box] at h; simp at h),d7.owlt,d7.fixlt,d7.heap,d7.hdom⟩
  ·have:2<vs.length:=Nat.lt_of_le_of_lt hq (aj.1 qe).1
   simp[dm]; omega
  ·intro i t' u1 ib dS
   rw[aJ] at dS
   have rx:t'≠d5:=by
    rintro rfl
    have:=IE ib 0
    simp at oB
    rw[oB] at this
    simp at this
   by_cases ry:q=i
   ·subst ry
    rw[qe] at ib
    simp only[aa] at ib
    subst ib
    rw[ah rfl] at dS
    split at dS
    ·simp only[aa] at dS
     subst dS
     have eO:a2.eval (.tmp d6)=tv:=by
      have:d6<a0.tmps.size:=aO (cO _ (aw qe)) fY
      simp[a2,Act.eval,Act.put,aM,aY,this]
     rw[eO]
     refine SR.of_pure ru ?_
     rcases oC with⟨_,rfl⟩|⟨_,_,rfl⟩<;>rfl
    ·simp at dS
   ·rw[af ry] at dS
    have rz:t'≠d6:=by
     rintro rfl
     have uP:=(aj.1 qe)
     have jZ:=(aj.1 ib)
     obtain⟨p1,p2⟩:=uP
     obtain⟨p3,p4⟩:=jZ
     exact ry ((List.getElem_inj dk).1 (p2.trans p4.symm))
    have eO:a2.eval (.tmp t')=a0.eval (.tmp t'):=by
     simp only[a2,Act.eval,Act.put,aM,aY]
     rw[af (Ne.symm rz),af (Ne.symm rx)]
    rw[eO]
    by_cases hi:i<2
    ·have jB:t'=i:=by
      match i,hi with
      | 0,_=>rw[jt] at ib; simpa using ib.symm
      | 1,_=>rw[jb] at ib; simpa using ib.symm
     subst jB
     have hZ:t'<caps.length:=by rw[dm]; exact hi
     rw[am (by simpa using hZ)] at dS
     simp only[aB,an hZ,az,aa] at dS
     subst dS
     have jX:t'<vals.size:=by rw[cQ]; exact hZ
     have eO:a0.eval (.tmp t')=vals[t']:=by
      simp only[a0,Act.eval,aM]
      rw[bo jX]
      simp[jX]
     rw[eO]
     have hv:=cR t' vals[t'] caps[t'] (by simp[jX]) (an hZ)
     exact SR.of_pure hv.dem hv.cp_dem
    ·rw[ap (by rw[aS,dm]; omega)] at dS
     rw[cr] at dS
     split at dS
     ·simp at dS; subst dS; trivial
     ·simp at dS
  ·intro j t' u1 _ mC
   simp only[cr] at mC
   split at mC
   ·simp at mC; subst mC; trivial
   ·simp at mC
  ·intro i t' hi
   rw[jL]
   exact aO (cO _ (aw hi)) fY
  ·intro j t' hj
   rw[jL]
   exact aO (Gt dZ j t' hj) fY
 refine Ff ?_ ?_ ?_
 ·intro i hi o ho
  refine jf i ?_ o ho
  rw[List.mem_range'_1] at hi
  exact hi.1
 ·rintro⟨a,w,h⟩
  simp only[Exit.thenS,bodyPostS] at h
  obtain⟨u2,⟨v,hv⟩,_⟩:=h
  cases hv
 ·refine IC (L:=L0) Na hE hP nm (M9 0).call (by intro k args h r hc; simp[yc,L0] at hc) oG rq fU ?_
  intro a' w' G' ju he hs
  simp only[Exit.thenS]
  refine b7f λfid =>?_
  have jL:a2.tmps.size=a0.tmps.size:=by simp[a2,Act.put]
  have cW:=FI.finish (nt:=fn.ntmps) ju (by rw[hs,jL]; exact fY)
  refine Cx (L:=L0) (rd':=none) Na hE hP dy dk n (λm _=>M9 m) EX rr cW ?_ (.inl rfl) ?_ ?_
  ·intro ps kb vars hl
   rw[mP] at hl
   simp at hl
  ·rintro⟨a,w,h⟩
   simp only[bodyPostS] at h
   obtain⟨u2,⟨v,hv⟩,_⟩:=h
   cases hv
  ·intro a3 w3 G3 e th jY kh rA
   have cY:ExtD w G w3 G3:=ExtD.trans (ExtD.of he:ExtD w G0 w' G') kh
   have gt:G'.df=[]:=he.df
   have ec:G3.df=[]:=by
    have key:(∃ms,G3.df=ms++G'.df∧Marks w' w3 G3 ms∧((yC E fn.ntmps vs c2).NR=true→ms=[]))→G3.df=[]:=by
     rintro⟨ms,q1,_,q3⟩
     rw[q1,q3 iy,gt]; rfl
    rcases hx with rfl|rfl<;>exact key rA
   have dQ:bodyPostS P fn c₀ cs (λe u' w'=>(∃v,e = .returned v)∧settle u' = .returning∧∃G',Ext w G w' G'∧Between N w' G' h') .normal a3 cs' w3:=by
    refine⟨by rw[jY.fi.defers,ec],u',jg,.tuple #[],?_,⟨_,rfl⟩,wV,?_⟩
    ·unfold results
     rw[dl]
     simp
    ·obtain⟨l1,l2⟩:=D5 cY jY (DefW.refl _) (λ_ _=>rfl) st2.vars []
     rw[← dX]
     exact⟨_,l1,l2⟩
   rcases hx with rfl|rfl<;>(simp only[zz] at th; subst th; exact dQ)
def Ca:List PO:=[⟨.l,Cz,none⟩,⟨.v 4,Cz,none⟩,⟨.l,.mov (.v 4),none⟩,⟨.l,.extract 0 (.l 2),none⟩,⟨.l,.extract 1 (.l 2),none⟩,⟨.v 2,.newloc [.int .i64 0,.int .i64 0,.int .i64 0],none⟩,⟨.n,.store 3 true (.v 2) (.l 3),none⟩,⟨.v 3,.take (.l 4),none⟩]
def Ed:PC := .branch [⟨.l,.mov (.v 3),none⟩] (.l 0) (.region [⟨.l,.faddr 0 (.v 2),none⟩,⟨.l,.load 2 true (.l 0) false,none⟩,⟨.l,.faddr 2 (.v 2),none⟩,⟨.l,.load 1 false (.l 2) false,none⟩,⟨.n,.h (.storer 2 true (.v 0) (.l 1)),none⟩,⟨.n,.h (.storer 1 false (.v 1) (.l 3)),none⟩]) .skip
def C1:PV := .agg [.int .i64 0,.int .i64 0,.int .i64 0]
theorem c6i {t:Nat} {p:PV} {caps:List PV} {h h':List PObj} (hg:A0 t (p::caps) h=some h'):caps.length=2∧∃tup:PV,(p = .nilIface∧tup = .tuple [C1,.bool false]∨∃v,p = .iface t v∧tup = .tuple [v,.bool true]) ∧
   ∃n st1 x st2,yD (yc (wB L0 0) L0) Ca (List.range' 2 (8 - 2)) { vars:=(caps.map dem++List.replicate (5 - 2) PV.dead).set 4 tup,locs:=List.replicate Ca.length .dead,gen:=0,heap:=h }=some st1∧wB L0 n Ed (xP st1)=some (x,st2)∧(x = .normal∨x = .ret)∧st2.heap=h':=by
 have fin:∀{tup:PV} {st1:St} {x:PExit} {st2:St},zj (yc (wB L0 0) L0) 2 (Ca.drop 2) { vars:=(caps.map dem++List.replicate (5 - 2) PV.dead).set 4 tup,locs:=List.replicate Ca.length .dead,gen:=0,heap:=h }=some st1→evL L0 Ed (xP st1)=some (x,st2)→(x = .normal∨x = .ret)→st2.heap=h' →
   ∃n st1 x st2,yD (yc (wB L0 0) L0) Ca (List.range' 2 (8 - 2)) { vars:=(caps.map dem++List.replicate (5 - 2) PV.dead).set 4 tup,locs:=List.replicate Ca.length .dead,gen:=0,heap:=h }=some st1∧wB L0 n Ed (xP st1)=some (x,st2)∧(x = .normal∨x = .ret)∧st2.heap=h':=by
  intro tup st1 x st2 h1 h2 h3 h4
  obtain⟨n,hn⟩:=xG.1 h2
  rw[Gx (all:=Ca) rfl] at h1
  exact⟨n,st1,x,st2,h1,hn,h3,h4⟩
 unfold A0 at hg
 split at hg
 ·rename_i n m heq
  simp only[bx] at heq
  obtain⟨rfl,rfl⟩:=heq
  simp only[aa] at hg
  subst hg
  refine⟨rfl,_,.inl ⟨rfl,rfl⟩,fin (st1:=⟨[.ptr n 0,.ptr m 0,.loc 0 [.int .i64 0,.int .i64 0,.int .i64 0],.bool false,.tuple [C1,.bool false]],[.dead,.dead,.tuple [C1,.bool false],C1,.bool false,.dead,.dead,.dead],1,h⟩) (st2:=⟨[.ptr n 0,.ptr m 0,.loc 0 [.int .i64 0,.int .i64 0,.int .i64 0],.bool false,.tuple [C1,.bool false]],[],1,h⟩) ?_ ?_ (.inl rfl) rfl⟩
  ·simp[Ca,C1,Cz,wM]
  ·simp[Ed]
 ·rename_i t' k1 a k2 b k3 c n m heq
  simp only[bx] at heq
  obtain⟨rfl,rfl⟩:=heq
  split at hg
  ·rename_i hc
   obtain⟨rfl,dq⟩:=hc
   split at hg
   ·rename_i x1 x2 x3 hn hm
    simp only[aa] at hg
    subst hg
    refine⟨rfl,_,.inr ⟨_,rfl,rfl⟩,fin (st1:=⟨[.ptr n 0,.ptr m 0,.loc 0 [.int k1 a,.int k2 b,.int k3 c],.bool true,.tuple [.agg [.int k1 a,.int k2 b,.int k3 c],.bool true]],[.dead,.dead,.tuple [.agg [.int k1 a,.int k2 b,.int k3 c],.bool true],.agg [.int k1 a,.int k2 b,.int k3 c],.bool true,.dead,.dead,.dead],1,h⟩) (st2:=⟨[.ptr n 0,.ptr m 0,.loc 0 [.int k1 a,.int k2 b,.int k3 c],.bool true,.tuple [.agg [.int k1 a,.int k2 b,.int k3 c],.bool true]],[],1,(h.set n (.cells [.int k1 a,.int k2 b])).set m (.cells [.int k3 c])⟩) ?_ ?_ (.inl rfl) rfl⟩
    ·simp[Ca,C1,Cz,wM]
    ·have kW:(h.set n (.cells [.int k1 a,.int k2 b]))[m]? = some (.cells [x3]):=by rw[ao dq]; exact hm
     simp[Ed,wM,wD,hn,kW,PV.flat,Gm]
   ·simp at hg
  ·simp at hg
 ·simp at hg
theorem Nc (hE:EnvOk E N) (hP:E.P=P) (dy:P.follows .mixedOrders=true) (mP:E.lps=[]) {k:Nat} {fn:Func} {id0:Nat} {ops0:Array Oper} {c2:Code} {tA T t:Nat} {o0 o1:Oper} (hf:P.funcs[N.fn k]? = some fn) (hb:fn.body=some (.seq (.region id0 ops0 false) c2)) (dl:fn.results = #[])
  (h0:ops0[0]? = some o0) (oA:∃ts,o0.op = .call { callee := .builtin .recover,args := #[],argTypes:=ts }) (rk:o0.dst=some 5) (rm:o0.guard=none)
  (h1:ops0[1]? = some o1) (rn:o1.op = .typeAssert (.tmp 5) tA T true) (ro:o1.dst=some 6) (rp:o1.guard=none) (hT:N.ty t=T) (mQ:(match P.underlying T with | some (.struct _)=>true | _=>false)=true) (hz:D3 P T=some C1)
  (cQ:ops0.size=8) (jf:(ops0.toList.drop 2).all Fe=true) (oH:fn.ntmps=14) (kA:BE E 14 [0,1,2,3,6] ops0 false=some Ca) (my:yC E 14 [0,1,2,3,6] c2=Ed):CY N P k (A0 t):=by
 refine c17 hE hP dy mP (vs:=[0,1,2,3,6]) (d5:=5) (d6:=6) (q:=4) (nv:=5) hf hb dl h0 oA rk rm h1 rn ro rp hT (by split at mQ<;>first|exact⟨_,by assumption⟩|simp at mQ) hz ?_ (by rw[oH]; decide) rfl rfl (by decide) (by rw[oH]; decide) rfl (by omega) rfl rfl (by rw[oH]; exact kA) (by rw[oH,my]; rfl) ?_
 ·intro i hi o ho
  have:=aD.1 jf o
  refine this (aw (i:=i - 2) ?_)
  rw[aU,show 2+(i - 2)=i by omega]
  simpa using ho
 ·intro p caps h h' hg
  have:=c6i hg
  rw[cQ,oH,my]
  exact this
end
end PI
