import Derived.Test.YtljbhgpanekomaaGreatPiFunc
import Derived.Test.YtljbhgpanekomaaGreatPiWp
import Derived.RecoverIn
set_option linter.unusedSimpArgs false
set_option linter.unusedVariables false
set_option linter.unusedSectionVars false
namespace PI
open Go Go.RowKit
def AZ (t:Nat) (args:List PV) (h:List PObj):Option (List PObj):=
 match args with
 | [.nilIface,.ptr _ 0,.ptr _ 0]=>some h
 | [.iface t' (.agg [.int k1 a, .int k2 b, .int k3 c]), .ptr n 0, .ptr m 0] =>
   if t'=t∧n≠m then
    match h[n]?,h[m]? with
    | some (.cells [_,_]),some (.cells [_])=>some ((h.set n (.cells [.int k1 a,.int k2 b])).set m (.cells [.int k3 c]))
    | _,_=>none
   else none
 | _=>none
def Gg (o:Oper):Bool:=
 match o.op with
 | .move _ | .assign _ | .extract _ _ | .alloc _ | .store _ _ _ | .load _ _ | .fieldAddr _ _ _=>true
 | _=>false
section
variable {P:Program} {w:World}
theorem c2L {o:Oper} (h:Gg o=true) {ρ:Operand→Value}:(∀r w',(execOp ρ o).run P w = .ok r w'→(∃v,r = .value v)∨r = .skip)∧True:=by
 refine⟨?_,trivial⟩
 intro r w' hr
 have val:∀(s:Sem Value),(do pure (.value (← s)):Sem Next).run P w = .ok r w'→∃v,r = .value v:=by
  intro s hs
  rw[Sem.run_bind] at hs
  cases hx:s.run P w with
  | ok v w1=>rw[hx] at hs; simp only[Result.andThen_ok,Sem.run_pure,Result.ok.injEq] at hs; exact⟨v,hs.1.symm⟩
  | halt x w1=>rw[hx] at hs; simp[Result.andThen] at hs
 have unit:∀(s:Sem Unit),(do s; pure .skip:Sem Next).run P w = .ok r w'→r = .skip:=by
  intro s hs
  rw[Sem.run_bind] at hs
  cases hx:s.run P w with
  | ok v w1=>rw[hx] at hs; simp only[Result.andThen_ok,Sem.run_pure,Result.ok.injEq] at hs; exact hs.1.symm
  | halt x w1=>rw[hx] at hs; simp[Result.andThen] at hs
 unfold Gg at h
 unfold execOp at hr
 cases cP:o.op<;>rw[cP] at h hr<;>simp only[reduceCtorEq,aH] at h
 all_goals first
  | exact .inl (val _ hr)
  | exact .inr (unit _ hr)
  | (simp only[Sem.run_pure,Result.ok.injEq] at hr; exact .inl ⟨_,hr.1.symm⟩)
theorem Gh {ops:Array Oper} {Q:Exit→Act→List Frame→World→Prop} {cs:List Frame}:∀{l:List Nat} {a:Act} {w:World},(∀i∈l,∀o,ops[i]? = some o→Gg o=true)→¬LetsOut (λe a w=>Q e a cs w) →
  wpOps P ops (λe a w=>Q e a cs w) l a w→wpOpsSIn (W none) 0 P ops Q l a cs w
 | [],a,w,_,_,h=>h
 | i :: l, a, w, hp, hQ, h => by
   simp only[wpOps] at h
   simp only[wpOpsSIn]
   cases ho:ops[i]? with
   | none=>simp only[ho] at h ⊢; exact Gh (λj hj=>hp j (by simp[hj])) hQ h
   | some o =>
     simp only[ho] at h ⊢
     refine⟨λ_ _=>AF _,?_⟩
     split at h
     ·rename_i hw
      rw[ah hw]
      rcases h with h|⟨_,h⟩
      ·unfold Oper.wp at h
       have eA:=(c2L (P:=P) (w:=w) (hp i (by simp) o ho) (ρ:=a.eval)).1
       generalize (execOp a.eval o).run P w=res at h eA
       cases res with
       | ok r w' =>
         rcases eA r w' rfl with⟨v,rfl⟩|rfl
         ·exact Gh (λj hj=>hp j (by simp[hj])) hQ h
         ·exact Gh (λj hj=>hp j (by simp[hj])) hQ h
       | halt x w'=>cases x<;>simp only[Oper.upon] at h ⊢<;>first | exact h | exact h.elim
      ·exact absurd h hQ
     ·rename_i hw
      rw[af hw]
      exact Gh (λj hj=>hp j (by simp[hj])) hQ h
theorem b7j {c:Code} {Q:Exit→Act→List Frame→World→Prop} {a:Act} {cs:List Frame} (h:∀fid,wpN none fid P c (λe a w=>Q e a cs w) a w):c.wpSIn (W none) 0 P Q a cs w:=by
 intro b k _ hr _ _
 obtain⟨e,a',w',q,r⟩:=h b.fn b k cs hr rfl
 exact⟨e,a',cs,w',rfl,q,r⟩
end
section
variable {E:Env} {N:Nm} {P:Program}
def L0:Nat→Option PFunc:=λ_=>none
theorem QJ (n:Nat):Runs N P L0 n:=by
 refine⟨⟨?_,?_⟩,?_,?_,?_⟩
 ·intro k args r h h' hc; simp[xH,L0] at hc
 ·intro k own args r h' hc; simp[xH,L0] at hc
 ·intro k args o h h' hc; simp[yc,L0] at hc
 ·intro k y n l tmps caps args o h h' _ hc; simp[yc,L0] at hc
 ·intro k hk; simp[CG,L0] at hk
theorem QK:x7 N P L0:=by intro k f h; simp[L0] at h
theorem c2M (hE:EnvOk E N) (hP:E.P=P) (dz:P.follows .mixedOrders=true) (mS:E.lps=[]) {k:Nat} {fn:Func} {id0:Nat} {ops0:Array Oper} {c2:Code} {vs:List Tmp} {pos0:List PO} {d5 d6:Tmp} {tA T t:Nat} {z:PV} {nv q:Nat} {o0 o1:Oper} {g:List PV→List PObj→Option (List PObj)}
  (hf:P.funcs[N.fn k]? = some fn) (hb:fn.body=some (.seq (.region id0 ops0 false) c2)) (dN:fn.results = #[])
  (h0:ops0[0]? = some o0) (oW:∃ts,o0.op = .call { callee := .builtin .recover,args := #[],argTypes:=ts }) (rW:o0.dst=some d5) (rX:o0.guard=none)
  (h1:ops0[1]? = some o1) (rY:o1.op = .typeAssert (.tmp d5) tA T true) (rZ:o1.dst=some d6) (r5:o1.guard=none) (hT:N.ty t=T) (mT:∃fs,P.underlying T=some (.struct fs)) (hz:Ep P T=some z)
  (iX:∀i,2≤i→∀o,ops0[i]? = some o→Gg o=true) (vF:d5<fn.ntmps) (oX:(xB d5 vs 0).isNone=true) (p7:vs[q]? = some d6)
  (dr:vs.Nodup) (cS:∀t∈vs,t<fn.ntmps) (hnv:vs.length=nv) (hq:2≤q) (jg:vs[0]? = some 0) (gB:vs[1]? = some 1)
  (kw:BC E fn.ntmps vs ops0 false=some pos0) (ik:(yk E fn.ntmps vs c2).NR=true)
  (cQ:∀p caps h h',g (p::caps) h=some h'→caps.length=2∧∃tup:PV,(p = .nilIface∧tup = .tuple [z,.bool false]∨∃v,p = .iface t v∧tup = .tuple [v,.bool true]) ∧
   ∃n st1 x st2,ym (xH (wn L0 0) L0) pos0 (List.range' 2 (ops0.size - 2)) { vars:=(caps.map dem++List.replicate (nv - 2) PV.dead).set q tup,locs:=List.replicate pos0.length .dead,gen:=0,heap:=h }=some st1∧wn L0 n (yk E fn.ntmps vs c2) (xk st1)=some (x,st2)∧(x = .normal∨x = .ret)∧st2.heap=h'):
  CK N P k g:=by
 intro p caps h h' hg w G vals dU cV cW u hu
 obtain⟨dt,tup,oY,n,st1,x,st2,r6,r7,hx,d8⟩:=cQ p caps h h' hg
 refine callsDIn_of_wpSIn (F:=W none) hf hb (AF _) ?_
 intro c₀ cs ky
 refine wpSIn_seq (wpSIn_region ?_)
 have el:2≤ops0.size:=by have:=(aV.1 h1).1; omega
 have iQ:List.range ops0.size=0::1::List.range' 2 (ops0.size - 2):=by
  obtain⟨m,hm⟩:∃m,ops0.size=m+2:=⟨ops0.size - 2,by omega⟩
  rw[hm,cH,List.range'_succ,List.range'_succ]
  rfl
 rw[iQ]
 obtain⟨rv,u',cs',ef,wG,ix,oZ⟩:∃rv u',∃cs':List Frame,(match recoverD (c₀::cs) with | some (v,cs')=>(v,cs') | none=>(.nilIface,c₀::cs))=(rv,cs')∧settle u' = .returning∧cs'={ c₀ with mode:=u' }::cs∧VR N w G.fix G.heap rv p:=by
  rcases hu with⟨rfl,rfl⟩|⟨v,rfl,hv⟩
  ·refine⟨.nilIface,.returning,c₀::cs,?_,rfl,by rw[← ky],.nilIface⟩
   simp[recoverD,ky]
  ·refine⟨v,.panicking [{ v,recovered:=true }],_,?_,rfl,rfl,hv⟩
   simp[recoverD,ky]
 let a0:Act:={ tmps:=vals++Array.replicate (fn.ntmps - vals.size) undef,defers:=[] }
 have step0:∀{Q:Exit→Act→List Frame→World→Prop} {rest:List Nat},wpOpsSIn (W none) 0 P ops0 Q rest (a0.put (some d5) rv) cs' w→wpOpsSIn (W none) 0 P ops0 Q (0::rest) a0 (c₀::cs) w:=by
  intro Q rest hw
  obtain⟨ts,oW⟩:=oW
  simp only[wpOpsSIn,h0]
  refine⟨λ_ _=>AF _,?_⟩
  have o4:(execOp a0.eval o0).run P w = .ok .recover w:=by
   simp[execOp,oW,resolve,invoke,builtin]
  simp only[Region.wanted,rX,if_true,o4,rW]
  cases hr:recoverD (c₀::cs) with
  | none=>rw[hr] at ef; simp only[ac] at ef; obtain⟨rfl,rfl⟩:=ef; exact hw
  | some y=>obtain⟨v,cs2⟩:=y; rw[hr] at ef; simp only[ac] at ef; obtain⟨rfl,rfl⟩:=ef; exact hw
 refine step0 ?_
 have ga:a0.tmps.size≥fn.ntmps:=by
  simp only[a0,bV,cF]; omega
 have r8:(a0.put (some d5) rv).eval (.tmp d5)=rv:=by
  have:d5<a0.tmps.size:=aN vF ga
  simp[Act.eval,Act.put,aT,be,this]
 obtain⟨tv,vG,r9⟩:∃tv,(Instr.typeAssert rv tA T true).run P w = .ok tv w∧VR N w G.fix G.heap tv tup:=by
  obtain⟨fs,mT⟩:=mT
  rcases oY with⟨rfl,rfl⟩|⟨v,rfl,rfl⟩
  ·cases oZ
   obtain⟨zv,z1,z2,_⟩:=QL (P:=P) (N:=N) (w:=w) (fix:=G.fix) (hp:=G.heap) hz
   refine⟨.tuple #[zv,.bool false],by simp[Instr.typeAssert,Sem.run_bind,run_underlying mT,Result.andThen_ok,z1],.tuple _ _ rfl ?_⟩
   intro i c p hc hp
   match i,hc,hp with
   | 0,hc,hp=>simp at hc hp; subst hc hp; exact z2
   | 1,hc,hp=>simp at hc hp; subst hc hp; exact .bool _
  ·cases oZ with
   | iface _ v' _ hv =>
     refine⟨.tuple #[v',.bool true],by simp[Instr.typeAssert,Sem.run_bind,run_underlying mT,Result.andThen_ok,hT],.tuple _ _ rfl ?_⟩
     intro i c p hc hp
     match i,hc,hp with
     | 0,hc,hp=>simp at hc hp; subst hc hp; exact hv
     | 1,hc,hp=>simp at hc hp; subst hc hp; exact .bool _
 let a2:Act:=(a0.put (some d5) rv).put (some d6) tv
 have w9:∀{Q:Exit→Act→List Frame→World→Prop} {rest:List Nat},wpOpsSIn (W none) 0 P ops0 Q rest a2 cs' w→wpOpsSIn (W none) 0 P ops0 Q (1::rest) (a0.put (some d5) rv) cs' w:=by
  intro Q rest hw
  simp only[wpOpsSIn,h1]
  refine⟨λ_ _=>AF _,?_⟩
  have j9:(execOp (a0.put (some d5) rv).eval o1).run P w = .ok (.value tv) w:=by
   simp only[execOp,rY,r8,Sem.run_bind,vG,Result.andThen_ok,Sem.run_pure]
  simp only[Region.wanted,r5,if_true,j9,rZ]
  exact hw
 refine w9 ?_
 have cT:CZ vs ops0.toList=true∧FX fn.ntmps ops0.toList=true∧Cx E vs ops0.toList ops0.toList=some pos0:=by
  unfold BC at kw
  split at kw
  ·rename_i hc
   simp only[ak] at hc
   simp only[ae] at kw
   obtain⟨pos',h1,h2⟩:=kw
   simp only[bG,aH,if_false,aa] at h2
   subst h2
   exact⟨hc.1.1,hc.1.2,h1⟩
  ·simp at kw
 obtain⟨o5,ea,o6⟩:=cT
 have nm:=HL dr o5
 let G0:GS:={ G with df:=[] }
 have fU:FI N w G0 { vars:=(caps.map dem++List.replicate (nv - 2) PV.dead).set q tup,locs:=List.replicate pos0.length .dead,gen:=0,heap:=h } a2 vs (wh vs ops0.toList):=by
  have jD:a2.tmps.size=a0.tmps.size:=by simp[a2,Act.put]
  refine⟨?_,?_,?_,?_,?_,rfl,(by intro g b h; have h:G.box g=some b:=h; rw[dU.only.box] at h; simp at h),dU.owlt,dU.fixlt,dU.heap,dU.hdom⟩
  ·have:2<vs.length:=Nat.lt_of_le_of_lt hq (ai.1 p7).1
   simp[dt]; omega
  ·intro i t' u1 fY ed
   rw[aO] at ed
   have sa:t'≠d5:=by
    rintro rfl
    have:=KN fY 0
    simp at oX
    rw[oX] at this
    simp at this
   by_cases sb:q=i
   ·subst sb
    rw[p7] at fY
    simp only[aa] at fY
    subst fY
    rw[ah rfl] at ed
    split at ed
    ·simp only[aa] at ed
     subst ed
     have eO:a2.eval (.tmp d6)=tv:=by
      have:d6<a0.tmps.size:=aN (cS _ (av p7)) ga
      simp[a2,Act.eval,Act.put,aT,be,this]
     rw[eO]
     refine SR.of_pure r9 ?_
     rcases oY with⟨_,rfl⟩|⟨_,_,rfl⟩<;>rfl
    ·simp at ed
   ·rw[af sb] at ed
    have sc:t'≠d6:=by
     rintro rfl
     have vH:=(ai.1 p7)
     have ii:=(ai.1 fY)
     obtain⟨p1,p2⟩:=vH
     obtain⟨p3,p4⟩:=ii
     exact sb ((List.getElem_inj dr).1 (p2.trans p4.symm))
    have eO:a2.eval (.tmp t')=a0.eval (.tmp t'):=by
     simp only[a2,Act.eval,Act.put,aT,be]
     rw[af (Ne.symm sc),af (Ne.symm sa)]
    rw[eO]
    by_cases hi:i<2
    ·have kN:t'=i:=by
      match i,hi with
      | 0,_=>rw[jg] at fY; simpa using fY.symm
      | 1,_=>rw[gB] at fY; simpa using fY.symm
     subst kN
     have ia:t'<caps.length:=by rw[dt]; exact hi
     rw[am (by simpa using ia)] at ed
     simp only[az,al ia,aB,aa] at ed
     subst ed
     have jM:t'<vals.size:=by rw[cV]; exact ia
     have eO:a0.eval (.tmp t')=vals[t']:=by
      simp only[a0,Act.eval,aT]
      rw[bm jM]
      simp[jM]
     rw[eO]
     have hv:=cW t' vals[t'] caps[t'] (by simp[jM]) (al ia)
     exact SR.of_pure hv.dem hv.cp_dem
    ·rw[ar (by rw[aA,dt]; omega)] at ed
     rw[cE] at ed
     split at ed
     ·simp at ed; subst ed; trivial
     ·simp at ed
  ·intro j t' u1 _ mI
   simp only[cE] at mI
   split at mI
   ·simp at mI; subst mI; trivial
   ·simp at mI
  ·intro i t' hi
   rw[jD]
   exact aN (cS _ (av hi)) ga
  ·intro j t' hj
   rw[jD]
   exact aN (HI ea j t' hj) ga
 refine Gh ?_ ?_ ?_
 ·intro i hi o ho
  refine iX i ?_ o ho
  rw[List.mem_range'_1] at hi
  exact hi.1
 ·rintro⟨a,w,h⟩
  simp only[Exit.thenS,bodyPostS] at h
  obtain⟨u2,⟨v,hv⟩,_⟩:=h
  cases hv
 ·refine KL (L:=L0) QK hE hP nm (QJ 0).call (by intro k args h r hc; simp[xH,L0] at hc) o6 r6 fU ?_
  intro a' w' G' hZ he hs
  simp only[Exit.thenS]
  refine b7j λfid =>?_
  have jD:a2.tmps.size=a0.tmps.size:=by simp[a2,Act.put]
  have da:=FI.finish (nt:=fn.ntmps) hZ (by rw[hs,jD]; exact ga)
  refine Cy (L:=L0) (rd':=none) QK hE hP dz dr n (λm _=>QJ m) F0 r7 da ?_ (.inl rfl) ?_ ?_
  ·intro ps kb vars hl
   rw[mS] at hl
   simp at hl
  ·rintro⟨a,w,h⟩
   simp only[bodyPostS] at h
   obtain⟨u2,⟨v,hv⟩,_⟩:=h
   cases hv
  ·intro a3 w3 G3 e tQ kQ kg sd
   have dJ:ExtD w G w3 G3:=ExtD.trans (ExtD.of he:ExtD w G0 w' G') kg
   have gt:G'.df=[]:=he.df
   have eV:G3.df=[]:=by
    have key:(∃ms,G3.df=ms++G'.df∧Marks w' w3 G3 ms∧((yk E fn.ntmps vs c2).NR=true→ms=[]))→G3.df=[]:=by
     rintro⟨ms,q1,_,q3⟩
     rw[q1,q3 ik,gt]; rfl
    rcases hx with rfl|rfl<;>exact key sd
   have fH:bodyPostS P fn c₀ cs (λe u' w'=>(∃v,e = .returned v)∧settle u' = .returning∧∃G',Ext w G w' G'∧Between N w' G' h') .normal a3 cs' w3:=by
    refine⟨by rw[kQ.fi.defers,eV],u',ix,.tuple #[],?_,⟨_,rfl⟩,wG,?_⟩
    ·unfold results
     rw[dN]
     simp
    ·obtain⟨l1,l2⟩:=Es dJ kQ (DefW.refl _) (λ_ _=>rfl) st2.vars []
     rw[← d8]
     exact⟨_,l1,l2⟩
   rcases hx with rfl|rfl<;>(simp only[zp] at tQ; subst tQ; exact fH)
def Cf:List PO:=[⟨.l,CA,none⟩,⟨.v 4,CA,none⟩,⟨.l,.mov (.v 4),none⟩,⟨.l,.extract 0 (.l 2),none⟩,⟨.l,.extract 1 (.l 2),none⟩,⟨.v 2,.newloc [.int .i64 0,.int .i64 0,.int .i64 0],none⟩,⟨.n,.store 3 true (.v 2) (.l 3),none⟩,⟨.v 3,.take (.l 4),none⟩]
def EC:PC := .branch [⟨.l,.mov (.v 3),none⟩] (.l 0) (.region [⟨.l,.faddr 0 (.v 2),none⟩,⟨.l,.load 2 true (.l 0) false,none⟩,⟨.l,.faddr 2 (.v 2),none⟩,⟨.l,.load 1 false (.l 2) false,none⟩,⟨.n,.h (.storer 2 true (.v 0) (.l 1)),none⟩,⟨.n,.h (.storer 1 false (.v 1) (.l 3)),none⟩]) .skip
def Da:PV := .agg [.int .i64 0,.int .i64 0,.int .i64 0]
theorem c7C {t:Nat} {p:PV} {caps:List PV} {h h':List PObj} (hg:AZ t (p::caps) h=some h'):caps.length=2∧∃tup:PV,(p = .nilIface∧tup = .tuple [Da,.bool false]∨∃v,p = .iface t v∧tup = .tuple [v,.bool true]) ∧
   ∃n st1 x st2,ym (xH (wn L0 0) L0) Cf (List.range' 2 (8 - 2)) { vars:=(caps.map dem++List.replicate (5 - 2) PV.dead).set 4 tup,locs:=List.replicate Cf.length .dead,gen:=0,heap:=h }=some st1∧wn L0 n EC (xk st1)=some (x,st2)∧(x = .normal∨x = .ret)∧st2.heap=h':=by
 have fin:∀{tup:PV} {st1:St} {x:PExit} {st2:St},yG (xH (wn L0 0) L0) 2 (Cf.drop 2) { vars:=(caps.map dem++List.replicate (5 - 2) PV.dead).set 4 tup,locs:=List.replicate Cf.length .dead,gen:=0,heap:=h }=some st1→evL L0 EC (xk st1)=some (x,st2)→(x = .normal∨x = .ret)→st2.heap=h' →
   ∃n st1 x st2,ym (xH (wn L0 0) L0) Cf (List.range' 2 (8 - 2)) { vars:=(caps.map dem++List.replicate (5 - 2) PV.dead).set 4 tup,locs:=List.replicate Cf.length .dead,gen:=0,heap:=h }=some st1∧wn L0 n EC (xk st1)=some (x,st2)∧(x = .normal∨x = .ret)∧st2.heap=h':=by
  intro tup st1 x st2 h1 h2 h3 h4
  obtain⟨n,hn⟩:=xf.1 h2
  rw[HM (all:=Cf) rfl] at h1
  exact⟨n,st1,x,st2,h1,hn,h3,h4⟩
 unfold AZ at hg
 split at hg
 ·rename_i n m heq
  simp only[bw] at heq
  obtain⟨rfl,rfl⟩:=heq
  simp only[aa] at hg
  subst hg
  refine⟨rfl,_,.inl ⟨rfl,rfl⟩,fin (st1:=⟨[.ptr n 0,.ptr m 0,.loc 0 [.int .i64 0,.int .i64 0,.int .i64 0],.bool false,.tuple [Da,.bool false]],[.dead,.dead,.tuple [Da,.bool false],Da,.bool false,.dead,.dead,.dead],1,h⟩) (st2:=⟨[.ptr n 0,.ptr m 0,.loc 0 [.int .i64 0,.int .i64 0,.int .i64 0],.bool false,.tuple [Da,.bool false]],[],1,h⟩) ?_ ?_ (.inl rfl) rfl⟩
  ·simp[Cf,Da,CA,wO]
  ·simp[EC]
 ·rename_i t' k1 a k2 b k3 c n m heq
  simp only[bw] at heq
  obtain⟨rfl,rfl⟩:=heq
  split at hg
  ·rename_i hc
   obtain⟨rfl,iK⟩:=hc
   split at hg
   ·rename_i x1 x2 x3 hn hm
    simp only[aa] at hg
    subst hg
    refine⟨rfl,_,.inr ⟨_,rfl,rfl⟩,fin (st1:=⟨[.ptr n 0,.ptr m 0,.loc 0 [.int k1 a,.int k2 b,.int k3 c],.bool true,.tuple [.agg [.int k1 a,.int k2 b,.int k3 c],.bool true]],[.dead,.dead,.tuple [.agg [.int k1 a,.int k2 b,.int k3 c],.bool true],.agg [.int k1 a,.int k2 b,.int k3 c],.bool true,.dead,.dead,.dead],1,h⟩) (st2:=⟨[.ptr n 0,.ptr m 0,.loc 0 [.int k1 a,.int k2 b,.int k3 c],.bool true,.tuple [.agg [.int k1 a,.int k2 b,.int k3 c],.bool true]],[],1,(h.set n (.cells [.int k1 a,.int k2 b])).set m (.cells [.int k3 c])⟩) ?_ ?_ (.inl rfl) rfl⟩
    ·simp[Cf,Da,CA,wO]
    ·have jL:(h.set n (.cells [.int k1 a,.int k2 b]))[m]? = some (.cells [x3]):=by rw[aq iK]; exact hm
     simp[EC,wO,wq,hn,jL,PV.flat,Gt]
   ·simp at hg
  ·simp at hg
 ·simp at hg
theorem Mx (hE:EnvOk E N) (hP:E.P=P) (dz:P.follows .mixedOrders=true) (mS:E.lps=[]) {k:Nat} {fn:Func} {id0:Nat} {ops0:Array Oper} {c2:Code} {tA T t:Nat} {o0 o1:Oper} (hf:P.funcs[N.fn k]? = some fn) (hb:fn.body=some (.seq (.region id0 ops0 false) c2)) (dN:fn.results = #[])
  (h0:ops0[0]? = some o0) (oW:∃ts,o0.op = .call { callee := .builtin .recover,args := #[],argTypes:=ts }) (rW:o0.dst=some 5) (rX:o0.guard=none)
  (h1:ops0[1]? = some o1) (rY:o1.op = .typeAssert (.tmp 5) tA T true) (rZ:o1.dst=some 6) (r5:o1.guard=none) (hT:N.ty t=T) (mT:(match P.underlying T with | some (.struct _)=>true | _=>false)=true) (hz:Ep P T=some Da)
  (cV:ops0.size=8) (iX:(ops0.toList.drop 2).all Gg=true) (o7:fn.ntmps=14) (kw:BC E 14 [0,1,2,3,6] ops0 false=some Cf) (nC:yk E 14 [0,1,2,3,6] c2=EC):CK N P k (AZ t):=by
 refine c2M hE hP dz mS (vs:=[0,1,2,3,6]) (d5:=5) (d6:=6) (q:=4) (nv:=5) hf hb dN h0 oW rW rX h1 rY rZ r5 hT (by split at mT<;>first|exact⟨_,by assumption⟩|simp at mT) hz ?_ (by rw[o7]; decide) rfl rfl (by decide) (by rw[o7]; decide) rfl (by omega) rfl rfl (by rw[o7]; exact kw) (by rw[o7,nC]; rfl) ?_
 ·intro i hi o ho
  have:=aK.1 iX o
  refine this (av (i:=i - 2) ?_)
  rw[aX,show 2+(i - 2)=i by omega]
  simpa using ho
 ·intro p caps h h' hg
  have:=c7C hg
  rw[cV,o7,nC]
  exact this
end
end PI
