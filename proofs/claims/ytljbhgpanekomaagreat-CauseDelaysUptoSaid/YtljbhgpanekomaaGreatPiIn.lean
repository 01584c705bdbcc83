import Derived.Test.YtljbhgpanekomaaGreatPiSound9
import Derived.RangeFuncLeaves
import Derived.RangeFuncIn
import Derived.LoopNIn
import Derived.OrdersIn
import Derived.BigRegion
import Derived.RangeFuncRecord
set_option linter.unusedSimpArgs false
set_option linter.unusedVariables false
set_option linter.unusedSectionVars false
namespace PI
open Go
def W (r:Option Nat):Fence:={ Fence.wide with round:=r }
section
variable {P:Program} {r:Option Nat} {n:Nat} {ops:Array Oper} {Q:Exit→Act→World→Prop}
theorem AF (f:FuncId):(W r).fn f:=trivial
theorem F7 (k:Nat):(W r).room k:=λd h=>by simp[W,Fence.wide] at h
theorem Eu:(W r).depth.isSome=true→1≤n:=λh=>by simp[W,Fence.wide] at h
theorem HU {f:FuncId} {args:Array Value} {w:World} {R:Ending→World→Prop} (h:Calls P f args w R):CallsIn (W r) n P f args w R:=(callsIn_wide (n:=n)).2 h
theorem c0J {f:FuncId} {args:Array Value} {w:World} {R:Ending→World→Prop} (h:CallsIn (W r) n P f args w R):Calls P f args w R:=(callsIn_wide (n:=n)).1 h
theorem d4B {row:String} {args:Array Value} {w:World} {R:Value→World→Prop} (h:Rows P row args w R):RowsIn (W r) n P row args w R:=
 λc cs _=>let ⟨v,w',hr,hs⟩:=h c cs; ⟨v,w',hr,stepsIn_wide.2 hs⟩
theorem c7s {o:Oper} {a:Act} {w:World} {K:Act→World→Prop} (hd:∀c,o.op≠.defer c) (h:o.wp P a w K Q):o.wpIn (W r) n P a w K Q:=by
 refine⟨λ_ _=>AF _,?_⟩
 rw[Oper.semAt_eq _ _ _ hd]
 unfold Oper.wp at h
 generalize (execOp a.eval o).run P w=res at h
 cases res with
 | ok x w' =>
   cases x<;>simp only[Oper.upon] at h<;>simp only[Oper.uponIn]<;>first|exact h|exact⟨Eu,HU h⟩|exact⟨Eu,d4B h⟩|exact h.elim
 | halt x w'=>cases x<;>simp only[Oper.upon] at h<;>simp only[Oper.uponIn]<;>first | exact h | exact h.elim
theorem KO {i:Nat} {a:Act} {w:World} {K:Act→World→Prop} (hd:∀o c,ops[i]? = some o→o.op≠.defer c) (hQ:¬LetsOut Q) (h:wpOp P ops Q i K a w):wpOpIn (W r) n P ops Q i K a w:=by
 unfold wpOp at h
 unfold wpOpIn
 split
 ·rename_i ho; simp only[ho] at h; exact h
 ·rename_i o ho
  simp only[ho] at h
  split
  ·rename_i hw
   simp only[hw,if_true] at h
   rcases h with h|h
   ·exact c7s (λc=>hd o c ho) h
   ·exact absurd h.2 hQ
  ·rename_i hw
   simp only[hw] at h
   exact⟨λ_ _=>AF _,h⟩
theorem KK (hd:∀(i:Nat) o c,ops[i]? = some o→o.op≠.defer c) (hQ:¬LetsOut Q):∀{l:List Nat} {a:Act} {w:World},wpOps P ops Q l a w→wpOpsIn (W r) n P ops Q l a w
 | [],_,_,h=>h
 | i :: l, a, w, h => by
   rw[wpOps_cons] at h
   rw[wpOpsIn_cons]
   exact wpOpIn_mono (λa w h=>KK hd hQ h) (KO (λo c=>hd i o c) hQ h)
def Lb (P:Program) (l:Nat) (R:Ending→World→Prop):Exit→Act→World→Prop
 | .normal,_,w=>∃v w',(Instr.endRound l none).run P w = .ok v w'∧R (.returned v) w'
 | .ret,_,w=>∃v w',(Instr.endRound l (some .ret)).run P w = .ok v w'∧R (.returned v) w'
 | .exit id,_,w=>∃v w',(Instr.endRound l (some (.exit id))).run P w = .ok v w'∧R (.returned v) w'
 | .panic chain,a,w=>a.defers=[]∧R (.panicked chain) w
 | _,_,_=>False
theorem zH (m:Machine):m.fenced P (W r):=fenced_wide P m
theorem b2q {fr c:Frame} {cs:List Frame} {w:World} {chain:List PanicEntry} {fn:Func} (hm:fr.mode = .panicking chain) (hd:fr.defers=[]) (hf:P.funcs[fr.fn]? = some fn):
  step P (lone fr (c::cs) w) = .next (lone (c.raise chain) cs w):=
 step_lone_go (by simp[stepG,unwind,Frame.catches,hm,hd,hf])
end
noncomputable def zG (cf:wm) (ob:xX) (pos:List PO):List Nat→St→Option (Option PV×St)
 | [],st=>some (none,st)
 | i :: l, st =>
   match pos[i]? with
   | some p => match yu cf ob i p st with
     | some (none,st)=>zG cf ob pos l st
     | r=>r
   | none=>none
section
variable {cf:wm} {ob:xX} {pos:List PO}
theorem Qc {j:Nat} {p:PO} {st:St} (h:isB p=false):yu cf ob j p st=(w9 cf j p st).map λst=>(none,st):=by
 unfold yu
 unfold isB at h
 split
 ·rename_i h1 h2; rw[h1] at h; simp at h
 ·rename_i h1 h2; rw[h1] at h; simp at h
 ·rename_i h1 h2; rw[h1] at h; simp at h
 ·rename_i h1 h2; rw[h1] at h; simp at h
 ·rfl
theorem Ld:∀{l:List Nat} {st:St},(∀i∈l,∀p,pos[i]? = some p→isB p=false)→zG cf ob pos l st=(ym cf pos l st).map λst=>(none,st)
 | [],st,_=>rfl
 | i :: l, st, h => by
   simp only[zG,ym]
   cases hp:pos[i]? with
   | none=>rfl
   | some p =>
     simp only[Qc (h i (by simp) p hp)]
     cases w9 cf i p st with
     | none=>rfl
     | some st1=>simpa using Ld (λj hj=>h j (by simp[hj]))
theorem Le:∀(l1 l2:List Nat) (st:St),zG cf ob pos (l1++l2) st=match zG cf ob pos l1 st with
  | some (none,st)=>zG cf ob pos l2 st
  | r=>r
 | [],l2,st=>rfl
 | i :: l1, l2, st => by
   simp only[aL,zG]
   cases hp:pos[i]? with
   | none=>rfl
   | some p =>
     simp only
     cases yu cf ob i p st with
     | none=>rfl
     | some x =>
       obtain⟨y,st1⟩:=x
       cases y with
       | none=>exact Le l1 l2 st1
       | some v=>rfl
theorem PB {all:List PO}:∀{os:List PO} {j:Nat} {st:St},all.drop j=os→xI cf ob j os st=zG cf ob all (List.range' j os.length) st
 | [],j,st,_=>rfl
 | o :: os, j, st, h => by
   have hj:all[j]? = some o:=by
    have:=aF List.head? h
    simpa[List.head?_drop] using this
   have ht:all.drop (j+1)=os:=by
    have:=aF List.tail h
    simpa[List.tail_drop] using this
   simp only[xI,aI,List.range'_succ,zG,hj]
   cases yu cf ob j o st with
   | none=>rfl
   | some x =>
     obtain⟨y,st1⟩:=x
     cases y with
     | none=>exact PB ht
     | some v=>rfl
theorem b8O {i:Nat} {q:PO} (hi:pos[i]? = some q) {pre post:List Nat} {st:St} {r:Option PV×St} (hb:pre≠[]→isB q=false) (fP:∀j∈pre,∀p,pos[j]? = some p→isB p=false)
  (hc:∀j∈pre,j≠i∧∀p,pos[j]? = some p→Ew j p i q=true) (h:zG cf ob pos (pre++i::post) st=some r):zG cf ob pos (i::(pre++post)) st=some r:=by
 cases pre with
 | nil=>exact h
 | cons j0 pre0 =>
   have hq:isB q=false:=hb (by simp)
   generalize fE:j0::pre0=pre at *
   have e1:pre++i::post=(pre++[i])++post:=by simp
   have e2:i::(pre++post)=(i::pre)++post:=rfl
   have p1:∀k∈pre++[i],∀p,pos[k]? = some p→isB p=false:=by
    intro k hk p hp
    rcases ay.1 hk with hk|hk
    ·exact fP k hk p hp
    ·simp at hk; subst hk; rw[hi] at hp; simp at hp; subst hp; exact hq
   have p2:∀k∈i::pre,∀p,pos[k]? = some p→isB p=false:=by
    intro k hk p hp
    rcases aC.1 hk with rfl|hk
    ·rw[hi] at hp; simp at hp; subst hp; exact hq
    ·exact fP k hk p hp
   rw[e1,Le,Ld p1] at h
   rw[e2,Le,Ld p2]
   cases hx:ym cf pos (pre++[i]) st with
   | none=>rw[hx] at h; simp at h
   | some st1 =>
     have:=Lf hi hc (post:=[]) hx
     rw[bh] at this
     rw[this]
     rw[hx] at h
     exact h
theorem Qd {p:PO} (h:isB p=true):wU p.op=2:=by
 unfold isB at h
 split at h<;>first|(rename_i e; rw[e]; rfl)|simp at h
theorem Qe {i j:Nat} {p q:PO} (h:Ew j p i q=true):isB p=false∧isB q=false:=by
 rcases Bool.or_eq_true_iff.1 h with h|h
 rotate_left
 ·unfold HV at h
  split at h
  ·rename_i hp hq
   rw[HW hp,HX hq]; exact⟨rfl,rfl⟩
  ·split at h
   ·rename_i hp hq
    rw[HX hp,HW hq]; exact⟨rfl,rfl⟩
   ·cases h
 simp only[HY,ak,bne_iff_ne,ne_eq] at h
 obtain⟨h1,h2⟩:=h.1.1.1.1.1.1.1.1.1.1.1
 exact⟨by cases hp:isB p with | false=>rfl | true=>exact absurd (Qd hp) h1,by cases hp:isB q with | false=>rfl | true=>exact absurd (Qd hp) h2⟩
end
theorem c7u {ops:Array Oper} {pos:List PO} {cf:wm} {ob:xX} (cO:ops.size=pos.length) (fq:C0 ops pos=true):
  ∀ (fuel t : Nat) {listed : Array Bool} {st : St} {r : Option PV × St}, listed.size = ops.size → (xC ops.size listed).length ≤ fuel → HK ops listed → zG cf ob pos (xC ops.size listed) st = some r →
    zG cf ob pos (Region.linearise.go .any ops fuel t listed []) st=some r:=by
 have rT:F9 ops (rows ops.toList 0 0):=Lg _ _ _ (by simp) (λi j _ h=>by simp at h)
 have fq:Lh ops pos (rows ops.toList 0 0)=true:=by rw[C0,HZ] at fq; exact fq
 have ki:∀i o,ops[i]? = some o→∀e∈o.after,Region.binds .any e=true→e.on<i:=by
  intro i o ho e he hb
  have hi:i<ops.size:=(aV.1 ho).1
  have:=aK.1 fq i (by simpa using hi)
  simp only[ho,ak,Array.all_eq_true_iff_forall_mem] at this
  have:=this.1 e he
  simpa[hb] using this
 have kj:∀i j,i<ops.size→j<i→Ga (rows ops.toList 0 0) pos i j=true:=by
  intro i j hi hj
  have:=aK.1 fq i (by simpa using hi)
  simp only[ak] at this
  exact aK.1 this.2 j (by simpa using hj)
 have iT:∀{listed:Array Bool},listed.size=ops.size→Region.ready .any ops listed=[]→xC ops.size listed=[]:=by
  intro listed cV hr
  rcases List.eq_nil_or_concat (xC ops.size listed) with h|⟨_,_,h⟩
  ·exact h
  ·exfalso
   cases eP:xC ops.size listed with
   | nil=>rw[eP] at h; simp at h
   | cons m rest =>
     have hm:m∈xC ops.size listed:=by rw[eP]; simp
     simp only[xC,List.mem_filter,List.mem_range,bC] at hm
     have iu:(xC ops.size listed).Pairwise (·<·):=List.Pairwise.filter _ List.pairwise_lt_range
     rw[eP,cn] at iu
     have lz:m∈Region.ready .any ops listed:=by
      rw[mem_ready]
      refine⟨?_,ops[m],by simp[hm.1],?_⟩
      ·have:=hm.2
       simp only[aT] at this ⊢
       have cS:m<listed.size:=by omega
       simpa[cS] using this
      ·intro e he hb
       have cS:=ki m ops[m] (by simp[hm.1]) e he hb
       cases hl:listed.getD e.on false with
       | true=>rfl
       | false =>
         have dI:e.on∈xC ops.size listed:=by
          simp only[xC,List.mem_filter,List.mem_range,hl,Bool.not_false,and_true]
          omega
         rw[eP] at dI
         rcases aC.1 dI with h|h
         ·omega
         ·have:=iu.1 _ h; omega
     rw[hr] at lz
     simp at lz
 intro fuel
 induction fuel with
 | zero =>
   intro t listed st r cV hl dt hx
   have h0:xC ops.size listed=[]:=bu.1 (by omega)
   rw[h0] at hx
   simpa[Region.linearise.go] using hx
 | succ fuel ih =>
   intro t listed st r cV hl dt hx
   simp only[Region.linearise.go]
   change zG cf ob pos (match (Region.ready .any ops listed)[t % (Region.ready .any ops listed).length]? with
    | some i=>Region.linearise.go .any ops fuel (t / (Region.ready .any ops listed).length) (listed.setIfInBounds i true) [i]
    | none=>[].reverse) st=some r
   cases hi:(Region.ready .any ops listed)[t % (Region.ready .any ops listed).length]? with
   | none =>
     have iU:Region.ready .any ops listed=[]:=by
      cases hr:Region.ready .any ops listed with
      | nil=>rfl
      | cons x xs =>
        rw[hr] at hi
        have cS:t % (x::xs).length<(x::xs).length:=bJ _ (by simp)
        simp at hi
        simp at cS
        omega
     rw[iT cV iU] at hx
     simpa using hx
   | some i =>
     simp only[]
     rw[linearise_go_acc,List.reverse_singleton,List.singleton_append]
     have hi:=av hi
     rw[mem_ready] at hi
     obtain⟨fY,o,ho,fP⟩:=hi
     have cS:i<ops.size:=(aV.1 ho).1
     have gy:listed.getD i false=false:=by
      have lA:i<listed.size:=by omega
      simp only[aT] at fY ⊢
      simpa[lA] using fY
     obtain⟨q,hq⟩:∃q,pos[i]? = some q:=⟨pos[i],al (by omega)⟩
     obtain⟨pre,post,e1,e2,e3⟩:=Qf (f:=λk => !listed.getD k false) (List.pairwise_lt_range (n:=ops.size)) (by simpa using cS) (by simp only[gy]; rfl)
     have gg:∀j∈pre,j<i∧∀p,pos[j]? = some p→Ew j p i q=true:=by
      intro j hj
      obtain⟨a1,a2,a3⟩:=e2 j hj
      refine⟨by omega,λp hp =>?_⟩
      have lS:=kj i j cS a1
      simp only[Ga,hp,hq,bH] at lS
      rcases lS with h|h
      ·exact h
      ·simp only[ak,aw] at h
       have:=Qg dt (rT i j h.1 h.2) ho fP
       simp only[this] at a3
       simp at a3
     have eB:zG cf ob pos (i::(pre++post)) st=some r:=by
      refine b8O hq ?_ (λj hj p hp=>(Qe ((gg j hj).2 p hp)).1) (λj hj=>⟨by have:=(gg j hj).1; omega,λp hp=>(gg j hj).2 p hp⟩) (by rw[← e1]; exact hx)
      intro cZ
      cases pre with
      | nil=>exact absurd rfl cZ
      | cons j0 _ =>
        have ny:j0<pos.length:=by have:=(gg j0 (by simp)).1; omega
        exact(Qe ((gg j0 (by simp)).2 pos[j0] (al ny))).2
     simp only[zG,hq] at eB ⊢
     cases hs:yu cf ob i q st with
     | none=>rw[hs] at eB; exact eB
     | some y =>
       obtain⟨z,st1⟩:=y
       rw[hs] at eB
       cases z with
       | some v=>exact eB
       | none =>
         simp only at eB ⊢
         have eP:xC ops.size (listed.setIfInBounds i true)=pre++post:=by
          rw[← e3]
          unfold xC
          apply List.filter_congr
          intro k dh
          by_cases iw:k=i
          ·subst iw
           have lA:k<listed.size:=by omega
           simp[aT,be,lA]
          ·rw[getD_set_ne _ (Ne.symm iw)]
           simp[iw]
         refine ih _ (by simp[cV]) ?_ ?_ (by rw[eP]; exact eB)
         ·rw[eP]
          have:(xC ops.size listed).length=(pre++i::post).length:=by unfold xC; rw[e1]
          simp at this ⊢
          omega
         ·intro k o' eN fX e dx hb
          by_cases iw:k=i
          ·subst iw
           have:o'=o:=by rw[ho] at eN; simpa using eN.symm
           subst this
           exact getD_set_true (fP e dx hb)
          ·rw[getD_set_ne _ (Ne.symm iw)] at fX
           exact getD_set_true (dt k o' eN fX e dx hb)
end PI
set_option linter.unusedSimpArgs false
set_option linter.unusedVariables false
namespace PI
open Go Go.RowKit
def GS.callee (G:GS):GS:={ fix:=G.fix,heap:=G.heap,box:=λ_=>none,ow:=zq G.ow }
section
variable {E:Env} {N:Nm} {w:World} {G:GS} {st:St} {a:Act} {vs:List Tmp} {lm:Nat→Option Tmp} {P:Program}
theorem Ej (hf:FI N w G st a vs lm):Between N w G.callee st.heap:=
 ⟨⟨λb k h=>(Et h).2,λ_=>rfl⟩,hf.fixlt,λb k h=>hf.owlt b k (Et h).1,hf.heap.sub rfl rfl (λb k hk h=>K3 h hk),hf.hdom⟩
theorem HS (hf:FI N w G st a vs lm) {w':World} {G2:GS} {h':List PObj} (he:Ext w G.callee w' G2) (dO:Between N w' G2 h'):
  ∃G',Ext w G w' G'∧FI N w' G' { st with heap:=h' } a vs lm∧G'.fix=G2.fix∧G'.heap=G2.heap:=by
 let Gc:GS:=G.callee
 let G':GS:={ fix:=G2.fix,heap:=G2.heap,box:=G.box,ow:=λb=>match G.ow b with | some k=>if k.isH then G2.ow b else some k | none=>G2.ow b,df:=G.df }
 have cN:Ext w G w' G':=by
  refine⟨he.os,he.tape,he.output,he.size,λb cS h=>he.same b cS (by simp[GS.callee,zq,h]),λb o h=>he.fix b o h,?_,?_,he.heap,he.shape,rfl⟩
  ·intro b o h
   rcases he.newfix b o h with h|h|h
   ·exact .inl h
   ·exact .inr (.inl h)
   ·refine .inr (.inr ?_)
    intro e
    apply h
    simp[GS.callee,zq,e]
  ·intro b h
   cases hb:G.ow b with
   | some k=>exact .inr (by simp)
   | none =>
     simp only[G',hb] at h
     rcases he.own b h with h|h
     ·exact .inl h
     ·exact absurd (by simp[GS.callee,zq,hb]) h
 have cR:xa (λk=>k.isH=true) w G w' G':=by
  refine⟨?_,λ_ _ h=>h⟩
  intro b key da hn
  have fm:=hf.owlt _ _ da
  have ek:Gc.ow b=none:=by simp[Gc,GS.callee,zq,da,hn]
  refine⟨by simp[G',da,hn],he.same b fm ek,?_⟩
  intro o h
  rcases he.newfix b o h with h|h|h
  ·exact h
  ·omega
  ·exact absurd ek h
 have d8:HR N w' G' h':=by
  refine dO.heap.sub rfl rfl ?_
  intro b k vS h
  cases hb:G.ow b with
  | none=>simp only[G',hb]; exact h
  | some k0 =>
    by_cases kJ:k0.isH=true
    ·simp only[G',hb,kJ,if_true]; exact h
    ·have ek:Gc.ow b=none:=by simp[Gc,GS.callee,zq,hb,kJ]
     have cS:=hf.owlt _ _ hb
     rcases he.own b (by rw[h]; simp) with h2|h2
     ·omega
     ·exact absurd ek h2
 have dj:FI N w' G' { st with heap:=h' } a vs lm:=by
  refine⟨hf.len,λi t u h1 h2=>(hf.var i t u h1 h2).keep cN cR (by simp[Key.isH]) (by simp[Key.isH]),λj t u h1 h2=>(hf.loc j t u h1 h2).keep cN cR (by simp[Key.isH]) (by simp[Key.isH]),hf.tv,hf.tl,(hf.defers.trans cN.df.symm),hf.gen,?_,dO.fixlt,d8,dO.hdom⟩
  intro b k h
  cases hb:G.ow b with
  | some k0=>exact aN (hf.owlt _ _ hb) he.size
  | none =>
    simp only[G',hb] at h
    exact dO.owlt _ _ h
 exact⟨G',cN,dj,rfl,rfl⟩
def AG (N:Nm) (w':World) (G':GS) (e:Ending):Out→Prop
 | .val r=>∃v,e = .returned v∧VR N w' G'.fix G'.heap v r
 | .boom p=>∃v,e = .panicked [{ v,recovered:=false }]∧VR N w' G'.fix G'.heap v p
def Eg (N:Nm) (P:Program) (ob:xX):Prop:=
 ∀ (k : Nat) (args : List PV) (o : Out) (h h' : List PObj), ob k args h = some (o, h') → N.yl k = none → ∀ (w : World) (G : GS) (vals : Array Value), Between N w G h → vals.size = args.length →
   (∀(i:Nat) (v:Value) (p:PV),vals[i]? = some v→args[i]? = some p→VR N w G.fix G.heap v p) →
   Calls P (N.fn k) vals w λe w'=>∃G',AG N w' G' e o∧Ext w G w' G'∧Between N w' G' h'
def F2 (N:Nm) (P:Program) (ob:xX):Prop:=
 ∀ (k : Nat) (y : YL) (n l : Nat) (tmps : Array Value) (caps args : List PV) (o : Out) (h h' : List PObj), N.yl k = some y → ob k (.ptr n 0 :: caps ++ args) h = some (o, h') → ∀ (w : World) (G : GS) (vals : Array Value), Between N w G h →
   VR N w G.fix G.heap (.func (.yield l) #[] #[]) (.func k (.ptr n 0::caps) [])→vals.size=args.length→(∀(i:Nat) (v:Value) (p:PV),vals[i]? = some v→args[i]? = some p→VR N w G.fix G.heap v p) →
   ∃tmps',(Instr.yield l vals).run P w = .ok (.round l y.fn tmps' y.assign y.body) w∧∀r n',RoundIn (W r) n' P l y.fn tmps' y.assign y.body w λe w'=>∃G',AG N w' G' e o∧Ext w G w' G'∧Between N w' G' h'
variable {ops:Array Oper} {o:Oper} {j:Nat} {Q:Exit→Act→World→Prop} {K:Act→World→Prop} {r:Option Nat} {n:Nat}
def Iy (N:Nm) (w:World) (G:GS) (a:Act) (st1:St) (vs:List Tmp) (lm:Nat→Option Tmp) (p:PV) (Q:Exit→Act→World→Prop):Prop:=
 ∀w' G' v,VR N w' G'.fix G'.heap v p→Ext w G w' G'→FI N w' G' st1 a vs lm→Q (.panic [{ v,recovered:=false }]) a w'
theorem L3 (nm:Names vs (wh vs ops.toList)) (ho:ops[j]? = some o) (hf:FI N w G st a vs (wh vs ops.toList)) {out:Out} {h':List PObj} (hQ:¬LetsOut Q)
  (hv:∀u,out = .val u→Next1 N w G a (put { st with heap:=h' } j (wJ vs o.dst) (dem u)) vs ops.toList K) (hb:∀p,out = .boom p→Iy N w G a { st with heap:=h' } vs (wh vs ops.toList) p Q)
  {e:Ending} {w':World} {G2:GS} (h:AG N w' G2 e out) (he:Ext w G.callee w' G2) (dO:Between N w' G2 h'):
  (match e with
   | .returned v=>K (a.put o.dst v) w'
   | .panicked chain=>Q (.panic chain) a w'
   | .outgrown=>LetsOut Q):=by
 obtain⟨G',cN,dj,e1,e2⟩:=HS hf he dO
 cases out with
 | val u =>
   obtain⟨v,rfl,cW⟩:=h
   have fC:VR N w' G'.fix G'.heap v (dem u):=by rw[e1,e2]; exact cW.dem
   exact hv u rfl _ _ G' (dj.put nm (yY (by simpa using ho)) (SR.of_pure fC cW.cp_dem)) cN (yZ _ _ _)
 | boom p =>
   obtain⟨v,rfl,cW⟩:=h
   exact hb p rfl w' G' v (by rw[e1,e2]; exact cW) cN dj
theorem Rs {c:Call} (cP:o.op = .call c) (ρ:Operand→Value):o.semAt (W r).round ρ=execOp ρ o:=Oper.semAt_eq _ _ _ (λc' h=>by rw[cP] at h; cases h)
theorem Rt {L:Nat→Option PFunc} (hF:x7 N P L) (hE:EnvOk E N) (nm:Names vs (wh vs ops.toList)) (ho:ops[j]? = some o) (hf:FI N w G st a vs (wh vs ops.toList)) {ob:xX} (dB:Eg N P ob) (iP:∀k args h x,ob k args h=some x→∃f,L k=some f)
  {f:FuncId} {k:Nat} {xs:Array Operand} {ts:Array TypeId} {pxs:List PX} {args:List PV} (cP:o.op = .call { callee := .value (.func f),args:=xs,argTypes:=ts }) (dh:E.inv f=some k) (hx:cxs E vs ops.toList xs.toList=some pxs)
  (ev:rdAll st pxs=some args) {out:Out} {h':List PObj} (hc:ob k args st.heap=some (out,h')) (hQ:¬LetsOut Q)
  (hv:∀u,out = .val u→Next1 N w G a (put { st with heap:=h' } j (wJ vs o.dst) (dem u)) vs ops.toList K) (hb:∀p,out = .boom p→Iy N w G a { st with heap:=h' } vs (wh vs ops.toList) p Q):o.wpIn (W r) n P a w K Q:=by
 obtain⟨h1,h2⟩:=Ap hE hf hx ev
 obtain⟨g1,g2⟩:=Bo (w:=w) (G:=G) h1 h2
 obtain⟨pf,hL⟩:=iP _ _ _ _ hc
 have d4:=hE.fn _ _ dh
 refine⟨λ_ _=>AF _,?_⟩
 rw[Rs cP]
 have cQ:(execOp a.eval o).run P w = .ok (.enter (N.fn k) (xs.map a.eval)) w:=by
  have:=A7 hF hL (xs.map a.eval) w
  rw[d4] at this
  rw[d4]
  simp[execOp,cP,resolve,Act.eval,Deferred.ofValue,invoke]
  exact this
 rw[cQ,Oper.uponIn_enter]
 refine⟨Eu,HU ?_⟩
 refine(dB k args out st.heap h' hc (hE.yl _ _ dh) w G.callee (xs.map a.eval) (Ej hf) g1 g2).mono ?_
 rintro e w' ⟨G2,hR,he,dO⟩
 have:=L3 nm ho hf hQ hv hb hR he dO
 cases e<;>exact this
theorem Ru {L:Nat→Option PFunc} (hF:x7 N P L) (hE:EnvOk E N) (nm:Names vs (wh vs ops.toList)) (ho:ops[j]? = some o) (hf:FI N w G st a vs (wh vs ops.toList)) {ob:xX} (dB:Eg N P ob) (d9:F2 N P ob) (iP:∀k args h x,ob k args h=some x→∃f,L k=some f)
  {t:Tmp} {px:PX} {k:Nat} {first captured:List PV} {xs:Array Operand} {ts:Array TypeId} {pxs:List PX} {args:List PV} (cP:o.op = .call { callee := .value (.tmp t),args:=xs,argTypes:=ts }) (fF:cx E vs ops.toList (.tmp t)=some px) (hx:cxs E vs ops.toList xs.toList=some pxs)
  (lX:rd st px=some (.func k first captured)) (ev:rdAll st pxs=some args) {out:Out} {h':List PObj} (hc:ob k (first++args++captured) st.heap=some (out,h')) (hQ:¬LetsOut Q)
  (hv:∀u,out = .val u→Next1 N w G a (put { st with heap:=h' } j (wJ vs o.dst) (dem u)) vs ops.toList K) (hb:∀p,out = .boom p→Iy N w G a { st with heap:=h' } vs (wh vs ops.toList) p Q):o.wpIn (W r) n P a w K Q:=by
 obtain⟨h1,h2⟩:=Ap hE hf hx ev
 obtain⟨g1,g2⟩:=Bo (w:=w) (G:=G) h1 h2
 obtain⟨pf,hL⟩:=iP _ _ _ _ hc
 have iA:=(wL hE fF hf lX).1
 refine⟨λ_ _=>AF _,?_⟩
 rw[Rs cP]
 generalize em:a.eval (.tmp t)=v at iA
 cases iA with
 | yield _ m l y tmps caps hy hl hr cO cV cX =>
   have cW:VR N w G.callee.fix G.callee.heap (.func (.yield l) #[] #[]) (.func k (.ptr m 0::caps) []) := .yield k m l y tmps caps hy hl hr cO cV cX
   rw[bh] at hc
   obtain⟨tmps',oe,eC⟩:=d9 k y m l tmps caps args out st.heap h' hy hc w G.callee (xs.map a.eval) (Ej hf) cW g1 g2
   have cQ:(execOp a.eval o).run P w = .ok (.round l y.fn tmps' y.assign y.body) w:=by
    simp only[execOp,cP,resolve,Sem.run_bind,em,Deferred.ofValue,Sem.run_pure,Result.andThen_ok,invoke]
    simpa using oe
   rw[cQ,Oper.uponIn_round]
   refine⟨Eu,(eC r (n - 1)).mono ?_⟩
   rintro e w' ⟨G2,hR,he,dO⟩
   have:=L3 nm ho hf hQ hv hb hR he dO
   cases e<;>exact this
 | func _ fs cs _ _ hy e1 e2 ll dW =>
   have cQ:(execOp a.eval o).run P w = .ok (.enter (N.fn k) (fs++xs.map a.eval++cs)) w:=by
    have:=A7 hF hL (fs++xs.map a.eval++cs) w
    simp only[execOp,cP,resolve,Sem.run_bind,em,Deferred.ofValue,Sem.run_pure,Result.andThen_ok,invoke]
    exact this
   rw[cQ,Oper.uponIn_enter]
   refine⟨Eu,HU ?_⟩
   refine(dB k _ out st.heap h' hc hy w G.callee (fs++xs.map a.eval++cs) (Ej hf) (by simp[e1,e2]; simpa using h1) ?_).mono ?_
   ·intro i v p dS hp
    by_cases hi:i<fs.size
    ·rw[ci,bm hi] at dS
     rw[aJ,am (by omega)] at hp
     exact ll i v p dS hp
    ·rw[ci,cj (by omega)] at dS
     rw[aJ,ar (by omega),← e1] at hp
     by_cases ed:i - fs.size<(xs.map a.eval).size
     ·rw[bm ed] at dS
      rw[am (by omega)] at hp
      exact g2 _ v p dS hp
     ·rw[cj (by omega)] at dS
      rw[ar (by omega),← g1] at hp
      exact dW _ v p dS hp
   ·rintro e w' ⟨G2,hR,he,dO⟩
    have:=L3 nm ho hf hQ hv hb hR he dO
    cases e<;>exact this
theorem PA {L:Nat→Option PFunc} (hF:x7 N P L) (hE:EnvOk E N) (hP:E.P=P) (nm:Names vs (wh vs ops.toList)) (ho:ops[j]? = some o) (hf:FI N w G st a vs (wh vs ops.toList)) {cf:wm} (du:CallOK N P cf) {ob:xX} (dB:Eg N P ob) (d9:F2 N P ob)
  (dZ:∀k args h x,cf k args h=some x→∃f,L k=some f) (iP:∀k args h x,ob k args h=some x→∃f,L k=some f) (hd:∀c,o.op≠.defer c) {po:PO} (hc:F3 E vs ops.toList o=some po) {res:Option PV} {st1:St} (hs:yu cf ob j po st=some (res,st1)) (hQ:¬LetsOut Q)
  (hk:res=none→Next1 N w G a st1 vs ops.toList K) (hb:∀p,res=some p→Iy N w G a st1 vs (wh vs ops.toList) p Q):wpOpIn (W r) n P ops Q j K a w:=by
 have plain:∀{po:PO},F5 E vs ops.toList o=some po→yu cf ob j po st=some (res,st1)→wpOpIn (W r) n P ops Q j K a w:=by
  intro po hc hs
  simp only[F5,ae] at hc
  obtain⟨p,hp,hc⟩:=hc
  split at hc
  ·simp at hc
  ·rename_i vV
   simp only[aa] at hc
   subst hc
   rw[Qc (by simpa using vV)] at hs
   simp only[ab,ac] at hs
   obtain⟨st2,h1,rfl,rfl⟩:=hs
   refine KO (λo' c eN =>?_) hQ (HP hF hE hP nm ho hf du dZ hp h1 (hk rfl))
   rw[ho] at eN
   simp only[aa] at eN
   subst eN
   exact hd c
 unfold F3 at hc
 split at hc
 ·rename_i dst f xs ts ty pos aft
  split at hc
  ·simp only[ae,ab] at hc
   obtain⟨k,dh,ps,dT,rfl⟩:=hc
   simp only[yu] at hs
   split at hs
   ·rename_i us ev
    unfold wpOpIn
    simp only[ho,Region.wanted,if_true]
    split at hs
    ·rename_i u h' de
     simp only[aa,ac] at hs
     obtain⟨rfl,rfl⟩:=hs
     exact Rt hF hE nm ho hf dB iP rfl dh dT ev de hQ (λu' e=>by cases e; exact hk rfl) (λp e=>by cases e)
    ·rename_i v h' de
     simp only[aa,ac] at hs
     obtain⟨rfl,rfl⟩:=hs
     exact Rt hF hE nm ho hf dB iP rfl dh dT ev de hQ (λu' e=>by cases e) (λp e=>by cases e; exact hb _ rfl)
    ·simp at hs
   ·simp at hs
  ·exact plain hc hs
 ·rename_i dst t xs ts ty pos aft
  split at hc
  ·simp only[ae,ab] at hc
   obtain⟨px,fF,ps,dT,rfl⟩:=hc
   simp only[yu] at hs
   split at hs
   ·rename_i k first captured us lX ev
    unfold wpOpIn
    simp only[ho,Region.wanted,if_true]
    split at hs
    ·rename_i u h' de
     simp only[aa,ac] at hs
     obtain⟨rfl,rfl⟩:=hs
     exact Ru hF hE nm ho hf dB d9 iP rfl fF dT lX ev de hQ (λu' e=>by cases e; exact hk rfl) (λp e=>by cases e)
    ·rename_i v h' de
     simp only[aa,ac] at hs
     obtain⟨rfl,rfl⟩:=hs
     exact Ru hF hE nm ho hf dB d9 iP rfl fF dT lX ev de hQ (λu' e=>by cases e) (λp e=>by cases e; exact hb _ rfl)
    ·simp at hs
   ·simp at hs
  ·exact plain hc hs
 ·exact plain hc hs
end
end PI
set_option linter.unusedSimpArgs false
set_option linter.unusedVariables false
namespace PI
open Go
def wpN (r:Option Nat) (fid:FuncId) (P:Program) (c:Code) (Q:Exit→Act→World→Prop) (a:Act) (w:World):Prop:=
 ∀ (b : Frame) (k : List Item) (cs : List Frame), b.roundOf = r → b.fn = fid →
   ∃e a' w',Q e a' w'∧ArrivesIn (Machine.fenced P (W r)) P (lone (b.atR a (.code c::k)) cs w) b k cs e a' w'
section
variable {P:Program} {r:Option Nat} {fid:FuncId} {n:Nat} {Q:Exit→Act→World→Prop} {a:Act} {w:World}
theorem C3 {c:Code} (h:c.wpIn (W r) n P Q a w):wpN r fid P c Q a w:=λb k cs d9 _=>h b k cs d9 (AF _) (F7 _)
theorem c5o {c:Code} {Q':Exit→Act→World→Prop} (h:wpN r fid P c Q a w) (hq:∀e a w,Q e a w→Q' e a w):wpN r fid P c Q' a w:=
 λb k cs d9 hb=>let ⟨e,a',w',q,r⟩:=h b k cs d9 hb; ⟨e,a',w',hq _ _ _ q,r⟩
theorem c5p (h:Q .normal a w):wpN r fid P .skip Q a w:=λ_ _ _ _ _=>⟨.normal,a,w,h,.one (zH _) stepR_skip⟩
theorem PG {id:Nat} (h:Q (.exit id) a w):wpN r fid P (.exit id) Q a w:=
 λ_ k _ _ _=>⟨.exit id,a,w,h,λ_ hk => .one (zH _) (stepR_exit hk),λ_ hk=>⟨k,hk,.refl _⟩⟩
theorem PH (h:Q .ret a w):wpN r fid P .ret Q a w:=
 λ_ k _ _ _=>⟨.ret,a,w,h,λhn=>⟨_,.one (zH _) (stepR_ret hn)⟩,λ_=>⟨k,.refl _⟩⟩
theorem DC {x y:Code} (h:wpN r fid P x (Exit.then (wpN r fid P y Q) Q) a w):wpN r fid P (.seq x y) Q a w:=by
 intro b k cs d9 hb
 have h0:(lone (b.atR a (.code (.seq x y)::k)) cs w).fenced P (W r):=zH _
 obtain⟨e,a₁,w₁,hq,dy⟩:=h b (.code y::k) cs d9 hb
 cases e with
 | normal =>
   obtain⟨e₂,a₂,w₂,hq₂,harr₂⟩:=hq b k cs d9 hb
   exact⟨e₂,a₂,w₂,hq₂,.of_steps (.head h0 stepR_seq dy) harr₂⟩
 | exit id=>exact⟨_,a₁,w₁,hq,.of_steps (.one h0 stepR_seq) (.pass (x := .code y) rfl (λ_ _ => .inl (by simp)) dy)⟩
 | goto l=>exact⟨_,a₁,w₁,hq,.of_steps (.one h0 stepR_seq) (.pass (x := .code y) rfl (λ_ _ => .inl (by simp)) dy)⟩
 | ret=>exact⟨_,a₁,w₁,hq,.of_steps (.one h0 stepR_seq) (.pass (x := .code y) rfl (λ_ _ => .inl (by simp)) dy)⟩
 | panic ch=>exact⟨_,a₁,w₁,hq,.of_steps (.one h0 stepR_seq) (.pass (x := .code y) rfl (λ_ _ => .inl (by simp)) dy)⟩
 | outgrown=>exact⟨_,a₁,w₁,hq,.of_steps (.one h0 stepR_seq) (.pass (x := .code y) rfl (λ_ _ => .inl (by simp)) dy)⟩
theorem KR {c:Operand} {x y:Code} {t:Bool} (hc:a.eval c = .bool t) (h:wpN r fid P (if t then x else y) Q a w):wpN r fid P (.cond c x y) Q a w:=
 λb k cs d9 hb=>let ⟨e,a',w',q,r⟩:=h b k cs d9 hb; ⟨e,a',w',q,.of_steps (.one (zH _) (stepR_cond hc)) r⟩
theorem c3e {id:Nat} {c:Code} (h:wpN r fid P c (Exit.inBlock id Q) a w):wpN r fid P (.block id c) Q a w:=by
 intro b k cs d9 hb
 have h0:(lone (b.atR a (.code (.block id c)::k)) cs w).fenced P (W r):=zH _
 obtain⟨e,a₁,w₁,hq,dy⟩:=h b (.inBlock id::k) cs d9 hb
 cases e with
 | normal=>exact⟨.normal,a₁,w₁,hq,.head h0 stepR_block (StepsIn.trans dy (.one (zH _) stepR_inBlock))⟩
 | exit id' =>
   by_cases fO:id'=id
   ·simp only[Exit.inBlock,fO,if_true] at hq
    exact⟨.normal,a₁,w₁,hq,.head h0 stepR_block (dy.1 k (by simp[exitTo,fO]))⟩
   ·simp only[Exit.inBlock,fO,if_false] at hq
    have this:(id==id')=false:=by simp; exact λh=>fO h.symm
    have hx:exitTo id' (.inBlock id::k)=exitTo id' k:=by simp[exitTo,this]
    exact⟨.exit id',a₁,w₁,hq,λk' hk => .head h0 stepR_block (dy.1 k' (by rw[hx]; exact hk)),
     λfo hk=>let ⟨k₁,h1,h2⟩:=dy.2 fo (by rw[hx]; exact hk); ⟨k₁,h1,.head h0 stepR_block h2⟩⟩
 | goto l =>
   have hx:gotoIn l (.inBlock id::k)=gotoIn l k:=by simp[gotoIn]
   exact⟨_,a₁,w₁,hq,λk' hk => .head h0 stepR_block (dy.1 k' (by rw[hx]; exact hk)),
    λfo hk=>let ⟨k₁,h1,h2⟩:=dy.2 fo (by rw[hx]; exact hk); ⟨k₁,h1,.head h0 stepR_block h2⟩⟩
 | ret=>exact⟨_,a₁,w₁,hq,.of_steps (.one h0 stepR_block) dy⟩
 | panic ch=>exact⟨_,a₁,w₁,hq,.of_steps (.one h0 stepR_block) dy⟩
 | outgrown=>exact⟨_,a₁,w₁,hq,.of_steps (.one h0 stepR_block) dy⟩
def Ei (r:Option Nat) (fid:FuncId) (P:Program) (c:Code) (Q:Exit→Act→World→Prop):Nat→Act→World→Prop
 | 0,_,_=>False
 | m+1,a,w=>wpN r fid P c (Exit.then (Ei r fid P c Q m) Q) a w
theorem b74 {c:Code} {m:Nat}:Ei r fid P c Q (m+1) a w=wpN r fid P c (Exit.then (Ei r fid P c Q m) Q) a w:=rfl
theorem b4j {c:Code} (m:Nat) (h:Ei r fid P c Q m a w):wpN r fid P (.loop c) Q a w:=by
 intro b k cs d9 hb
 have key:∀m a w,Ei r fid P c Q m a w →
   ∃e a' w',Q e a' w'∧ArrivesIn (Machine.fenced P (W r)) P (lone (b.atR a (.code c :: .inLoop c::k)) cs w) b k cs e a' w':=by
  intro m
  induction m with
  | zero=>intro a w h; exact h.elim
  | succ m ih =>
    intro a w h
    obtain⟨e,a₁,w₁,hq,dy⟩:=h b (.inLoop c::k) cs d9 hb
    cases e with
    | normal =>
      obtain⟨e₂,a₂,w₂,hq₂,harr₂⟩:=ih a₁ w₁ hq
      exact⟨e₂,a₂,w₂,hq₂,.of_steps (StepsIn.trans dy (.one (zH _) stepR_inLoop)) harr₂⟩
    | exit id=>exact⟨_,a₁,w₁,hq,.pass (x := .inLoop c) rfl (λ_ _ => .inl (by simp)) dy⟩
    | goto l=>exact⟨_,a₁,w₁,hq,.pass (x := .inLoop c) rfl (λ_ _ => .inl (by simp)) dy⟩
    | ret=>exact⟨_,a₁,w₁,hq,.pass (x := .inLoop c) rfl (λ_ _ => .inl (by simp)) dy⟩
    | panic ch=>exact⟨_,a₁,w₁,hq,.pass (x := .inLoop c) rfl (λ_ _ => .inl (by simp)) dy⟩
    | outgrown=>exact⟨_,a₁,w₁,hq,.pass (x := .inLoop c) rfl (λ_ _ => .inl (by simp)) dy⟩
 obtain⟨e,a',w',hq,dy⟩:=key m a w h
 exact⟨e,a',w',hq,.of_steps (.one (zH _) stepR_loop) dy⟩
theorem PJ {g:Operand} {ps:Array Tmp} {assign body:Code} {l:Nat} {mark:List Deferred} {w₁:World} {d:Deferred} {f:FuncId} {args:Array Value}
  (he:(Instr.enterLoop fid a.tmps ps assign body none).run P w = .ok (l,mark) w₁) (dN:(resolve a.eval (rangeCall g l) 0).run P w₁ = .ok d w₁) (jC:(invoke d.target d.args).run P w₁ = .ok (.enter f args) w₁)
  (hc:Calls P f args w₁ fun
   | .returned _, w₃ => ∃ j w₄, (Instr.endLoop l).run P w₃ = .ok j w₄ ∧ (match j with
     | none=>Q .normal { a with defers:=mark++a.defers } w₄
     | some c=>wpN none fid P c Q { a with defers:=mark++a.defers } w₄)
   | .panicked chain,w₃=>Q (.panic chain) { a with defers:=mark++a.defers } w₃
   | .outgrown,_=>LetsOut Q):wpN none fid P (.rangeFunc g ps assign body) Q a w:=by
 intro b k cs d9 hb
 subst hb
 rw[← d9] at he
 have eD:=stepR_rangeFunc (P:=P) (b:=b) (a:=a) (k:=k) (cs:=cs) (w:=w) he dN jC
 obtain⟨e,w₃,fr,hR,i8,d4,kG⟩:=(HU (r:=none) (n:=0) hc).2 (b.atR { a with defers:=mark++a.defers } (.inRangeFunc l::k)::cs) (F7 _)
 cases e with
 | outgrown =>
   obtain⟨a₀,w₀,hq⟩:=hR
   exact⟨.outgrown,a₀,w₀,hq,.inr (Outgrown.of_steps (.one eD) i8)⟩
 | returned v =>
   obtain⟨j,w₄,ft,hj⟩:=hR
   have sback:StepsIn (Machine.fenced P (W none)) P (lone (b.atR a (.code (.rangeFunc g ps assign body)::k)) cs w) (lone (b.atR { a with defers:=mark++a.defers } ((j.map Item.code).toList++k)) cs w₄):=by
    refine .head (zH _) eD (StepsIn.trans i8 (.head (zH _) ?_ (.one (zH _) (stepR_endRangeFunc (b:=b) (a:={ a with defers:=mark++a.defers }) (k:=k) ft))))
    rw[← finish_atR_inRangeFunc l v]; exact step_leave_returned kG
   cases j with
   | none=>exact⟨.normal,_,w₄,hj,sback⟩
   | some c =>
     obtain⟨e₂,a₂,w₅,hq,hr⟩:=hj b k cs d9 rfl
     exact⟨e₂,a₂,w₅,hq,.of_steps sback hr⟩
 | panicked chain =>
   refine⟨.panic chain,_,w₃,hR,.inRangeFunc l::k,.head (zH _) eD (StepsIn.trans i8 (.one (zH _) ?_))⟩
   rw[← Frame.raise_atR]; exact step_leave_panicked kG
def P0 (P:Program) (fn:Func) (R:Ending→World→Prop):Exit→Act→World→Prop
 | .normal,a,w | .ret,a,w=>LeavesInM (W none) 0 P fn a.tmps R a.defers .returning w
 | .panic chain,a,w=>LeavesInM (W none) 0 P fn a.tmps R a.defers (.panicking chain) w
 | _,_,_=>False
theorem P1 {f:FuncId} {fn:Func} {c:Code} {args:Array Value} {R:Ending→World→Prop} (hf:P.funcs[f]? = some fn) (hb:fn.body=some c)
  (h:wpN none f P c (P0 P fn R) { tmps:=args++Array.replicate (fn.ntmps - args.size) undef,defers:=[] } w):Calls P f args w R:=by
 refine c0J (r:=none) (n:=0) ⟨trivial,λcs hr =>?_⟩
 let b:Frame:={ (default:Frame) with fn:=f,kind := .normal,roundOf:=none }
 have eD:Frame.enter P f args .normal=b.atR { tmps:=args++Array.replicate (fn.ntmps - args.size) undef,defers:=[] } [.code c]:=by
  simp[Frame.enter,Frame.atR,hf,hb,b]
 obtain⟨e,a',w',hq,dy⟩:=h b [] cs rfl rfl
 rw[← eD] at dy
 cases e with
 | normal =>
   obtain⟨e',w'',fr',hR,hs,d4,hl⟩:=leaves_stepsInM a'.defers .returning w' { b.atR a' [] with mode := .returning } cs rfl rfl rfl hf rfl trivial (F7 _) hq
   exact⟨e',w'',fr',hR,ComesIn.of_steps (StepsIn.trans dy (.one (zH _) (stepR_end rfl))) hs,d4,hl⟩
 | ret =>
   obtain⟨todo,hs₀⟩:=dy.1 rfl
   obtain⟨e',w'',fr',hR,hs,d4,hl⟩:=leaves_stepsInM a'.defers .returning w' { b.atR a' todo with mode := .returning } cs rfl rfl rfl hf rfl trivial (F7 _) hq
   exact⟨e',w'',fr',hR,ComesIn.of_steps hs₀ hs,d4,hl⟩
 | panic chain =>
   obtain⟨todo,hs₀⟩:=dy
   obtain⟨e',w'',fr',hR,hs,d4,hl⟩:=leaves_stepsInM a'.defers (.panicking chain) w' { b.atR a' todo with mode := .panicking chain } cs rfl rfl rfl hf rfl trivial (F7 _) hq
   exact⟨e',w'',fr',hR,ComesIn.of_steps hs₀ hs,d4,hl⟩
 | exit id=>exact hq.elim
 | goto l=>exact hq.elim
 | outgrown=>exact hq.elim
theorem d2t {l:Nat} {f:FuncId} {fn:Func} {tmps:Array Value} {assign body:Code} {R:Ending→World→Prop} (d4:P.funcs[f]? = some fn)
  (h:wpN (some l) f P assign (Exit.then (λa₁ w₁=>∃w₂,(Instr.beginRound l).run P w₁ = .ok () w₂∧wpN (some l) f P body (Lb P l R) a₁ w₂) (λ_ _ _=>False)) { tmps:=tmps,defers:=[] } w):
  RoundIn (W r) n P l f tmps assign body w R:=by
 refine⟨AF _,λc cs hr =>?_⟩
 let b:Frame:={ (default:Frame) with fn:=f,kind := .normal,roundOf:=some l }
 have ij:Frame.round l f tmps assign body .normal=b.atR { tmps:=tmps,defers:=[] } [.code assign,.beginRound,.code body]:=by
  simp[Frame.round,Frame.atR,b]
 obtain⟨e,a₁,w₁,hq,dy⟩:=h b [.beginRound,.code body] (c::cs) rfl rfl
 rw[← ij] at dy
 cases e with
 | normal =>
   obtain⟨w₂,fj,gb⟩:=hq
   have s1:StepsIn (Machine.fenced P (W (some l))) P (lone (b.atR a₁ [.beginRound,.code body]) (c::cs) w₁) (lone (b.atR a₁ [.code body]) (c::cs) w₂):=
    .one (zH _) (stepR_beginRound rfl fj)
   obtain⟨e₂,a₂,w₃,hq₂,harr₂⟩:=gb b [] (c::cs) rfl rfl
   cases e₂ with
   | normal =>
     obtain⟨v,w₄,ft,hR⟩:=hq₂
     exact⟨.returned v,w₄,hR,(StepsIn.trans dy s1).trans (StepsIn.trans harr₂ (.one (zH _) (stepR_round_end rfl rfl ft)))⟩
   | panic chain =>
     obtain⟨hd,hR⟩:=hq₂
     obtain⟨todo,hs⟩:=harr₂
     refine⟨.panicked chain,w₃,hR,(StepsIn.trans dy s1).trans (StepsIn.trans hs (.one (zH _) (b2q (fn:=fn) rfl ?_ d4)))⟩
     exact hd
   | ret =>
     obtain⟨v,w₄,ft,hR⟩:=hq₂
     obtain⟨k₁,hs⟩:=harr₂.2 rfl
     exact⟨.returned v,w₄,hR,(StepsIn.trans dy s1).trans (StepsIn.trans hs (.one (zH _) (stepR_round_ret rfl rfl ft)))⟩
   | exit id =>
     obtain⟨v,w₄,ft,hR⟩:=hq₂
     obtain⟨k₁,hk,hs⟩:=harr₂.2 rfl rfl
     exact⟨.returned v,w₄,hR,(StepsIn.trans dy s1).trans (StepsIn.trans hs (.one (zH _) (stepR_round_exit rfl rfl hk ft)))⟩
   | goto t=>exact hq₂.elim
   | outgrown=>exact hq₂.elim
 | exit id=>exact hq.elim
 | goto t=>exact hq.elim
 | ret=>exact hq.elim
 | panic chain=>exact hq.elim
 | outgrown=>exact hq.elim
end
end PI
set_option linter.unusedSimpArgs false
set_option linter.unusedVariables false
namespace PI
open Go Go.RowKit
section
variable {E:Env} {N:Nm} {w:World} {G:GS} {st:St} {a:Act} {vs:List Tmp} {lm:Nat→Option Tmp} {P:Program}
theorem PK (hf:FI N w G st a vs lm) {n b:Nat} {ob':PObj} {mob:Obj} (hb:G.heap n=some b) (how:G.ow b=some (.hobj n))
  (nE:∀o,¬G.fix b o) (gx:w.shape? b=none) (nJ:∀s,yN w b=some s→yN { w with heap:=w.heap.setIfInBounds b mob } b=some s)
  (hR:ob' = .gone∨ObjR N { w with heap:=w.heap.setIfInBounds b mob } G n b ob'):
  Ext w G { w with heap:=w.heap.setIfInBounds b mob } G∧FI N { w with heap:=w.heap.setIfInBounds b mob } G (wG st n ob') a vs lm:=by
 let w':World:={ w with heap:=w.heap.setIfInBounds b mob }
 have eE:b<w.heap.size:=hf.owlt _ _ how
 have cY:∀x,x≠b→w'.heap[x]? = w.heap[x]? := λx hx=>by
  simp only[w',be]; rw[af (by omega)]
 have cN:Ext w G w' G:=by
  refine⟨rfl,rfl,rfl,by simp[w'],λx _ jk=>cY x (by rintro rfl; rw[how] at jk; simp at jk),?_,λ_ _ h => .inl h,λ_ h => .inr h,λ_ _ h=>h,.one b (λk _ hk=>cY k hk) (λs hx=>by rw[gx] at hx; simp at hx) nJ,rfl⟩
  intro x o' fG
  have gc:x≠b:=by rintro rfl; exact nE _ fG
  refine⟨fG,?_⟩
  simp only[World.cell?,cY x gc]
 have cR:xa (λk=>k = .hobj n) w G w' G:=by
  refine⟨?_,λ_ _ h=>h⟩
  intro x k hx gH
  have gc:x≠b:=by rintro rfl; rw[how] at hx; simp at hx; exact gH hx.symm
  exact⟨hx,cY x gc,λ_ h=>h⟩
 have dj:FI N w' G (wG st n ob') a vs lm:=by
  refine⟨hf.len,λi t' u' h1 h2=>(hf.var i t' u' h1 h2).keep cN cR (by simp) (by simp),λi t' u' h1 h2=>(hf.loc i t' u' h1 h2).keep cN cR (by simp) (by simp),hf.tv,hf.tl,hf.defers,hf.gen,?_,?_,?_,?_⟩
  ·intro b' k da; simpa[w'] using hf.owlt _ _ da
  ·intro b' k da; simpa[w'] using hf.fixlt _ _ da
  ·exact hf.heap.keepBut cN cR (λm k cZ=>⟨by simp; omega,by simp⟩) (λ_=>hR.imp id λhR=>⟨b,hb,how,hR⟩)
  ·intro m b' h; have:=hf.hdom _ _ h; simpa[wG] using this
 exact⟨cN,dj⟩
theorem c7v (hf:FI N w G st a vs lm) {ob:PObj} {mob:Obj}
  (hR:∀G',G'=G.more w.heap.size st.heap.length→Ext w G (w.alloc mob) G'→ObjR N (w.alloc mob) G' st.heap.length w.heap.size ob):
  Ext w G (w.alloc mob) (G.more w.heap.size st.heap.length)∧FI N (w.alloc mob) (G.more w.heap.size st.heap.length) { st with heap:=st.heap++[ob] } a vs lm:=by
 let G':GS:=G.more w.heap.size st.heap.length
 have cN:Ext w G (w.alloc mob) G':=by
  refine⟨rfl,rfl,rfl,by simp,λb hb _=>yC hb,λb o h=>⟨h,C7 (hf.fixlt _ _ h)⟩,λ_ _ h => .inl h,?_,?_,.same λk hk=>yC hk,rfl⟩
  ·intro b hb
   by_cases cS:b<w.heap.size
   ·refine .inr ?_
    simp only[G',GS.more] at hb
    rw[af (by omega)] at hb
    exact hb
   ·exact .inl (by omega)
  ·intro n b h
   have:=hf.hdom _ _ h
   simp only[G',GS.more]
   rw[af (by omega)]; exact h
 have cR:xa (λ_=>False) w G (w.alloc mob) G':=by
  refine⟨?_,λ_ _ h=>h⟩
  intro b k hb _
  have cS:=hf.owlt _ _ hb
  refine⟨?_,yC cS,λ_ h=>h⟩
  simp only[G',GS.more]
  rw[af (by omega)]; exact hb
 have dj:FI N (w.alloc mob) G' { st with heap:=st.heap++[ob] } a vs lm:=by
  refine⟨hf.len,λi t u h1 h2=>(hf.var i t u h1 h2).keep cN cR (λh=>h) (λ_ _ _ h=>h),λj t u h1 h2=>(hf.loc j t u h1 h2).keep cN cR (λh=>h) (λ_ _ _ h=>h),hf.tv,hf.tl,hf.defers,hf.gen,?_,?_,?_,?_⟩
  ·intro b k hb
   simp only[G',GS.more] at hb
   split at hb
   ·simp; omega
   ·have:=hf.owlt _ _ hb; simp; omega
  ·intro b o h; have:=hf.fixlt _ _ h; simp; omega
  ·exact hf.heap.push cN cR (λ_ _ _=>⟨λh=>h,λh=>h⟩) (.inr ⟨w.heap.size,by simp[G',GS.more],by simp[G',GS.more],hR G' rfl cN⟩)
  ·intro n b h
   simp only[G',GS.more] at h
   simp only[ap,cI]
   split at h
   ·omega
   ·have:=hf.hdom _ _ h; omega
 exact⟨cN,dj⟩
theorem c2r (hf:FI N w G st a vs lm) (mob:Obj):Ext w G (w.alloc mob) G∧FI N (w.alloc mob) G st a vs lm:=by
 have cN:Ext w G (w.alloc mob) G:=
  ⟨rfl,rfl,rfl,by simp,λb hb _=>yC hb,λb o h=>⟨h,C7 (hf.fixlt _ _ h)⟩,λ_ _ h => .inl h,λ_ h => .inr h,λ_ _ h=>h,.same λk hk=>yC hk,rfl⟩
 have cR:xa (λ_=>False) w G (w.alloc mob) G:=⟨λb k hb _=>⟨hb,yC (hf.owlt _ _ hb),λ_ h=>h⟩,λ_ _ h=>h⟩
 exact⟨cN,hf.ext cN cR hf.gen (λb k h=>by have:=hf.owlt _ _ h; simp; omega) (λb o h=>by have:=hf.fixlt _ _ h; simp; omega)⟩
theorem FI.setDf (hf:FI N w G st a vs lm) (ds:List Deferred):FI N w { G with df:=ds } st { a with defers:=ds } vs lm:=
 ⟨hf.len,hf.var,hf.loc,hf.tv,hf.tl,rfl,hf.gen,hf.owlt,hf.fixlt,hf.heap,hf.hdom⟩
theorem Ext.setDf {w':World} {G':GS} (h:Ext w G w' G') (ds:List Deferred):Ext w { G with df:=ds } w' { G' with df:=ds }:=
 ⟨h.os,h.tape,h.output,h.size,h.same,h.fix,h.newfix,h.own,h.heap,h.shape,rfl⟩
def ExtD (w:World) (G:GS) (w':World) (G':GS):Prop:=Ext w { G with df:=G'.df } w' G'
theorem ExtD.of {w':World} {G':GS} (h:Ext w G w' G'):ExtD w G w' G':=by
 have:=h.setDf G'.df
 exact this
theorem ExtD.refl (w:World) (G:GS):ExtD w G w G := .of (Ext.refl w G)
theorem ExtD.trans {w1 w2:World} {G1 G2:GS} (h:ExtD w G w1 G1) (k:ExtD w1 G1 w2 G2):ExtD w G w2 G2:=by
 have h1:=Ext.setDf h G2.df
 exact Ext.trans h1 k
theorem ExtD.to {w':World} {G':GS} (h:ExtD w G w' G') (hd:G'.df=G.df):Ext w G w' G':=by
 unfold ExtD at h
 rw[hd] at h
 exact h
def Marks (w w':World) (G':GS) (ms:List Deferred):Prop:=
 ∃bs:List Nat,ms=bs.map (λb=>{ target := .collected b,args := #[] })∧bs.Nodup∧∀b∈bs,w.heap.size≤b∧w'.heap[b]? = some (.deferred (some []))∧G'.ow b=none
theorem Marks.nil (w w':World) (G':GS):Marks w w' G' []:=⟨[],rfl,List.nodup_nil,by simp⟩
theorem Marks.lt {w':World} {G':GS} {b:Nat} (h:w'.heap[b]? = some (.deferred (some []))):b<w'.heap.size:=(aV.1 h).1
theorem Marks.join {w1 w2:World} {G1 G2:GS} {ms1 ms2:List Deferred} (hs:w.heap.size≤w1.heap.size) (h1:Marks w w1 G1 ms1) (e:ExtD w1 G1 w2 G2) (h2:Marks w1 w2 G2 ms2):Marks w w2 G2 (ms2++ms1):=by
 obtain⟨b1,rfl,n1,k1⟩:=h1
 obtain⟨b2,rfl,n2,k2⟩:=h2
 refine⟨b2++b1,by simp,?_,?_⟩
 ·rw[cB]
  refine⟨n2,n1,?_⟩
  rintro x hx y hy rfl
  have:=(k2 x hx).1
  have:=Marks.lt (G':=G1) (k1 x hy).2.1
  omega
 ·intro b hb
  rcases ay.1 hb with hb|hb
  ·obtain⟨j1,j2,j3⟩:=k2 b hb
   exact⟨by omega,j2,j3⟩
  ·obtain⟨j1,j2,j3⟩:=k1 b hb
   have cS:=Marks.lt (G':=G1) j2
   refine⟨j1,(Ext.same e b cS j3).trans j2,?_⟩
   cases hx:G2.ow b with
   | none=>rfl
   | some k =>
     rcases Ext.own e b (by rw[hx]; simp) with h|h
     ·omega
     ·exact absurd j3 h
end
def FX (nt:Nat) (ops:List Oper):Bool:=ops.all λo=>match o.dst with | some t=>decide (t<nt) | none=>true
def HF (ops:List Oper):Bool:=ops.all λo=>match o.op with | .defer _=>false | _=>true
def BC (E:Env) (nt:Nat) (vs:List Tmp) (ops:Array Oper) (draw:Bool):Option (List PO):=
 if CZ vs ops.toList&&FX nt ops.toList&&HF ops.toList then
  (Cx E vs ops.toList ops.toList).bind λpos=>if draw && !C0 ops pos then none else some pos
 else none
def C1 (E:Env) (nt:Nat) (vs:List Tmp) (ops:Array Oper) (draw:Bool):Option (List PO):=
 if CZ vs ops.toList&&FX nt ops.toList&&HF ops.toList then
  (FY E vs ops.toList ops.toList).bind λpos=>if draw && !C0 ops pos then none else some pos
 else none
def FZ (E:Env) (nt:Nat) (vs:List Tmp) (ops:Array Oper):Option (List PO×Nat×PX):=
 if CZ vs ops.toList&&FX nt ops.toList&&HF ops.toList then
  match ops.toList.drop (ops.size - 2) with
  | [{ dst := some d, op := .makeInterface T x, guard := none, .. }, { op := .panic (.tmp d'), guard := none, .. }] =>
    match E.P.underlying T with
    | none | some (.interface _)=>none
    | some _=>if d=d'∧(xB d vs 0).isNone∧2≤ops.size then(Cx E vs ops.toList (ops.toList.take (ops.size - 2))).bind λpos=>(cx E vs ops.toList x).bind λpx=>(xB T E.pt 0).map λi=>(pos,i+1,px) else none
  | _=>none
 else none
def KI (E:Env) (nt:Nat) (vs:List Tmp) (ops:Array Oper):Option (Nat×List PX):=
 match ops.toList with
 | [{ dst := some d, op := .makeFunc (.func f) first caps, guard := none, .. }, { dst := none, op := .defer { callee := .value (.tmp d'), args, .. }, guard := none, .. }] =>
   if d=d'∧(xB d vs 0).isNone∧d<nt∧first.toList=[]∧args.toList=[] then(E.inv f).bind λk=>(cxs E vs [] caps.toList).map λps=>(k,ps) else none
 | _=>none
inductive Cmp (E:Env) (nt:Nat) (vs:List Tmp):Code→PC→Prop where
 | skip:Cmp E nt vs .skip .skip
 | region (id:Nat) (ops:Array Oper) (d:Bool) (pos:List PO) (h:BC E nt vs ops d=some pos):Cmp E nt vs (.region id ops d) (.region pos)
 | bregion (id:Nat) (ops:Array Oper) (d:Bool) (pos:List PO) (h:C1 E nt vs ops d=some pos):Cmp E nt vs (.region id ops d) (.bregion pos)
 | raise (id:Nat) (ops:Array Oper) (pos:List PO) (t:Nat) (px:PX) (h:FZ E nt vs ops=some (pos,t,px)):Cmp E nt vs (.region id ops false) (.raise pos t px)
 | branch (id : Nat) (ops : Array Oper) (d : Bool) (pos : List PO) (c : Operand) (px : PX) (x y : Code) (px1 px2 : PC) (h : BC E nt vs ops d = some pos) (hc : cx E vs ops.toList c = some px) (hx : Cmp E nt vs x px1) (hy : Cmp E nt vs y px2) :
   Cmp E nt vs (.seq (.region id ops d) (.cond c x y)) (.branch pos px px1 px2)
 | branchSeq (id : Nat) (ops : Array Oper) (d : Bool) (pos : List PO) (c : Operand) (px : PX) (x y r : Code) (px1 px2 pr : PC) (h : BC E nt vs ops d = some pos) (hc : cx E vs ops.toList c = some px) (hx : Cmp E nt vs x px1) (hy : Cmp E nt vs y px2) (hr : Cmp E nt vs r pr) :
   Cmp E nt vs (.seq (.region id ops d) (.seq (.cond c x y) r)) (.seq (.branch pos px px1 px2) pr)
 | bbranch (id : Nat) (ops : Array Oper) (d : Bool) (pos : List PO) (c : Operand) (px : PX) (x y : Code) (px1 px2 : PC) (h : C1 E nt vs ops d = some pos) (hc : cx E vs ops.toList c = some px) (hx : Cmp E nt vs x px1) (hy : Cmp E nt vs y px2) :
   Cmp E nt vs (.seq (.region id ops d) (.cond c x y)) (.bbranch pos px px1 px2)
 | bbranchSeq (id : Nat) (ops : Array Oper) (d : Bool) (pos : List PO) (c : Operand) (px : PX) (x y r : Code) (px1 px2 pr : PC) (h : C1 E nt vs ops d = some pos) (hc : cx E vs ops.toList c = some px) (hx : Cmp E nt vs x px1) (hy : Cmp E nt vs y px2) (hr : Cmp E nt vs r pr) :
   Cmp E nt vs (.seq (.region id ops d) (.seq (.cond c x y) r)) (.seq (.bbranch pos px px1 px2) pr)
 | guarded (id:Nat) (ops:Array Oper) (kd:Nat) (caps:List PX) (y:Code) (q:PC) (h:KI E nt vs ops=some (kd,caps)) (hy:Cmp E nt vs y q):Cmp E nt vs (.seq (.region id ops false) y) (.guarded kd caps q)
 | seq (x y:Code) (p q:PC) (hx:Cmp E nt vs x p) (hy:Cmp E nt vs y q):Cmp E nt vs (.seq x y) (.seq p q)
 | cond (c:Operand) (px:PX) (x y:Code) (p q:PC) (hc:cx E vs [] c=some px) (hx:Cmp E nt vs x p) (hy:Cmp E nt vs y q):Cmp E nt vs (.cond c x y) (.branch [] px p q)
 | block (id:Nat) (x:Code) (p:PC) (hx:Cmp E nt vs x p):Cmp E nt vs (.block id x) (.block id p)
 | loop (x:Code) (p:PC) (hx:Cmp E nt vs x p):Cmp E nt vs (.loop x) (.loop p)
 | rangeF (g : Operand) (ps : Array Tmp) (as body : Code) (px : PX) (kb : Nat) (vars : List Tmp) (caps : List PX) (hg : cx E vs [] g = some px) (hl : (ps, kb, vars) ∈ E.lps) (hv : cxs E vs [] (vars.map .tmp) = some caps) :
   Cmp E nt vs (.rangeFunc g ps as body) (.rangeF px kb caps)
 | stuck (x:Code):Cmp E nt vs x AE
 | exit (id:Nat):Cmp E nt vs (.exit id) (.exit id)
 | ret:Cmp E nt vs .ret .ret
def HG (E:Env) (nt:Nat) (vs:List Tmp) (ops:Array Oper) (d:Bool):PC:=
 if Pv E ops.toList then(match C1 E nt vs ops d with | some pos => .bregion pos | none=>AE)
 else match BC E nt vs ops d with
  | some pos=>if d then .region pos else(match FZ E nt vs ops with | some r => .raise r.1 r.2.1 r.2.2 | none => .region pos)
  | none=>if d then AE else(match FZ E nt vs ops with | some r => .raise r.1 r.2.1 r.2.2 | none=>AE)
def brC (E:Env) (nt:Nat) (vs:List Tmp) (ops:Array Oper) (d:Bool) (c:Operand) (p q:PC):PC:=
 if Pv E ops.toList then(match C1 E nt vs ops d,cx E vs ops.toList c with | some pos,some px => .bbranch pos px p q | _,_=>AE)
 else match BC E nt vs ops d,cx E vs ops.toList c with
  | some pos,some px => .branch pos px p q
  | _,_=>AE
theorem Pw {E:Env} {nt:Nat} {vs:List Tmp} (id:Nat) (ops:Array Oper) (d:Bool):Cmp E nt vs (.region id ops d) (HG E nt vs ops d):=by
 unfold HG
 split
 ·split
  ·exact .bregion id ops d _ (by assumption)
  ·exact .stuck _
 ·split
  ·split
   ·exact .region id ops d _ (by assumption)
   ·rename_i hd
    have:d=false:=by simpa using hd
    subst this
    split
    ·exact .raise id ops _ _ _ (by assumption)
    ·exact .region id ops false _ (by assumption)
  ·split
   ·exact .stuck _
   ·rename_i hd
    have:d=false:=by simpa using hd
    subst this
    split
    ·exact .raise id ops _ _ _ (by assumption)
    ·exact .stuck _
theorem c7m {E:Env} {nt:Nat} {vs:List Tmp} (id:Nat) (ops:Array Oper) (d:Bool) (c:Operand) {x y:Code} {p q:PC} (hx:Cmp E nt vs x p) (hy:Cmp E nt vs y q):Cmp E nt vs (.seq (.region id ops d) (.cond c x y)) (brC E nt vs ops d c p q):=by
 unfold brC
 split
 ·split
  ·exact .bbranch id ops d _ c _ x y p q (by assumption) (by assumption) hx hy
  ·exact .stuck _
 ·split
  ·exact .branch id ops d _ c _ x y p q (by assumption) (by assumption) hx hy
  ·exact .stuck _
def HH:PC→Bool
 | .branch [] (.c .dead) .skip .skip=>true
 | _=>false
theorem c7n {E:Env} {nt:Nat} {vs:List Tmp} (id:Nat) (ops:Array Oper) (d:Bool) (c:Operand) {x y r:Code} {p q pr:PC} (hx:Cmp E nt vs x p) (hy:Cmp E nt vs y q) (hr:Cmp E nt vs r pr):
  Cmp E nt vs (.seq (.region id ops d) (.seq (.cond c x y) r)) (if HH (brC E nt vs ops d c p q) then AE else .seq (brC E nt vs ops d c p q) pr):=by
 split
 ·exact .stuck _
 ·rename_i hs
  unfold brC at hs ⊢
  split
  ·rename_i hb
   rw[ah hb] at hs
   split
   ·exact .bbranchSeq id ops d _ c _ x y r p q pr (by assumption) (by assumption) hx hy hr
   ·rename_i h1
    split at hs
    ·rename_i a b h2 h3; exact absurd rfl (λe:(0:Nat)=0=>h1 _ _ h2 h3)
    ·simp[HH,AE] at hs
  ·rename_i hb
   rw[af hb] at hs
   split
   ·exact .branchSeq id ops d _ c _ x y r p q pr (by assumption) (by assumption) hx hy hr
   ·rename_i h1
    split at hs
    ·rename_i a b h2 h3; exact absurd rfl (λe:(0:Nat)=0=>h1 _ _ h2 h3)
    ·simp[HH,AE] at hs
def yk (E:Env) (nt:Nat) (vs:List Tmp):Code→PC
 | .skip => .skip
 | .region _ ops d=>HG E nt vs ops d
 | .seq (.region _ ops d) (.cond c x y)=>brC E nt vs ops d c (yk E nt vs x) (yk E nt vs y)
 | .seq (.region _ ops d) (.seq (.cond c x y) r)=>if HH (brC E nt vs ops d c (yk E nt vs x) (yk E nt vs y)) then AE else .seq (brC E nt vs ops d c (yk E nt vs x) (yk E nt vs y)) (yk E nt vs r)
 | .seq (.region _ ops false) y => match KI E nt vs ops with
   | some r => .guarded r.1 r.2 (yk E nt vs y)
   | none => .seq (HG E nt vs ops false) (yk E nt vs y)
 | .seq x y => .seq (yk E nt vs x) (yk E nt vs y)
 | .cond c x y => match cx E vs [] c with
   | some px => .branch [] px (yk E nt vs x) (yk E nt vs y)
   | none=>AE
 | .block id x => .block id (yk E nt vs x)
 | .loop x => .loop (yk E nt vs x)
 | .rangeFunc g ps _ _ => match cx E vs [] g, E.lps.find? (fun y => y.1 == ps) with
   | some px, some y => match cxs E vs [] (y.2.2.map .tmp) with
     | some caps => .rangeF px y.2.1 caps
     | none=>AE
   | _,_=>AE
 | .exit id => .exit id
 | .ret => .ret
 | _=>AE
theorem F0 {E:Env} {nt:Nat} {vs:List Tmp}:∀{c:Code},Cmp E nt vs c (yk E nt vs c):=by
 intro c
 fun_induction yk E nt vs c with
 | case1=>exact .skip
 | case2 id ops d=>exact Pw id ops d
 | case3 id ops d c x y ihx ihy=>exact c7m id ops d c ihx ihy
 | case4=>exact .stuck _
 | case5 id ops d c x y r h ihx ihy ihr =>
   have:=c7n id ops d c ihx ihy ihr
   rw[af h] at this
   exact this
 | case6 id ops y _ _ r h ihy=>exact .guarded id ops _ _ y _ h ihy
 | case7 id ops y _ _ h ihy=>exact .seq _ y _ _ (Pw id ops false) ihy
 | case8 x y _ _ _ ihx ihy=>exact .seq x y _ _ ihx ihy
 | case9 c x y px h ihx ihy=>exact .cond c px x y _ _ h ihx ihy
 | case10=>exact .stuck _
 | case11 id x ih=>exact .block id x _ ih
 | case12 x ih=>exact .loop x _ ih
 | case13 g ps a b px y e1 e2 caps e3 =>
   have h2:E.lps.find? (λy=>y.1==ps)=some y:=by assumption
   have hm:=List.mem_of_find?_eq_some h2
   have he:=List.find?_some h2
   obtain⟨y1,y2,y3⟩:=y
   have dx:y1=ps:=by simpa using he
   subst dx
   exact .rangeF g y1 a b px y2 y3 caps (by assumption) hm (by assumption)
 | case14=>exact .stuck _
 | case15=>exact .stuck _
 | case16 id=>exact .exit id
 | case17=>exact .ret
 | case18=>exact .stuck _
structure BI (N:Nm) (w:World) (G:GS) (st:St) (a:Act) (vs:List Tmp) (nt:Nat):Prop where
 fi:FI N w G st a vs (λ_=>none)
 size:nt≤a.tmps.size
theorem F1 (w:World) (G:GS):Ext w G w.drew G:=
 ⟨rfl,rfl,rfl,ao _,λ_ _ _=>rfl,λ_ _ h=>⟨h,rfl⟩,λ_ _ h => .inl h,λ_ h => .inr h,λ_ _ h=>h,ShapeLe.refl w,rfl⟩
theorem Px (w:World) (G:GS):xa (λ_=>False) w G w.drew G:=⟨λ_ _ h _=>⟨h,rfl,λ_ h=>h⟩,λ_ _ h=>h⟩
section
variable {E:Env} {N:Nm} {vs:List Tmp} {P:Program} {nt:Nat} {Q:Exit→Act→World→Prop}
theorem FI.begin {w:World} {G:GS} {st:St} {a:Act} (h:BI N w G st a vs nt) (lm:Nat→Option Tmp) (hl:∀j t,lm j=some t→t<nt) (n:Nat):FI N w G (AW n st) a vs lm:=by
 refine⟨h.fi.len,h.fi.var,?_,h.fi.tv,λj t hj=>aN (hl j t hj) h.size,h.fi.defers,h.fi.gen,h.fi.owlt,h.fi.fixlt,h.fi.heap,h.fi.hdom⟩
 intro j t u _ hu
 simp only[AW,cE] at hu
 split at hu
 ·simp at hu; subst hu; trivial
 ·simp at hu
theorem FI.finish {w:World} {G:GS} {st:St} {a:Act} {lm:Nat→Option Tmp} (h:FI N w G st a vs lm) (hs:nt≤a.tmps.size):BI N w G (xk st) a vs nt:=
 ⟨⟨h.len,h.var,(by intro j t u hj; simp at hj),h.tv,(by intro j t hj; simp at hj),h.defers,h.gen,h.owlt,h.fixlt,h.heap,h.hdom⟩,hs⟩
theorem HI {ops:List Oper} (h:FX nt ops=true):∀j t,wh vs ops j=some t→t<nt:=by
 intro j t hj
 unfold wh at hj
 split at hj
 ·rename_i o ho
  split at hj
  ·rename_i t' j4
   split at hj
   ·simp at hj
   ·simp at hj; subst hj
    have:=aK.1 h o (av ho)
    simpa[j4] using this
  ·simp at hj
 ·simp at hj
theorem KJ {ops:Array Oper} (h:HF ops.toList=true):∀(i:Nat) (o:Oper) c,ops[i]? = some o→o.op≠.defer c:=by
 intro i o c ho e
 have:=aK.1 h o (av (by simpa using ho))
 rw[e] at this
 simp at this
theorem HJ (n:Nat):xC n (Array.replicate n false)=List.range' 0 n:=by
 rw[← cH]
 unfold xC
 rw[List.filter_eq_self]
 intro i hi
 have:i<n:=by simpa using hi
 simp[aT,this]
theorem Py (ops:Array Oper):HK ops (Array.replicate ops.size false):=by
 intro k o ho eW
 have:k<ops.size:=(aV.1 ho).1
 simp[aT,this] at eW
variable {L:Nat→Option PFunc} {r:Option Nat}
theorem Pz (hF:x7 N P L) (hE:EnvOk E N) (hP:E.P=P) (dz:P.follows .mixedOrders=true) (dr:vs.Nodup) {cf:wm} (du:CallOK N P cf) (dZ:∀k args h r,cf k args h=some r→∃f,L k=some f)
  {id:Nat} {ops:Array Oper} {d:Bool} {pos:List PO} (hc:BC E nt vs ops d=some pos) {w:World} {G:GS} {st st':St} {a:Act} (hs:yA cf pos st=some st') (hb:BI N w G st a vs nt) (hQ:¬LetsOut Q)
  (hk:∀a' w' G',FI N w' G' st' a' vs (wh vs ops.toList)→Ext w G w' G'→nt≤a'.tmps.size→Q .normal a' w'):(Code.region id ops d).wpIn (W r) 0 P Q a w:=by
 unfold BC at hc
 split at hc
 ·rename_i cT
  simp only[ak] at cT
  simp only[ae] at hc
  obtain⟨pos',dE,hc⟩:=hc
  split at hc
  ·simp at hc
  ·rename_i fq
   simp at hc; subst hc
   have nm:=HL dr cT.1.1
   have cO:ops.size=pos'.length:=by have:=(C2 dE).1; simpa using this
   have fU:=FI.begin hb (wh vs ops.toList) (HI cT.1.2) pos'.length
   have hx:ym cf pos' (List.range' 0 pos'.length) (AW pos'.length st)=some st':=by
    rw[← HM (all:=pos') (by simp)]; exact hs
   have dh:Next1 N w G a st' vs ops.toList (Q .normal):=λa' w' G' h1 h2 h3=>hk a' w' G' h1 h2 (by rw[h3]; exact hb.size)
   have dr:=KJ cT.2
   cases d with
   | false =>
     refine wpIn_region (KK dr hQ ?_)
     have:List.range ops.size=List.range' 0 pos'.length:=by rw[cO,cH]
     rw[this]
     exact KL hF hE hP nm du dZ dE hx fU dh
   | true =>
     have j5:C0 ops pos'=true:=by simpa using fq
     refine wpIn_region_draw λt=>KK dr hQ ?_
     have iO:FI N w.drew G (AW pos'.length st) a vs (wh vs ops.toList):=fU.ext (F1 w G) (Px w G) fU.gen fU.owlt fU.fixlt
     simp only[Region.schedule,dz,Bool.true_or,if_true]
     refine wpAny_sound ops.size t _ a _ ?_
     refine c2G hF hE hP nm du dZ dE j5 ops.size (by simp) (by rw[HJ]; simp) (Py ops) (by rw[HJ,cO]; exact hx) iO (dh.trans (F1 w G) rfl)
 ·simp at hc
theorem KM (hF:x7 N P L) (hE:EnvOk E N) (hP:E.P=P) {ops:Array Oper} (nm:Names vs (wh vs ops.toList)) {cf:wm} (du:CallOK N P cf) {ob:xX} (dB:Eg N P ob) (d9:F2 N P ob)
  (dZ:∀k args h x,cf k args h=some x→∃f,L k=some f) (iP:∀k args h x,ob k args h=some x→∃f,L k=some f) (hd:∀(i:Nat) (o:Oper) c,ops[i]? = some o→o.op≠.defer c) {pos:List PO} (dE:∀(i:Nat) (o:Oper),ops.toList[i]? = some o→∃p,pos[i]? = some p∧F3 E vs ops.toList o=some p) (cO:ops.size=pos.length)
  {res:Option PV} {st':St} (hQ:¬LetsOut Q):
  ∀ {l : List Nat} {st : St} {w : World} {G : GS} {a : Act}, zG cf ob pos l st = some (res, st') → FI N w G st a vs (wh vs ops.toList) → (res = none → Next1 N w G a st' vs ops.toList (Q .normal)) →
    (∀p,res=some p→∀a' w' G' v,a'.tmps.size=a.tmps.size→VR N w' G'.fix G'.heap v p→Ext w G w' G'→FI N w' G' st' a' vs (wh vs ops.toList)→Q (.panic [{ v,recovered:=false }]) a' w')→wpOpsIn (W r) 0 P ops Q l a w
 | [], st, w, G, a, h, hf, hk, hb => by
   simp only[zG,aa,ac] at h
   obtain⟨rfl,rfl⟩:=h
   exact hk rfl _ _ G hf (Ext.refl _ _) rfl
 | i :: l, st, w, G, a, h, hf, hk, hb => by
   simp only[zG] at h
   split at h
   ·rename_i p hp
    have hi:i<ops.size:=by rw[cO]; exact(ai.1 hp).1
    obtain⟨p',eM,fN⟩:=dE i ops[i] (by simp[hi])
    have:p'=p:=by rw[hp] at eM; simpa using eM.symm
    subst this
    rw[wpOpsIn_cons]
    have pW:ops[i]? = some ops[i]:=by simp[hi]
    split at h
    ·rename_i st1 hs
     refine PA (res:=none) hF hE hP nm pW hf du dB d9 dZ iP (λc=>hd i _ c pW) fN hs hQ ?_ (λp e=>by simp at e)
     intro _ a' w' G' hZ he cV
     exact KM hF hE hP nm du dB d9 dZ iP hd dE cO hQ h hZ (λhn=>(hk hn).trans he cV)
      (λp hp a2 w2 G2 v h1 h2 h3 h4=>hb p hp a2 w2 G2 v (h1.trans cV) h2 (he.trans h3) h4)
    ·rename_i cZ
     have hs:yu cf ob i p' st=some (res,st'):=h
     cases res with
     | none=>exact absurd hs (cZ st')
     | some v =>
       refine PA (res:=some v) hF hE hP nm pW hf du dB d9 dZ iP (λc=>hd i _ c pW) fN hs hQ (λe=>by simp at e) ?_
       rintro p e w' G' u h1 h2 h3
       cases e
       exact hb v rfl a w' G' u rfl h1 h2 h3
   ·simp at h
theorem HN:∀{os:List Oper} {pos:List PO} {ops:List Oper},FY E vs ops os=some pos→os.length=pos.length∧∀(i:Nat) (o:Oper),os[i]? = some o→∃p,pos[i]? = some p∧F3 E vs ops o=some p
 | [],pos,ops,h=>by simp[FY] at h; subst h; simp
 | o :: os, pos, ops, h => by
   simp only[FY,ae,ab] at h
   obtain⟨p,hp,ps,dT,rfl⟩:=h
   obtain⟨h1,h2⟩:=HN dT
   refine⟨by simp[h1],?_⟩
   intro i x hx
   cases i with
   | zero=>simp at hx; subst hx; exact⟨p,rfl,hp⟩
   | succ i=>exact h2 i x (by simpa using hx)
theorem HO (hF:x7 N P L) (hE:EnvOk E N) (hP:E.P=P) (dz:P.follows .mixedOrders=true) (dr:vs.Nodup) {cf:wm} (du:CallOK N P cf) {ob:xX} (dB:Eg N P ob) (d9:F2 N P ob)
  (dZ:∀k args h r,cf k args h=some r→∃f,L k=some f) (iP:∀k args h x,ob k args h=some x→∃f,L k=some f)
  {id:Nat} {ops:Array Oper} {d:Bool} {pos:List PO} (hc:C1 E nt vs ops d=some pos) {w:World} {G:GS} {st st':St} {a:Act} {res:Option PV} (hs:xI cf ob 0 pos (AW pos.length st)=some (res,st')) (hb:BI N w G st a vs nt) (hQ:¬LetsOut Q)
  (hk:res=none→∀a' w' G',FI N w' G' st' a' vs (wh vs ops.toList)→Ext w G w' G'→nt≤a'.tmps.size→Q .normal a' w')
  (rk:∀p,res=some p→∀a' w' G' v,VR N w' G'.fix G'.heap v p→Ext w G w' G'→BI N w' G' (xk st') a' vs nt→Q (.panic [{ v,recovered:=false }]) a' w'):(Code.region id ops d).wpIn (W r) 0 P Q a w:=by
 unfold C1 at hc
 split at hc
 ·rename_i cT
  simp only[ak] at cT
  simp only[ae] at hc
  obtain⟨pos',dE,hc⟩:=hc
  split at hc
  ·simp at hc
  ·rename_i fq
   simp at hc; subst hc
   have nm:=HL dr cT.1.1
   have cO:ops.size=pos'.length:=by have:=(HN dE).1; simpa using this
   have fU:=FI.begin hb (wh vs ops.toList) (HI cT.1.2) pos'.length
   have hx:zG cf ob pos' (List.range' 0 pos'.length) (AW pos'.length st)=some (res,st'):=by
    rw[← PB (all:=pos') (by simp)]; exact hs
   have dh:res=none→Next1 N w G a st' vs ops.toList (Q .normal):=λhn a' w' G' h1 h2 h3=>hk hn a' w' G' h1 h2 (by rw[h3]; exact hb.size)
   have oK:∀p,res=some p→∀a' w' G' v,a'.tmps.size=a.tmps.size→VR N w' G'.fix G'.heap v p→Ext w G w' G'→FI N w' G' st' a' vs (wh vs ops.toList)→Q (.panic [{ v,recovered:=false }]) a' w':=
    λp hp a' w' G' v h1 h2 h3 h4=>rk p hp a' w' G' v h2 h3 (FI.finish h4 (by rw[h1]; exact hb.size))
   have dr:=KJ cT.2
   cases d with
   | false =>
     refine wpIn_region ?_
     have:List.range ops.size=List.range' 0 pos'.length:=by rw[cO,cH]
     rw[this]
     exact KM hF hE hP nm du dB d9 dZ iP dr (HN dE).2 cO hQ hx fU dh oK
   | true =>
     have j5:C0 ops pos'=true:=by simpa using fq
     refine wpIn_region_draw λt =>?_
     have iO:FI N w.drew G (AW pos'.length st) a vs (wh vs ops.toList):=fU.ext (F1 w G) (Px w G) fU.gen fU.owlt fU.fixlt
     simp only[Region.schedule,dz,Bool.true_or,if_true]
     have gX:=c7u cO j5 ops.size t (listed:=Array.replicate ops.size false) (by simp) (by rw[HJ]; simp) (Py ops) (by rw[HJ,cO]; exact hx)
     exact KM hF hE hP nm du dB d9 dZ iP dr (HN dE).2 cO hQ gX iO (λhn=>(dh hn).trans (F1 w G) rfl)
      (λp hp a' w' G' v h1 h2 h3 h4=>oK p hp a' w' G' v h1 h2 ((F1 w G).trans h3) h4)
 ·simp at hc
theorem BI.putOther {w:World} {G:GS} {st:St} {a:Act} (h:BI N w G st a vs nt) {d:Tmp} (hd:(xB d vs 0).isNone=true) (v:Value):BI N w G st (a.put (some d) v) vs nt:=by
 refine⟨⟨h.fi.len,?_,(by intro j t u hj; simp at hj),λi t ht=>by simpa[Act.put] using h.fi.tv i t ht,(by intro j t hj; simp at hj),h.fi.defers,h.fi.gen,h.fi.owlt,h.fi.fixlt,h.fi.heap,h.fi.hdom⟩,by simpa[Act.put] using h.size⟩
 intro i t u h1 h2
 have cZ:t≠d:=by
  rintro rfl
  have:=KN h1 0
  simp at hd
  rw[hd] at this
  simp at this
 have:(a.put (some d) v).eval (.tmp t)=a.eval (.tmp t):=by
  simp only[Act.eval,Act.put,aT,be]
  rw[af (Ne.symm cZ)]
 rw[this]
 exact h.fi.var i t u h1 h2
theorem PE (hF:x7 N P L) (hE:EnvOk E N) (hP:E.P=P) {ops:Array Oper} (nm:Names vs (wh vs ops.toList)) {cf:wm} (du:CallOK N P cf)
  (dZ:∀k args h x,cf k args h=some x→∃f,L k=some f) (hd:∀(i:Nat) (o:Oper) c,ops[i]? = some o→o.op≠.defer c) {pos:List PO} (dE:∀(i:Nat) (p:PO),pos[i]? = some p→∃o,ops[i]? = some o∧DA E vs ops.toList o=some p)
  {st':St} (hQ:¬LetsOut Q) {rest:List Nat}:
  ∀{l:List Nat} {st:St} {w:World} {G:GS} {a:Act},ym cf pos l st=some st'→FI N w G st a vs (wh vs ops.toList)→Next1 N w G a st' vs ops.toList (wpOpsIn (W r) 0 P ops Q rest)→wpOpsIn (W r) 0 P ops Q (l++rest) a w
 | [], st, w, G, a, h, hf, hk => by
   simp only[ym,aa] at h
   subst h
   exact hk _ _ G hf (Ext.refl _ _) rfl
 | i :: l, st, w, G, a, h, hf, hk => by
   simp only[ym] at h
   split at h
   ·rename_i p hp
    simp only[ae] at h
    obtain⟨st1,h1,h2⟩:=h
    obtain⟨o,ho,fN⟩:=dE i p hp
    rw[aL,wpOpsIn_cons]
    refine KO (λo' c eN=>hd i o' c eN) hQ (HP hF hE hP nm ho hf du dZ fN h1 ?_)
    intro a' w' G' hZ he cV
    exact PE hF hE hP nm du dZ hd dE hQ h2 hZ (hk.trans he cV)
   ·simp at h
theorem b8K (hF:x7 N P L) (hE:EnvOk E N) (hP:E.P=P) (dr:vs.Nodup) {cf:wm} (du:CallOK N P cf) (dZ:∀k args h r,cf k args h=some r→∃f,L k=some f)
  {id:Nat} {ops:Array Oper} {pos:List PO} {t:Nat} {px:PX} (hc:FZ E nt vs ops=some (pos,t,px)) {w:World} {G:GS} {st st1:St} {a:Act} {u:PV} (hs:yA cf pos st=some st1) (hu:rd st1 px=some u) (hb:BI N w G st a vs nt) (hQ:¬LetsOut Q)
  (rk:∀a' w' G' v,VR N w' G'.fix G'.heap v (.iface t u)→Ext w G w' G'→BI N w' G' (xk st1) a' vs nt→Q (.panic [{ v,recovered:=false }]) a' w'):(Code.region id ops false).wpIn (W r) 0 P Q a w:=by
 unfold FZ at hc
 split at hc
 ·rename_i cT
  simp only[ak] at cT
  split at hc
  ·rename_i d T x ty1 p1 af1 dst2 d' ty2 p2 af2 jh
   split at hc
   ·simp at hc
   ·simp at hc
   ·rename_i tu rm u9
    split at hc
    ·rename_i gY
     obtain⟨rfl,nA,h2⟩:=gY
     simp only[ae,ab,ac] at hc
     obtain⟨pos',dE,px',fF,i,hi,rfl,rfl,rfl⟩:=hc
     obtain⟨m,hm⟩:∃m,ops.size=m+2:=⟨ops.size - 2,by omega⟩
     rw[hm] at jh dE
     simp only[Nat.add_sub_cancel] at jh dE
     have nm:=HL dr cT.1.1
     have eA:pos'.length=m:=by
      have:=(C2 dE).1
      rw[bk] at this
      simp at this
      omega
     have eV:=KJ cT.2
     have va:∀(i:Nat) (p:PO),pos'[i]? = some p→∃o,ops[i]? = some o∧DA E vs ops.toList o=some p:=by
      intro i p hp
      have cS:=(ai.1 hp).1
      have j6:i<ops.size:=by omega
      obtain⟨p',eM,fN⟩:=(C2 dE).2 i ops[i] (by rw[cu (by omega)]; simp[j6])
      rw[hp] at eM
      cases eM
      exact⟨ops[i],by simp[j6],fN⟩
     have fU:=FI.begin hb (wh vs ops.toList) (HI cT.1.2) pos'.length
     have hx:ym cf pos' (List.range' 0 pos'.length) (AW pos'.length st)=some st1:=by
      rw[← HM (all:=pos') (by simp)]; exact hs
     have tG:ops.toList[m]? = some ⟨some d,.makeInterface T x,ty1,p1,af1,none⟩:=by
      have:=aF (·[0]?) jh
      simpa[aX] using this
     have rn:ops.toList[m+1]? = some ⟨dst2,.panic (.tmp d),ty2,p2,af2,none⟩:=by
      have:=aF (·[1]?) jh
      simpa[aX] using this
     have di:d<nt:=by
      have:=aK.1 cT.1.2 _ (av tG)
      simpa using this
     have iQ:List.range ops.size=List.range' 0 pos'.length++[m,m+1]:=by
      rw[hm,eA,cH,List.range'_eq_append_iff]
      exact⟨m,by omega,rfl,by rw[show m+2 - m=2 by omega]; simp[List.range'_succ]⟩
     refine wpIn_region ?_
     rw[iQ]
     refine PE hF hE hP nm du dZ eV va hQ hx fU ?_
     intro a' w' G' hZ he cV
     have em:=(wL hE fF hZ hu).1
     have vb:=hE.pt T i hi
     have vd:P.underlying T=some tu:=by rw[← hP]; exact u9
     rw[wpOpsIn_cons]
     unfold wpOpIn
     have ve:ops[m]? = some ⟨some d,.makeInterface T x,ty1,p1,af1,none⟩:=by simpa using tG
     have vf:ops[m+1]? = some ⟨dst2,.panic (.tmp d),ty2,p2,af2,none⟩:=by simpa using rn
     simp only[ve,Region.wanted,if_true]
     refine⟨λ_ _=>AF _,?_⟩
     rw[Oper.semAt_eq _ _ _ (by simp)]
     have cQ:(execOp a'.eval (⟨some d,.makeInterface T x,ty1,p1,af1,none⟩:Oper)).run P w' = .ok (.value (.iface T (a'.eval x))) w':=by
      have vg:=run_underlying vd w'
      simp only[execOp,Instr.makeInterface,Sem.run_bind,vg,Result.andThen_ok]
      cases tu<;>first|(exfalso; exact rm _ rfl)|simp
     rw[cQ,Oper.uponIn_value]
     rw[wpOpsIn_cons]
     unfold wpOpIn
     simp only[vf,Region.wanted,if_true]
     refine⟨λ_ _=>AF _,?_⟩
     rw[Oper.semAt_eq _ _ _ (by simp)]
     have eO:(a'.put (some d) (.iface T (a'.eval x))).eval (.tmp d) = .iface T (a'.eval x):=by
      have:d<a'.tmps.size:=by rw[cV]; exact aN di hb.size
      simp[Act.eval,Act.put,aT,be,this]
     have j7:(execOp (a'.put (some d) (.iface T (a'.eval x))).eval (⟨dst2,.panic (.tmp d),ty2,p2,af2,none⟩:Oper)).run P w' = .halt (.panic (.iface T (a'.eval x))) w':=by
      simp only[execOp,Instr.panic,eO]
      rfl
     rw[j7,Oper.uponIn_panic]
     refine rk _ w' G' _ ?_ he ((FI.finish hZ (by rw[cV]; exact hb.size)).putOther nA _)
     rw[← vb]
     exact .iface _ _ _ em
    ·simp at hc
  ·simp at hc
 ·simp at hc
end
def PExit.plain:PExit→Bool
 | .after _ _ _=>false
 | _=>true
def Clo (N:Nm) (w':World) (G':GS) (kd:Nat) (caps:List PV):Prop:=
 ∃ (d : Deferred) (ds : List Deferred) (vals : Array Value), G'.df = d :: ds ∧ d = { target := .fn (.func (N.fn kd)) vals, args := #[] } ∧ vals.size = caps.length ∧
   ∀(i:Nat) (v:Value) (p:PV),vals[i]? = some v→caps[i]? = some p→VR N w' G'.fix G'.heap v p
def zp (N:Nm) (w':World) (G':GS):PExit→Exit→Prop
 | .normal,e=>e = .normal
 | .exit id,e=>e = .exit id
 | .ret,e=>e = .ret
 | .boom p,e=>∃v,e = .panic [{ v,recovered:=false }]∧VR N w' G'.fix G'.heap v p
 | .after kd caps none,e=>(e = .normal∨e = .ret)∧Clo N w' G' kd caps
 | .after kd caps (some p),e=>(∃v,e = .panic [{ v,recovered:=false }]∧VR N w' G'.fix G'.heap v p)∧Clo N w' G' kd caps
def DfR (p:PC) (x:PExit) (w:World) (G:GS) (w':World) (G':GS):Prop:=
 match x with
 | .after _ _ _=>p.NR=true→∃d,G'.df=d::G.df
 | _=>∃ms,G'.df=ms++G.df∧Marks w w' G' ms∧(p.NR=true→ms=[])
def xT:Code→List (Array Tmp×Code×Code)
 | .seq a b | .cond _ a b=>xT a++xT b
 | .block _ c | .loop c=>xT c
 | .rangeFunc _ ps a b=>[(ps,a,b)]
 | _=>[]
def LpOK (E:Env) (N:Nm) (nt:Nat) (fid:FuncId) (c:Code):Prop:=
 ∀ps kb vars,(ps,kb,vars)∈E.lps→∀x∈xT c,x.1=ps→N.yl kb=some ⟨fid,ps,x.2.1,x.2.2,vars,nt⟩
theorem LpOK.sub {E:Env} {N:Nm} {nt:Nat} {fid:FuncId} {c c':Code} (h:LpOK E N nt fid c) (hs:∀x∈xT c',x∈xT c):LpOK E N nt fid c':=λps kb vars hl x hx=>h ps kb vars hl x (hs x hx)
theorem Ext.size_le {w w':World} {G G':GS} (h:ExtD w G w' G'):w.heap.size≤w'.heap.size:=Ext.size h
theorem DfR.plain {p:PC} {x:PExit} {w w':World} {G G':GS} (h:G'.df=G.df) (hx:∀kd caps v,x≠.after kd caps v):DfR p x w G w' G':=by
 unfold DfR
 cases x with
 | after kd caps v=>exact absurd rfl (hx kd caps v)
 | _=>exact⟨[],by simpa using h,Marks.nil _ _ _,λ_=>rfl⟩
theorem DfR.trans {p q s:PC} {x:PExit} {w w1 w2:World} {G G1 G2:GS} (e1:ExtD w G w1 G1) (h1:DfR p .normal w G w1 G1) (e2:ExtD w1 G1 w2 G2) (h2:DfR q x w1 G1 w2 G2) (hs:s.NR=true→p.NR=true∧q.NR=true):DfR s x w G w2 G2:=by
 obtain⟨ms,a1,a2,a3⟩:=h1
 have marks:∀ms2,G2.df=ms2++G1.df→Marks w1 w2 G2 ms2→(q.NR=true→ms2=[])→∃ms,G2.df=ms++G.df∧Marks w w2 G2 ms∧(s.NR=true→ms=[]):=by
  intro ms2 b1 b2 b3
  exact⟨ms2++ms,by rw[b1,a1]; simp,Marks.join (Ext.size_le e1) a2 e2 b2,λh=>by rw[b3 (hs h).2,a3 (hs h).1]; rfl⟩
 unfold DfR at h2 ⊢
 cases x with
 | after kd caps v =>
   intro h
   obtain⟨d,hd⟩:=h2 (hs h).2
   exact⟨d,by rw[hd,a1,a3 (hs h).1]; rfl⟩
 | normal=>obtain⟨ms2,b1,b2,b3⟩:=h2; exact marks ms2 b1 b2 b3
 | ret=>obtain⟨ms2,b1,b2,b3⟩:=h2; exact marks ms2 b1 b2 b3
 | exit id=>obtain⟨ms2,b1,b2,b3⟩:=h2; exact marks ms2 b1 b2 b3
 | boom v=>obtain⟨ms2,b1,b2,b3⟩:=h2; exact marks ms2 b1 b2 b3
theorem DfR.weak {p s:PC} {x:PExit} {w w1 w2:World} {G G1 G2:GS} (e1:ExtD w G w1 G1) (h1:G1.df=G.df) (e2:ExtD w1 G1 w2 G2) (h2:DfR p x w1 G1 w2 G2) (hs:s.NR=true→p.NR=true):DfR s x w G w2 G2:=
 DfR.trans (p := .skip) e1 (DfR.plain h1 (by simp)) e2 h2 (λh=>⟨rfl,hs h⟩)
theorem BD {K:Act→World→Prop} {Q:Exit→Act→World→Prop} (h:¬LetsOut Q):¬LetsOut (Exit.then K Q):=fun⟨a,w,hq⟩=>h ⟨a,w,hq⟩
theorem KP {id:Nat} {Q:Exit→Act→World→Prop} (h:¬LetsOut Q):¬LetsOut (Exit.inBlock id Q):=fun⟨a,w,hq⟩=>h ⟨a,w,hq⟩
theorem B9 {L:Nat→Option PFunc}:∀{n:Nat} {p:PC} {st st':St} {kd:Nat} {cs:List PV} {v:Option PV},p.RO=true→wn L n p st=some (.after kd cs v,st')→False
 | 0,p,st,st',kd,cs,v,_,h=>by simp[wn] at h
 | n + 1, p, st, st', kd, cs, v, hr, h => by
   rw[wn.eq_def] at h
   cases p with
   | rangeF x kb caps=>simp[PC.RO] at hr
   | guarded k2 caps c=>simp[PC.RO] at hr
   | round a b=>simp at h
   | skip=>simp at h
   | exit id=>simp at h
   | ret=>simp at h
   | region ops=>simp at h
   | raise ops t x =>
     simp only at h
     split at h
     ·rename_i st1 _
      cases hx:rd st1 x with
      | none=>rw[hx] at h; simp at h
      | some p=>rw[hx] at h; simp at h
     ·simp at h
   | bregion ops=>simp only at h; split at h<;>simp at h
   | branch ops x a b =>
     simp only[PC.RO,ak] at hr
     simp only at h
     split at h
     ·split at h
      ·rename_i t _
       cases t
       ·exact B9 hr.2 h
       ·exact B9 hr.1 h
      ·simp at h
     ·simp at h
   | bbranch ops x a b =>
     simp only[PC.RO,ak] at hr
     simp only at h
     split at h
     ·split at h
      ·rename_i t _
       cases t
       ·exact B9 hr.2 h
       ·exact B9 hr.1 h
      ·simp at h
     ·simp at h
     ·simp at h
   | seq a b =>
     simp only[PC.RO,ak] at hr
     simp only at h
     split at h
     ·exact B9 hr.2 h
     ·simp at h
     ·exact B9 hr.1 h
   | block id c =>
     simp only[PC.RO] at hr
     simp only at h
     split at h
     ·split at h<;>simp at h
     ·simp at h
     ·exact B9 hr h
   | loop c =>
     have fo:=hr
     simp only[PC.RO] at hr
     simp only at h
     split at h
     ·exact B9 fo h
     ·simp at h
     ·exact B9 hr h
section
variable {E:Env} {N:Nm} {vs:List Tmp} {P:Program} {nt:Nat} {L:Nat→Option PFunc}
def KQ (N:Nm) (vs:List Tmp) (nt:Nat) (p:PC) (x:PExit) (st':St) (w:World) (G:GS) (Q:Exit→Act→World→Prop):Prop:=
 ∀a' w' G' e,zp N w' G' x e→BI N w' G' st' a' vs nt→ExtD w G w' G'→DfR p x w G w' G'→Q e a' w'
theorem HQ {K:Act→World→Prop} {Q:Exit→Act→World→Prop} {p:PC} {x:PExit} {st':St} {w:World} {G:GS} (hx:x≠.normal) (ha:∀kd caps v,x≠.after kd caps v) (h:KQ N vs nt p x st' w G Q):KQ N vs nt p x st' w G (Exit.then K Q):=by
 intro a' w' G' e he hb cN hd
 have:=h a' w' G' e he hb cN hd
 cases x with
 | normal=>exact absurd rfl hx
 | after kd caps v=>exact absurd rfl (ha kd caps v)
 | exit id=>simp only[zp] at he; subst he; exact this
 | ret=>simp only[zp] at he; subst he; exact this
 | boom v=>obtain⟨u,rfl,_⟩:=he; exact this
structure Runs (N:Nm) (P:Program) (L:Nat→Option PFunc) (n:Nat):Prop where
 call:CallOK N P (xH (wn L n) L)
 out:Eg N P (yc (wn L n) L)
 round:F2 N P (yc (wn L n) L)
 yl:∀k,CG L k=true→N.yl k=none
theorem DB {n:Nat} {k:Nat} {args:List PV} {h:List PObj} {x} (hc:xH (wn L n) L k args h=some x):∃f,L k=some f:=by
 unfold xH at hc
 split at hc
 ·simp at hc
 ·rename_i f hf; exact⟨f,hf⟩
theorem Eh {n:Nat} {k:Nat} {args:List PV} {h:List PObj} {x} (hc:yc (wn L n) L k args h=some x):∃f,L k=some f:=by
 unfold yc at hc
 split at hc
 ·simp at hc
 ·rename_i f hf; exact⟨f,hf⟩
theorem Cy (hF:x7 N P L) (hE:EnvOk E N) (hP:E.P=P) (dz:P.follows .mixedOrders=true) (dr:vs.Nodup) {fid:FuncId} {rd':Option Nat}:
  ∀ (n : Nat), (∀ m, m < n → Runs N P L m) → ∀ {c : Code} {p : PC} {x : PExit} {st st' : St} {w : World} {G : GS} {a : Act} {Q : Exit → Act → World → Prop}, Cmp E nt vs c p → wn L n p st = some (x, st') → BI N w G st a vs nt → LpOK E N nt fid c →
    (rd'=none∨p.RO=true)→¬LetsOut Q→KQ N vs nt p x st' w G Q→wpN rd' fid P c Q a w
 | 0,_,c,p,x,st,st',w,G,a,Q,_,h,_,_,_,_,_=>by simp[wn] at h
 | n + 1, de, c, p, x, st, st', w, G, a, Q, hc, h, hb, hY, hR, hQ, hk => by
   have cQ:=de n (by omega)
   have branch:∀{m:Nat},m≤n→∀{id:Nat} {ops:Array Oper} {d:Bool} {pos:List PO} {cc:Operand} {px:PX} {x1 y1:Code} {p1 p2:PC} {Q:Exit→Act→World→Prop} {x:PExit} {st':St},BC E nt vs ops d=some pos→cx E vs ops.toList cc=some px→Cmp E nt vs x1 p1→Cmp E nt vs y1 p2 →
     LpOK E N nt fid x1→LpOK E N nt fid y1→(rd'=none∨(p1.RO=true∧p2.RO=true))→¬LetsOut Q →
     wn L (m+1) (.branch pos px p1 p2) st=some (x,st')→KQ N vs nt (.branch pos px p1 p2) x st' w G Q→wpN rd' fid P (.region id ops d) (Exit.then (wpN rd' fid P (.cond cc x1 y1) Q) Q) a w:=by
    intro m hm id ops d pos cc px x1 y1 p1 p2 Q x st' gu eL hx hy ro rp hR hQ h hk
    have ih := @Cy hF hE hP dz dr fid rd' m (λm' jL=>de m' (by omega))
    have cQ:=de m (by omega)
    simp only[wn] at h
    split at h
    ·rename_i st1 ei
     split at h
     ·rename_i t ht
      refine C3 (Pz hF hE hP dz dr cQ.call (λ_ _ _ _=>DB) gu ei hb (BD hQ) ?_)
      intro a' w' G' hf he cV
      have eO:=(wL hE eL hf ht).1
      have ff:a'.eval cc = .bool t:=by generalize a'.eval cc=z at eO; cases eO; rfl
      have da:=FI.finish (nt:=nt) hf cV
      refine KR ff ?_
      have knext:∀(pq:PC),(pq=p1∨pq=p2)→KQ N vs nt pq x st' w' G' Q:=by
       intro pq mz a2 w2 G2 e2 h1 h2 h3 h4
       refine hk a2 w2 G2 e2 h1 h2 (ExtD.trans (.of he) h3) (DfR.weak (.of he) he.df h3 h4 ?_)
       intro hn
       simp only[PC.NR,ak] at hn
       rcases mz with rfl|rfl
       ·exact hn.1
       ·exact hn.2
      cases t with
      | true=>exact ih hx (by simpa using h) da ro (hR.imp (λh=>h) (·.1)) hQ (knext _ (.inl rfl))
      | false=>exact ih hy (by simpa using h) da rp (hR.imp (λh=>h) (·.2)) hQ (knext _ (.inr rfl))
     ·simp at h
    ·simp at h
   have bbranch:∀{m:Nat},m≤n→∀{id:Nat} {ops:Array Oper} {d:Bool} {pos:List PO} {cc:Operand} {px:PX} {x1 y1:Code} {p1 p2:PC} {Q:Exit→Act→World→Prop} {x:PExit} {st':St},C1 E nt vs ops d=some pos→cx E vs ops.toList cc=some px→Cmp E nt vs x1 p1→Cmp E nt vs y1 p2 →
     LpOK E N nt fid x1→LpOK E N nt fid y1→(rd'=none∨(p1.RO=true∧p2.RO=true))→¬LetsOut Q →
     wn L (m+1) (.bbranch pos px p1 p2) st=some (x,st')→KQ N vs nt (.bbranch pos px p1 p2) x st' w G Q→wpN rd' fid P (.region id ops d) (Exit.then (wpN rd' fid P (.cond cc x1 y1) Q) Q) a w:=by
    intro m hm id ops d pos cc px x1 y1 p1 p2 Q x st' gu eL hx hy ro rp hR hQ h hk
    have ih := @Cy hF hE hP dz dr fid rd' m (λm' jL=>de m' (by omega))
    have cQ:=de m (by omega)
    simp only[wn] at h
    split at h
    ·rename_i st1 ei
     split at h
     ·rename_i t ht
      refine C3 (HO (res:=none) hF hE hP dz dr cQ.call cQ.out cQ.round (λ_ _ _ _=>DB) (λ_ _ _ _=>Eh) gu ei hb (BD hQ) ?_ (λp e=>by simp at e))
      intro _ a' w' G' hf he cV
      have eO:=(wL hE eL hf ht).1
      have ff:a'.eval cc = .bool t:=by generalize a'.eval cc=z at eO; cases eO; rfl
      have da:=FI.finish (nt:=nt) hf cV
      refine KR ff ?_
      have knext:∀(pq:PC),(pq=p1∨pq=p2)→KQ N vs nt pq x st' w' G' Q:=by
       intro pq mz a2 w2 G2 e2 h1 h2 h3 h4
       refine hk a2 w2 G2 e2 h1 h2 (ExtD.trans (.of he) h3) (DfR.weak (.of he) he.df h3 h4 ?_)
       intro hn
       simp only[PC.NR,ak] at hn
       rcases mz with rfl|rfl
       ·exact hn.1
       ·exact hn.2
      cases t with
      | true=>exact ih hx (by simpa using h) da ro (hR.imp (λh=>h) (·.1)) hQ (knext _ (.inl rfl))
      | false=>exact ih hy (by simpa using h) da rp (hR.imp (λh=>h) (·.2)) hQ (knext _ (.inr rfl))
     ·simp at h
    ·rename_i v st1 ei
     simp only[aa,ac] at h
     obtain⟨rfl,rfl⟩:=h
     refine C3 (HO (res:=some v) hF hE hP dz dr cQ.call cQ.out cQ.round (λ_ _ _ _=>DB) (λ_ _ _ _=>Eh) gu ei hb (BD hQ) (λe=>by simp at e) ?_)
     rintro p e a' w' G' u hu he da
     cases e
     exact hk a' w' G' _ ⟨u,rfl,hu⟩ da (.of he) (DfR.plain he.df (by simp))
    ·simp at h
   have nrB:∀{pos:List PO} {px:PX} {p1 p2:PC},(rd'=none∨(PC.branch pos px p1 p2).RO=true)→(rd'=none∨(p1.RO=true∧p2.RO=true)):=by
    intro pos px p1 p2 h
    exact h.imp id (λh=>by simpa[PC.RO] using h)
   have nrBB:∀{pos:List PO} {px:PX} {p1 p2:PC},(rd'=none∨(PC.bbranch pos px p1 p2).RO=true)→(rd'=none∨(p1.RO=true∧p2.RO=true)):=by
    intro pos px p1 p2 h
    exact h.imp id (λh=>by simpa[PC.RO] using h)
   have ih := @Cy hF hE hP dz dr fid rd' n (λm hm=>de m (by omega))
   have up:∀{id:Nat} {ops:Array Oper} {d:Bool} {cc:Operand} {x1 y1 r:Code} {a:Act} {w:World},wpN rd' fid P (.region id ops d) (Exit.then (wpN rd' fid P (.cond cc x1 y1) (Exit.then (wpN rd' fid P r Q) Q)) (Exit.then (wpN rd' fid P r Q) Q)) a w→wpN rd' fid P (.region id ops d) (Exit.then (wpN rd' fid P (.seq (.cond cc x1 y1) r) Q) Q) a w:=by
    intro id ops d cc x1 y1 r a w hw
    refine c5o hw ?_
    intro e a' w' hq
    cases e<;>simp only[Exit.then] at hq ⊢
    ·exact DC hq
    all_goals exact hq
   cases hc with
   | stuck=>simp[AE,wn,yA,yG,rd,raw,cp] at h
   | skip =>
     simp only[wn,aa,ac] at h
     obtain⟨rfl,rfl⟩:=h
     exact c5p (hk _ _ G .normal rfl hb (ExtD.refl _ _) (DfR.plain rfl (by simp)))
   | exit id =>
     simp only[wn,aa,ac] at h
     obtain⟨rfl,rfl⟩:=h
     exact PG (hk _ _ G (.exit id) rfl hb (ExtD.refl _ _) (DfR.plain rfl (by simp)))
   | ret =>
     simp only[wn,aa,ac] at h
     obtain⟨rfl,rfl⟩:=h
     exact PH (hk _ _ G .ret rfl hb (ExtD.refl _ _) (DfR.plain rfl (by simp)))
   | region id ops d pos gu =>
     simp only[wn,ab,ac] at h
     obtain⟨st1,ei,rfl,rfl⟩:=h
     exact C3 (Pz hF hE hP dz dr cQ.call (λ_ _ _ _=>DB) gu ei hb hQ (λa' w' G' hf he cV=>hk a' w' G' .normal rfl (FI.finish hf cV) (.of he) (DfR.plain he.df (by simp))))
   | bregion id ops d pos gu =>
     simp only[wn] at h
     split at h
     ·rename_i st1 ei
      simp only[aa,ac] at h
      obtain⟨rfl,rfl⟩:=h
      refine C3 (HO (res:=none) hF hE hP dz dr cQ.call cQ.out cQ.round (λ_ _ _ _=>DB) (λ_ _ _ _=>Eh) gu ei hb hQ ?_ (λp e=>by simp at e))
      intro _ a' w' G' hf he cV
      exact hk a' w' G' .normal rfl (FI.finish hf cV) (.of he) (DfR.plain he.df (by simp))
     ·rename_i v st1 ei
      simp only[aa,ac] at h
      obtain⟨rfl,rfl⟩:=h
      refine C3 (HO (res:=some v) hF hE hP dz dr cQ.call cQ.out cQ.round (λ_ _ _ _=>DB) (λ_ _ _ _=>Eh) gu ei hb hQ (λe=>by simp at e) ?_)
      rintro p e a' w' G' u hu he da
      cases e
      exact hk a' w' G' _ ⟨u,rfl,hu⟩ da (.of he) (DfR.plain he.df (by simp))
     ·simp at h
   | raise id ops pos t px gu =>
     simp only[wn] at h
     split at h
     ·rename_i st1 ei
      simp only[ab,ac] at h
      obtain⟨u,hu,rfl,rfl⟩:=h
      refine C3 (b8K hF hE hP dr cQ.call (λ_ _ _ _=>DB) gu ei hu hb hQ ?_)
      intro a' w' G' v hv he da
      exact hk a' w' G' _ ⟨v,rfl,hv⟩ da (.of he) (DfR.plain he.df (by simp))
     ·simp at h
   | branch id ops d pos cc px x1 y1 p1 p2 gu eL hx hy =>
     exact DC (branch (ao _) gu eL hx hy (hY.sub (λz hz=>by simp[xT,hz])) (hY.sub (λz hz=>by simp[xT,hz])) (nrB hR) hQ h hk)
   | bbranch id ops d pos cc px x1 y1 p1 p2 gu eL hx hy =>
     exact DC (bbranch (ao _) gu eL hx hy (hY.sub (λz hz=>by simp[xT,hz])) (hY.sub (λz hz=>by simp[xT,hz])) (nrBB hR) hQ h hk)
   | branchSeq id ops d pos cc px x1 y1 r p1 p2 pr gu eL hx hy hr =>
     simp only[wn] at h
     refine DC ?_
     have io:rd'=none∨(PC.branch pos px p1 p2).RO=true:=hR.imp (λh=>h) (λh=>by simp only[PC.RO,ak] at h ⊢; exact h.1)
     have gh:rd'=none∨pr.RO=true:=hR.imp (λh=>h) (λh=>by simp only[PC.RO,ak] at h; exact h.2)
     split at h
     ·rename_i st1 ei
      cases n with
      | zero=>simp[wn] at ei
      | succ m =>
        refine up (branch (Nat.le_succ m) gu eL hx hy (hY.sub (λz hz=>by simp[xT,hz])) (hY.sub (λz hz=>by simp[xT,hz])) (nrB io) (BD hQ) ei ?_)
        intro a' w' G' e he da cN hd
        simp only[zp] at he
        subst he
        refine ih hr h da (hY.sub (λz hz=>by simp[xT,hz])) gh hQ ?_
        intro a2 w2 G2 e2 h1 h2 h3 h4
        exact hk a2 w2 G2 e2 h1 h2 (cN.trans h3) (DfR.trans cN hd h3 h4 (λhn=>by simpa only[PC.NR,ak] using hn))
     ·simp at h
     ·rename_i cZ fy
      cases n with
      | zero=>simp[wn] at h
      | succ m =>
        refine up (branch (Nat.le_succ m) gu eL hx hy (hY.sub (λz hz=>by simp[xT,hz])) (hY.sub (λz hz=>by simp[xT,hz])) (nrB io) (BD hQ) h ?_)
        refine HQ (λe=>cZ st' (by rw[h,e])) (λkd caps v e=>fy kd caps v st' (by rw[h,e])) ?_
        intro a2 w2 G2 e2 h1 h2 h3 h4
        exact hk a2 w2 G2 e2 h1 h2 h3 (DfR.weak (ExtD.refl _ _) rfl h3 h4 (λhn=>by simp only[PC.NR,ak] at hn ⊢; exact hn.1))
   | bbranchSeq id ops d pos cc px x1 y1 r p1 p2 pr gu eL hx hy hr =>
     simp only[wn] at h
     refine DC ?_
     have io:rd'=none∨(PC.bbranch pos px p1 p2).RO=true:=hR.imp (λh=>h) (λh=>by simp only[PC.RO,ak] at h ⊢; exact h.1)
     have gh:rd'=none∨pr.RO=true:=hR.imp (λh=>h) (λh=>by simp only[PC.RO,ak] at h; exact h.2)
     split at h
     ·rename_i st1 ei
      cases n with
      | zero=>simp[wn] at ei
      | succ m =>
        refine up (bbranch (Nat.le_succ m) gu eL hx hy (hY.sub (λz hz=>by simp[xT,hz])) (hY.sub (λz hz=>by simp[xT,hz])) (nrBB io) (BD hQ) ei ?_)
        intro a' w' G' e he da cN hd
        simp only[zp] at he
        subst he
        refine ih hr h da (hY.sub (λz hz=>by simp[xT,hz])) gh hQ ?_
        intro a2 w2 G2 e2 h1 h2 h3 h4
        exact hk a2 w2 G2 e2 h1 h2 (cN.trans h3) (DfR.trans cN hd h3 h4 (λhn=>by simpa only[PC.NR,ak] using hn))
     ·simp at h
     ·rename_i cZ fy
      cases n with
      | zero=>simp[wn] at h
      | succ m =>
        refine up (bbranch (Nat.le_succ m) gu eL hx hy (hY.sub (λz hz=>by simp[xT,hz])) (hY.sub (λz hz=>by simp[xT,hz])) (nrBB io) (BD hQ) h ?_)
        refine HQ (λe=>cZ st' (by rw[h,e])) (λkd caps v e=>fy kd caps v st' (by rw[h,e])) ?_
        intro a2 w2 G2 e2 h1 h2 h3 h4
        exact hk a2 w2 G2 e2 h1 h2 h3 (DfR.weak (ExtD.refl _ _) rfl h3 h4 (λhn=>by simp only[PC.NR,ak] at hn ⊢; exact hn.1))
   | seq x1 y1 p1 q1 hx hy =>
     simp only[wn] at h
     refine DC ?_
     have io:rd'=none∨p1.RO=true:=hR.imp (λh=>h) (λh=>by simp only[PC.RO,ak] at h; exact h.1)
     have gh:rd'=none∨q1.RO=true:=hR.imp (λh=>h) (λh=>by simp only[PC.RO,ak] at h; exact h.2)
     split at h
     ·rename_i st1 ei
      refine ih hx ei hb (hY.sub (λz hz=>by simp[xT,hz])) io (BD hQ) ?_
      intro a' w' G' e he da cN hd
      simp only[zp] at he
      subst he
      refine ih hy h da (hY.sub (λz hz=>by simp[xT,hz])) gh hQ ?_
      intro a2 w2 G2 e2 h1 h2 h3 h4
      exact hk a2 w2 G2 e2 h1 h2 (cN.trans h3) (DfR.trans cN hd h3 h4 (λhn=>by simpa only[PC.NR,ak] using hn))
     ·simp at h
     ·rename_i cZ fy
      refine ih hx h hb (hY.sub (λz hz=>by simp[xT,hz])) io (BD hQ) ?_
      refine HQ (λe=>cZ st' (by rw[h,e])) (λkd caps v e=>fy kd caps v st' (by rw[h,e])) ?_
      intro a2 w2 G2 e2 h1 h2 h3 h4
      exact hk a2 w2 G2 e2 h1 h2 h3 (DfR.weak (ExtD.refl _ _) rfl h3 h4 (λhn=>by simp only[PC.NR,ak] at hn ⊢; exact hn.1))
   | cond cc px x1 y1 p1 q1 eL hx hy =>
     simp only[wn,yA,yG] at h
     split at h
     ·rename_i t ht
      have hf:=FI.begin (lm:=wh vs []) hb (by intro j t hj; simp[wh] at hj) 0
      have eO:=(wL hE eL hf ht).1
      have ff:a.eval cc = .bool t:=by generalize a.eval cc=z at eO; cases eO; rfl
      have da:=FI.finish (nt:=nt) hf hb.size
      refine KR ff ?_
      have knext:∀(pq:PC),(pq=p1∨pq=q1)→KQ N vs nt pq x st' w G Q:=by
       intro pq mz a2 w2 G2 e2 h1 h2 h3 h4
       refine hk a2 w2 G2 e2 h1 h2 h3 (DfR.weak (ExtD.refl _ _) rfl h3 h4 ?_)
       intro hn
       simp only[PC.NR,ak] at hn
       rcases mz with rfl|rfl
       ·exact hn.1
       ·exact hn.2
      cases t with
      | true=>exact ih hx (by simpa using h) da (hY.sub (c':=x1) (λz hz=>by simp[xT,hz])) ((nrB hR).imp (λh=>h) (·.1)) hQ (knext _ (.inl rfl))
      | false=>exact ih hy (by simpa using h) da (hY.sub (c':=y1) (λz hz=>by simp[xT,hz])) ((nrB hR).imp (λh=>h) (·.2)) hQ (knext _ (.inr rfl))
     ·simp at h
   | block id x1 p1 hx =>
     simp only[wn] at h
     refine c3e ?_
     have io:rd'=none∨p1.RO=true:=hR
     have nB:LpOK E N nt fid x1:=hY
     split at h
     ·rename_i i st1 ei
      split at h
      ·rename_i hi
       subst hi
       simp only[aa,ac] at h
       obtain⟨rfl,rfl⟩:=h
       refine ih hx ei hb nB io (KP hQ) ?_
       intro a' w' G' e he da cN hd
       simp only[zp] at he
       subst he
       simp only[Exit.inBlock,if_true]
       exact hk a' w' G' .normal rfl da cN hd
      ·rename_i hi
       simp only[aa,ac] at h
       obtain⟨rfl,rfl⟩:=h
       refine ih hx ei hb nB io (KP hQ) ?_
       intro a' w' G' e he da cN hd
       simp only[zp] at he
       subst he
       simp only[Exit.inBlock,af hi]
       exact hk a' w' G' _ rfl da cN hd
     ·simp at h
     ·rename_i cZ fy
      refine ih hx h hb nB io (KP hQ) ?_
      intro a' w' G' e he da cN hd
      have:=hk a' w' G' e he da cN hd
      cases x with
      | normal=>simp only[zp] at he; subst he; exact this
      | exit i=>exact absurd h (λe=>cZ _ _ e)
      | ret=>simp only[zp] at he; subst he; exact this
      | boom v=>obtain⟨u,rfl,_⟩:=he; exact this
      | after kd caps v=>exact absurd h (λe=>fy _ _ _ _ e)
   | loop x1 p1 hx =>
     refine b4j (n+1) ?_
     have io:rd'=none∨p1.RO=true:=hR
     have nB:LpOK E N nt fid x1:=hY
     have key:∀(m:Nat),m≤n+1→∀{st:St} {w:World} {G:GS} {a:Act},wn L m (.loop p1) st=some (x,st')→BI N w G st a vs nt→KQ N vs nt (.loop p1) x st' w G Q→Ei rd' fid P x1 Q m a w:=by
      intro m
      induction m with
      | zero=>intro _ st w G a h; simp[wn] at h
      | succ m ihm =>
        intro hm st w G a h hb hk
        rw[b74]
        have ih' := @Cy hF hE hP dz dr fid rd' m (λm' jL=>de m' (by omega))
        simp only[wn] at h
        split at h
        ·rename_i st1 ei
         refine ih' hx ei hb nB io (BD hQ) ?_
         intro a' w' G' e he da cN hd
         simp only[zp] at he
         subst he
         refine ihm (by omega) h da ?_
         intro a2 w2 G2 e2 h1 h2 h3 h4
         exact hk a2 w2 G2 e2 h1 h2 (cN.trans h3) (DfR.trans cN hd h3 h4 (λhn=>⟨hn,hn⟩))
        ·simp at h
        ·rename_i cZ fy
         refine ih' hx h hb nB io (BD hQ) ?_
         refine HQ (λe=>cZ st' (by rw[h,e])) (λkd caps v e=>fy kd caps v st' (by rw[h,e])) ?_
         intro a2 w2 G2 e2 h1 h2 h3 h4
         exact hk a2 w2 G2 e2 h1 h2 h3 h4
     exact key (n+1) (ao _) h hb hk
   | rangeF g ps as body px kb vars caps hg hl hv =>
     simp only[wn] at h
     split at h
     ·rename_i k first captured cs ji j8
      split at h
      ·simp at h
      ·rename_i ik
       have d9:rd'=none:=by rcases hR with h|h; exact h; simp[PC.RO] at h
       subst d9
       have rq:wh vs []=(λ_=>none):=by funext j; simp[wh]
       have hf:FI N w G st a vs (wh vs []):=by rw[rq]; exact hb.fi
       have tI:=(wL hE hg hf ji).1
       obtain⟨dM,nC⟩:=Ap hE hf hv j8
       have ja:N.yl k=none:=cQ.yl k (by simpa using ik)
       generalize vh:a.eval g=gv at tI
       cases tI with
       | yield _ m l y tmps caps' hy _ _ _ _ _=>rw[ja] at hy; simp at hy
       | func _ fs cs' _ _ hy e1 e2 ll dW =>
         have eD:=run_enterLoop_outer (P:=P) (w:=w) fid a.tmps ps as body
         have x1:=c2r hb.fi (.deferred (some []))
         have ga:(w.alloc (.deferred (some []))).heap.size=w.heap.size+1:=by simp
         have x2:=c7v x1.2 (ob := .loop true) (mob := .loop { state := .ready,pending:=none,fn:=fid,tmps:=a.tmps,params:=ps,assign:=as,body:=body,defers:=w.heap.size }) (by
          rintro G' rfl _
          refine⟨?_,_,AV,rfl,by simp⟩
          intro o fG
          have:=x1.2.fixlt _ _ fG
          omega)
         rw[ga] at x2
         generalize rt:(w.alloc (.deferred (some []))).alloc (.loop { state := .ready,pending:=none,fn:=fid,tmps:=a.tmps,params:=ps,assign:=as,body:=body,defers:=w.heap.size })=w1 at eD x2
         have ee:w1.heap[w.heap.size+1]? = some (.loop { state := .ready,pending:=none,fn:=fid,tmps:=a.tmps,params:=ps,assign:=as,body:=body,defers:=w.heap.size }):=by
          rw[← rt,← ga]; exact AV
         have jA:w1.heap[w.heap.size]? = some (.deferred (some [])):=by
          rw[← rt,yC (by rw[ga]; omega)]; exact AV
         have ei:w1.heap.size=w.heap.size+2:=by rw[← rt]; simp
         have d7:Ext w G w1 (G.more (w.heap.size+1) st.heap.length):=x1.1.trans x2.1
         have f2:=x2.2
         generalize tJ:G.more (w.heap.size+1) st.heap.length=G1 at d7 f2
         have dP:G1.heap st.heap.length=some (w.heap.size+1):=by rw[← tJ]; simp[GS.more]
         have oL:G1.ow w.heap.size=none:=by
          rw[← tJ]
          simp only[GS.more]
          rw[af (by omega)]
          cases hx:G.ow w.heap.size with
          | none=>rfl
          | some kk=>have:=hb.fi.owlt _ _ hx; omega
         have ru:VR N w1 G1.fix G1.heap (.func (.yield (w.heap.size+1)) #[] #[]) (.func kb (.ptr st.heap.length 0::cs) []):=by
          refine .yield kb st.heap.length (w.heap.size+1) ⟨fid,ps,as,body,vars,nt⟩ a.tmps cs (hY ps kb vars hl (ps,as,body) (by simp[xT]) rfl) dP (by simp[yN,ee]) (by simpa using dM.symm) hb.size ?_
          intro i t p ht hp
          have:=(nC i (.tmp t) p (by simpa using ht) hp).1
          exact VR.ext (by simpa[Act.eval] using this) d7
         have dN:(resolve a.eval (rangeCall g (w.heap.size+1)) 0).run P w1 = .ok { target := .fn (.func (N.fn k)) cs',args:=fs ++ #[.func (.yield (w.heap.size+1)) #[] #[]] } w1:=by
          have mG:a.eval (.const (.func (.yield (w.heap.size+1)) #[] #[])) = .func (.yield (w.heap.size+1)) #[] #[]:=rfl
          simp[resolve,rangeCall,vh,Deferred.ofValue,mG]
         obtain⟨pf,hL⟩:∃f,L k=some f:=by
          split at h
          ·exact Eh (by assumption)
          ·exact Eh (by assumption)
          ·simp at h
         have jC:(invoke (.fn (.func (N.fn k)) cs') (fs ++ #[.func (.yield (w.heap.size+1)) #[] #[]])).run P w1 = .ok (.enter (N.fn k) (fs ++ #[.func (.yield (w.heap.size+1)) #[] #[]]++cs')) w1:=by
          simp only[invoke]
          exact A7 hF hL _ w1
         have dQ:∀(i:Nat) (v:Value) (p:PV),(fs ++ #[.func (.yield (w.heap.size+1)) #[] #[]]++cs')[i]? = some v→(first ++ .func kb (.ptr st.heap.length 0::cs) []::captured)[i]? = some p→VR N w1 G1.fix G1.heap v p:=by
          intro i v p dS hp
          by_cases hi:i<fs.size
          ·rw[ci,bm hi] at dS
           rw[am (by omega)] at hp
           exact(ll i v p dS hp).ext d7
          ·rw[ci,cj (by omega)] at dS
           rw[ar (by omega),← e1] at hp
           cases hn:i - fs.size with
           | zero =>
             rw[hn] at dS hp
             rw[bm (by simp)] at dS
             simp at dS hp
             subst dS hp
             exact ru
           | succ m =>
             rw[hn] at dS hp
             rw[cj (by simp)] at dS
             simp at dS hp
             exact(dW m v p dS hp).ext d7
         have el:(fs ++ #[Value.func (.yield (w.heap.size+1)) #[] #[]]++cs').size=(first++PV.func kb (.ptr st.heap.length 0::cs) []::captured).length:=by simp[e1,e2]; omega
         have marks:∀{w' w4:World} {G':GS} {e5:Ext w1 G1 w' G'} {G4:GS},w4.heap[w.heap.size]? = w'.heap[w.heap.size]?→G4.ow=G'.ow→Marks w w4 G4 [{ target := .collected w.heap.size,args := #[] }]:=by
          intro w' w4 G' e5 G4 vi vj
          refine⟨[w.heap.size],rfl,by simp,?_⟩
          intro b hb
          simp only[bF] at hb
          subst hb
          refine⟨ao _,?_,?_⟩
          ·rw[vi,e5.same _ (by omega) oL]; exact jA
          ·rw[vj]
           cases hx:G'.ow w.heap.size with
           | none=>rfl
           | some kk =>
             rcases e5.own w.heap.size (by rw[hx]; simp) with h|h
             ·omega
             ·exact absurd oL h
         have fin:∀{x':PExit} {j:Option Code} {ob:PObj} {u:PV} {h':List PObj},yc (wn L n) L k (first ++ .func kb (.ptr st.heap.length 0::cs) []::captured) (st.heap++[.loop true])=some (.val u,h') →
           KQ N vs nt (.rangeF px kb caps) x' { st with heap:=h'.set st.heap.length .gone } w G Q→((j=none∧x' = .normal)∨(j=some .ret∧x' = .ret)∨∃id,j=some (.exit id)∧x' = .exit id) →
           h'[st.heap.length]? = some ob→ob≠.gone→(∀(w':World) (G':GS) (b:Nat),ObjR N w' G' st.heap.length b ob→(∀o,¬G'.fix b o)∧∃r:Go.Loop,w'.heap[b]? = some (.loop r)∧r.pending=j∧r.state≠.busy) →
           wpN none fid P (.rangeFunc g ps as body) Q a w:=by
          intro x' j ob u h' de hk hj iR pX dB
          refine PJ eD dN jC ((cQ.out k _ _ _ _ de ja w1 G1.callee _ (Ej f2) el dQ).mono ?_)
          rintro e w' ⟨G2,⟨v,rfl,cW⟩,he,dO⟩
          obtain⟨G',cN,dj,g1,g2⟩:=HS f2 he dO
          rcases dj.heap.1 st.heap.length _ iR with rx|⟨b,k1,k2,k3⟩
          ·exact absurd rx pX
          obtain⟨kf,r,k3,k4,k5⟩:=dB _ _ _ k3
          have:b=w.heap.size+1:=by have:=cN.heap _ _ dP; rw[k1] at this; simpa using this
          subst this
          have ft:=run_endLoop (P:=P) k3 k5
          have ft:=ft.trans (aF (λz=>Result.ok z _) k4)
          obtain⟨e6,vk⟩:=PK (ob' := .gone) (mob := .loop { r with state := .exhausted }) dj k1 k2 kf (by simp[World.shape?,k3]) (by
           intro s hs
           have cS:w.heap.size+1<w'.heap.size:=(aV.1 k3).1
           simp only[yN,k3] at hs
           simpa[yN,be,cS] using hs) (.inl rfl)
          refine⟨_,_,ft,?_⟩
          have dJ:=(d7.trans cN).trans e6
          have ry:=FI.setDf vk ([{ target := .collected w.heap.size,args := #[] }]++a.defers)
          have last:∀e2,zp N _ _ x' e2→Q e2 _ _:=λe2 eB=>hk { a with defers:=[{ target := .collected w.heap.size,args := #[] }]++a.defers } (w'.putObj (w.heap.size+1) (.loop { r with state := .exhausted })) { G' with df:=[{ target := .collected w.heap.size,args := #[] }]++a.defers } e2 eB ⟨ry,hb.size⟩ (Ext.setDf dJ _) (by
           have hd:∃ms,([{ target := .collected w.heap.size,args := #[] }]++a.defers:List Deferred)=ms++G.df∧Marks w (w'.putObj (w.heap.size+1) (.loop { r with state := .exhausted })) { G' with df:=[{ target := .collected w.heap.size,args := #[] }]++a.defers } ms∧((PC.rangeF px kb caps).NR=true→ms=[]):=
            ⟨[{ target := .collected w.heap.size,args := #[] }],by simp[hb.fi.defers],marks (e5:=cN) (w4:=w'.putObj (w.heap.size+1) (.loop { r with state := .exhausted })) (G4:={ G' with df:=[{ target := .collected w.heap.size,args := #[] }]++a.defers }) (by simp[World.putObj,be]) rfl,by simp[PC.NR]⟩
           rcases hj with⟨_,rfl⟩|⟨_,rfl⟩|⟨id,_,rfl⟩<;>exact hd)
          rcases hj with⟨rfl,rfl⟩|⟨rfl,rfl⟩|⟨id,rfl,rfl⟩
          ·exact last _ rfl
          ·exact PH (last _ rfl)
          ·exact PG (last _ rfl)
         split at h
         ·rename_i u h' de
          split at h
          ·rename_i iR
           simp only[aa,ac] at h
           obtain⟨rfl,rfl⟩:=h
           exact fin de hk (.inl ⟨rfl,rfl⟩) iR (by simp) (λw' G' b ⟨kf,r,k3,k4,k5⟩=>⟨kf,r,k3,k4,by rw[k5]; simp⟩)
          ·rename_i id iR
           simp only[aa,ac] at h
           obtain⟨rfl,rfl⟩:=h
           exact fin de hk (.inr (.inr ⟨id,rfl,rfl⟩)) iR (by simp) (λw' G' b ⟨kf,r,k3,k4,k5⟩=>⟨kf,r,k3,k4,by rw[k5]; simp⟩)
          ·rename_i iR
           simp only[aa,ac] at h
           obtain⟨rfl,rfl⟩:=h
           exact fin de hk (.inr (.inl ⟨rfl,rfl⟩)) iR (by simp) (λw' G' b ⟨kf,r,k3,k4,k5⟩=>⟨kf,r,k3,k4,by rw[k5]; simp⟩)
          ·simp at h
         ·rename_i v h' de
          simp only[aa,ac] at h
          obtain⟨rfl,rfl⟩:=h
          refine PJ eD dN jC ((cQ.out k _ _ _ _ de ja w1 G1.callee _ (Ej f2) el dQ).mono ?_)
          rintro e w' ⟨G2,⟨u,rfl,cW⟩,he,dO⟩
          obtain⟨G',cN,dj,g1,g2⟩:=HS f2 he dO
          have dJ:=d7.trans cN
          have ry:=FI.setDf dj ([{ target := .collected w.heap.size,args := #[] }]++a.defers)
          refine hk _ _ _ _ ⟨u,rfl,by rw[← g1,← g2] at cW; exact cW⟩ ⟨ry,hb.size⟩ (Ext.setDf dJ _) ⟨[{ target := .collected w.heap.size,args := #[] }],by simp[hb.fi.defers],marks (e5:=cN) rfl rfl,by simp[PC.NR]⟩
         ·simp at h
     ·simp at h
   | guarded id ops kd caps y q hd hy =>
     simp only[wn] at h
     split at h
     ·simp at h
     ·rename_i ik
      have lN:q.NR=true:=by simpa using ik
      have d9:rd'=none:=by rcases hR with h|h; exact h; simp[PC.RO] at h
      subst d9
      split at h
      ·rename_i cs j8
       unfold KI at hd
       split at hd
       ·rename_i d f first pcaps ty1 ps1 af1 d' args ts2 ty2 ps2 af2 oM
        split at hd
        ·rename_i gY
         obtain⟨rfl,nA,di,rz,rA⟩:=gY
         simp only[ae,ab,ac] at hd
         obtain⟨k0,kJ,pcs,rB,rfl,rfl⟩:=hd
         have rq:wh vs []=(λ_=>none):=by funext j; simp[wh]
         have hf:FI N w G st a vs (wh vs []):=by rw[rq]; exact hb.fi
         obtain⟨dM,nC⟩:=Ap hE hf rB j8
         obtain⟨ops⟩:=ops
         simp only at oM
         subst oM
         have oN:first = #[]:=by cases first; simpa using rz
         have oO:args = #[]:=by cases args; simpa using rA
         subst oN oO
         have d4:=hE.fn _ _ kJ
         refine DC (C3 (n:=0) (wpIn_region ?_))
         have jD:List.range (Array.mk [({ dst:=some d,op := .makeFunc (.func f) #[] pcaps,type:=ty1,pos:=ps1,after:=af1,guard:=none }:Oper),{ dst:=none,op := .defer { callee := .value (.tmp d),args := #[],argTypes:=ts2 },type:=ty2,pos:=ps2,after:=af2,guard:=none }]).size=[0,1]:=rfl
         rw[jD,wpOpsIn_cons]
         unfold wpOpIn
         simp only[bN,bZ,Region.wanted,if_true]
         refine⟨λ_ _=>AF _,?_⟩
         rw[show (W none).round=none from rfl,Oper.semAt_none]
         have j9:(execOp a.eval ({ dst:=some d,op := .makeFunc (.func f) #[] pcaps,type:=ty1,pos:=ps1,after:=af1,guard:=none }:Oper)).run P w = .ok (.value (.func (.func f) #[] (pcaps.map a.eval))) w:=by
          simp[execOp,Instr.makeFunc]
         rw[j9,Oper.uponIn_value]
         rw[wpOpsIn_cons]
         unfold wpOpIn
         simp only[bN,bY,bZ,Region.wanted,if_true]
         refine⟨λ_ _=>AF _,?_⟩
         rw[show (W none).round=none from rfl,Oper.semAt_none]
         have eO:(a.put (some d) (.func (.func f) #[] (pcaps.map a.eval))).eval (.tmp d) = .func (.func f) #[] (pcaps.map a.eval):=by
          have:d<a.tmps.size:=aN di hb.size
          simp[Act.eval,Act.put,aT,be,this]
         have j7:(execOp (a.put (some d) (.func (.func f) #[] (pcaps.map a.eval))).eval ({ dst:=none,op := .defer { callee := .value (.tmp d),args := #[],argTypes:=ts2 },type:=ty2,pos:=ps2,after:=af2,guard:=none }:Oper)).run P w =
           .ok (.defer { target := .fn (.func f) (pcaps.map a.eval),args := #[] }) w:=by
          simp[execOp,resolve,eO,Deferred.ofValue]
         rw[j7,Oper.uponIn_defer]
         simp only[wpOpsIn]
         have b1:=hb.putOther nA (.func (.func f) #[] (pcaps.map a.eval))
         generalize gY:({ target := .fn (.func f) (pcaps.map a.eval),args := #[] }:Deferred)=dd
         have b2:BI N w { G with df:=dd::a.defers } st { a.put (some d) (.func (.func f) #[] (pcaps.map a.eval)) with defers:=dd::a.defers } vs nt:=⟨FI.setDf b1.fi _,b1.size⟩
         have iS:∀(w':World) (G':GS),ExtD w { G with df:=dd::a.defers } w' G'→G'.df=dd::a.defers→Clo N w' G' k0 cs:=by
          intro w' G' cN eV
          refine⟨dd,a.defers,pcaps.map a.eval,eV,by rw[← gY,d4],by simpa using dM,?_⟩
          intro i v p hv hp
          simp only[bU,ab] at hv
          obtain⟨x,hx,rfl⟩:=hv
          have rC:Ext w { G with df:=G'.df } w' G':=cN
          exact VR.mono (nC i x p (by simpa using hx) hp).1 rC.fix rC.heap rC.shape
         have run:∀(x0:PExit) (st1:St),wn L n q st=some (x0,st1)→x0.plain=true→KQ N vs nt q x0 st1 w { G with df:=dd::a.defers } Q→wpN none fid P y Q { a.put (some d) (.func (.func f) #[] (pcaps.map a.eval)) with defers:=dd::a.defers } w:=by
          intro x0 st1 fV _ mt
          exact ih hy fV b2 (hY.sub (λz hz=>by simp[xT,hz])) (.inl rfl) hQ mt
         have dfs:∀{x0:PExit} {w':World} {G':GS},x0.plain=true→DfR q x0 w { G with df:=dd::a.defers } w' G'→G'.df=dd::a.defers:=by
          intro x0 w' G' fV hd
          have key:(∃ms,G'.df=ms++(dd::a.defers)∧Marks w w' G' ms∧(q.NR=true→ms=[]))→G'.df=dd::a.defers:=by
           rintro⟨ms,h1,_,h3⟩
           rw[h1,h3 lN]; rfl
          cases x0 with
          | after _ _ _=>simp[PExit.plain] at fV
          | normal=>exact key hd
          | exit _=>exact key hd
          | ret=>exact key hd
          | boom _=>exact key hd
         have rD:∀{w':World} {G':GS} {v:Option PV},G'.df=dd::a.defers→DfR (.guarded k0 pcs q) (.after k0 cs v) w G w' G':=λh _=>⟨dd,by rw[h,hb.fi.defers]⟩
         split at h
         ·rename_i st1 fV
          simp only[aa,ac] at h
          obtain⟨rfl,rfl⟩:=h
          refine run .normal _ fV rfl ?_
          intro a' w' G' e he da cN eV
          have it:=dfs rfl eV
          exact hk a' w' G' e ⟨.inl he,iS w' G' cN it⟩ da cN (rD it)
         ·rename_i st1 fV
          simp only[aa,ac] at h
          obtain⟨rfl,rfl⟩:=h
          refine run .ret _ fV rfl ?_
          intro a' w' G' e he da cN eV
          have it:=dfs rfl eV
          exact hk a' w' G' e ⟨.inr he,iS w' G' cN it⟩ da cN (rD it)
         ·rename_i v st1 fV
          simp only[aa,ac] at h
          obtain⟨rfl,rfl⟩:=h
          refine run (.boom v) _ fV rfl ?_
          intro a' w' G' e he da cN eV
          have it:=dfs rfl eV
          exact hk a' w' G' e ⟨he,iS w' G' cN it⟩ da cN (rD it)
         ·simp at h
        ·simp at hd
       ·simp at hd
      ·simp at h
end
end PI
