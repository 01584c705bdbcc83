import Derived.Test.YtljbhgpanekomaaGreatDoorPiOrd2
import Derived.RangeFuncRecord
set_option linter.unusedSimpArgs false
set_option linter.unusedVariables false
set_option linter.unusedSectionVars false
namespace PI
open Go Go.RowKit
def PExit.plain:PExit→Bool
 | .after _ _ _=>false
 | _=>true
def Clo (N:Nm) (w':World) (G':GS) (kd:Nat) (caps:List PV):Prop:=
 ∃ (d : Deferred) (ds : List Deferred) (vals : Array Value), G'.df = d :: ds ∧ d = { target := .fn (.func (N.fn kd)) vals, args := #[] } ∧ vals.size = caps.length ∧
   ∀(i:Nat) (v:Value) (p:PV),vals[i]? = some v→caps[i]? = some p→VR N w' G'.fix G'.heap v p
def zz (N:Nm) (w':World) (G':GS):PExit→Exit→Prop
 | .normal,e=>e = .normal
 | .exit id,e=>e = .exit id
 | .ret,e=>e = .ret
 | .boom p,e=>∃v,e = .panic [{ v,recovered:=false }]∧VR N w' G'.fix G'.heap v p
 | .after kd caps none,e=>(e = .normal∨e = .ret)∧Clo N w' G' kd caps
 | .after kd caps (some p),e=>(∃v,e = .panic [{ v,recovered:=false }]∧VR N w' G'.fix G'.heap v p)∧Clo N w' G' kd caps
def DfR (p:PC) (x:PExit) (w:World) (G:GS) (w':World) (G':GS):Prop:=
 match x with
 | .after _ _ _=>p.NR=true→∃d,G'.df=d::G.df
 | _=>∃ms,G'.df=ms++G.df∧Marks w w' G' ms∧(p.NR=true→ms=[])
def yn:Code→List (Array Tmp×Code×Code)
 | .seq a b | .cond _ a b=>yn a++yn b
 | .block _ c | .loop c=>yn c
 | .rangeFunc _ ps a b=>[(ps,a,b)]
 | _=>[]
def LpOK (E:Env) (N:Nm) (nt:Nat) (fid:FuncId) (c:Code):Prop:=
 ∀ps kb vars,(ps,kb,vars)∈E.lps→∀x∈yn c,x.1=ps→N.yl kb=some ⟨fid,ps,x.2.1,x.2.2,vars,nt⟩
theorem LpOK.sub {E:Env} {N:Nm} {nt:Nat} {fid:FuncId} {c c':Code} (h:LpOK E N nt fid c) (hs:∀x∈yn c',x∈yn c):LpOK E N nt fid c':=λps kb vars hl x hx=>h ps kb vars hl x (hs x hx)
theorem Ext.size_le {w w':World} {G G':GS} (h:ExtD w G w' G'):w.heap.size≤w'.heap.size:=Ext.size h
theorem DfR.plain {p:PC} {x:PExit} {w w':World} {G G':GS} (h:G'.df=G.df) (hx:∀kd caps v,x≠.after kd caps v):DfR p x w G w' G':=by
 unfold DfR
 cases x with
 | after kd caps v=>exact absurd rfl (hx kd caps v)
 | _=>exact⟨[],by simpa using h,Marks.nil _ _ _,λ_=>rfl⟩
theorem DfR.trans {p q s:PC} {x:PExit} {w w1 w2:World} {G G1 G2:GS} (e1:ExtD w G w1 G1) (h1:DfR p .normal w G w1 G1) (e2:ExtD w1 G1 w2 G2) (h2:DfR q x w1 G1 w2 G2) (hs:s.NR=true→p.NR=true∧q.NR=true):DfR s x w G w2 G2:=by
 obtain⟨ms,a1,a2,a3⟩:=h1
 have marks:∀ms2,G2.df=ms2++G1.df→Marks w1 w2 G2 ms2→(q.NR=true→ms2=[])→∃ms,G2.df=ms++G.df∧Marks w w2 G2 ms∧(s.NR=true→ms=[]):=by
  intro ms2 b1 b2 b3
  exact⟨ms2++ms,by rw[b1,a1]; simp,Marks.join (Ext.size_le e1) a2 e2 b2,λh=>by rw[b3 (hs h).2,a3 (hs h).1]; rfl⟩
 unfold DfR at h2 ⊢
 cases x with
 | after kd caps v =>
   intro h
   obtain⟨d,hd⟩:=h2 (hs h).2
   exact⟨d,by rw[hd,a1,a3 (hs h).1]; rfl⟩
 | normal=>obtain⟨ms2,b1,b2,b3⟩:=h2; exact marks ms2 b1 b2 b3
 | ret=>obtain⟨ms2,b1,b2,b3⟩:=h2; exact marks ms2 b1 b2 b3
 | exit id=>obtain⟨ms2,b1,b2,b3⟩:=h2; exact marks ms2 b1 b2 b3
 | boom v=>obtain⟨ms2,b1,b2,b3⟩:=h2; exact marks ms2 b1 b2 b3
theorem DfR.weak {p s:PC} {x:PExit} {w w1 w2:World} {G G1 G2:GS} (e1:ExtD w G w1 G1) (h1:G1.df=G.df) (e2:ExtD w1 G1 w2 G2) (h2:DfR p x w1 G1 w2 G2) (hs:s.NR=true→p.NR=true):DfR s x w G w2 G2:=
 DfR.trans (p := .skip) e1 (DfR.plain h1 (by simp)) e2 h2 (λh=>⟨rfl,hs h⟩)
theorem BF {K:Act→World→Prop} {Q:Exit→Act→World→Prop} (h:¬LetsOut Q):¬LetsOut (Exit.then K Q):=fun⟨a,w,hq⟩=>h ⟨a,w,hq⟩
theorem IG {id:Nat} {Q:Exit→Act→World→Prop} (h:¬LetsOut Q):¬LetsOut (Exit.inBlock id Q):=fun⟨a,w,hq⟩=>h ⟨a,w,hq⟩
theorem B3 {L:Nat→Option PFunc}:∀{n:Nat} {p:PC} {st st':St} {kd:Nat} {cs:List PV} {v:Option PV},p.RO=true→wB L n p st=some (.after kd cs v,st')→False
 | 0,p,st,st',kd,cs,v,_,h=>by simp[wB] at h
 | n + 1, p, st, st', kd, cs, v, hr, h => by
   rw[wB.eq_def] at h
   cases p with
   | rangeF x kb caps=>simp[PC.RO] at hr
   | guarded k2 caps c=>simp[PC.RO] at hr
   | round a b=>simp at h
   | skip=>simp at h
   | exit id=>simp at h
   | ret=>simp at h
   | region ops=>simp at h
   | raise ops t x =>
     simp only at h
     split at h
     ·rename_i st1 _
      cases hx:rd st1 x with
      | none=>rw[hx] at h; simp at h
      | some p=>rw[hx] at h; simp at h
     ·simp at h
   | bregion ops=>simp only at h; split at h<;>simp at h
   | branch ops x a b =>
     simp only[PC.RO,al] at hr
     simp only at h
     split at h
     ·split at h
      ·rename_i t _
       cases t
       ·exact B3 hr.2 h
       ·exact B3 hr.1 h
      ·simp at h
     ·simp at h
   | bbranch ops x a b =>
     simp only[PC.RO,al] at hr
     simp only at h
     split at h
     ·split at h
      ·rename_i t _
       cases t
       ·exact B3 hr.2 h
       ·exact B3 hr.1 h
      ·simp at h
     ·simp at h
     ·simp at h
   | seq a b =>
     simp only[PC.RO,al] at hr
     simp only at h
     split at h
     ·exact B3 hr.2 h
     ·simp at h
     ·exact B3 hr.1 h
   | block id c =>
     simp only[PC.RO] at hr
     simp only at h
     split at h
     ·split at h<;>simp at h
     ·simp at h
     ·exact B3 hr h
   | loop c =>
     have fl:=hr
     simp only[PC.RO] at hr
     simp only at h
     split at h
     ·exact B3 fl h
     ·simp at h
     ·exact B3 hr h
section
variable {E:Env} {N:Nm} {vs:List Tmp} {P:Program} {nt:Nat} {L:Nat→Option PFunc}
def KQ (N:Nm) (vs:List Tmp) (nt:Nat) (p:PC) (x:PExit) (st':St) (w:World) (G:GS) (Q:Exit→Act→World→Prop):Prop:=
 ∀a' w' G' e,zz N w' G' x e→BI N w' G' st' a' vs nt→ExtD w G w' G'→DfR p x w G w' G'→Q e a' w'
theorem GB {K:Act→World→Prop} {Q:Exit→Act→World→Prop} {p:PC} {x:PExit} {st':St} {w:World} {G:GS} (hx:x≠.normal) (ha:∀kd caps v,x≠.after kd caps v) (h:KQ N vs nt p x st' w G Q):KQ N vs nt p x st' w G (Exit.then K Q):=by
 intro a' w' G' e he hb cH hd
 have:=h a' w' G' e he hb cH hd
 cases x with
 | normal=>exact absurd rfl hx
 | after kd caps v=>exact absurd rfl (ha kd caps v)
 | exit id=>simp only[zz] at he; subst he; exact this
 | ret=>simp only[zz] at he; subst he; exact this
 | boom v=>obtain⟨u,rfl,_⟩:=he; exact this
structure Runs (N:Nm) (P:Program) (L:Nat→Option PFunc) (n:Nat):Prop where
 call:CallOK N P (yc (wB L n) L)
 out:DU N P (yB (wB L n) L)
 round:EZ N P (yB (wB L n) L)
 yl:∀k,CL L k=true→N.yl k=none
theorem Df {n:Nat} {k:Nat} {args:List PV} {h:List PObj} {x} (hc:yc (wB L n) L k args h=some x):∃f,L k=some f:=by
 unfold yc at hc
 split at hc
 ·simp at hc
 ·rename_i f hf; exact⟨f,hf⟩
theorem DV {n:Nat} {k:Nat} {args:List PV} {h:List PObj} {x} (hc:yB (wB L n) L k args h=some x):∃f,L k=some f:=by
 unfold yB at hc
 split at hc
 ·simp at hc
 ·rename_i f hf; exact⟨f,hf⟩
theorem Cx (hF:ze N P L) (hE:EnvOk E N) (hP:E.P=P) (dy:P.follows .mixedOrders=true) (dk:vs.Nodup) {fid:FuncId} {rd':Option Nat}:
  ∀ (n : Nat), (∀ m, m < n → Runs N P L m) → ∀ {c : Code} {p : PC} {x : PExit} {st st' : St} {w : World} {G : GS} {a : Act} {Q : Exit → Act → World → Prop}, Cmp E nt vs c p → wB L n p st = some (x, st') → BI N w G st a vs nt → LpOK E N nt fid c →
    (rd'=none∨p.RO=true)→¬LetsOut Q→KQ N vs nt p x st' w G Q→wpN rd' fid P c Q a w
 | 0,_,c,p,x,st,st',w,G,a,Q,_,h,_,_,_,_,_=>by simp[wB] at h
 | n + 1, dc, c, p, x, st, st', w, G, a, Q, hc, h, hb, hY, hR, hQ, hk => by
   have cL:=dc n (by omega)
   have branch:∀{m:Nat},m≤n→∀{id:Nat} {ops:Array Oper} {d:Bool} {pos:List PO} {cc:Operand} {px:PX} {x1 y1:Code} {p1 p2:PC} {Q:Exit→Act→World→Prop} {x:PExit} {st':St},BE E nt vs ops d=some pos→cx E vs ops.toList cc=some px→Cmp E nt vs x1 p1→Cmp E nt vs y1 p2 →
     LpOK E N nt fid x1→LpOK E N nt fid y1→(rd'=none∨(p1.RO=true∧p2.RO=true))→¬LetsOut Q →
     wB L (m+1) (.branch pos px p1 p2) st=some (x,st')→KQ N vs nt (.branch pos px p1 p2) x st' w G Q→wpN rd' fid P (.region id ops d) (Exit.then (wpN rd' fid P (.cond cc x1 y1) Q) Q) a w:=by
    intro m hm id ops d pos cc px x1 y1 p1 p2 Q x st' gm eH hx hy qF qG hR hQ h hk
    have ih := @Cx hF hE hP dy dk fid rd' m (λm' kW=>dc m' (by omega))
    have cL:=dc m (by omega)
    simp only[wB] at h
    split at h
    ·rename_i st1 d4
     split at h
     ·rename_i t ht
      refine CU (L8 hF hE hP dy dk cL.call (λ_ _ _ _=>Df) gm d4 hb (BF hQ) ?_)
      intro a' w' G' hf he cQ
      have eO:=(wW hE eH hf ht).1
      have eR:a'.eval cc = .bool t:=by generalize a'.eval cc=z at eO; cases eO; rfl
      have cW:=FI.finish (nt:=nt) hf cQ
      refine IH eR ?_
      have knext:∀(pq:PC),(pq=p1∨pq=p2)→KQ N vs nt pq x st' w' G' Q:=by
       intro pq nU a2 w2 G2 e2 h1 h2 h3 h4
       refine hk a2 w2 G2 e2 h1 h2 (ExtD.trans (.of he) h3) (DfR.weak (.of he) he.df h3 h4 ?_)
       intro hn
       simp only[PC.NR,al] at hn
       rcases nU with rfl|rfl
       ·exact hn.1
       ·exact hn.2
      cases t with
      | true=>exact ih hx (by simpa using h) cW qF (hR.imp (λh=>h) (·.1)) hQ (knext _ (.inl rfl))
      | false=>exact ih hy (by simpa using h) cW qG (hR.imp (λh=>h) (·.2)) hQ (knext _ (.inr rfl))
     ·simp at h
    ·simp at h
   have bbranch:∀{m:Nat},m≤n→∀{id:Nat} {ops:Array Oper} {d:Bool} {pos:List PO} {cc:Operand} {px:PX} {x1 y1:Code} {p1 p2:PC} {Q:Exit→Act→World→Prop} {x:PExit} {st':St},CQ E nt vs ops d=some pos→cx E vs ops.toList cc=some px→Cmp E nt vs x1 p1→Cmp E nt vs y1 p2 →
     LpOK E N nt fid x1→LpOK E N nt fid y1→(rd'=none∨(p1.RO=true∧p2.RO=true))→¬LetsOut Q →
     wB L (m+1) (.bbranch pos px p1 p2) st=some (x,st')→KQ N vs nt (.bbranch pos px p1 p2) x st' w G Q→wpN rd' fid P (.region id ops d) (Exit.then (wpN rd' fid P (.cond cc x1 y1) Q) Q) a w:=by
    intro m hm id ops d pos cc px x1 y1 p1 p2 Q x st' gm eH hx hy qF qG hR hQ h hk
    have ih := @Cx hF hE hP dy dk fid rd' m (λm' kW=>dc m' (by omega))
    have cL:=dc m (by omega)
    simp only[wB] at h
    split at h
    ·rename_i st1 d4
     split at h
     ·rename_i t ht
      refine CU (Gz (res:=none) hF hE hP dy dk cL.call cL.out cL.round (λ_ _ _ _=>Df) (λ_ _ _ _=>DV) gm d4 hb (BF hQ) ?_ (λp e=>by simp at e))
      intro _ a' w' G' hf he cQ
      have eO:=(wW hE eH hf ht).1
      have eR:a'.eval cc = .bool t:=by generalize a'.eval cc=z at eO; cases eO; rfl
      have cW:=FI.finish (nt:=nt) hf cQ
      refine IH eR ?_
      have knext:∀(pq:PC),(pq=p1∨pq=p2)→KQ N vs nt pq x st' w' G' Q:=by
       intro pq nU a2 w2 G2 e2 h1 h2 h3 h4
       refine hk a2 w2 G2 e2 h1 h2 (ExtD.trans (.of he) h3) (DfR.weak (.of he) he.df h3 h4 ?_)
       intro hn
       simp only[PC.NR,al] at hn
       rcases nU with rfl|rfl
       ·exact hn.1
       ·exact hn.2
      cases t with
      | true=>exact ih hx (by simpa using h) cW qF (hR.imp (λh=>h) (·.1)) hQ (knext _ (.inl rfl))
      | false=>exact ih hy (by simpa using h) cW qG (hR.imp (λh=>h) (·.2)) hQ (knext _ (.inr rfl))
     ·simp at h
    ·rename_i v st1 d4
     simp only[aa,ac] at h
     obtain⟨rfl,rfl⟩:=h
     refine CU (Gz (res:=some v) hF hE hP dy dk cL.call cL.out cL.round (λ_ _ _ _=>Df) (λ_ _ _ _=>DV) gm d4 hb (BF hQ) (λe=>by simp at e) ?_)
     rintro p e a' w' G' u hu he cW
     cases e
     exact hk a' w' G' _ ⟨u,rfl,hu⟩ cW (.of he) (DfR.plain he.df (by simp))
    ·simp at h
   have nrB:∀{pos:List PO} {px:PX} {p1 p2:PC},(rd'=none∨(PC.branch pos px p1 p2).RO=true)→(rd'=none∨(p1.RO=true∧p2.RO=true)):=by
    intro pos px p1 p2 h
    exact h.imp id (λh=>by simpa[PC.RO] using h)
   have nrBB:∀{pos:List PO} {px:PX} {p1 p2:PC},(rd'=none∨(PC.bbranch pos px p1 p2).RO=true)→(rd'=none∨(p1.RO=true∧p2.RO=true)):=by
    intro pos px p1 p2 h
    exact h.imp id (λh=>by simpa[PC.RO] using h)
   have ih := @Cx hF hE hP dy dk fid rd' n (λm hm=>dc m (by omega))
   have up:∀{id:Nat} {ops:Array Oper} {d:Bool} {cc:Operand} {x1 y1 r:Code} {a:Act} {w:World},wpN rd' fid P (.region id ops d) (Exit.then (wpN rd' fid P (.cond cc x1 y1) (Exit.then (wpN rd' fid P r Q) Q)) (Exit.then (wpN rd' fid P r Q) Q)) a w→wpN rd' fid P (.region id ops d) (Exit.then (wpN rd' fid P (.seq (.cond cc x1 y1) r) Q) Q) a w:=by
    intro id ops d cc x1 y1 r a w hw
    refine c41 hw ?_
    intro e a' w' hq
    cases e<;>simp only[Exit.then] at hq ⊢
    ·exact Dg hq
    all_goals exact hq
   cases hc with
   | stuck=>simp[AD,wB,zd,zj,rd,raw,cp] at h
   | skip =>
     simp only[wB,aa,ac] at h
     obtain⟨rfl,rfl⟩:=h
     exact c42 (hk _ _ G .normal rfl hb (ExtD.refl _ _) (DfR.plain rfl (by simp)))
   | exit id =>
     simp only[wB,aa,ac] at h
     obtain⟨rfl,rfl⟩:=h
     exact Mc (hk _ _ G (.exit id) rfl hb (ExtD.refl _ _) (DfR.plain rfl (by simp)))
   | ret =>
     simp only[wB,aa,ac] at h
     obtain⟨rfl,rfl⟩:=h
     exact Md (hk _ _ G .ret rfl hb (ExtD.refl _ _) (DfR.plain rfl (by simp)))
   | region id ops d pos gm =>
     simp only[wB,ab,ac] at h
     obtain⟨st1,d4,rfl,rfl⟩:=h
     exact CU (L8 hF hE hP dy dk cL.call (λ_ _ _ _=>Df) gm d4 hb hQ (λa' w' G' hf he cQ=>hk a' w' G' .normal rfl (FI.finish hf cQ) (.of he) (DfR.plain he.df (by simp))))
   | bregion id ops d pos gm =>
     simp only[wB] at h
     split at h
     ·rename_i st1 d4
      simp only[aa,ac] at h
      obtain⟨rfl,rfl⟩:=h
      refine CU (Gz (res:=none) hF hE hP dy dk cL.call cL.out cL.round (λ_ _ _ _=>Df) (λ_ _ _ _=>DV) gm d4 hb hQ ?_ (λp e=>by simp at e))
      intro _ a' w' G' hf he cQ
      exact hk a' w' G' .normal rfl (FI.finish hf cQ) (.of he) (DfR.plain he.df (by simp))
     ·rename_i v st1 d4
      simp only[aa,ac] at h
      obtain⟨rfl,rfl⟩:=h
      refine CU (Gz (res:=some v) hF hE hP dy dk cL.call cL.out cL.round (λ_ _ _ _=>Df) (λ_ _ _ _=>DV) gm d4 hb hQ (λe=>by simp at e) ?_)
      rintro p e a' w' G' u hu he cW
      cases e
      exact hk a' w' G' _ ⟨u,rfl,hu⟩ cW (.of he) (DfR.plain he.df (by simp))
     ·simp at h
   | raise id ops pos t px gm =>
     simp only[wB] at h
     split at h
     ·rename_i st1 d4
      simp only[ab,ac] at h
      obtain⟨u,hu,rfl,rfl⟩:=h
      refine CU (b8D hF hE hP dk cL.call (λ_ _ _ _=>Df) gm d4 hu hb hQ ?_)
      intro a' w' G' v hv he cW
      exact hk a' w' G' _ ⟨v,rfl,hv⟩ cW (.of he) (DfR.plain he.df (by simp))
     ·simp at h
   | branch id ops d pos cc px x1 y1 p1 p2 gm eH hx hy =>
     exact Dg (branch (aq _) gm eH hx hy (hY.sub (λz hz=>by simp[yn,hz])) (hY.sub (λz hz=>by simp[yn,hz])) (nrB hR) hQ h hk)
   | bbranch id ops d pos cc px x1 y1 p1 p2 gm eH hx hy =>
     exact Dg (bbranch (aq _) gm eH hx hy (hY.sub (λz hz=>by simp[yn,hz])) (hY.sub (λz hz=>by simp[yn,hz])) (nrBB hR) hQ h hk)
   | branchSeq id ops d pos cc px x1 y1 r p1 p2 pr gm eH hx hy hr =>
     simp only[wB] at h
     refine Dg ?_
     have ix:rd'=none∨(PC.branch pos px p1 p2).RO=true:=hR.imp (λh=>h) (λh=>by simp only[PC.RO,al] at h ⊢; exact h.1)
     have gf:rd'=none∨pr.RO=true:=hR.imp (λh=>h) (λh=>by simp only[PC.RO,al] at h; exact h.2)
     split at h
     ·rename_i st1 d4
      cases n with
      | zero=>simp[wB] at d4
      | succ m =>
        refine up (branch (Nat.le_succ m) gm eH hx hy (hY.sub (λz hz=>by simp[yn,hz])) (hY.sub (λz hz=>by simp[yn,hz])) (nrB ix) (BF hQ) d4 ?_)
        intro a' w' G' e he cW cH hd
        simp only[zz] at he
        subst he
        refine ih hr h cW (hY.sub (λz hz=>by simp[yn,hz])) gf hQ ?_
        intro a2 w2 G2 e2 h1 h2 h3 h4
        exact hk a2 w2 G2 e2 h1 h2 (cH.trans h3) (DfR.trans cH hd h3 h4 (λhn=>by simpa only[PC.NR,al] using hn))
     ·simp at h
     ·rename_i c9 fy
      cases n with
      | zero=>simp[wB] at h
      | succ m =>
        refine up (branch (Nat.le_succ m) gm eH hx hy (hY.sub (λz hz=>by simp[yn,hz])) (hY.sub (λz hz=>by simp[yn,hz])) (nrB ix) (BF hQ) h ?_)
        refine GB (λe=>c9 st' (by rw[h,e])) (λkd caps v e=>fy kd caps v st' (by rw[h,e])) ?_
        intro a2 w2 G2 e2 h1 h2 h3 h4
        exact hk a2 w2 G2 e2 h1 h2 h3 (DfR.weak (ExtD.refl _ _) rfl h3 h4 (λhn=>by simp only[PC.NR,al] at hn ⊢; exact hn.1))
   | bbranchSeq id ops d pos cc px x1 y1 r p1 p2 pr gm eH hx hy hr =>
     simp only[wB] at h
     refine Dg ?_
     have ix:rd'=none∨(PC.bbranch pos px p1 p2).RO=true:=hR.imp (λh=>h) (λh=>by simp only[PC.RO,al] at h ⊢; exact h.1)
     have gf:rd'=none∨pr.RO=true:=hR.imp (λh=>h) (λh=>by simp only[PC.RO,al] at h; exact h.2)
     split at h
     ·rename_i st1 d4
      cases n with
      | zero=>simp[wB] at d4
      | succ m =>
        refine up (bbranch (Nat.le_succ m) gm eH hx hy (hY.sub (λz hz=>by simp[yn,hz])) (hY.sub (λz hz=>by simp[yn,hz])) (nrBB ix) (BF hQ) d4 ?_)
        intro a' w' G' e he cW cH hd
        simp only[zz] at he
        subst he
        refine ih hr h cW (hY.sub (λz hz=>by simp[yn,hz])) gf hQ ?_
        intro a2 w2 G2 e2 h1 h2 h3 h4
        exact hk a2 w2 G2 e2 h1 h2 (cH.trans h3) (DfR.trans cH hd h3 h4 (λhn=>by simpa only[PC.NR,al] using hn))
     ·simp at h
     ·rename_i c9 fy
      cases n with
      | zero=>simp[wB] at h
      | succ m =>
        refine up (bbranch (Nat.le_succ m) gm eH hx hy (hY.sub (λz hz=>by simp[yn,hz])) (hY.sub (λz hz=>by simp[yn,hz])) (nrBB ix) (BF hQ) h ?_)
        refine GB (λe=>c9 st' (by rw[h,e])) (λkd caps v e=>fy kd caps v st' (by rw[h,e])) ?_
        intro a2 w2 G2 e2 h1 h2 h3 h4
        exact hk a2 w2 G2 e2 h1 h2 h3 (DfR.weak (ExtD.refl _ _) rfl h3 h4 (λhn=>by simp only[PC.NR,al] at hn ⊢; exact hn.1))
   | seq x1 y1 p1 q1 hx hy =>
     simp only[wB] at h
     refine Dg ?_
     have ix:rd'=none∨p1.RO=true:=hR.imp (λh=>h) (λh=>by simp only[PC.RO,al] at h; exact h.1)
     have gf:rd'=none∨q1.RO=true:=hR.imp (λh=>h) (λh=>by simp only[PC.RO,al] at h; exact h.2)
     split at h
     ·rename_i st1 d4
      refine ih hx d4 hb (hY.sub (λz hz=>by simp[yn,hz])) ix (BF hQ) ?_
      intro a' w' G' e he cW cH hd
      simp only[zz] at he
      subst he
      refine ih hy h cW (hY.sub (λz hz=>by simp[yn,hz])) gf hQ ?_
      intro a2 w2 G2 e2 h1 h2 h3 h4
      exact hk a2 w2 G2 e2 h1 h2 (cH.trans h3) (DfR.trans cH hd h3 h4 (λhn=>by simpa only[PC.NR,al] using hn))
     ·simp at h
     ·rename_i c9 fy
      refine ih hx h hb (hY.sub (λz hz=>by simp[yn,hz])) ix (BF hQ) ?_
      refine GB (λe=>c9 st' (by rw[h,e])) (λkd caps v e=>fy kd caps v st' (by rw[h,e])) ?_
      intro a2 w2 G2 e2 h1 h2 h3 h4
      exact hk a2 w2 G2 e2 h1 h2 h3 (DfR.weak (ExtD.refl _ _) rfl h3 h4 (λhn=>by simp only[PC.NR,al] at hn ⊢; exact hn.1))
   | cond cc px x1 y1 p1 q1 eH hx hy =>
     simp only[wB,zd,zj] at h
     split at h
     ·rename_i t ht
      have hf:=FI.begin (lm:=wq vs []) hb (by intro j t hj; simp[wq] at hj) 0
      have eO:=(wW hE eH hf ht).1
      have eR:a.eval cc = .bool t:=by generalize a.eval cc=z at eO; cases eO; rfl
      have cW:=FI.finish (nt:=nt) hf hb.size
      refine IH eR ?_
      have knext:∀(pq:PC),(pq=p1∨pq=q1)→KQ N vs nt pq x st' w G Q:=by
       intro pq nU a2 w2 G2 e2 h1 h2 h3 h4
       refine hk a2 w2 G2 e2 h1 h2 h3 (DfR.weak (ExtD.refl _ _) rfl h3 h4 ?_)
       intro hn
       simp only[PC.NR,al] at hn
       rcases nU with rfl|rfl
       ·exact hn.1
       ·exact hn.2
      cases t with
      | true=>exact ih hx (by simpa using h) cW (hY.sub (c':=x1) (λz hz=>by simp[yn,hz])) ((nrB hR).imp (λh=>h) (·.1)) hQ (knext _ (.inl rfl))
      | false=>exact ih hy (by simpa using h) cW (hY.sub (c':=y1) (λz hz=>by simp[yn,hz])) ((nrB hR).imp (λh=>h) (·.2)) hQ (knext _ (.inr rfl))
     ·simp at h
   | block id x1 p1 hx =>
     simp only[wB] at h
     refine c3n ?_
     have ix:rd'=none∨p1.RO=true:=hR
     have np:LpOK E N nt fid x1:=hY
     split at h
     ·rename_i i st1 d4
      split at h
      ·rename_i hi
       subst hi
       simp only[aa,ac] at h
       obtain⟨rfl,rfl⟩:=h
       refine ih hx d4 hb np ix (IG hQ) ?_
       intro a' w' G' e he cW cH hd
       simp only[zz] at he
       subst he
       simp only[Exit.inBlock,if_true]
       exact hk a' w' G' .normal rfl cW cH hd
      ·rename_i hi
       simp only[aa,ac] at h
       obtain⟨rfl,rfl⟩:=h
       refine ih hx d4 hb np ix (IG hQ) ?_
       intro a' w' G' e he cW cH hd
       simp only[zz] at he
       subst he
       simp only[Exit.inBlock,af hi]
       exact hk a' w' G' _ rfl cW cH hd
     ·simp at h
     ·rename_i c9 fy
      refine ih hx h hb np ix (IG hQ) ?_
      intro a' w' G' e he cW cH hd
      have:=hk a' w' G' e he cW cH hd
      cases x with
      | normal=>simp only[zz] at he; subst he; exact this
      | exit i=>exact absurd h (λe=>c9 _ _ e)
      | ret=>simp only[zz] at he; subst he; exact this
      | boom v=>obtain⟨u,rfl,_⟩:=he; exact this
      | after kd caps v=>exact absurd h (λe=>fy _ _ _ _ e)
   | loop x1 p1 hx =>
     refine b4W (n+1) ?_
     have ix:rd'=none∨p1.RO=true:=hR
     have np:LpOK E N nt fid x1:=hY
     have key:∀(m:Nat),m≤n+1→∀{st:St} {w:World} {G:GS} {a:Act},wB L m (.loop p1) st=some (x,st')→BI N w G st a vs nt→KQ N vs nt (.loop p1) x st' w G Q→DX rd' fid P x1 Q m a w:=by
      intro m
      induction m with
      | zero=>intro _ st w G a h; simp[wB] at h
      | succ m ihm =>
        intro hm st w G a h hb hk
        rw[b8z]
        have ih' := @Cx hF hE hP dy dk fid rd' m (λm' kW=>dc m' (by omega))
        simp only[wB] at h
        split at h
        ·rename_i st1 d4
         refine ih' hx d4 hb np ix (BF hQ) ?_
         intro a' w' G' e he cW cH hd
         simp only[zz] at he
         subst he
         refine ihm (by omega) h cW ?_
         intro a2 w2 G2 e2 h1 h2 h3 h4
         exact hk a2 w2 G2 e2 h1 h2 (cH.trans h3) (DfR.trans cH hd h3 h4 (λhn=>⟨hn,hn⟩))
        ·simp at h
        ·rename_i c9 fy
         refine ih' hx h hb np ix (BF hQ) ?_
         refine GB (λe=>c9 st' (by rw[h,e])) (λkd caps v e=>fy kd caps v st' (by rw[h,e])) ?_
         intro a2 w2 G2 e2 h1 h2 h3 h4
         exact hk a2 w2 G2 e2 h1 h2 h3 h4
     exact key (n+1) (aq _) h hb hk
   | rangeF g ps as body px kb vars caps hg hl hv =>
     simp only[wB] at h
     split at h
     ·rename_i k first captured cs jw ka
      split at h
      ·simp at h
      ·rename_i iy
       have dY:rd'=none:=by rcases hR with h|h; exact h; simp[PC.RO] at h
       subst dY
       have qH:wq vs []=(λ_=>none):=by funext j; simp[wq]
       have hf:FI N w G st a vs (wq vs []):=by rw[qH]; exact hb.fi
       have s6:=(wW hE hg hf jw).1
       obtain⟨dL,my⟩:=Bf hE hf hv ka
       have jx:N.yl k=none:=cL.yl k (by simpa using iy)
       generalize uu:a.eval g=gv at s6
       cases s6 with
       | yield _ m l y tmps caps' hy _ _ _ _ _=>rw[jx] at hy; simp at hy
       | func _ fs cs' _ _ hy e1 e2 lr ea =>
         have ep:=run_enterLoop_outer (P:=P) (w:=w) fid a.tmps ps as body
         have x1:=c1L hb.fi (.deferred (some []))
         have fY:(w.alloc (.deferred (some []))).heap.size=w.heap.size+1:=by simp
         have x2:=c6a x1.2 (ob := .loop true) (mob := .loop { state := .ready,pending:=none,fn:=fid,tmps:=a.tmps,params:=ps,assign:=as,body:=body,defers:=w.heap.size }) (by
          rintro G' rfl _
          refine⟨?_,_,Bg,rfl,by simp⟩
          intro o fC
          have:=x1.2.fixlt _ _ fC
          omega)
         rw[fY] at x2
         generalize iO:(w.alloc (.deferred (some []))).alloc (.loop { state := .ready,pending:=none,fn:=fid,tmps:=a.tmps,params:=ps,assign:=as,body:=body,defers:=w.heap.size })=w1 at ep x2
         have eb:w1.heap[w.heap.size+1]? = some (.loop { state := .ready,pending:=none,fn:=fid,tmps:=a.tmps,params:=ps,assign:=as,body:=body,defers:=w.heap.size }):=by
          rw[← iO,← fY]; exact Bg
         have jV:w1.heap[w.heap.size]? = some (.deferred (some [])):=by
          rw[← iO,zt (by rw[fY]; omega)]; exact Bg
         have d4:w1.heap.size=w.heap.size+2:=by rw[← iO]; simp
         have dW:Ext w G w1 (G.more (w.heap.size+1) st.heap.length):=x1.1.trans x2.1
         have f2:=x2.2
         generalize s7:G.more (w.heap.size+1) st.heap.length=G1 at dW f2
         have dJ:G1.heap st.heap.length=some (w.heap.size+1):=by rw[← s7]; simp[GS.more]
         have nV:G1.ow w.heap.size=none:=by
          rw[← s7]
          simp only[GS.more]
          rw[af (by omega)]
          cases hx:G.ow w.heap.size with
          | none=>rfl
          | some kk=>have:=hb.fi.owlt _ _ hx; omega
         have qI:VR N w1 G1.fix G1.heap (.func (.yield (w.heap.size+1)) #[] #[]) (.func kb (.ptr st.heap.length 0::cs) []):=by
          refine .yield kb st.heap.length (w.heap.size+1) ⟨fid,ps,as,body,vars,nt⟩ a.tmps cs (hY ps kb vars hl (ps,as,body) (by simp[yn]) rfl) dJ (by simp[zk,eb]) (by simpa using dL.symm) hb.size ?_
          intro i t p ht hp
          have:=(my i (.tmp t) p (by simpa using ht) hp).1
          exact VR.ext (by simpa[Act.eval] using this) dW
         have dl:(resolve a.eval (rangeCall g (w.heap.size+1)) 0).run P w1 = .ok { target := .fn (.func (N.fn k)) cs',args:=fs ++ #[.func (.yield (w.heap.size+1)) #[] #[]] } w1:=by
          have qJ:a.eval (.const (.func (.yield (w.heap.size+1)) #[] #[])) = .func (.yield (w.heap.size+1)) #[] #[]:=rfl
          simp[resolve,rangeCall,uu,Deferred.ofValue,qJ]
         obtain⟨pf,hL⟩:∃f,L k=some f:=by
          split at h
          ·exact DV (by assumption)
          ·exact DV (by assumption)
          ·simp at h
         have jK:(invoke (.fn (.func (N.fn k)) cs') (fs ++ #[.func (.yield (w.heap.size+1)) #[] #[]])).run P w1 = .ok (.enter (N.fn k) (fs ++ #[.func (.yield (w.heap.size+1)) #[] #[]]++cs')) w1:=by
          simp only[invoke]
          exact Cy hF hL _ w1
         have cN:∀(i:Nat) (v:Value) (p:PV),(fs ++ #[.func (.yield (w.heap.size+1)) #[] #[]]++cs')[i]? = some v→(first ++ .func kb (.ptr st.heap.length 0::cs) []::captured)[i]? = some p→VR N w1 G1.fix G1.heap v p:=by
          intro i v p dN hp
          by_cases hi:i<fs.size
          ·rw[bX,bo hi] at dN
           rw[am (by omega)] at hp
           exact(lr i v p dN hp).ext dW
          ·rw[bX,bY (by omega)] at dN
           rw[ap (by omega),← e1] at hp
           cases hn:i - fs.size with
           | zero =>
             rw[hn] at dN hp
             rw[bo (by simp)] at dN
             simp at dN hp
             subst dN hp
             exact qI
           | succ m =>
             rw[hn] at dN hp
             rw[bY (by simp)] at dN
             simp at dN hp
             exact(ea m v p dN hp).ext dW
         have eX:(fs ++ #[Value.func (.yield (w.heap.size+1)) #[] #[]]++cs').size=(first++PV.func kb (.ptr st.heap.length 0::cs) []::captured).length:=by simp[e1,e2]; omega
         have marks:∀{w' w4:World} {G':GS} {e5:Ext w1 G1 w' G'} {G4:GS},w4.heap[w.heap.size]? = w'.heap[w.heap.size]?→G4.ow=G'.ow→Marks w w4 G4 [{ target := .collected w.heap.size,args := #[] }]:=by
          intro w' w4 G' e5 G4 nW uv
          refine⟨[w.heap.size],rfl,by simp,?_⟩
          intro b hb
          simp only[bH] at hb
          subst hb
          refine⟨aq _,?_,?_⟩
          ·rw[nW,e5.same _ (by omega) nV]; exact jV
          ·rw[uv]
           cases hx:G'.ow w.heap.size with
           | none=>rfl
           | some kk =>
             rcases e5.own w.heap.size (by rw[hx]; simp) with h|h
             ·omega
             ·exact absurd nV h
         have fin:∀{x':PExit} {j:Option Code} {ob:PObj} {u:PV} {h':List PObj},yB (wB L n) L k (first ++ .func kb (.ptr st.heap.length 0::cs) []::captured) (st.heap++[.loop true])=some (.val u,h') →
           KQ N vs nt (.rangeF px kb caps) x' { st with heap:=h'.set st.heap.length .gone } w G Q→((j=none∧x' = .normal)∨(j=some .ret∧x' = .ret)∨∃id,j=some (.exit id)∧x' = .exit id) →
           h'[st.heap.length]? = some ob→ob≠.gone→(∀(w':World) (G':GS) (b:Nat),ObjR N w' G' st.heap.length b ob→(∀o,¬G'.fix b o)∧∃r:Go.Loop,w'.heap[b]? = some (.loop r)∧r.pending=j∧r.state≠.busy) →
           wpN none fid P (.rangeFunc g ps as body) Q a w:=by
          intro x' j ob u h' dc hk hj iZ pY dF
          refine Me ep dl jK ((cL.out k _ _ _ _ dc jx w1 G1.callee _ (DY f2) eX cN).mono ?_)
          rintro e w' ⟨G2,⟨v,rfl,cR⟩,he,dI⟩
          obtain⟨G',cH,de,g1,g2⟩:=GC f2 he dI
          rcases de.heap.1 st.heap.length _ iZ with nq|⟨b,k1,k2,k3⟩
          ·exact absurd nq pY
          obtain⟨kf,r,k3,k4,k5⟩:=dF _ _ _ k3
          have:b=w.heap.size+1:=by have:=cH.heap _ _ dJ; rw[k1] at this; simpa using this
          subst this
          have fm:=run_endLoop (P:=P) k3 k5
          have fm:=fm.trans (aH (λz=>Result.ok z _) k4)
          obtain⟨e6,uw⟩:=Mf (ob' := .gone) (mob := .loop { r with state := .exhausted }) de k1 k2 kf (by simp[World.shape?,k3]) (by
           intro s hs
           have cO:w.heap.size+1<w'.heap.size:=(aX.1 k3).1
           simp only[zk,k3] at hs
           simpa[zk,aY,cO] using hs) (.inl rfl)
          refine⟨_,_,fm,?_⟩
          have cY:=(dW.trans cH).trans e6
          have qK:=FI.setDf uw ([{ target := .collected w.heap.size,args := #[] }]++a.defers)
          have last:∀e2,zz N _ _ x' e2→Q e2 _ _:=λe2 eA=>hk { a with defers:=[{ target := .collected w.heap.size,args := #[] }]++a.defers } (w'.putObj (w.heap.size+1) (.loop { r with state := .exhausted })) { G' with df:=[{ target := .collected w.heap.size,args := #[] }]++a.defers } e2 eA ⟨qK,hb.size⟩ (Ext.setDf cY _) (by
           have hd:∃ms,([{ target := .collected w.heap.size,args := #[] }]++a.defers:List Deferred)=ms++G.df∧Marks w (w'.putObj (w.heap.size+1) (.loop { r with state := .exhausted })) { G' with df:=[{ target := .collected w.heap.size,args := #[] }]++a.defers } ms∧((PC.rangeF px kb caps).NR=true→ms=[]):=
            ⟨[{ target := .collected w.heap.size,args := #[] }],by simp[hb.fi.defers],marks (e5:=cH) (w4:=w'.putObj (w.heap.size+1) (.loop { r with state := .exhausted })) (G4:={ G' with df:=[{ target := .collected w.heap.size,args := #[] }]++a.defers }) (by simp[World.putObj,aY]) rfl,by simp[PC.NR]⟩
           rcases hj with⟨_,rfl⟩|⟨_,rfl⟩|⟨id,_,rfl⟩<;>exact hd)
          rcases hj with⟨rfl,rfl⟩|⟨rfl,rfl⟩|⟨id,rfl,rfl⟩
          ·exact last _ rfl
          ·exact Md (last _ rfl)
          ·exact Mc (last _ rfl)
         split at h
         ·rename_i u h' dc
          split at h
          ·rename_i iZ
           simp only[aa,ac] at h
           obtain⟨rfl,rfl⟩:=h
           exact fin dc hk (.inl ⟨rfl,rfl⟩) iZ (by simp) (λw' G' b ⟨kf,r,k3,k4,k5⟩=>⟨kf,r,k3,k4,by rw[k5]; simp⟩)
          ·rename_i id iZ
           simp only[aa,ac] at h
           obtain⟨rfl,rfl⟩:=h
           exact fin dc hk (.inr (.inr ⟨id,rfl,rfl⟩)) iZ (by simp) (λw' G' b ⟨kf,r,k3,k4,k5⟩=>⟨kf,r,k3,k4,by rw[k5]; simp⟩)
          ·rename_i iZ
           simp only[aa,ac] at h
           obtain⟨rfl,rfl⟩:=h
           exact fin dc hk (.inr (.inl ⟨rfl,rfl⟩)) iZ (by simp) (λw' G' b ⟨kf,r,k3,k4,k5⟩=>⟨kf,r,k3,k4,by rw[k5]; simp⟩)
          ·simp at h
         ·rename_i v h' dc
          simp only[aa,ac] at h
          obtain⟨rfl,rfl⟩:=h
          refine Me ep dl jK ((cL.out k _ _ _ _ dc jx w1 G1.callee _ (DY f2) eX cN).mono ?_)
          rintro e w' ⟨G2,⟨u,rfl,cR⟩,he,dI⟩
          obtain⟨G',cH,de,g1,g2⟩:=GC f2 he dI
          have cY:=dW.trans cH
          have qK:=FI.setDf de ([{ target := .collected w.heap.size,args := #[] }]++a.defers)
          refine hk _ _ _ _ ⟨u,rfl,by rw[← g1,← g2] at cR; exact cR⟩ ⟨qK,hb.size⟩ (Ext.setDf cY _) ⟨[{ target := .collected w.heap.size,args := #[] }],by simp[hb.fi.defers],marks (e5:=cH) rfl rfl,by simp[PC.NR]⟩
         ·simp at h
     ·simp at h
   | guarded id ops kd caps y q hd hy =>
     simp only[wB] at h
     split at h
     ·simp at h
     ·rename_i iy
      have lQ:q.NR=true:=by simpa using iy
      have dY:rd'=none:=by rcases hR with h|h; exact h; simp[PC.RO] at h
      subst dY
      split at h
      ·rename_i cs ka
       unfold Iz at hd
       split at hd
       ·rename_i d f first pcaps ty1 ps1 af1 d' args ts2 ty2 ps2 af2 nX
        split at hd
        ·rename_i hX
         obtain⟨rfl,nn,da,qL,qM⟩:=hX
         simp only[ai,ab,ac] at hd
         obtain⟨k0,lR,pcs,qN,rfl,rfl⟩:=hd
         have qH:wq vs []=(λ_=>none):=by funext j; simp[wq]
         have hf:FI N w G st a vs (wq vs []):=by rw[qH]; exact hb.fi
         obtain⟨dL,my⟩:=Bf hE hf qN ka
         obtain⟨ops⟩:=ops
         simp only at nX
         subst nX
         have nY:first = #[]:=by cases first; simpa using qL
         have nZ:args = #[]:=by cases args; simpa using qM
         subst nY nZ
         have eB:=hE.fn _ _ lR
         refine Dg (CU (n:=0) (wpIn_region ?_))
         have jL:List.range (Array.mk [({ dst:=some d,op := .makeFunc (.func f) #[] pcaps,type:=ty1,pos:=ps1,after:=af1,guard:=none }:Oper),{ dst:=none,op := .defer { callee := .value (.tmp d),args := #[],argTypes:=ts2 },type:=ty2,pos:=ps2,after:=af2,guard:=none }]).size=[0,1]:=rfl
         rw[jL,wpOpsIn_cons]
         unfold wpOpIn
         simp only[bI,ci,Region.wanted,if_true]
         refine⟨λ_ _=>AE _,?_⟩
         rw[show (W none).round=none from rfl,Oper.semAt_none]
         have kc:(execOp a.eval ({ dst:=some d,op := .makeFunc (.func f) #[] pcaps,type:=ty1,pos:=ps1,after:=af1,guard:=none }:Oper)).run P w = .ok (.value (.func (.func f) #[] (pcaps.map a.eval))) w:=by
          simp[execOp,Instr.makeFunc]
         rw[kc,Oper.uponIn_value]
         rw[wpOpsIn_cons]
         unfold wpOpIn
         simp only[bI,cD,ci,Region.wanted,if_true]
         refine⟨λ_ _=>AE _,?_⟩
         rw[show (W none).round=none from rfl,Oper.semAt_none]
         have eO:(a.put (some d) (.func (.func f) #[] (pcaps.map a.eval))).eval (.tmp d) = .func (.func f) #[] (pcaps.map a.eval):=by
          have:d<a.tmps.size:=aO da hb.size
          simp[Act.eval,Act.put,aM,aY,this]
         have j9:(execOp (a.put (some d) (.func (.func f) #[] (pcaps.map a.eval))).eval ({ dst:=none,op := .defer { callee := .value (.tmp d),args := #[],argTypes:=ts2 },type:=ty2,pos:=ps2,after:=af2,guard:=none }:Oper)).run P w =
           .ok (.defer { target := .fn (.func f) (pcaps.map a.eval),args := #[] }) w:=by
          simp[execOp,resolve,eO,Deferred.ofValue]
         rw[j9,Oper.uponIn_defer]
         simp only[wpOpsIn]
         have b1:=hb.putOther nn (.func (.func f) #[] (pcaps.map a.eval))
         generalize hX:({ target := .fn (.func f) (pcaps.map a.eval),args := #[] }:Deferred)=dd
         have b2:BI N w { G with df:=dd::a.defers } st { a.put (some d) (.func (.func f) #[] (pcaps.map a.eval)) with defers:=dd::a.defers } vs nt:=⟨FI.setDf b1.fi _,b1.size⟩
         have i7:∀(w':World) (G':GS),ExtD w { G with df:=dd::a.defers } w' G'→G'.df=dd::a.defers→Clo N w' G' k0 cs:=by
          intro w' G' cH ec
          refine⟨dd,a.defers,pcaps.map a.eval,ec,by rw[← hX,eB],by simpa using dL,?_⟩
          intro i v p hv hp
          simp only[bN,ab] at hv
          obtain⟨x,hx,rfl⟩:=hv
          have qO:Ext w { G with df:=G'.df } w' G':=cH
          exact VR.mono (my i x p (by simpa using hx) hp).1 qO.fix qO.heap qO.shape
         have run:∀(x0:PExit) (st1:St),wB L n q st=some (x0,st1)→x0.plain=true→KQ N vs nt q x0 st1 w { G with df:=dd::a.defers } Q→wpN none fid P y Q { a.put (some d) (.func (.func f) #[] (pcaps.map a.eval)) with defers:=dd::a.defers } w:=by
          intro x0 st1 fV _ ux
          exact ih hy fV b2 (hY.sub (λz hz=>by simp[yn,hz])) (.inl rfl) hQ ux
         have dfs:∀{x0:PExit} {w':World} {G':GS},x0.plain=true→DfR q x0 w { G with df:=dd::a.defers } w' G'→G'.df=dd::a.defers:=by
          intro x0 w' G' fV hd
          have key:(∃ms,G'.df=ms++(dd::a.defers)∧Marks w w' G' ms∧(q.NR=true→ms=[]))→G'.df=dd::a.defers:=by
           rintro⟨ms,h1,_,h3⟩
           rw[h1,h3 lQ]; rfl
          cases x0 with
          | after _ _ _=>simp[PExit.plain] at fV
          | normal=>exact key hd
          | exit _=>exact key hd
          | ret=>exact key hd
          | boom _=>exact key hd
         have qP:∀{w':World} {G':GS} {v:Option PV},G'.df=dd::a.defers→DfR (.guarded k0 pcs q) (.after k0 cs v) w G w' G':=λh _=>⟨dd,by rw[h,hb.fi.defers]⟩
         split at h
         ·rename_i st1 fV
          simp only[aa,ac] at h
          obtain⟨rfl,rfl⟩:=h
          refine run .normal _ fV rfl ?_
          intro a' w' G' e he cW cH ec
          have iz:=dfs rfl ec
          exact hk a' w' G' e ⟨.inl he,i7 w' G' cH iz⟩ cW cH (qP iz)
         ·rename_i st1 fV
          simp only[aa,ac] at h
          obtain⟨rfl,rfl⟩:=h
          refine run .ret _ fV rfl ?_
          intro a' w' G' e he cW cH ec
          have iz:=dfs rfl ec
          exact hk a' w' G' e ⟨.inr he,i7 w' G' cH iz⟩ cW cH (qP iz)
         ·rename_i v st1 fV
          simp only[aa,ac] at h
          obtain⟨rfl,rfl⟩:=h
          refine run (.boom v) _ fV rfl ?_
          intro a' w' G' e he cW cH ec
          have iz:=dfs rfl ec
          exact hk a' w' G' e ⟨he,i7 w' G' cH iz⟩ cW cH (qP iz)
         ·simp at h
        ·simp at hd
       ·simp at hd
      ·simp at h
end
end PI
