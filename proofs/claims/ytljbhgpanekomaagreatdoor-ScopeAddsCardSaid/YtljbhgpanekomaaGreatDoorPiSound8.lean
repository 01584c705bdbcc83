import Derived.Test.YtljbhgpanekomaaGreatDoorPiSound1
import Derived.Laws.BytesArg
import Derived.Lib.ConvBytes
import Derived.MapKept
set_option linter.unusedSimpArgs false
set_option linter.unusedVariables false
set_option linter.unusedSectionVars false
namespace PI
open Go
theorem FI.extDst {N:Nm} {w w':World} {G G':GS} {st:St} {a:Act} {vs:List Tmp} {lm:Nat→Option Tmp} {j:Nat} {d:PD} {dst:Option Tmp} {v:Value} {u:PV}
  (h:FI N w G st a vs lm) (nm:Names vs lm) (hd:HE vs lm j d dst) (dc:d≠.n) (e:Ext w G w' G') (hk:xq (λk=>k=x9 d j) w G w' G')
  (hg:∀g b,G'.box g=some b→g<st.gen) (ho:∀b k,G'.ow b=some k→b<w'.heap.size) (hx:∀b o,G'.fix b o→b<w'.heap.size) (hh:G'.heap=G.heap) (hs:SR N w' G' (x9 d j) v u):
  FI N w' G' (PI.put st j d u) (a.put dst v) vs lm:=by
 cases d with
 | n=>exact absurd rfl dc
 | v i =>
   obtain⟨t,rfl,ht⟩:=hd
   have cS:=h.tv i t ht
   refine⟨by simp[PI.put,h.len],?_,?_,?_,?_,(h.defers.trans e.df.symm),hg,ho,hx,h.heap.keep e hk (by intro k hk e; subst e; simp[x9,Key.isH] at hk),by rw[hh]; exact h.hdom⟩
   ·intro i' t' u' h1 h2
    rw[CX _ _ _ _ cS]
    simp only[PI.put,aL] at h2
    by_cases hi:i=i'
    ·subst hi
     have:t'=t:=by rw[ht] at h1; simpa using h1.symm
     subst this
     split at h2
     ·split at h2
      ·simp at h2; subst h2; simp only[if_true]; exact hs
      ·simp at h2
     ·exact absurd rfl ‹_›
    ·rw[af hi] at h2
     have da:t'≠t:=λe=>hi (nm.vnd i i' t ht (e▸h1))
     rw[af da]
     exact(h.var i' t' u' h1 h2).keep e hk (by simp[x9]; omega) (by simp[x9])
   ·intro j' t' u' h1 h2
    rw[CX _ _ _ _ cS,af (λe:t'=t=>nm.sep j' t' i h1 (e▸ht))]
    exact(h.loc j' t' u' h1 h2).keep e hk (by simp[x9]) (by simp)
   ·intro i' t' h1; simpa[Act.put] using h.tv i' t' h1
   ·intro j' t' h1; simpa[Act.put] using h.tl j' t' h1
 | l =>
   obtain⟨t,rfl,ht⟩:=hd
   have cS:=h.tl j t ht
   refine⟨h.len,?_,?_,?_,?_,(h.defers.trans e.df.symm),hg,ho,hx,h.heap.keep e hk (by intro k hk e; subst e; simp[x9,Key.isH] at hk),by rw[hh]; exact h.hdom⟩
   ·intro i' t' u' h1 h2
    rw[CX _ _ _ _ cS,af (λe:t'=t=>nm.sep j t i' ht (e▸h1))]
    exact(h.var i' t' u' h1 h2).keep e hk (by simp[x9]) (by simp[x9])
   ·intro j' t' u' h1 h2
    rw[CX _ _ _ _ cS]
    simp only[PI.put,aL] at h2
    by_cases hj:j=j'
    ·subst hj
     have:t'=t:=by rw[ht] at h1; simpa using h1.symm
     subst this
     split at h2
     ·split at h2
      ·simp at h2; subst h2; simp only[if_true]; exact hs
      ·simp at h2
     ·exact absurd rfl ‹_›
    ·rw[af hj] at h2
     have da:t'≠t:=λe=>hj (nm.lnd j j' t ht (e▸h1))
     rw[af da]
     exact(h.loc j' t' u' h1 h2).keep e hk (by simp[x9]; omega) (by simp)
   ·intro i' t' h1; simpa[Act.put] using h.tv i' t' h1
   ·intro j' t' h1; simpa[Act.put] using h.tl j' t' h1
theorem SR.own {N:Nm} {w:World} {G:GS} {key:Key} {v:Value} {es:List PV} (h:VR N w G.fix G.heap v (.list true es)) (hr:Room w G key v es):SR N w G key v (.list true es):=⟨h,hr⟩
structure ListR (N:Nm) (w:World) (fix:Nat→Nat→Prop) (hp:Nat→Option Nat) (size:Nat) (news:List Value) (es:List PV):Prop where
 len:news.length=es.length*size
 sz:∀e∈es,e.cells.length=size
 flat:∀e∈es,∀x∈e.cells,x.flat=true
 vr:∀(i:Nat) (e:PV),es[i]? = some e→∀(k:Nat) (c:Value) (x:PV),news[i*size+k]? = some c→e.cells[k]? = some x→VR N w fix hp c x
section
variable {E:Env} {N:Nm} {w:World} {G:GS} {st:St} {a:Act} {vs:List Tmp} {ops:List Oper} {P:Program}
variable {o:Oper} {j:Nat} {next:Act→World→Prop} {Q:Exit→Act→World→Prop} {u:PV} {st1:St}
theorem ListR.append {fix:Nat→Nat→Prop} {hp:Nat→Option Nat} {size:Nat} {xs ys:List Value} {es fs:List PV} (h:ListR N w fix hp size xs es) (k:ListR N w fix hp size ys fs) (hs:size≠0):
  ListR N w fix hp size (xs++ys) (es++fs):=by
 refine⟨by simp[h.len,k.len,aQ],?_,?_,?_⟩
 ·intro e he; rcases ak.1 he with he|he
  ·exact h.sz e he
  ·exact k.sz e he
 ·intro e he; rcases ak.1 he with he|he
  ·exact h.flat e he
  ·exact k.flat e he
 ·intro i e he m c x hc hx
  by_cases hi:i<es.length
  ·rw[am hi] at he
   have hm:m<size:=by have:=(aj.1 hx).1; have:=h.sz e (ax he); omega
   rw[am (by rw[h.len]; exact HJ hi hm)] at hc
   exact h.vr i e he m c x hc hx
  ·rw[ar (by omega)] at he
   have oH:xs.length≤i*size+m:=by
    rw[h.len]
    have:es.length*size≤i*size:=bk _ (by omega)
    omega
   rw[ar oH,h.len] at hc
   refine k.vr _ e he m c x ?_ hx
   rw[show (i - es.length)*size+m=i*size+m - es.length*size by
    rw[Nat.sub_mul]
    have:es.length*size≤i*size:=bk _ (by omega)
    omega]
   exact hc
theorem ListR.mono {w':World} {fix fix':Nat→Nat→Prop} {hp eQ:Nat→Option Nat} {size:Nat} {xs:List Value} {es:List PV} (h:ListR N w fix hp size xs es)
  (hf:∀b o,fix b o→fix' b o∧w'.cell? ⟨b,o,none⟩=w.cell? ⟨b,o,none⟩) (hh:∀n b,hp n=some b→eQ n=some b) (hs:ShapeLe w w'):ListR N w' fix' eQ size xs es:=
 ⟨h.len,h.sz,h.flat,λi e he k c x hc hx=>(h.vr i e he k c x hc hx).mono hf hh hs⟩
theorem ListR.one {fix:Nat→Nat→Prop} {hp:Nat→Option Nat} {size:Nat} {xs:List Value} {es:List PV} (h:ListR N w fix hp size xs es) (hs:size≠0):∀c∈xs,c.oneCell'=true:=by
 intro c hc
 obtain⟨m,hm⟩:=bh.1 hc
 have cQ:m<es.length*size:=by have:=(aj.1 hm).1; rw[h.len] at this; exact this
 have hi:m / size<es.length:=by rw[Nat.div_lt_iff_lt_mul (by omega)]; exact cQ
 have hk:m % size<size:=cd _ (by omega)
 have he:=av hi
 have dX:=ax he
 have jR:m % size<(es[m / size]).cells.length:=by rw[h.sz _ dX]; exact hk
 have hx:=av jR
 have vS:m / size*size+m % size=m:=by rw[Nat.mul_comm]; exact Nat.div_add_mod m size
 have h1:=(h.vr _ _ he _ c _ (by rw[vS]; exact hm) hx).oneCell (h.flat _ dX _ (ax hx))
 cases c<;>first|rfl|simp[oneCell] at h1
theorem KR {fix:Nat→Nat→Prop} {hp:Nat→Option Nat} {size:Nat} {v:Value} {own:Bool} {es:List PV} (h:VR N w fix hp v (.list own es)) (hh:xf size es=true):
  ∃ news, ListR N w fix hp size news es ∧ ((v = .slice none 0 0 ∧ es = [] ∧ news = []) ∨ (∃ ad cap, v = .slice (some ad) 0 cap ∧ es = [] ∧ news = []) ∨
    ∃b off cap,v = .slice (some ⟨b,off,none⟩) es.length cap∧es.length≤cap∧∀(j:Nat) (u:Value),news[j]? = some u→w.cell? ⟨b,off+j,none⟩=some u∧fix b (off+j)):=by
 cases h with
 | nils=>exact⟨[],⟨by simp,by simp,by simp,by simp⟩,.inl ⟨rfl,rfl,rfl⟩⟩
 | void _ ad cap=>exact⟨[],⟨by simp,by simp,by simp,by simp⟩,.inr (.inl ⟨ad,cap,rfl,rfl,rfl⟩)⟩
 | list _ b off len cap sz _ cv cM cV cS cU hcell cT =>
   subst cM
   by_cases h0:es=[]
   ·subst h0
    exact⟨[],⟨by simp,by simp,by simp,by simp⟩,.inr (.inr ⟨b,off,cap,rfl,cV,by simp⟩)⟩
   ·have hs:sz=size:=by
     cases es with
     | nil=>exact absurd rfl h0
     | cons y ys =>
       have:=cS y (by simp)
       simp[xf] at hh
       omega
    subst hs
    refine⟨(List.range (es.length*sz)).map cv,⟨by simp,cS,cU,?_⟩,.inr (.inr ⟨b,off,cap,rfl,cV,?_⟩)⟩
    ·intro i e he k c x hc hx
     simp only[aF,ab] at hc
     obtain⟨m,hm,rfl⟩:=hc
     have:m=i*sz+k:=by
      have:=(aj.1 hm)
      obtain⟨h1,h2⟩:=this
      simp at h2; exact h2.symm
     subst this
     exact cT i e he k x hx
    ·intro j u hu
     simp only[aF,ab] at hu
     obtain⟨m,hm,rfl⟩:=hu
     have kM:m=j∧j<es.length*sz:=by
      obtain⟨h1,h2⟩:=aj.1 hm
      simp at h1 h2; exact⟨h2.symm,h1⟩
     obtain⟨rfl,cQ⟩:=kM
     exact hcell m cQ
theorem HM {fix:Nat→Nat→Prop} {hp:Nat→Option Nat} {size b off cap:Nat} {own:Bool} {es:List PV} {news:List Value} (h:ListR N w fix hp size news es) (cV:es.length≤cap)
  (hc:∀(j:Nat) (u:Value),news[j]? = some u→w.cell? ⟨b,off+j,none⟩=some u∧fix b (off+j)):VR N w fix hp (.slice (some ⟨b,off,none⟩) es.length cap) (.list own es):=by
 refine .list own b off es.length cap size es (λk=>news.getD k undef) rfl cV h.sz h.flat ?_ ?_
 ·intro k hk
  have cQ:k<news.length:=by rw[h.len]; exact hk
  have:=hc k news[k] (av cQ)
  simpa[List.getD,av cQ] using this
 ·intro i e he k x hx
  have hk:k<size:=by have:=(aj.1 hx).1; have:=h.sz e (ax he); omega
  have hi:i<es.length:=(aj.1 he).1
  have cQ:i*size+k<news.length:=by rw[h.len]; exact HJ hi hk
  have:=h.vr i e he k news[i*size+k] x (av cQ) hx
  simpa[List.getD,av cQ] using this
theorem HN (P:Program) (g o:Nat) (t:TypeId) (fz:Nat×Nat):∀(vs:List Value) (i:Nat) (cur:Array Value) (w:World),w.heap[g]? = some (.cells cur t fz)→(∀o,o<cur.size→¬(fz.1≤o∧o<fz.2))→o+i+vs.length≤cur.size→(∀v∈vs,v.oneCell'=true) →
  (storeCells ⟨g,o,none⟩ vs i).run P w = .ok () (w.setRow g (cur.toList.take (o+i)++vs++cur.toList.drop (o+i+vs.length)).toArray)
 | [], i, cur, w, hg, _, _, _ => by
   simp only[storeCells,aV,bF,bp,b8,Array.toArray_toList]
   rw[setRow_self w g cur t fz hg]
   rfl
 | v :: rest, i, cur, w, hg, hz, hl, h1 => by
   have hi:o+i<cur.size:=by simp at hl; omega
   have dD:(⟨g,o,none⟩:Addr).add i=⟨g,o+i,none⟩:=by unfold Addr.add; split<;>simp_all
   have hcell:w.cell? ⟨g,o+i,none⟩=some cur[o+i]:=by simp[World.cell?,hg,hi]
   have sH:w.frozen? ⟨g,o+i,none⟩=false:=by
    have:=hz _ hi
    obtain⟨lo,it⟩:=fz
    simp only at this
    simp only[World.frozen?,hg,Bool.and_eq_false_iff,bN]
    omega
   have du:(store ((⟨g,o,none⟩:Addr).add i) v).run P w = .ok () (w.setRow g (cur.setIfInBounds (o+i) v)):=by
    rw[dD,run_store P w _ v _ (h1 v (by simp)),hcell]
    simp[sH,setCell_eq_setRow w g (o+i) cur t fz v hg]
   have ih:=HN P g o t fz rest (i+1) (cur.setIfInBounds (o+i) v) (w.setRow g (cur.setIfInBounds (o+i) v)) (setRow_heap w g cur _ t _ hg) (by simpa using hz) (by simp at hl ⊢; omega) (λx hx=>h1 x (by simp[hx]))
   simp only[storeCells,Sem.run_bind,du,Result.andThen_ok,ih,setRow_setRow]
   congr 3
   have e:=list_seg_step cur.toList (o+i) v rest (by simp at hl ⊢; omega)
   simpa[Array.toList_setIfInBounds,b9] using e
theorem PQ (hE:EnvOk E N) (nm:Names vs (wk vs ops)) (ho:ops[j]? = some o) (hf:FI N w G st a vs (wk vs ops)) {ts tx e:TypeId} {size:Nat} {z:List PV} {s x:Operand} {ps:PX}
  (cN:o.op = .call { callee := .builtin .append,args := #[s,x],argTypes := #[ts,tx] }) (dZ:wO vs o.dst≠.n) (eo:P.underlying ts=some (.slice e)) (hn:wP P e=some size) (hz:yf P e=some z)
  (jf:cx E vs ops s=some ps) {es xs:List PV} {st':St} (ej:tk st ps=some (.list true es,st')) (lC:xf size es=true) (cM:es.length+xs.length≤9223372036854775807) (ez:(es.length+xs.length)*P.bytesOf e≤140737488355328)
  {news:List Value} (fk:ListR N w G.fix G.heap size news xs) (dP:Src P size tx (a.eval x) xs.length news w)
  (hk:wG N w G a st' (.list true (es++xs)) vs ops j o next):o.wp P a w next Q:=by
 obtain⟨i,d,hi,gG,fx,hd⟩:=yO hn
 obtain⟨i2,zv,dM,jl,_,lO,gH,_⟩:=B7 (N:=N) (w:=w) (fix:=G.fix) (hp:=G.heap) hz
 have:i2=i:=by rw[hi] at dM; simpa using dM.symm
 subst this
 subst gG
 have gm:zv.cells.size=i2.size:=by have:=gH.1; simp at this; omega
 have gh:P.bytesOf e=i2.bytes:=by simp[Program.bytesOf,hi]
 rw[gh] at ez
 obtain⟨G1,de,dT,ip,eK,dF,cT,fj,_,vT,_⟩:=Eq hE jf hf ej (x9 (wO vs o.dst) j)
 obtain⟨olds,pK,d9⟩:=KR cT lC
 have dr:Room w G1 (x9 (wO vs o.dst) j) (a.eval s) es:=fj
 have gI:∀v w',(Builtin.append_ #[ts,tx] o.type #[a.eval s,a.eval x]).run P w = .ok v w'→(execOp a.eval o).run P w = .ok (.value v) w':=by
  intro v w' hr
  simp[execOp,cN,resolve,invoke,builtin,hr]
 have pL:ListR N w G1.fix G1.heap i2.size news xs:=by rw[eK,dF]; exact fk
 have pM:ListR N w G1.fix G1.heap i2.size olds es:=by rw[eK,dF]; exact pK
 have m7:VR N w G1.fix G1.heap (a.eval s) (.list true es):=by rw[eK,dF]; exact cT
 have finish:∀(v:Value) (w':World) (G':GS),(Builtin.append_ #[ts,tx] o.type #[a.eval s,a.eval x]).run P w = .ok v w'→Ext w G1 w' G'→xq (λk=>k=x9 (wO vs o.dst) j) w G1 w' G' →
   (∀g b,G'.box g=some b→G1.box g=some b)→(∀b k,G'.ow b=some k→b<w'.heap.size)→(∀b o,G'.fix b o→b<w'.heap.size)→G'.heap=G1.heap→VR N w' G'.fix G'.heap v (.list true (es++xs))→Room w' G' (x9 (wO vs o.dst) j) v (es++xs) →
   o.wp P a w next Q:=by
  intro v w' G' hr cL cP sy how fo hh hv pN
  unfold Oper.wp
  rw[gI v w' hr]
  refine hk _ _ G' (de.extDst nm (yV ho) dZ cL cP ?_ how fo hh (SR.own hv pN)) (dT.trans cL) (yW _ _ _)
  intro g b hb
  exact de.gen g b (sy g b hb)
 by_cases jm:∃base cap,a.eval s = .slice base es.length cap∧cap<es.length+xs.length
 ·
  obtain⟨base,cap,hv,cV⟩:=jm
  have gJ:(Builtin.firstCells i2.size es.length (.slice base es.length cap)).run P w.drew = .ok olds.toArray w.drew:=by
   rcases d9 with⟨h1,h2,h3⟩|⟨ad,cap',h1,h2,h3⟩|⟨b,off,cap',h1,h2,h3⟩
   ·rw[hv] at h1; simp at h1
    obtain⟨rfl,_,rfl⟩:=h1
    subst h3
    exact run_firstCells_none w.drew _ _ _ _
   ·rw[hv] at h1; simp at h1
    obtain⟨rfl,_,rfl⟩:=h1
    subst h3
    rw[h2]
    exact run_firstCells_some w.drew _ _ _ _ _ [] (by simp) (by simp)
   ·rw[hv] at h1; simp at h1
    obtain⟨rfl,rfl⟩:=h1
    exact run_firstCells_some w.drew _ _ _ _ _ olds pK.len (λj u hu=>by rw[zF]; exact(h3 j u hu).1)
  have gE:Builtin.nextslicecap (es.length+xs.length) cap*i2.bytes≤281474976710656:=by
   exact growslice_fits cV ez
  have cO:=run_append_grow_src (P:=P) w ts tx o.type e i2 zv eo hi jl base es.length cap olds gJ (a.eval x) xs.length news dP cV (by omega) gE
  rw[← hv] at cO
  have ft:∀o,¬G1.fix w.heap.size o:=λo h=>by have:=de.fixlt _ _ h; omega
  have gc:=grownCap_ge w (es.length+xs.length) cap e
  let CS:Array Value:=(olds++news).toArray++Builtin.zeroCells zv.cells (grownCap w (es.length+xs.length) cap e - (es.length+xs.length))
  let G':GS:={ G1 with fix:=λb o=>G1.fix b o∨(b=w.heap.size∧o<(es.length+xs.length)*i2.size),ow:=λb=>if b=w.heap.size then some (x9 (wO vs o.dst) j) else G1.ow b }
  have hR:=pM.append pL fx
  have sI:CS.size=grownCap w (es.length+xs.length) cap e*i2.size:=by
   simp only[CS,bH,cr,size_zeroCells,gm,hR.len,ap]
   rw[Nat.sub_mul]
   have:(es.length+xs.length)*i2.size≤grownCap w (es.length+xs.length) cap e*i2.size:=bk _ gc
   omega
  have cL:Ext w G1 (w.drew.alloc (.cells CS e)) G':=by
   refine⟨rfl,rfl,rfl,by simp,λb hb _=>yN (w:=w.drew) hb,λb o h=>⟨.inl h,C5 (w:=w.drew) (de.fixlt _ _ h)⟩,?_,?_,λ_ _ h=>h,.same λk hk=>yN (w:=w.drew) hk,rfl⟩
   ·rintro b o (h|h)
    ·exact .inl h
    ·exact .inr (.inl (by omega))
   ·intro b hb
    simp only[G'] at hb
    split at hb
    ·exact .inl (by omega)
    ·exact .inr hb
  refine finish _ _ G' cO cL ?_ (λ_ _ h=>h) ?_ ?_ rfl ?_ ?_
  ·refine⟨?_,λ_ _ h=>h⟩
   intro b k hb _
   have cQ:=de.owlt _ _ hb
   refine⟨?_,yN (w:=w.drew) cQ,?_⟩
   ·simp only[G']; rw[af (by omega)]; exact hb
   ·rintro o (h|h)
    ·exact h
    ·omega
  ·intro b k hb
   simp only[G'] at hb
   split at hb
   ·simp; omega
   ·have:=de.owlt _ _ hb; simp; omega
  ·rintro b o (h|h)
   ·have:=de.fixlt _ _ h; simp; omega
   ·simp; omega
  ·have d7:(es++xs).length=es.length+xs.length:=by simp
   have dO:VR N (w.drew.alloc (.cells CS e)) G'.fix G'.heap (.slice (some ⟨w.heap.size,0,none⟩) (es++xs).length (grownCap w (es.length+xs.length) cap e)) (.list true (es++xs)) := ?_
   ·rw[d7] at dO; exact dO
   refine HM (hR.mono cL.fix cL.heap cL.shape) (by rw[d7]; exact gc) ?_
   intro j' u' hu
   have cQ:j'<(olds++news).length:=(aj.1 hu).1
   refine⟨?_,.inr ⟨rfl,by rw[hR.len,d7] at cQ; omega⟩⟩
   rw[aR]
   have:=World.cell?_alloc_new w.drew CS e j'
   refine this.trans ?_
   simp only[CS]
   rw[bm (by simpa using cQ)]
   simpa using hu
  ·refine .inr ⟨by simp[G'],i2.size,CS,e,hR.sz,.of (AU (w:=w.drew)),by rw[sI]; simp,by omega,?_⟩
   rintro o' eL (h|h)
   ·exact ft _ h
   ·simp at eL; omega
 ·
  have j5:∃base cap,a.eval s = .slice base es.length cap:=by
   rcases d9 with⟨h1,h2,_⟩|⟨ad,cap,h1,h2,_⟩|⟨b,off,cap,h1,_⟩
   ·exact⟨none,0,by rw[h1,h2]; rfl⟩
   ·exact⟨some ad,cap,by rw[h1,h2]; rfl⟩
   ·exact⟨_,cap,h1⟩
  obtain⟨base,cap,hv⟩:=j5
  have em:es.length+xs.length≤cap:=by
   rcases Nat.lt_or_ge cap (es.length+xs.length) with h|h
   ·exact absurd ⟨base,cap,hv,h⟩ jm
   ·exact h
  by_cases fG:xs=[]
  ·subst fG
   have j8:news=[]:=by have:=fk.len; simpa using this
   subst j8
   have cO:(Builtin.append_ #[ts,tx] o.type #[a.eval s,a.eval x]).run P w = .ok (a.eval s) w:=by
    rw[hv]
    have sJ:es.length≤cap:=by simpa using em
    have fL:(Builtin.lenOf (a.eval x)).run P w = .ok 0 w:=by simpa using dP.len w
    have ke:(Builtin.firstCells i2.size 0 (a.eval x)).run P w = .ok #[] w:=by simpa using dP.cells
    rcases dP.kind with⟨e'',dh⟩|dh <;>
     cases base<;>simp[Builtin.append_,run_underlying eo,run_underlying dh,Go.sizeOf,typeInfo,hi,fL,sJ,ke,storeCells]
   refine finish _ w G1 cO (Ext.refl _ _) ⟨λb k h _=>⟨h,rfl,λ_ h=>h⟩,λ_ _ h=>h⟩ (λ_ _ h=>h) de.owlt de.fixlt rfl (by simpa using m7) (by simpa using dr)
  ·
   have s7:0<xs.length:=bU.2 fG
   rcases d9 with⟨h1,h2,_⟩|⟨ad,cap',h1,h2,_⟩|⟨b,off,cap',h1,h2,h3⟩
   ·rw[hv] at h1; simp at h1; omega
   ·have sK:base=some ad∧cap=cap':=by rw[hv,h2] at h1; simpa using h1
    obtain⟨rfl,rfl⟩:=sK
    rw[hv] at dr
    rw[h2] at dr em
    rcases dr with dr|⟨_,_,_,_,_,_,_,dQ,_⟩
    ·simp at em dr; omega
    ·simp at dQ
   ·have sK:base=some ⟨b,off,none⟩∧cap=cap':=by rw[hv] at h1; simpa using h1
    obtain⟨rfl,rfl⟩:=sK
    rw[hv] at dr
    rcases dr with dr|⟨how,sz,cur,T,cS,⟨fz,dU,m8⟩,gE,dQ,dK⟩
    ·omega
    ·have sL:sz=i2.size:=by
      cases es with
      | nil=>simp at dQ
      | cons y ys=>have:=cS y (by simp); have:=pK.sz y (by simp); omega
     subst sL
     simp only at how dU gE dK m8
     have sM:off+es.length*i2.size+news.length≤cur.size:=by
      rw[fk.len]
      have:(es.length+xs.length)*i2.size≤cap*i2.size:=bk _ em
      rw[aQ] at this; omega
     let NR:Array Value:=(cur.toList.take (off+es.length*i2.size)++news++cur.toList.drop (off+es.length*i2.size+news.length)).toArray
     have cO:(Builtin.append_ #[ts,tx] o.type #[a.eval s,a.eval x]).run P w = .ok (.slice (some ⟨b,off,none⟩) (es.length+xs.length) cap) (w.setRow b NR):=by
      have du:=HN P b (off+es.length*i2.size) T fz news 0 cur w dU m8 (by simpa using sM) (fk.one fx)
      simp only[bp] at du
      rw[hv]
      rcases dP.kind with⟨e'',dh⟩|dh <;>
       simp[Builtin.append_,run_underlying eo,run_underlying dh,Go.sizeOf,typeInfo,hi,dP.len,em,dP.cells,zF,du,NR]
     have fe:b<w.heap.size:=de.owlt _ _ how
     have cW:∀x,x≠b→(w.setRow b NR).heap[x]? = w.heap[x]? := λx hx=>setRow_other w b x _ hx
     let G':GS:={ G1 with fix:=λb' o=>G1.fix b' o∨(b'=b∧off+es.length*i2.size≤o∧o<off+(es.length+xs.length)*i2.size) }
     have jG:NR.size=cur.size:=by simp only[NR,cr,ap,bP,cB,aX]; omega
     have qT:∀k,k<off+es.length*i2.size→NR[k]? = cur[k]? := by
      intro k hk
      simp only[NR,bD,az]
      rw[am (by simp; omega),aS,ah hk]
      simp
     have sN:∀k,k<news.length→NR[off+es.length*i2.size+k]? = news[k]? := by
      intro k hk
      have hl:(cur.toList.take (off+es.length*i2.size)).length=off+es.length*i2.size:=by simp; omega
      simp only[NR,bD,az]
      rw[ar (by omega),hl,am (by omega)]
      congr 1; omega
     have kG:∀k,(w.setRow b NR).cell? ⟨b,k,none⟩=NR[k]? := λk=>cell_setRow_same w b k cur NR T fz dU
     have cL:Ext w G1 (w.setRow b NR) G':=by
      refine⟨rfl,rfl,rfl,by simp[World.setRow],?_,?_,?_,λ_ h => .inr h,λ_ _ h=>h,FL dU _ jG,rfl⟩
      ·intro y _ jC
       exact cW y (by rintro rfl; rw[how] at jC; simp at jC)
      ·intro y o' fo
       refine⟨.inl fo,?_⟩
       by_cases jn:y=b
       ·subst jn
        have cQ:o'<off+es.length*i2.size:=by
         rcases Nat.lt_or_ge o' (off+es.length*i2.size) with h|h
         ·exact h
         ·exact absurd fo (dK o' h)
        rw[kG,qT o' cQ]
        simp[World.cell?,dU]
       ·simp only[World.cell?,cW y jn]
      ·rintro y o' (h|h)
       ·exact .inl h
       ·exact .inr (.inr (by rw[h.1,how]; simp))
     refine finish _ _ G' cO cL ?_ (λ_ _ h=>h) (λy k hy=>by simpa[World.setRow] using de.owlt y k hy) ?_ rfl ?_ ?_
     ·refine⟨?_,λ_ _ h=>h⟩
      intro y k hy gw
      have jn:y≠b:=by rintro rfl; rw[how] at hy; simp at hy; exact gw hy.symm
      refine⟨hy,cW y jn,?_⟩
      rintro o' (h|h)
      ·exact h
      ·exact absurd h.1 jn
     ·rintro y o' (h|h)
      ·simpa[World.setRow] using de.fixlt _ _ h
      ·simp[World.setRow]; omega
     ·have d7:(es++xs).length=es.length+xs.length:=by simp
      rw[← d7]
      refine HM ((pM.append pL fx).mono cL.fix cL.heap cL.shape) (by rw[d7]; exact em) ?_
      intro k u' hu
      by_cases gQ:k<olds.length
      ·rw[am gQ] at hu
       obtain⟨c1,c2⟩:=h3 k u' hu
       have:=cL.fix b (off+k) (by rw[eK]; exact c2)
       exact⟨this.2.trans c1,this.1⟩
      ·rw[ar (by omega)] at hu
       have cQ:k - olds.length<news.length:=(aj.1 hu).1
       have he:off+k=off+es.length*i2.size+(k - olds.length):=by have:=pK.len; omega
       refine⟨?_,.inr ⟨rfl,?_,?_⟩⟩
       ·rw[kG,he,sN _ cQ]; exact hu
       ·rw[he]; omega
       ·rw[he,aQ]; have:=fk.len; omega
     ·refine .inr ⟨how,i2.size,NR,T,?_,⟨fz,setRow_heap w b cur NR T fz dU,λo ho=>m8 o (by rw[← jG]; exact ho)⟩,?_,by omega,?_⟩
      ·intro y hy
       rcases ak.1 hy with hy|hy
       ·exact pK.sz y hy
       ·exact fk.sz y hy
      ·simp only[NR,cr,ap,bP,cB,aX]; omega
      ·rintro o' eL (h|h)
       ·refine dK o' ?_ h
        simp only[ap,aQ] at eL
        omega
       ·simp only[ap,aQ] at eL
        have:=h.2.2
        rw[aQ] at this
        omega
theorem b6B (hE:EnvOk E N) (nm:Names vs (wk vs ops)) (ho:ops[j]? = some o) (hf:FI N w G st a vs (wk vs ops)) {ts tx e e':TypeId} {size:Nat} {z:List PV} {s x:Operand} {ps px:PX}
  (cN:o.op = .call { callee := .builtin .append,args := #[s,x],argTypes := #[ts,tx] }) (dZ:wO vs o.dst≠.n) (eo:P.underlying ts=some (.slice e)) (gk:P.underlying tx=some (.slice e')) (hn:wP P e=some size) (hz:yf P e=some z)
  (jf:cx E vs ops s=some ps) (hx:cx E vs ops x=some px) {cf:wu} (hs:opv cf (.append size (P.bytesOf e) ps px) st=some (u,st1)) (hk:wG N w G a st1 u vs ops j o next):o.wp P a w next Q:=by
 simp only[opv] at hs
 split at hs
 ·rename_i xs es st' pO ej
  split at hs
  ·rename_i cR
   obtain⟨lC,gC,kH⟩:=cR
   have cM:es.length+xs.length≤9223372036854775807:=by rcases kH with⟨h,_⟩|⟨h,_⟩<;>omega
   have ez:(es.length+xs.length)*P.bytesOf e≤140737488355328:=by
    rcases kH with⟨h,h'⟩|⟨_,h⟩
    ·exact aT (Nat.mul_le_mul h h') (by decide)
    ·exact h
   simp only[aa,ac] at hs
   obtain⟨rfl,rfl⟩:=hs
   simp only[ae] at pO
   obtain⟨px0,iZ,kI⟩:=pO
   have gp:=(wU hE hx hf iZ).1.row kI
   obtain⟨news,fk,sO⟩:=KR gp gC
   obtain⟨_,_,_,_,fx,_⟩:=yO hn
   have dP:Src P size tx (a.eval x) xs.length news w:=by
    rcases sO with⟨h1,h2,h3⟩|⟨ad,cap,h1,h2,h3⟩|⟨b,off,cap,h1,h2,h3⟩
    ·rw[h1,h2,h3]; exact Src.ofNil w gk 0
    ·rw[h1,h2,h3]; exact Src.ofSlice w gk ad 0 cap [] (by simp) (by simp) (by simp)
    ·rw[h1]
     exact Src.ofSlice w gk ⟨b,off,none⟩ xs.length cap news fk.len (λj u hu=>by rw[zF]; exact(h3 j u hu).1) (fk.one fx)
   exact PQ hE nm ho hf cN dZ eo hn hz jf ej lC cM ez fk dP hk
  ·simp at hs
 ·simp at hs
theorem PR (fix:Nat→Nat→Prop) (hp:Nat→Option Nat) (s:ByteArray):ListR N w fix hp 1 (byteCells s) (Ar s.data.toList):=by
 refine⟨by rw[byteCells_length,Nat.mul_one]; simp only[Ar,aN,aX]; rfl,?_,?_,?_⟩
 ·intro e he
  obtain⟨b,_,rfl⟩:=bl.1 he
  rfl
 ·intro e he x hx
  obtain⟨b,_,rfl⟩:=bl.1 he
  simp only[PV.cells,aO] at hx
  subst hx; rfl
 ·intro i e he k c x hc hx
  simp only[Ar,aF,ab] at he
  obtain⟨b,hb,rfl⟩:=he
  cases k with
  | zero =>
    simp only[PV.cells,bZ,aa] at hx
    subst hx
    simp only[byteCells,Nat.mul_one,bp,aF,ab] at hc
    obtain⟨b',cX,rfl⟩:=hc
    rw[hb] at cX; cases cX
    exact .int _ _
  | succ k=>simp[PV.cells] at hx
theorem b7I (s:List UInt8):(Ar s).length=s.length:=by simp[Ar]
theorem b6D (hE:EnvOk E N) (nm:Names vs (wk vs ops)) (ho:ops[j]? = some o) (hf:FI N w G st a vs (wk vs ops)) {ts tx e:TypeId} {z:List PV} {s x:Operand} {ps px:PX}
  (cN:o.op = .call { callee := .builtin .append,args := #[s,x],argTypes := #[ts,tx] }) (dZ:wO vs o.dst≠.n) (eo:P.underlying ts=some (.slice e)) (gk:P.underlying tx=some .string) (hn:wP P e=some 1) (hz:yf P e=some z) (eC:P.bytesOf e=1)
  (jf:cx E vs ops s=some ps) (hx:cx E vs ops x=some px) {cf:wu} (hs:opv cf (.appstr ps px) st=some (u,st1)) (hk:wG N w G a st1 u vs ops j o next):o.wp P a w next Q:=by
 simp only[opv] at hs
 split at hs
 ·rename_i xs es st' iZ ej
  split at hs
  ·rename_i cR
   obtain⟨lC,cM⟩:=cR
   simp only[aa,ac] at hs
   obtain⟨rfl,rfl⟩:=hs
   have gp:=(wU hE hx hf iZ).1
   generalize hv:a.eval x=v at gp
   cases gp with
   | str s0 =>
     have hl:(Ar s0.data.toList).length=s0.size:=by simp only[Ar,aN,aX]; rfl
     have et:s0.data.toList.length=s0.size:=aX
     refine PQ (xs:=Ar s0.data.toList) (news:=byteCells s0) hE nm ho hf cN dZ eo hn hz jf ej lC (by omega) (by rw[eC]; omega) (PR _ _ _) ?_ hk
     rw[hv,hl]
     exact Src.ofString w gk s0
  ·simp at hs
 ·simp at hs
theorem b4S {fix:Nat→Nat→Prop} {hp:Nat→Option Nat} {v:Value} {es:List PV} {bs:List UInt8} (h:VR N w fix hp v (.list false es)) (hb:bytesOf es=some bs):
  (∃l c,v = .slice none l c∧bs=[])∨∃ad c,v = .slice (some ad) bs.length c∧((bs=[])∨(ad.spot=none∧∀i,i<bs.length→w.cell? ⟨ad.block,ad.off+i,none⟩=some (.int .u8 ((bs.map λb=>(b.toNat:Int)).getD i 0)))):=by
 have key:∀{es:List PV} {bs:List UInt8},bytesOf es=some bs→es.length=bs.length∧∀(i:Nat) (e:PV),es[i]? = some e→e = .int .u8 ((bs.map λb=>(b.toNat:Int)).getD i 0):=by
  intro es
  induction es with
  | nil=>intro bs h; simp[bytesOf] at h; subst h; simp
  | cons x xs ih =>
    intro bs h
    unfold bytesOf at h
    split at h
    ·rename_i h0; simp at h0
    ·rename_i n r h0
     simp only[bx] at h0
     obtain⟨rfl,rfl⟩:=h0
     split at h
     ·rename_i hn
      simp only[ab] at h
      obtain⟨bs',h1,rfl⟩:=h
      obtain⟨k1,k2⟩:=ih h1
      refine⟨by simp[k1],?_⟩
      intro i e he
      cases i with
      | zero =>
        simp at he; subst he
        have:(UInt8.ofNat n.toNat).toNat=n.toNat:=by simp[UInt8.toNat_ofNat']; omega
        simp[this]; omega
      | succ i =>
        have:=k2 i e (by simpa using he)
        simpa using this
     ·simp at h
    ·simp at h
 obtain⟨k1,k2⟩:=key hb
 cases h with
 | nils=>simp at k1; exact .inl ⟨_,_,rfl,List.eq_nil_of_length_eq_zero k1.symm⟩
 | void _ ad cap=>simp at k1; refine .inr ⟨ad,cap,?_,.inl (List.eq_nil_of_length_eq_zero k1.symm)⟩; rw[← k1]
 | list _ b off len cap sz _ cv cM cV cS cU hcell cT =>
   refine .inr ⟨⟨b,off,none⟩,cap,by rw[← k1,cM],.inr ⟨rfl,?_⟩⟩
   intro i hi
   have cQ:i<es.length:=by omega
   have he:=av cQ
   have eM:=k2 i _ he
   have eb:sz=1:=by rw[← cS _ (ai cQ),eM]; rfl
   subst eb
   have h1:=cT i _ he 0 (es[i]) (by rw[eM]; rfl)
   rw[eM] at h1
   have h2:=(hcell i (by omega)).1
   rw[Nat.mul_one,bp] at h1
   generalize hg:cv i=c at h1 h2
   cases h1
   exact h2
theorem b0W (bs:List UInt8):strOfNums (bs.map λb=>(b.toNat:Int))=⟨bs.toArray⟩:=by
 have:=strOfNums_data (bs.map λb=>(b.toNat:Int))
 have h2:(strOfNums (bs.map λb=>(b.toNat:Int))).data.toList=bs:=by
  rw[this,List.map_map]
  conv=>rhs; rw[← List.map_id bs]
  apply List.map_congr_left
  intro b _
  simp
 generalize strOfNums (bs.map λb=>(b.toNat:Int))=x at h2
 cases x with
 | mk d=>simp at h2; subst h2; simp
theorem c1k (hE:EnvOk E N) (nm:Names vs (wk vs ops)) (ho:ops[j]? = some o) (hf:FI N w G st a vs (wk vs ops)) {src dst e:TypeId} {x:Operand} {px:PX} (cN:o.op = .convert src dst x)
  (eb:P.underlying src=some (.slice e)) (he:P.underlying e=some (.int .u8)) (hd:P.underlying dst=some .string) (hx:cx E vs ops x=some px) {cf:wu} (hs:opv cf (.b2s px) st=some (u,st1)) (hk:wG N w G a st1 u vs ops j o next):o.wp P a w next Q:=by
 simp only[opv] at hs
 split at hs
 ·rename_i es iZ
  simp only[ab,ac] at hs
  obtain⟨bs,sF,rfl,rfl⟩:=hs
  simp only[ae] at iZ
  obtain⟨p0,p9,kI⟩:=iZ
  have hv:=(wU hE hx hf p9).1.row kI
  have cO:(convert src dst (a.eval x)).run P w = .ok (.string ⟨bs.toArray⟩) w:=by
   rcases b4S hv sF with⟨l,c,h1,rfl⟩|⟨ad,c,h1,h2⟩
   ·rw[h1,run_convert_bytes_nil (w:=w) src e eb he l c dst hd]; rfl
   ·rw[h1]
    rcases h2 with rfl|⟨gt,h2⟩
    ·rw[run_convert_bytes_string w src dst e _ _ _ eb he hd]
     have:=run_bytesToString (P:=P) w ad 0 c [] (by simpa using run_loadCells_list (P:=P) w ad [] (by simp))
     exact this
    ·obtain⟨b,off,sp⟩:=ad
     simp only at gt; subst gt
     have:=run_convert_bytes_arg (w:=w) src e eb he b off bs.length c (bs.map λb=>(b.toNat:Int)) (by simp) h2 dst hd
     rw[this,b0W]
  refine wW (v := .string ⟨bs.toArray⟩) nm ho hf (by simp[execOp,cN,cO]) (SR.of_pure ?_ rfl) hk
  have:=VR.str (N:=N) (w:=w) (fix:=G.fix) (hp:=G.heap) ⟨bs.toArray⟩
  simpa using this
 ·simp at hs
theorem b3o (hE:EnvOk E N) (nm:Names vs (wk vs ops)) (ho:ops[j]? = some o) (hf:FI N w G st a vs (wk vs ops)) {t e:TypeId} {n:Nat} {x:Operand} {px:PX} (cN:o.op = .slice t x none none none)
  (hu:P.underlying t=some (.array n e)) (hn:wP P e=some 1) (hx:cx E vs ops x=some px) {cf:wu} (hs:opv cf (.sliceLoc n px) st=some (u,st1)) (hk:wG N w G a st1 u vs ops j o next):o.wp P a w next Q:=by
 simp only[opv] at hs
 split at hs
 ·rename_i i g cs fm
  split at hs
  ·rename_i cM
   simp only[aa,ac] at hs
   obtain⟨rfl,rfl⟩:=hs
   have qy:st.vars[i]? = some (.loc g cs):=fm
   have pP:=BB hE hx hf fm
   obtain⟨b0,i0,lH,hv,fI,_⟩:=pP
   obtain⟨tt,nL,kR,kU,il,cv,T,hh,hl,hc⟩:=HL hf qy fI
   obtain⟨hR,hcell⟩:=Io hh hl hc
   let G':GS:={ G with fix:=λb o=>G.fix b o∨b=b0 }
   have cL:Ext w G w G':=by
    refine⟨rfl,rfl,rfl,ao _,λ_ _ _=>rfl,λ_ _ h=>⟨.inl h,rfl⟩,?_,λ_ h => .inr h,λ_ _ h=>h,ShapeLe.refl w,rfl⟩
    rintro b o (h|h)
    ·exact .inl h
    ·exact .inr (.inr (by rw[h,kU]; simp))
   have cP:xq (λk=>k = .var i) w G w G':=by
    refine⟨?_,λ_ _ h=>h⟩
    intro b k hb gw
    refine⟨hb,rfl,?_⟩
    rintro o (h|h)
    ·exact h
    ·subst h; rw[kU] at hb; simp at hb; exact absurd hb.symm gw
   have tZ:=hf.owlt _ _ kU
   have de:FI N w G' { st with vars:=st.vars.set i .dead } a vs (wk vs ops):=by
    refine⟨by simp[hf.len],?_,λj' t' u' h1 h2=>(hf.loc j' t' u' h1 h2).keep cL cP (by simp) (by simp),hf.tv,hf.tl,hf.defers,hf.gen,hf.owlt,?_,hf.heap.keep cL cP (by rintro k hk rfl; simp[Key.isH] at hk),hf.hdom⟩
    ·intro i' t' u' h1 h2
     simp only[aL] at h2
     split at h2
     ·split at h2
      ·simp at h2; subst h2; trivial
      ·simp at h2
     ·rename_i hi
      exact(hf.var i' t' u' h1 h2).keep cL cP (by simp; omega) (by simp)
    ·rintro b o (h|h)
     ·exact hf.fixlt _ _ h
     ·omega
   have cO:(execOp a.eval o).run P w = .ok (.value (.slice (some ⟨b0,0,none⟩) n n)) w:=by
    have hz:(if n=0 then(⟨b0,0,none⟩:Addr) else(⟨b0,0,none⟩:Addr).add (0*1))=⟨b0,0,none⟩:=by simp[zF]
    simp[execOp,cN,hv,Instr.sliceAt,run_underlying hu,Instr.sureAddr,Instr.sliceBounds,zx hn,hz]
   unfold Oper.wp
   rw[cO]
   refine hk _ _ G' (de.put nm (yV ho) ⟨?_,.inl rfl⟩) cL (yW _ _ _)
   have fS:∀x∈cs,x.cells=[x]:=by
    intro x hx
    have:=hR.2.1 x hx
    cases x<;>first|rfl|simp[PV.flat] at this
   rw[← cM]
   refine HM (size:=1) (news:=cv.toList) ⟨?_,?_,?_,?_⟩ (ao _) ?_
   ·simpa using hl
   ·intro e he; rw[fS e he]; rfl
   ·intro e he y hy; rw[fS e he] at hy; simp at hy; subst hy; exact hR.2.1 _ he
   ·intro k e he m c y eF hy
    rw[fS e (ax he)] at hy
    have hm:m=0:=by
     cases m with
     | zero=>rfl
     | succ m=>simp at hy
    subst hm
    simp at hy; subst hy
    exact(hR.2.2 k c _ (by simpa using eF) he).ext cL
   ·intro k v dI
    exact⟨by rw[aR]; exact hcell k v dI,.inr rfl⟩
  ·simp at hs
 ·simp at hs
end
section
variable {E:Env} {N:Nm} {w:World} {G:GS} {st:St} {a:Act} {vs:List Tmp} {ops:List Oper} {P:Program}
variable {o:Oper} {j:Nat} {next:Act→World→Prop} {Q:Exit→Act→World→Prop} {u:PV} {st1:St}
def GS.more (G:GS) (b n:Nat):GS:={ G with ow:=λx=>if x=b then some (.hobj n) else G.ow x,heap:=λm=>if m=n then some b else G.heap m }
theorem Er (nm:Names vs (wk vs ops)) (ho:ops[j]? = some o) (hf:FI N w G st a vs (wk vs ops)) {ob:PObj} {mob:Obj} {v:Value} {u:PV}
  (cO:(execOp a.eval o).run P w = .ok (.value v) (w.alloc mob)) (hv:∀G',G'=G.more w.heap.size st.heap.length→SR N (w.alloc mob) G' (x9 (wO vs o.dst) j) v u)
  (hR:∀G',G'=G.more w.heap.size st.heap.length→Ext w G (w.alloc mob) G'→ObjR N (w.alloc mob) G' st.heap.length w.heap.size ob)
  (hk:wG N w G a { st with heap:=st.heap++[ob] } u vs ops j o next):o.wp P a w next Q:=by
 unfold Oper.wp
 rw[cO]
 let G':GS:=G.more w.heap.size st.heap.length
 have cL:Ext w G (w.alloc mob) G':=by
  refine⟨rfl,rfl,rfl,by simp,λb hb _=>yN hb,λb o h=>⟨h,C5 (hf.fixlt _ _ h)⟩,λ_ _ h => .inl h,?_,?_,.same λk hk=>yN hk,rfl⟩
  ·intro b hb
   by_cases cQ:b<w.heap.size
   ·refine .inr ?_
    simp only[G',GS.more] at hb
    rw[af (by omega)] at hb
    exact hb
   ·exact .inl (by omega)
  ·intro n b h
   have:=hf.hdom _ _ h
   simp only[G',GS.more]
   rw[af (by omega)]; exact h
 have cP:xq (λ_=>False) w G (w.alloc mob) G':=by
  refine⟨?_,λ_ _ h=>h⟩
  intro b k hb _
  have cQ:=hf.owlt _ _ hb
  refine⟨?_,yN cQ,λ_ h=>h⟩
  simp only[G',GS.more]
  rw[af (by omega)]; exact hb
 have de:FI N (w.alloc mob) G' { st with heap:=st.heap++[ob] } a vs (wk vs ops):=by
  refine⟨hf.len,λi t u h1 h2=>(hf.var i t u h1 h2).keep cL cP (λh=>h) (λ_ _ _ h=>h),λj t u h1 h2=>(hf.loc j t u h1 h2).keep cL cP (λh=>h) (λ_ _ _ h=>h),hf.tv,hf.tl,hf.defers,hf.gen,?_,?_,?_,?_⟩
  ·intro b k hb
   simp only[G',GS.more] at hb
   split at hb
   ·simp; omega
   ·have:=hf.owlt _ _ hb; simp; omega
  ·intro b o h; have:=hf.fixlt _ _ h; simp; omega
  ·exact hf.heap.push cL cP (λ_ _ _=>⟨λh=>h,λh=>h⟩) (.inr ⟨w.heap.size,by simp[G',GS.more],by simp[G',GS.more],hR G' rfl cL⟩)
  ·intro n b h
   simp only[G',GS.more] at h
   simp only[ap,ck]
   split at h
   ·omega
   ·have:=hf.hdom _ _ h; omega
 exact hk _ _ G' (de.put nm (yV ho) (hv _ rfl)) cL (yW _ _ _)
theorem KW (hf:FI N w G st a vs (wk vs ops)) {cs:Array Value} {ps:List PV} {T:TypeId}
  (hR:∀(k:Nat) (c:Value) (x:PV),cs[k]? = some c→ps[k]? = some x→VR N w G.fix G.heap c x∧x.flat=true∧(∀es,x = .list true es→c = .slice none 0 0)) (hl:cs.size=ps.length)
  {G':GS} (hG:G'=G.more w.heap.size st.heap.length) (cL:Ext w G (w.alloc (.cells cs T)) G'):ObjR N (w.alloc (.cells cs T)) G' st.heap.length w.heap.size (.cells ps):=by
 subst hG
 have ft:∀o,¬G.fix w.heap.size o:=λo h=>by have:=hf.fixlt _ _ h; omega
 refine⟨ft,cs,T,AU,Nat.le_of_eq hl.symm,?_⟩
 intro k c x hc hx
 obtain⟨h1,h2,h3⟩:=hR k c x hc hx
 refine⟨h1.ext cL,h2,?_⟩
 split
 ·rename_i es
  have:=h3 es rfl
  subst this
  trivial
 ·trivial
theorem b6H (nm:Names vs (wk vs ops)) (ho:ops[j]? = some o) (hf:FI N w G st a vs (wk vs ops)) {t:TypeId} {z:List PV} (cN:o.op = .alloc t) (hz:yf P t=some z) {cf:wu}
  (hs:wo cf (.newobj z) st=some (u,st1)) (hk:wG N w G a st1 u vs ops j o next):o.wp P a w next Q:=by
 simp only[wo,aa,ac] at hs
 obtain⟨rfl,rfl⟩:=hs
 obtain⟨ti,zv,h1,h2,h3,h4,h5,_⟩:=B7 (N:=N) (w:=w) (fix:=G.fix) (hp:=G.heap) hz
 refine Er (mob := .cells zv.cells t) (v := .pointer (some ⟨w.heap.size,0,none⟩)) nm ho hf ?_ ?_ (λG' hG cL=>KW hf ?_ ?_ hG cL) hk
 ·simp[execOp,cN,Instr.alloc,zeroValue,typeInfo,h1,h2,newVar,newRow]
 ·rintro G' rfl
  exact .ptr _ _ w.heap.size (by simp[GS.more])
 ·intro k c x hc hx
  refine⟨h5.2.2 k c x (by simpa using hc) hx,h5.2.1 x (ax hx),?_⟩
  rintro es rfl
  unfold yf at hz
  simp only[h1,h2,ae] at hz
  obtain⟨cs',d9,hz⟩:=hz
  split at hz
  ·simp at hz; subst hz
   exact Eo d9 k c es (by simpa using hc) hx
  ·simp at hz
 ·have:=h5.1; simpa using this
theorem b6I (hE:EnvOk E N) (nm:Names vs (wk vs ops)) (ho:ops[j]? = some o) (hf:FI N w G st a vs (wk vs ops)) {t:TypeId} {n:Nat} {x:Operand} {px:PX} (cN:o.op = .box t x) (hn:wP P t=some n) (hx:cx E vs ops x=some px)
  {cf:wu} (hs:wo cf (.boxobj n px) st=some (u,st1)) (hk:wG N w G a st1 u vs ops j o next):o.wp P a w next Q:=by
 simp only[wo] at hs
 split at hs
 ·rename_i p hp
  split at hs
  ·rename_i hl
   simp only[aa,ac] at hs
   obtain⟨rfl,rfl⟩:=hs
   obtain⟨_,_,_,_,eN,_⟩:=yO hn
   have hv:=(wU hE hx hf hp).1
   have dj:=(CellsR.of_cells hv (by intro e; rw[e] at hl; simp at hl; omega))
   refine Er (mob := .cells (a.eval x).cells t) (v := .pointer (some ⟨w.heap.size,0,none⟩)) nm ho hf ?_ ?_ (λG' hG cL=>KW hf ?_ ?_ hG cL) hk
   ·simp[execOp,cN,Instr.box,newVar,newRow]
   ·rintro G' rfl
    exact .ptr _ _ w.heap.size (by simp[GS.more])
   ·intro k c y hc hy
    refine⟨dj.2.2 k c y (by simpa using hc) hy,dj.2.1 y (ax hy),?_⟩
    rintro es rfl
    have fp:∀es,p≠.list true es:=by
     rintro es rfl
     unfold rd at hp
     cases h1:raw st px with
     | none=>rw[h1] at hp; simp at hp
     | some q=>rw[h1] at hp; cases q<;>simp[cp] at hp
    generalize a.eval x=v at hv hc
    cases hv with
    | agg cs ps cM cU eE hcell=>exact eE k c es hc hy
    | _ =>
      exfalso
      cases k with
      | succ k=>simp[PV.cells] at hy
      | zero =>
        simp[PV.cells] at hy
        try (obtain⟨rfl,rfl⟩:=hy; exact fp _ rfl)
        try (subst hy; exact fp _ rfl)
   ·have:=dj.1; simpa using this
  ·simp at hs
 ·simp at hs
theorem b7Q (nm:Names vs (wk vs ops)) (ho:ops[j]? = some o) (hf:FI N w G st a vs (wk vs ops)) {t:TypeId} (cN:o.op = .makeMap t none) {cf:wu}
  (hs:wo cf .mkmap st=some (u,st1)) (hk:wG N w G a st1 u vs ops j o next):o.wp P a w next Q:=by
 simp only[wo,aa,ac] at hs
 obtain⟨rfl,rfl⟩:=hs
 refine Er (mob := .map #[] 0) (v := .map (some w.heap.size)) nm ho hf ?_ ?_ ?_ hk
 ·simp[execOp,cN,Instr.makeMap]
 ·rintro G' rfl
  exact .map _ w.heap.size (by simp[GS.more])
 ·rintro G' rfl cL
  exact⟨#[],0,AU,rfl,by simp,by simp,by simp⟩
theorem FN (hf:FI N w G st a vs (wk vs ops)) {n b:Nat} {cs:List PV} (hg:xh st n=some cs) (hb:G.heap n=some b):
  G.ow b=some (.hobj n)∧(∀o,¬G.fix b o)∧∃cv T,w.heap[b]? = some (.cells cv T (0,0))∧cs.length≤cv.size∧∀(k:Nat) (c:Value) (x:PV),cv[k]? = some c→cs[k]? = some x→CR N w G (.hcell n k) c x:=by
 unfold xh at hg
 split at hg
 ·rename_i cs' hn
  simp at hg; subst hg
  rcases hf.heap.1 n _ hn with e|⟨b',h1,h2,h3,h4⟩
  ·simp at e
  have:b'=b:=by rw[hb] at h1; simpa using h1.symm
  subst this
  exact⟨h2,h3,h4⟩
 ·simp at hg
theorem Lz {b n:Nat} {cv:Array Value} {T:TypeId} {cs:List PV} (hh:w.heap[b]? = some (.cells cv T (0,0))) (hl:cs.length≤cv.size)
  (hc:∀(k:Nat) (c:Value) (x:PV),cv[k]? = some c→cs[k]? = some x→CR N w G (.hcell n k) c x):
  CellsR N w G.fix G.heap (cv.toList.take cs.length) cs∧∀(k:Nat) (v:Value),(cv.toList.take cs.length)[k]? = some v→w.cell? ⟨b,k,none⟩=some v:=by
 have get:∀(k:Nat) (v:Value),(cv.toList.take cs.length)[k]? = some v→cv[k]? = some v:=by
  intro k v hv
  rw[aS] at hv
  split at hv
  ·simpa using hv
  ·simp at hv
 refine⟨⟨by simp; omega,?_,λi c x h1 h2=>(hc i c x (get i c h1) h2).1⟩,?_⟩
 ·intro x hx
  obtain⟨i,hi⟩:=bh.1 hx
  have cQ:i<cv.size:=by have:=(aj.1 hi).1; omega
  exact(hc i cv[i] x (by simp[cQ]) hi).2.1
 ·intro k v hv
  simp[World.cell?,hh,get k v hv]
theorem HP (hE:EnvOk E N) {x:Operand} {px:PX} {n off:Nat} (hc:cx E vs ops x=some px) (hf:FI N w G st a vs (wk vs ops)) (hr:addr st px=some (.ptr n off)):
  ∃b,a.eval x = .pointer (some ⟨b,off,none⟩)∧G.heap n=some b:=by
 rcases Bb hE hc hf hr with⟨_,_,_,_,h,_⟩|⟨h,_⟩
 ·simp at h
 ·generalize a.eval x=v at h
  cases h with
  | ptr _ _ b hb=>exact⟨b,rfl,hb⟩
theorem b7R (hE:EnvOk E N) (nm:Names vs (wk vs ops)) (ho:ops[j]? = some o) (hf:FI N w G st a vs (wk vs ops)) {t:TypeId} {n:Nat} {x:Operand} {px:PX} {tk:Bool} (cN:o.op = .load t x) (hn:wP P t=some n)
  (hx:cx E vs ops x=some px) {cf:wu} (hs:wo cf (.load n (xi P t) px tk) st=some (u,st1)) (hk:wG N w G a st1 u vs ops j o next):o.wp P a w next Q:=by
 have plain:∀r,(Instr.loadAt t (a.eval x)).run P w = .ok r w→(execOp a.eval o).run P w = .ok (.value r) w:=by
  intro r hr
  simp[execOp,cN,hr]
 have eN:n≠0:=by obtain⟨_,_,_,_,h,_⟩:=yO hn; exact h
 simp only[wo] at hs
 split at hs
 ·rename_i cs ha
  simp only[ab,ac] at hs
  obtain⟨r,hr,rfl,rfl⟩:=hs
  rcases Bb hE hx hf ha with⟨_,_,_,_,h,_⟩|⟨h,_⟩
  ·simp at h
  ·obtain⟨r',h1,h2,h3⟩:=KK (P:=P) hn h hr
   exact wW nm ho hf (plain _ h1) (SR.of_pure h2 h3) hk
 ·rename_i m off ha
  obtain⟨b,hv,hb⟩:=HP hE hx hf ha
  simp only[ae] at hs
  obtain⟨cs,hg,hs⟩:=hs
  obtain⟨eu,gy,cv,T,hh,hl,hc⟩:=FN hf hg hb
  split at hs
  ·rename_i es ej hcell
   simp only[aa,ac] at hs
   obtain⟨rfl,rfl⟩:=hs
   simp only[al,bz] at ej
   have cQ:off<cv.size:=by have:=(aj.1 hcell).1; omega
   obtain⟨cT,_,dr⟩:=hc off cv[off] _ (by simp[cQ]) hcell
   obtain⟨G',hG,fg⟩:=Room.give (key':=x9 (wO vs o.dst) j) dr
   have gV:G'.box=G.box∧G'.fix=G.fix∧G'.heap=G.heap:=by
    rcases hG with rfl|⟨b,_,rfl⟩<;>exact⟨rfl,rfl,rfl⟩
   have cL:Ext w G w G':=by
    rcases hG with rfl|⟨b,hb,rfl⟩
    ·exact Ext.refl _ _
    ·exact HG b _ (λ_=>by simp[hb])
   have cP:xq (λk=>k = .hcell m off) w G w G':=by
    rcases hG with rfl|⟨b,hb,rfl⟩
    ·exact⟨λb k h _=>⟨h,rfl,λ_ h=>h⟩,λ_ _ h=>h⟩
    ·exact HH b _ (λk' dh=>by rw[hb] at dh; simpa using dh.symm)
   have de:FI N w G' (wT st m (.cells (cs.set off (.list false es)))) a vs (wk vs ops):=by
    refine⟨hf.len,λi t' u' h1 h2=>(hf.var i t' u' h1 h2).keep cL cP (by simp) (by simp),λi t' u' h1 h2=>(hf.loc i t' u' h1 h2).keep cL cP (by simp) (by simp),hf.tv,hf.tl,(hf.defers.trans cL.df.symm),by rw[gV.1]; exact hf.gen,?_,by rw[gV.2.1]; exact hf.fixlt,?_,?_⟩
    ·intro b' k cX
     rcases hG with rfl|⟨b2,dy,rfl⟩
     ·exact hf.owlt _ _ cX
     ·simp only[GS.give] at cX
      split at cX
      ·subst_vars; exact hf.owlt _ _ dy
      ·exact hf.owlt _ _ cX
    ·refine hf.heap.keepBut cL cP (λn k da=>⟨by simp,by simp; omega⟩) (λ_ =>?_)
     refine .inr ⟨b,cL.heap _ _ hb,(cP.1 _ _ eu (by simp)).1,by rw[gV.2.1]; exact gy,cv,T,hh,by simp[hl],?_⟩
     intro k c y dG hy
     rw[aL] at hy
     split at hy
     ·rename_i dY
      subst dY
      split at hy
      ·simp at hy; subst hy
       have:c=cv[off]:=by simp[cQ] at dG; exact dG.symm
       subst this
       exact⟨(cT.dem).ext cL,rfl,trivial⟩
      ·simp at hy
     ·rename_i dY
      exact(hc k c y dG hy).keep cL cP (by simp; omega)
    ·rw[gV.2.2]; simp only[wT,bM]; exact hf.hdom
   unfold Oper.wp
   have cO:(Instr.loadAt t (a.eval x)).run P w = .ok cv[off] w:=by
    have dN:w.cell? ⟨b,off,none⟩=some cv[off]:=by simp[World.cell?,hh,cQ]
    rw[hv]
    simp[Instr.loadAt,Instr.sureAddr,loadVar,Dw hn,ej.2,dN]
   rw[plain _ cO]
   exact hk _ _ G' (de.put nm (yV ho) ⟨cT.ext cL,fg⟩) cL (yW _ _ _)
  ·simp only[ab,ac] at hs
   obtain⟨r,hr,rfl,rfl⟩:=hs
   obtain⟨hR,hcell⟩:=Lz hh hl hc
   obtain⟨k1,k2,k3⟩:=C3 hR hr eN (BL hn)
   have:=EJ (w:=w) hn b off ((cv.toList.take cs.length).drop off) (by simp at k1 ⊢; omega) (λj v hv=>by
    rw[aW] at hv
    exact hcell _ _ hv)
   refine wW nm ho hf (plain _ ?_) (SR.of_pure k2 k3) hk
   rw[hv]
   simpa[Instr.loadAt,Instr.sureAddr] using this
 ·simp at hs
theorem b23 {n off:Nat} {t:TypeId} {cv:Array Value} {cs cs':List PV} {v:PV} {val:Value} (hl:cs.length≤cv.size) (hn:wP P t=some n) (du:wS n (xi P t) cs off v=some cs') (cT:VR N w G.fix G.heap val v):
  ∃ nc : List Value, val.cells.toList = nc ∧ nc.length = n ∧ off + n ≤ cv.size ∧ (∀ c ∈ nc, c.oneCell' = true) ∧ cs'.length = cs.length ∧
    ∀ (k : Nat) (c : Value) (z : PV), (cv.toList.take off ++ nc ++ cv.toList.drop (off + n))[k]? = some c → cs'[k]? = some z →
      (cv[k]? = some c∧cs[k]? = some z)∨(VR N w G.fix G.heap c z∧z.flat=true∧∀es,z = .list true es→(k=off∧c=val∧v = .list true es)∨c = .slice none 0 0):=by
 unfold wS at du
 split at du
 ·rename_i gD
  split at du
  ·rename_i ws
   split at du
   ·rename_i cR
    simp only[aa] at du; subst du
    obtain⟨ca,jM,hR⟩:=CellsR.of_agg cT
    have hO:OwnNil ca.toList ws:=OwnNil.of_agg (jM▸cT)
    have dN:val.cells.toList=ca.toList:=by rw[jM]; rfl
    have cM:ca.toList.length=n:=by have:=hR.1; omega
    refine⟨ca.toList,dN,cM,by omega,?_,by simp; omega,?_⟩
    ·intro c f0
     obtain⟨i,hi⟩:=bh.1 f0
     have cQ:i<ws.length:=by have:=(aj.1 hi).1; have:=hR.1; omega
     have h1:=hR.2.2 i c ws[i] hi (av cQ)
     have h2:=h1.oneCell (hR.2.1 _ (ai cQ))
     cases c<;>first|rfl|simp[oneCell] at h2
    ·intro k c z dG hz
     rw[az] at dG
     have fC:(cv.toList.take off).length=off:=by simp; omega
     have kF:(cs.take off).length=off:=by simp; omega
     by_cases h1:k<off
     ·rw[am (by omega),aS,ah h1] at dG
      rw[am (by omega),aS,ah h1] at hz
      exact .inl ⟨by simpa using dG,hz⟩
     ·rw[ar (by omega),fC] at dG
      rw[ar (by omega),kF] at hz
      by_cases h2:k<off+n
      ·rw[am (by omega)] at dG
       rw[am (by omega)] at hz
       refine .inr ⟨hR.2.2 _ c z dG hz,hR.2.1 z (ax hz),?_⟩
       rintro es rfl
       exact .inr (hO _ c es dG hz)
      ·rw[ar (by omega),aW,cM] at dG
       rw[ar (by omega),aW,cR.1] at hz
       rw[show off+n+(k - off - n)=k by omega] at dG hz
       exact .inl ⟨by simpa using dG,hz⟩
   ·simp at du
  ·simp at du
 ·rename_i gD
  have nJ:=BL hn (by simpa using gD)
  subst nJ
  split at du
  ·rename_i cR
   simp only[aa] at du; subst du
   have h1:=cT.oneCell cR.2
   have dN:val.cells.toList=[val]:=by
    cases val<;>first|rfl|simp[oneCell] at h1
   refine⟨[val],dN,rfl,by omega,?_,by simp,?_⟩
   ·intro c f0
    simp at f0; subst f0
    cases c<;>first|rfl|simp[oneCell] at h1
   ·intro k c z dG hz
    rw[az] at dG
    have fC:(cv.toList.take off).length=off:=by simp; omega
    rw[aL] at hz
    split at hz
    ·rename_i pJ
     subst pJ
     split at hz
     ·simp at hz; subst hz
      rw[ar (by omega),fC] at dG
      simp at dG; subst dG
      exact .inr ⟨cT,cR.2,λes e => .inl ⟨rfl,rfl,e⟩⟩
     ·simp at hz
    ·rename_i pJ
     refine .inl ⟨?_,hz⟩
     by_cases h1:k<off
     ·rw[am (by omega),aS,ah h1] at dG
      simpa using dG
     ·rw[ar (by omega),fC,ar (by simp; omega),aW] at dG
      simp only[ck] at dG
      rw[show off+1+(k - off - 1)=k by omega] at dG
      simpa using dG
  ·simp at du
theorem P2 (hE:EnvOk E N) (nm:Names vs (wk vs ops)) (ho:ops[j]? = some o) (hf:FI N w G st a vs (wk vs ops)) {t:TypeId} {n:Nat} {x y:Operand} {px py:PX} (cN:o.op = .store t x y) (dZ:o.dst=none) (hn:wP P t=some n)
  (hx:cx E vs ops x=some px) (hy:cx E vs ops y=some py) {cf:wu} (hs:wo cf (.store n (xi P t) px py) st=some (u,st1)) (hk:wG N w G a st1 u vs ops j o next):o.wp P a w next Q:=by
 simp only[wo] at hs
 split at hs
 ·rename_i m off v st' ha ej
  obtain⟨b,hv,hb⟩:=HP hE hx hf ha
  obtain⟨G1,de,dT,ip,eK,dF,cT,fj,_,_,_⟩:=Eq hE hy hf ej (.hcell m off)
  simp only[ae,ab,ac] at hs
  obtain⟨cs,hg,cs',du,rfl,rfl⟩:=hs
  have eC:G1.heap m=some b:=by rw[dF]; exact hb
  obtain⟨eu,gy,cv,T,hh,hl,hc⟩:=FN de hg eC
  obtain⟨nc,gc,cM,gE,m6,sG,dj⟩:=b23 hl hn du cT
  have cO:(execOp a.eval o).run P w = .ok .skip (w.setRow b (cv.toList.take off++nc++cv.toList.drop (off+n)).toArray):=by
   have du:=run_storeCells_at P b off T nc 0 cv w hh (by simp; omega) m6
   simp only[bp,cM] at du
   have cS:(a.eval y).cells.size=n:=by rw[← cM,← gc]; simp
   simp[execOp,cN,Instr.storeAt,hv,Instr.sureAddr,storeVar,zx hn,cS,gc,du]
  unfold Oper.wp
  rw[cO]
  have fe:b<w.heap.size:=de.owlt _ _ eu
  have cW:∀x,x≠b→(w.setRow b (cv.toList.take off++nc++cv.toList.drop (off+n)).toArray).heap[x]? = w.heap[x]? := λx hx=>setRow_other w b x _ hx
  have dJ:Ext w G1 (w.setRow b (cv.toList.take off++nc++cv.toList.drop (off+n)).toArray) G1:=by
   refine⟨rfl,rfl,rfl,by simp[World.setRow],?_,?_,λ_ _ h => .inl h,λ_ h => .inr h,λ_ _ h=>h,FL hh _ (by simp; omega),rfl⟩
   ·intro x _ jb
    exact cW x (by rintro rfl; rw[eu] at jb; simp at jb)
   ·intro x o' fo
    refine⟨fo,?_⟩
    have gl:x≠b:=by rintro rfl; exact gy _ fo
    simp only[World.cell?,cW x gl]
  have dA:xq (λk=>k = .hobj m) w G1 (w.setRow b (cv.toList.take off++nc++cv.toList.drop (off+n)).toArray) G1:=by
   refine⟨?_,λ_ _ h=>h⟩
   intro x k gF gw
   refine⟨gF,cW x ?_,λ_ h=>h⟩
   rintro rfl
   rw[eu] at gF
   simp at gF
   exact gw gF.symm
  have ix:FI N (w.setRow b (cv.toList.take off++nc++cv.toList.drop (off+n)).toArray) G1 (wT st' m (.cells cs')) a vs (wk vs ops):=by
   refine⟨de.len,λi t' u' h1 h2=>(de.var i t' u' h1 h2).keep dJ dA (by simp) (by simp),λi t' u' h1 h2=>(de.loc i t' u' h1 h2).keep dJ dA (by simp) (by simp),de.tv,de.tl,de.defers,de.gen,?_,?_,?_,?_⟩
   ·intro x k hx; simpa[World.setRow] using de.owlt x k hx
   ·intro x o' hx; simpa[World.setRow] using de.fixlt x o' hx
   ·refine de.heap.keepBut dJ dA (λn k da=>⟨by simp; omega,by simp⟩) (λ_ =>?_)
    refine .inr ⟨b,eC,eu,gy,_,T,setRow_heap w b cv _ T (0,0) hh,?_,?_⟩
    ·simp; omega
    ·intro k c z dG hz
     rcases dj k c z (by simpa using dG) hz with⟨k1,k2⟩|⟨k1,k2,k3⟩
     ·exact(hc k c z k1 k2).keep dJ dA (by simp)
     ·refine⟨(eK▸dF▸k1:VR N w G1.fix G1.heap c z).ext dJ,k2,?_⟩
      split
      ·rename_i es
       rcases k3 es rfl with⟨e1,e2,e3⟩|e
       ·subst e1 e2 e3
        have hr:Room w G1 (.hcell m k) (a.eval y) es:=fj
        exact hr.keep dA (by simp)
       ·subst e; trivial
      ·trivial
   ·simp only[wT,bM]; exact de.hdom
  have fP:a.put o.dst undef=a:=by simp[dZ,Act.put]
  have hd:wO vs o.dst = .n:=by simp[dZ,wO]
  show next (a.put o.dst undef) _
  rw[fP]
  refine hk _ _ G1 ?_ (dT.trans dJ) rfl
  rw[hd]
  exact ix
 ·simp at hs
theorem b4W (hE:EnvOk E N) (nm:Names vs (wk vs ops)) (ho:ops[j]? = some o) (hf:FI N w G st a vs (wk vs ops)) {t:TypeId} {n:Nat} {x y:Operand} {px py:PX} (cN:o.op = .store t x y) (dZ:o.dst=none) (hn:wP P t=some n)
  (hx:cx E vs ops x=some px) (hy:cx E vs ops y=some py) {cf:wu} (hs:wo cf (.storer n (xi P t) px py) st=some (u,st1)) (hk:wG N w G a st1 u vs ops j o next):o.wp P a w next Q:=by
 refine P2 hE nm ho hf cN dZ hn hx hy (cf:=cf) ?_ hk
 simp only[wo] at hs ⊢
 split at hs
 ·rename_i m off v ha hr
  split at hs
  ·simp at hs
  ·rename_i hl
   have ej:tk st py=some (v,st):=by
    unfold tk
    simp only[rd,ae] at hr
    obtain⟨r,h1,h2⟩:=hr
    rw[h1]
    cases r<;>simp[cp] at h2<;>subst h2<;>first|rfl|simp[FR] at hl
   simp only[ha,ej]
   exact hs
 ·simp at hs
theorem b6J (hE:EnvOk E N) (nm:Names vs (wk vs ops)) (ho:ops[j]? = some o) (hf:FI N w G st a vs (wk vs ops)) {t e:TypeId} {x i:Operand} {px pi:PX} {n len:Nat} (cN:o.op = .indexAddr t x i)
  (hu:P.underlying t=some (.array len e)) (hn:wP P e=some n) (hx:cx E vs ops x=some px) (hi:cx E vs ops i=some pi) {cf:wu} (hs:wo cf (.iaddr len n px pi) st=some (u,st1)) (hk:wG N w G a st1 u vs ops j o next):o.wp P a w next Q:=by
 simp only[wo] at hs
 split at hs
 ·rename_i m off k ha ic
  split at hs
  ·rename_i hb
   simp only[aa,ac] at hs
   obtain⟨rfl,rfl⟩:=hs
   obtain⟨b,hv,vY⟩:=HP hE hx hf ha
   obtain⟨kk,fT⟩:=BC hE hi hf ic
   refine wW nm ho hf (v := .pointer (some ⟨b,off+k.toNat*n,none⟩)) ?_ (SR.of_pure (.ptr _ _ b vY) rfl) hk
   simp[execOp,cN,Instr.indexAt,fT,hv,asIntOf,run_underlying hu,Instr.sureAddr,hb,zx hn,zF]
  ·simp at hs
 ·simp at hs
end
end PI
set_option linter.unusedSimpArgs false
set_option linter.unusedVariables false
namespace PI
open Go Go.MapKept
section
variable {E:Env} {N:Nm} {w:World} {G:GS} {st:St} {a:Act} {vs:List Tmp} {ops:List Oper} {P:Program}
variable {o:Oper} {j:Nat} {next:Act→World→Prop} {Q:Exit→Act→World→Prop} {u:PV} {st1:St}
theorem P7 (s t:ByteArray):(s==t)=(s.data.toList==t.data.toList):=by
 rw[aI,MapKept.bytes_beq,bo]
 constructor
 ·rintro rfl; rfl
 ·intro h
  obtain⟨⟨s⟩⟩:=s
  obtain⟨⟨t⟩⟩:=t
  simpa using h
theorem b9G {kt:TypeId} {d:TypeDesc} {kk:EK} {fix:Nat→Nat→Prop} {hp:Nat→Option Nat} {vx vy:Value} {x y:PV} {b:Bool} (hd:P.underlying kt=some d) (hk:ekT P kt=some kk) (hx:VR N w fix hp vx x) (hy:VR N w fix hp vy y) (h:Ac kk x y=some b):
  Instr.sameNow d vx vy=some b:=by
 unfold ekT at hk
 rw[hd] at hk
 unfold Ac at h
 split at h
 ·cases hx; cases hy
  simp only[aa] at h; subst h
  split at hk<;>simp at hk
  rename_i gL
  simp at gL; subst gL
  rfl
 ·cases hx; cases hy
  split at h
  ·subst_vars
   simp only[aa] at h; subst h
   split at hk<;>simp at hk
   rename_i gL
   simp at gL; subst gL
   simp[Instr.sameNow]
  ·simp at h
 ·cases hx; cases hy
  simp only[aa] at h; subst h
  split at hk<;>simp at hk
  rename_i gL
  simp at gL; subst gL
  simp only[Instr.sameNow,P7]
 ·simp at h
theorem P8 {fix:Nat→Nat→Prop} {hp:Nat→Option Nat} {kk:EK} {vx vy:Value} {x y:PV} (hx:VR N w fix hp vx x) (hy:VR N w fix hp vy y) (h:Ac kk x y=some true) (n:Nat):Instr.sameBits n vy vx=true:=by
 unfold Ac at h
 split at h
 ·cases hx; cases hy
  simp at h; subst h; simp[Instr.sameBits]
 ·cases hx; cases hy
  split at h
  ·subst_vars
   simp at h; subst h; simp[Instr.sameBits]
  ·simp at h
 ·cases hx with
  | str s =>
    cases hy with
    | str t =>
      have e:(s==t)=true:=by rw[P7]; simpa using h
      have e':s=t:=(MapKept.bytes_beq s t).1 e
      subst e'
      simpa[Instr.sameBits] using e
 ·simp at h
theorem P9 {kt:TypeId} {d:TypeDesc} {kk:EK} {fix:Nat→Nat→Prop} {hp:Nat→Option Nat} {kv:Value} {kp:PV} (hd:P.underlying kt=some d) (hk:ekT P kt=some kk) (iT:VR N w fix hp kv kp):
  ∀{mes:List MapEntry} {es:List (PV×PV)} {i:Nat} {r:Option (Nat×PV)},mes.length=es.length→(∀(i:Nat) (e:MapEntry) (p:PV×PV),mes[i]? = some e→es[i]? = some p→VR N w fix hp e.key p.1) →
  xN false [kk] kp es i=some r →
  (r=none∧Instr.findNow d kv mes i=some none)∨(∃n v e p1,r=some (i+n,v)∧Instr.findNow d kv mes i=some (some (i+n,e.val))∧mes[n]? = some e∧es[n]? = some (p1,v)∧Ac kk kp p1=some true)
 | [], [], i, r, _, _, h => by
   simp[xN] at h; subst h
   exact .inl ⟨rfl,rfl⟩
 | e :: mes, p :: es, i, r, hl, hv, h => by
   simp only[xN,peq,aH,if_false,ae] at h
   obtain⟨b,hb,h⟩:=h
   have hs:=b9G hd hk iT (hv 0 e p rfl rfl) hb
   cases b with
   | true =>
     simp at h; subst h
     exact .inr ⟨0,p.2,e,p.1,rfl,by simp[Instr.findNow,hs],rfl,rfl,hb⟩
   | false =>
     simp at h
     rcases P9 hd hk iT (mes:=mes) (es:=es) (by simpa using hl) (λi e p h1 h2=>hv (i+1) e p (by simpa using h1) (by simpa using h2)) h with⟨h1,h2⟩ | ⟨n,v,e',p1,h1,h2,h3,h4,h5⟩
     ·exact .inl ⟨h1,by simp[Instr.findNow,hs,h2]⟩
     ·exact .inr ⟨n+1,v,e',p1,by rw[h1]; simp; omega,by simp[Instr.findNow,hs,h2]; omega,by simpa using h3,by simpa using h4,h5⟩
 | [],_::_,_,_,hl,_,_=>by simp at hl
 | _::_,[],_,_,hl,_,_=>by simp at hl
theorem b4X {kt:TypeId} {kk:EK} (hk:ekT P kt=some kk) (b:Bool) (v:Value):(Instr.checkKey b 10000 kt v).run P w = .ok () w:=by
 unfold ekT at hk
 unfold Instr.checkKey
 split at hk
 ·rename_i hu; simp only[Sem.run_bind,run_underlying hu,Result.andThen_ok]; cases v<;>rfl
 ·rename_i hu; simp only[Sem.run_bind,run_underlying hu,Result.andThen_ok]; cases v<;>rfl
 ·rename_i hu; simp only[Sem.run_bind,run_underlying hu,Result.andThen_ok]; cases v<;>rfl
 ·simp at hk
theorem Qa {kt:TypeId} {kk:Bool×List EK} (h:CG P kt=some kk):(∃k,ekT P kt=some k∧kk=(false,[k])) ∨
  ∃fs,P.underlying kt=some (.struct fs)∧eqFields P fs.toList 0=some kk.2∧kk.1=true∧P.stoodInHeld kt=false:=by
 unfold CG at h
 split at h
 ·rename_i k hk
  simp only[aa] at h
  exact .inl ⟨k,hk,h.symm⟩
 ·split at h
  ·rename_i ks gU
   simp only[aa] at h
   subst h
   unfold eqT at gU
   split at gU
   ·simp at gU
   ·simp at gU
   ·simp at gU
   ·rename_i fs hu
    split at gU
    ·rename_i ks' sP
     split at gU
     ·rename_i cR
      simp only[aa,ac,true_and] at gU
      subst gU
      simp only[al,bz] at cR
      exact .inr ⟨fs,hu,sP,rfl,cR.1⟩
     ·simp at gU
    ·simp at gU
   ·simp at gU
  ·simp at h
theorem Qb:∀{fs:List Field} {off:Nat} {ks:List EK},eqFields P fs off=some ks→ks.length=fs.length∧∀f∈fs,∃i,off≤i∧i<off+fs.length∧f.offset=i∧f.name ≠ "_" ∧ wP P f.type=some 1∧xi P f.type=false∧∃k,ekT P f.type=some k
 | [],off,ks,h=>by simp[eqFields] at h; subst h; simp
 | f :: fs, off, ks, h => by
   simp only[eqFields] at h
   split at h
   ·rename_i hc
    simp only[ae,ab] at h
    obtain⟨k,hk,ks',gU,rfl⟩:=h
    obtain⟨h1,h2⟩:=Qb gU
    refine⟨by simp[h1],?_⟩
    intro g hg
    rcases ay.1 hg with rfl|hg
    ·exact⟨off,ao _,by simp,hc.1,hc.2.1,hc.2.2.1,hc.2.2.2,k,hk⟩
    ·obtain⟨i,a1,a2,a3⟩:=h2 g hg
     exact⟨i,by omega,by simp; omega,a3⟩
   ·simp at h
theorem HQ:∀{ks:List EK} {xs ys:List PV} {b:Bool},zD ks xs ys=some b→xs.length=ks.length∧ys.length=ks.length
 | [],xs,ys,b,h=>by cases xs<;>cases ys<;>simp_all [zD]
 | k :: ks, xs, ys, b, h => by
   cases xs with
   | nil=>simp[zD] at h
   | cons x xs =>
     cases ys with
     | nil=>simp[zD] at h
     | cons y ys =>
       simp only[zD,ae,ab] at h
       obtain⟨_,_,_,h2,_⟩:=h
       obtain⟨a1,a2⟩:=HQ h2
       simp[a1,a2]
theorem KX {ks:List EK} {kp:PV} {es:List (PV×PV)} {i:Nat} {r} (h:xN true ks kp es i=some r):∃cs,kp = .agg cs∧cs.length=ks.length:=by
 cases es with
 | nil =>
   rw[xN.eq_def] at h
   cases kp<;>simp only[Option.ite_none_right_eq_some,reduceCtorEq] at h<;>exact⟨_,rfl,h.1⟩
 | cons e es =>
   simp only[xN,ae] at h
   obtain⟨b,hb,_⟩:=h
   simp only[peq,if_true] at hb
   split at hb
   ·exact⟨_,rfl,(HQ hb).1⟩
   ·simp at hb
theorem HS {kt:TypeId} {kk:Bool×List EK} {G:GS} {kv:Value} {kp:PV} (hk:CG P kt=some kk) (iT:VR N w G.fix G.heap kv kp) {es:List (PV×PV)} {i:Nat} {r} (h:xN kk.1 kk.2 kp es i=some r) (b:Bool):(Instr.checkKey b 10000 kt kv).run P w = .ok () w:=by
 rcases Qa hk with⟨k,dh,rfl⟩|⟨fs,hu,hf,h1,_⟩
 ·exact b4X dh b kv
 ·rw[h1] at h
  obtain⟨cs,rfl,hl⟩:=KX h
  obtain⟨vs,rfl,hc⟩:=CellsR.of_agg iT
  obtain⟨e1,e2⟩:=Qb hf
  have cS:vs.size=fs.size:=by have:=hc.1; simp at this; simp at e1; omega
  have key:∀(l:List Field),(∀f∈l,f∈fs.toList)→((do for f in l do if f.name ≠ "_" then Instr.checkKey b 9999 f.type (← part f.type vs f.offset)):Sem Unit).run P w = .ok () w:=by
   intro l
   induction l with
   | nil=>intro _; rfl
   | cons f l ih =>
     intro hl
     obtain⟨i,a1,a2,a3,a4,a5,a6,k,a7⟩:=e2 f (hl f (by simp))
     have cQ:i<vs.size:=by simp at a2; omega
     have jk:(part f.type vs f.offset).run P w = .ok vs[i] w:=by
      simp[part,Dw a5,a6,a3,cQ]
     have mH:(Instr.checkKey b 9999 f.type vs[i]).run P w = .ok () w:=by
      unfold ekT at a7
      unfold Instr.checkKey
      split at a7
      ·rename_i hu; simp only[Sem.run_bind,run_underlying hu,Result.andThen_ok]; cases vs[i]<;>rfl
      ·rename_i hu; simp only[Sem.run_bind,run_underlying hu,Result.andThen_ok]; cases vs[i]<;>rfl
      ·rename_i hu; simp only[Sem.run_bind,run_underlying hu,Result.andThen_ok]; cases vs[i]<;>rfl
      ·simp at a7
     have ih':=ih (λg hg=>hl g (by simp[hg]))
     rw[List.forIn_cons]
     simp only[Sem.run_bind,ne_eq,a4,cm,if_true,jk,Result.andThen_ok,mH,Sem.run_pure] at ih' ⊢
     exact ih'
  unfold Instr.checkKey
  simp only[Sem.run_bind,run_underlying hu,Result.andThen_ok,← Array.forIn_toList]
  have:=key fs.toList (λ_ h=>h)
  rw[Sem.run_bind] at this
  exact this
theorem b9H {ks:List EK}:∀{xs ys:List PV} {cs ds:List Value},zD ks xs ys=some true→cs.length=xs.length→ds.length=ys.length→∀{fix:Nat→Nat→Prop} {hp:Nat→Option Nat},(∀(i:Nat) (v:Value) (p:PV),cs[i]? = some v→xs[i]? = some p→VR N w fix hp v p) →
  (∀(i:Nat) (v:Value) (p:PV),ds[i]? = some v→ys[i]? = some p→VR N w fix hp v p)→∀n,((ds.zip cs).all λ(x,y)=>Instr.sameBits n x y)=true:=by
 induction ks with
 | nil =>
   intro xs ys cs ds h h1 h2 fix hp hx hy n
   obtain⟨a1,a2⟩:=HQ h
   simp at a1 a2
   subst a1 a2
   simp at h1 h2
   subst h1 h2
   rfl
 | cons k ks ih =>
   intro xs ys cs ds h h1 h2 fix hp hx hy n
   cases xs with
   | nil=>simp[zD] at h
   | cons x xs =>
     cases ys with
     | nil=>simp[zD] at h
     | cons y ys =>
       simp only[zD,ae,ab] at h
       obtain⟨b1,eC,b2,dy,hb⟩:=h
       simp only[al] at hb
       obtain⟨rfl,rfl⟩:=hb
       cases cs with
       | nil=>simp at h1
       | cons c cs =>
         cases ds with
         | nil=>simp at h2
         | cons d ds =>
           simp only[List.zip_cons_cons,List.all_cons,al]
           exact⟨P8 (hx 0 c x rfl rfl) (hy 0 d y rfl rfl) eC n,ih dy (by simpa using h1) (by simpa using h2) (λi v p a b=>hx (i+1) v p (by simpa using a) (by simpa using b)) (λi v p a b=>hy (i+1) v p (by simpa using a) (by simpa using b)) n⟩
theorem b9I {kk:Bool×List EK} {G:GS} {vx vy:Value} {x y:PV} (hx:VR N w G.fix G.heap vx x) (hy:VR N w G.fix G.heap vy y) (h:peq kk.1 kk.2 x y=some true) (n:Nat):Instr.sameBits (n+1) vy vx=true:=by
 unfold peq at h
 split at h
 ·split at h
  ·rename_i xs ys
   obtain⟨cs,rfl,hc⟩:=CellsR.of_agg hx
   obtain⟨ds,rfl,hd⟩:=CellsR.of_agg hy
   obtain⟨a1,a2⟩:=HQ h
   have h1:=hc.1
   have h2:=hd.1
   simp only[Instr.sameBits,al,bo]
   refine⟨by simp at h1 h2; omega,b9H h (by simpa using h1) (by simpa using h2) (λi v p a b=>hc.2.2 i v p (by simpa using a) b) (λi v p a b=>hd.2.2 i v p (by simpa using a) b) n⟩
  ·simp at h
 ·split at h
  ·exact P8 hx hy h (n+1)
  ·simp at h
theorem KY {kt:TypeId} {kk:Bool×List EK} {G:GS} {kv:Value} {kp:PV} (hk:CG P kt=some kk) (iT:VR N w G.fix G.heap kv kp) {mes:List MapEntry} {es:List (PV×PV)} {r:Option (Nat×PV)} (hl:mes.length=es.length)
  (hv:∀(i:Nat) (e:MapEntry) (p:PV×PV),mes[i]? = some e→es[i]? = some p→VR N w G.fix G.heap e.key p.1) (h:xN kk.1 kk.2 kp es 0=some r):
  (r=none∧(Instr.findKey kt kv mes).run P w = .ok none w)∨(∃n v e p1,r=some (n,v)∧(Instr.findKey kt kv mes).run P w = .ok (some (n,e.val)) w∧mes[n]? = some e∧es[n]? = some (p1,v)∧peq kk.1 kk.2 kp p1=some true):=by
 rcases Qa hk with⟨k,dh,rfl⟩|⟨fs,hu,hf,h1,du⟩
 ·obtain⟨d,hd⟩:∃d,P.underlying kt=some d:=by
   unfold ekT at dh
   split at dh<;>first|exact⟨_,by assumption⟩|simp at dh
  rcases P9 hd dh iT hl hv h with⟨a1,a2⟩|⟨n,v,e,p1,a1,a2,a3,a4,a5⟩
  ·exact .inl ⟨a1,run_findKey hd a2⟩
  ·simp only[aR] at a1 a2
   exact .inr ⟨n,v,e,p1,a1,run_findKey hd a2,a3,a4,by simpa[peq] using a5⟩
 ·simp only[h1] at h ⊢
  have ask:∀(mes:List MapEntry) (es:List (PV×PV)) (i:Nat) (r:Option (Nat×PV)),mes.length=es.length→(∀(i:Nat) (e:MapEntry) (p:PV×PV),mes[i]? = some e→es[i]? = some p→VR N w G.fix G.heap e.key p.1)→xN true kk.2 kp es i=some r →
    (r=none∧(Instr.findAsking kt kv mes i).run P w = .ok none w)∨(∃n v e p1,r=some (i+n,v)∧(Instr.findAsking kt kv mes i).run P w = .ok (some (i+n,e.val)) w∧mes[n]? = some e∧es[n]? = some (p1,v)∧peq true kk.2 kp p1=some true):=by
   intro mes
   induction mes with
   | nil =>
     intro es i r hl hv h
     cases es with
     | cons _ _=>simp at hl
     | nil =>
       obtain⟨cs,rfl,cM⟩:=KX h
       rw[xN.eq_def] at h
       simp only[cM,if_true,aa] at h
       subst h
       exact .inl ⟨rfl,by simp[Instr.findAsking]⟩
   | cons e mes ih =>
     intro es i r hl hv h
     cases es with
     | nil=>simp at hl
     | cons p es =>
       simp only[xN,ae] at h
       obtain⟨b,hb,h⟩:=h
       have fI:=hb
       simp only[peq,if_true] at hb
       split at hb
       ·rename_i ys pF _
        have ua:=hv 0 e p rfl rfl
        rw[pF] at ua
        clear pF
        obtain⟨cs,rfl,hc⟩:=CellsR.of_agg iT
        obtain⟨ds,qU,hd⟩:=CellsR.of_agg ua
        have nA:P.fieldsOf kt=fs:=by simp[Program.fieldsOf,hu]
        have heq:=run_equalIn_struct (P:=P) w 9999 kt cs ds (by rw[nA]; exact hu) du
        rw[nA,KL hc hd hf (by simpa using hb)] at heq
        have na:(Op.equal kt (.agg cs) e.key).run P w = .ok b w:=by
         rw[qU]
         simpa[Op.equal,Op.maxDepth] using heq
        cases b with
        | true =>
          simp at h; subst h
          exact .inr ⟨0,p.2,e,p.1,rfl,by simp[Instr.findAsking,na],rfl,rfl,fI⟩
        | false =>
          simp at h
          rcases ih es (i+1) r (by simpa using hl) (λi e p a b=>hv (i+1) e p (by simpa using a) (by simpa using b)) h with⟨a1,a2⟩ | ⟨n,v,e',p1,a1,a2,a3,a4,a5⟩
          ·exact .inl ⟨a1,by simp[Instr.findAsking,na,a2]⟩
          ·exact .inr ⟨n+1,v,e',p1,by rw[a1]; simp; omega,by simp[Instr.findAsking,na,a2]; omega,by simpa using a3,by simpa using a4,a5⟩
       ·simp at hb
  have qB:(Instr.findKey kt kv mes).run P w=(Instr.findAsking kt kv mes 0).run P w:=by
   obtain⟨cs,rfl,_⟩:=KX h
   obtain⟨vs,rfl,_⟩:=CellsR.of_agg iT
   unfold Instr.findKey
   simp only[Sem.run_bind,run_underlying hu,Result.andThen_ok]
   cases mes with
   | nil=>simp[Instr.findNow,Instr.findAsking]
   | cons e mes =>
     have:Instr.findNow (.struct fs) (.agg vs) (e::mes) 0=none:=by simp[Instr.findNow,Instr.sameNow]
     rw[this]
  rw[qB]
  rcases ask mes es 0 r hl hv h with h|⟨n,v,e,p1,a1,a2,a3⟩
  ·exact .inl h
  ·exact .inr ⟨n,v,e,p1,by simpa using a1,by simpa using a2,a3⟩
theorem Mh {fix:Nat→Nat→Prop} {hp:Nat→Option Nat} {t:TypeId} {z:PV} (h:DH P t=some z):∃zv,(zeroValue t).run P w = .ok zv w∧VR N w fix hp zv z∧((∃es,z = .list true es∧zv = .slice none 0 0)∨cp z=some z):=by
 unfold DH at h
 split at h
 ·rename_i i hi
  simp only[ae] at h
  obtain⟨zv,h1,h2⟩:=h
  exact⟨zv,by simp[zeroValue,typeInfo,hi,h1],Pw h2,KI h2⟩
 ·simp at h
theorem VR.cp_dem' {fix:Nat→Nat→Prop} {hp:Nat→Option Nat} {v:Value} {p:PV} (h:VR N w fix hp v p):cp (PI.dem p)=some (PI.dem p):=by
 cases h<;>rfl
theorem KZ (hf:FI N w G st a vs (wk vs ops)) {n b:Nat} {es:List (PV×PV)} (hg:wZ st (some n)=some es) (hb:G.heap n=some b):
  G.ow b=some (.hobj n)∧st.heap[n]? = some (.map es)∧ObjR N w G n b (.map es):=by
 unfold wZ at hg
 simp only at hg
 split at hg
 ·rename_i es' hn
  simp at hg; subst hg
  rcases hf.heap.1 n _ hn with e|⟨b',h1,h2,h3⟩
  ·simp at e
  have:b'=b:=by rw[hb] at h1; simpa using h1.symm
  subst this
  exact⟨h2,hn,h3⟩
 ·simp at hg
theorem MR.read {key:Key} {v:Value} {p:PV} (h:MR N w G key v p):VR N w G.fix G.heap v (dem p):=h.1.dem
theorem b6L (hE:EnvOk E N) (nm:Names vs (wk vs ops)) (ho:ops[j]? = some o) (hf:FI N w G st a vs (wk vs ops)) {t kt e:TypeId} {m x:Operand} {ok:Bool} {kk:Bool×List EK} {z:PV} {pm px:PX} {tk:Bool}
  (cN:o.op = .lookup t m x ok) (hu:P.underlying t=some (.map kt e)) (eT:CG P kt=some kk) (hz:DH P e=some z) (hm:cx E vs ops m=some pm) (hx:cx E vs ops x=some px) {cf:wu}
  (hs:wo cf (.lookup ok tk kk.1 kk.2 z pm px) st=some (u,st1)) (hk:wG N w G a st1 u vs ops j o next):o.wp P a w next Q:=by
 obtain⟨zv,eP,eD,lA⟩:=Mh (P:=P) (N:=N) (w:=w) (fix:=G.fix) (hp:=G.heap) hz
 simp only[wo] at hs
 split at hs
 ·rename_i n k pN sQ
  have iT:=(wU hE hx hf sQ).1
  have nb:=(wU hE hm hf pN).1
  simp only[ae] at hs
  obtain⟨es,hg,r,fF,hs⟩:=hs
  have run:∀(mes:Array MapEntry) (r':Option (Nat×Value)),(a.eval m = .map none∧mes = #[]∨∃b clock,a.eval m = .map (some b)∧w.heap[b]? = some (.map mes clock))→(Instr.findKey kt (a.eval x) mes.toList).run P w = .ok r' w →
    (execOp a.eval o).run P w = .ok (.value (if ok then .tuple #[(r'.map Prod.snd).getD zv,.bool r'.isSome] else(r'.map Prod.snd).getD zv)) w:=by
   intro mes r' h1 h2
   have qB:=h2
   rcases h1 with⟨h1,rfl⟩|⟨b,clock,h1,h3⟩
   ·simp only[execOp,cN,Instr.lookup,Sem.run_bind,run_underlying hu,Result.andThen_ok,h1,Sem.run_pure,HS eT iT fF,qB]
    cases r' with
    | none=>simp[eP]
    | some q=>simp
   ·simp only[execOp,cN,Instr.lookup,Sem.run_bind,run_underlying hu,Result.andThen_ok,h1,run_getObj_map h3,Sem.run_pure,HS eT iT fF,qB]
    cases r' with
    | none=>simp[eP]
    | some q=>simp
  generalize mb:a.eval m=mv at nb run
  cases nb with
  | mapn =>
    simp only[wZ,aa] at hg
    subst hg
    have h0:=KY (P:=P) eT iT (mes:=[]) (es:=[]) rfl (by simp) fF
    have kw:r=none∧(Instr.findKey kt (a.eval x) []).run P w = .ok none w:=by
     rcases h0 with h0|⟨n,v,e,p1,_,_,h3,_⟩
     ·exact h0
     ·simp at h3
    obtain⟨rfl,ei⟩:=kw
    simp only[aa,ac] at hs
    obtain⟨rfl,rfl⟩:=hs
    have cO:=run #[] none (.inl ⟨rfl,rfl⟩) ei
    simp only[cq,cD,Option.isSome_none] at cO
    cases ok with
    | true =>
      refine wW nm ho hf cO (SR.of_pure (.tuple _ _ rfl ?_) rfl) hk
      intro i c p hc hp
      match i,hc,hp with
      | 0,hc,hp=>simp at hc hp; subst hc hp; exact eD
      | 1,hc,hp=>simp at hc hp; subst hc hp; exact .bool _
    | false =>
      refine wW nm ho hf cO ?_ hk
      rcases lA with⟨es,rfl,rfl⟩|h
      ·exact⟨eD,trivial⟩
      ·exact SR.of_pure eD h
  | map n b hb =>
    obtain⟨eu,sx,hobj⟩:=KZ hf hg hb
    obtain⟨mes,clock,a1,a2,a3,a4,a5⟩:=hobj
    have hK:(Value.map (some b) = .map none∧mes = #[])∨∃b' clock,Value.map (some b) = .map (some b')∧w.heap[b']? = some (.map mes clock) := .inr ⟨b,clock,rfl,a1⟩
    rcases KY eT iT (mes:=mes.toList) (es:=es) (by simpa using a2) (λi e p h1 h2=>(a5 i e p (by simpa using h1) h2).1) fF with⟨rfl,h2⟩ | ⟨i,v,en,p1,rfl,h2,h3,h4,_⟩
    ·have cO:=run mes none hK h2
     simp only[aa,ac] at hs
     obtain⟨rfl,rfl⟩:=hs
     simp only[cq,cD,Option.isSome_none] at cO
     cases ok with
     | true =>
       refine wW nm ho hf cO (SR.of_pure (.tuple _ _ rfl ?_) rfl) hk
       intro i c p hc hp
       match i,hc,hp with
       | 0,hc,hp=>simp at hc hp; subst hc hp; exact eD
       | 1,hc,hp=>simp at hc hp; subst hc hp; exact .bool _
     | false =>
       refine wW nm ho hf cO ?_ hk
       rcases lA with⟨es,rfl,rfl⟩|h
       ·exact⟨eD,trivial⟩
       ·exact SR.of_pure eD h
    ·have cO:=run mes _ hK h2
     have kZ:=(a5 i en (p1,v) (by simpa using h3) h4).2
     simp only[aA,bI,Option.isSome_some] at cO
     simp only at hs
     split at hs
     ·
      rename_i ej
      simp only[al,bz] at ej
      obtain⟨⟨_,cY⟩,eE⟩:=ej
      subst cY
      have:∃l,v = .list true l:=by
       unfold FS at eE
       split at eE
       ·exact⟨_,rfl⟩
       ·simp at eE
      obtain⟨l,rfl⟩:=this
      simp only[aa,ac] at hs
      obtain⟨rfl,rfl⟩:=hs
      obtain⟨cT,dr⟩:=kZ
      obtain⟨G',hG,fg⟩:=Room.give (key':=x9 (wO vs o.dst) j) dr
      have gV:G'.box=G.box∧G'.fix=G.fix∧G'.heap=G.heap:=by
       rcases hG with rfl|⟨b,_,rfl⟩<;>exact⟨rfl,rfl,rfl⟩
      have cL:Ext w G w G':=by
       rcases hG with rfl|⟨b,hb,rfl⟩
       ·exact Ext.refl _ _
       ·exact HG b _ (λ_=>by simp[hb])
      have cP:xq (λk=>k = .hcell n i) w G w G':=by
       rcases hG with rfl|⟨b,hb,rfl⟩
       ·exact⟨λb k h _=>⟨h,rfl,λ_ h=>h⟩,λ_ _ h=>h⟩
       ·exact HH b _ (λk' dh=>by rw[hb] at dh; simpa using dh.symm)
      have de:FI N w G' (wT st n (.map (es.modify i λe=>(e.1,dem e.2)))) a vs (wk vs ops):=by
       refine⟨hf.len,λi' t' u' h1 h2=>(hf.var i' t' u' h1 h2).keep cL cP (by simp) (by simp),λi' t' u' h1 h2=>(hf.loc i' t' u' h1 h2).keep cL cP (by simp) (by simp),hf.tv,hf.tl,(hf.defers.trans cL.df.symm),by rw[gV.1]; exact hf.gen,?_,by rw[gV.2.1]; exact hf.fixlt,?_,?_⟩
       ·intro b' k cX
        rcases hG with rfl|⟨b2,dy,rfl⟩
        ·exact hf.owlt _ _ cX
        ·simp only[GS.give] at cX
         split at cX
         ·subst_vars; exact hf.owlt _ _ dy
         ·exact hf.owlt _ _ cX
       ·refine hf.heap.keepBut cL cP (λn' k da=>⟨by simp,by simp; omega⟩) (λ_ =>?_)
        refine .inr ⟨b,cL.heap _ _ hb,(cP.1 _ _ eu (by simp)).1,mes,clock,a1,by simpa using a2,a3,a4,?_⟩
        intro i' e' p' dx eQ
        rw[bg] at eQ
        by_cases jw:i=i'
        ·subst jw
         rw[h4] at eQ
         simp at eQ; subst eQ
         have:e'=en:=by rw[← bR] at dx; rw[h3] at dx; simpa using dx.symm
         subst this
         obtain⟨b1,b2⟩:=a5 i e' (p1,.list true l) dx h4
         exact⟨b1.ext cL,(b2.1.dem).ext cL,trivial⟩
        ·simp only[jw,if_false,cI] at eQ
         have hp'':es[i']? = some p':=by simpa using eQ
         obtain⟨b1,b2⟩:=a5 i' e' p' dx hp''
         exact⟨b1.ext cL,b2.keep cL cP (by simp; omega)⟩
       ·rw[gV.2.2]; simp only[wT,bM]; exact hf.hdom
      unfold Oper.wp
      rw[cO]
      exact hk _ _ G' (de.put nm (yV ho) ⟨cT.ext cL,fg⟩) cL (yW _ _ _)
     ·simp only[aa,ac] at hs
      obtain⟨rfl,rfl⟩:=hs
      have ng:VR N w G.fix G.heap en.val (dem v):=kZ.1.dem
      cases ok with
      | true =>
        refine wW nm ho hf cO (SR.of_pure (.tuple _ _ rfl ?_) rfl) hk
        intro i c p hc hp
        match i,hc,hp with
        | 0,hc,hp=>simp at hc hp; subst hc hp; exact ng
        | 1,hc,hp=>simp at hc hp; subst hc hp; exact .bool _
      | false=>exact wW nm ho hf cO (SR.of_pure ng kZ.1.cp_dem') hk
 ·simp at hs
theorem c1o {b:Nat} (hb:b<w.heap.size) (gJ:∃mes clock,w.heap[b]? = some (.map mes clock)) (fo:G.ow b≠none) (mes':Array MapEntry) (clock':Nat):
  let w':World:={ w with heap:=w.heap.setIfInBounds b (.map mes' clock') }
  Ext w G w' G∧w'.heap[b]? = some (.map mes' clock')∧∀x,x≠b→w'.heap[x]? = w.heap[x]? := by
 intro w'
 have ee:∀x,x≠b→w'.heap[x]? = w.heap[x]? := λx hx=>by simp[w',bb,Ne.symm hx]
 have ev:w'.heap[b]? = some (.map mes' clock'):=by simp[w',bb,hb]
 refine⟨⟨rfl,rfl,rfl,by simp[w'],?_,?_,λ_ _ h => .inl h,λ_ h => .inr h,λ_ _ h=>h,.one b (λk _ hk=>ee k hk) (λs hx=>by obtain⟨mes,clock,h⟩:=gJ; simp[World.shape?,h] at hx) (λs hx=>by obtain⟨mes,clock,h⟩:=gJ; simp[yC,h] at hx),rfl⟩,ev,ee⟩
 ·intro x _ hx
  exact ee x (by rintro rfl; exact fo hx)
 ·intro x o hx
  refine⟨hx,?_⟩
  by_cases gl:x=b
  ·subst gl
   obtain⟨mes,clock,h⟩:=gJ
   simp only[World.cell?,ev,h]
  ·simp only[World.cell?,ee x gl]
theorem P3 (hE:EnvOk E N) (nm:Names vs (wk vs ops)) (ho:ops[j]? = some o) (hf:FI N w G st a vs (wk vs ops)) {t kt e:TypeId} {m x y:Operand} {kk:Bool×List EK} {pm px py:PX}
  (cN:o.op = .mapUpdate t m x y∨o.op = .insert t m x y) (dZ:o.dst=none) (hu:P.underlying t=some (.map kt e)) (eT:CG P kt=some kk) (hm:cx E vs ops m=some pm) (hx:cx E vs ops x=some px) (hy:cx E vs ops y=some py) {cf:wu}
  (hs:wo cf (.mset kk.1 kk.2 pm px py) st=some (u,st1)) (hk:wG N w G a st1 u vs ops j o next):o.wp P a w next Q:=by
 simp only[wo] at hs
 split at hs
 ·rename_i n k v st' pN sQ ej
  have iT:=(wU hE hx hf sQ).1
  have nb:=(wU hE hm hf pN).1
  simp only[ae,ab] at hs
  obtain⟨es,hg,r,fF,hs⟩:=hs
  generalize mb:a.eval m=mv at nb
  cases nb with
  | map _ b hb =>
    let idx:Nat:=match r with | some (i,_)=>i | none=>es.length
    obtain⟨G1,de,dT,ip,eK,dF,cT,fj,_,_,_⟩:=Eq hE hy hf ej (.hcell n idx)
    have eC:G1.heap n=some b:=by rw[dF]; exact hb
    obtain⟨eu,sx,hobj⟩:=KZ de hg eC
    obtain⟨mes,clock,a1,a2,a3,a4,a5⟩:=hobj
    have jI:VR N w G1.fix G1.heap (a.eval x) k:=by rw[eK,dF]; exact iT
    have m7:VR N w G1.fix G1.heap (a.eval y) v:=by rw[eK,dF]; exact cT
    have lD:MR N w G1 (.hcell n idx) (a.eval y) v:=by
     refine⟨m7,?_⟩
     split
     ·exact fj
     ·trivial
    have fe:b<w.heap.size:=de.owlt _ _ eu
    have fP:a.put o.dst undef=a:=by simp[dZ,Act.put]
    have dc:wO vs o.dst = .n:=by simp[dZ,wO]
    have finish:∀(mes':Array MapEntry) (clock':Nat) (es':List (PV×PV)),(execOp a.eval o).run P w = .ok .skip { w with heap:=w.heap.setIfInBounds b (.map mes' clock') }→mes'.size=es'.length →
      (∀(i:Nat) (e:MapEntry),mes'[i]? = some e→e.born<clock')→(∀(i i':Nat) (e e':MapEntry),mes'[i]? = some e→mes'[i']? = some e'→e.born=e'.born→i=i') →
      (∀(i:Nat) (e:MapEntry) (p:PV×PV),mes'[i]? = some e→es'[i]? = some p→VR N w G1.fix G1.heap e.key p.1∧MR N w G1 (.hcell n i) e.val p.2)→u = .dead→st1=wT st' n (.map es')→o.wp P a w next Q:=by
     intro mes' clock' es' cO b2 b3 b4 b5 eH j4
     subst eH j4
     obtain⟨dJ,ev,cW⟩:=c1o (G:=G1) fe ⟨mes,clock,a1⟩ (by rw[eu]; simp) mes' clock'
     unfold Oper.wp
     rw[cO]
     have dA:xq (λk=>k = .hobj n) w G1 { w with heap:=w.heap.setIfInBounds b (.map mes' clock') } G1:=by
      refine⟨?_,λ_ _ h=>h⟩
      intro x k gF gw
      refine⟨gF,cW x ?_,λ_ h=>h⟩
      rintro rfl
      rw[eu] at gF
      simp at gF
      exact gw gF.symm
     have ix:FI N { w with heap:=w.heap.setIfInBounds b (.map mes' clock') } G1 (wT st' n (.map es')) a vs (wk vs ops):=by
      refine⟨de.len,λi t' u' h1 h2=>(de.var i t' u' h1 h2).keep dJ dA (by simp) (by simp),λi t' u' h1 h2=>(de.loc i t' u' h1 h2).keep dJ dA (by simp) (by simp),de.tv,de.tl,de.defers,de.gen,?_,?_,?_,?_⟩
      ·intro x k hx; simpa using de.owlt x k hx
      ·intro x o' hx; simpa using de.fixlt x o' hx
      ·refine de.heap.keepBut dJ dA (λn' k da=>⟨by simp; omega,by simp⟩) (λ_ =>?_)
       refine .inr ⟨b,eC,eu,mes',clock',ev,b2,b3,b4,?_⟩
       intro i en p hi hp
       obtain⟨c1,c2⟩:=b5 i en p hi hp
       exact⟨c1.ext dJ,c2.keep dJ dA (by simp)⟩
      ·simp only[wT,bM]; exact de.hdom
     show next (a.put o.dst undef) _
     rw[fP]
     refine hk _ _ G1 ?_ (dT.trans dJ) rfl
     rw[dc]
     exact ix
    have gI:∀w',(Instr.mapUpdate t (.map (some b)) (a.eval x) (a.eval y)).run P w = .ok () w'→(execOp a.eval o).run P w = .ok .skip w':=by
     intro w' h
     rcases cN with cN|cN<;>simp[execOp,cN,mb,h]
    rcases KY eT jI (mes:=mes.toList) (es:=es) (by simpa using a2) (λi e p h1 h2=>(a5 i e p (by simpa using h1) h2).1) fF with⟨rfl,h2⟩ | ⟨i,v',en,p1,rfl,h2,h3,h4,h5⟩
    ·
     simp only[ac] at hs
     obtain⟨rfl,rfl⟩:=hs
     refine finish (mes.push { key:=a.eval x,val:=a.eval y,born:=clock }) (clock+1) (es++[(k,v)]) (gI _ ?_) (by simp[a2]) ?_ ?_ ?_ rfl rfl
     ·simp only[Instr.mapUpdate,Sem.run_bind,run_underlying hu,Result.andThen_ok,run_getObj_map a1,HS eT jI fF,h2,run_setObj_map _ a1]
     ·intro i e' dx
      rw[Array.getElem?_push] at dx
      split at dx
      ·simp at dx; subst dx; simp
      ·have:=a3 i e' dx; omega
     ·intro i i' e' e'' dx he'' ir
      rw[Array.getElem?_push] at dx he''
      split at dx<;>split at he''
      ·omega
      ·simp at dx; subst dx
       have:=a3 i' e'' he''; simp at ir; omega
      ·simp at he''; subst he''
       have:=a3 i e' dx; simp at ir; omega
      ·exact a4 i i' e' e'' dx he'' ir
     ·intro i e' p dx hp
      rw[Array.getElem?_push] at dx
      split at dx
      ·rename_i hi
       simp at dx; subst dx
       rw[ar (by omega)] at hp
       have:i - es.length=0:=by omega
       rw[this] at hp
       simp at hp; subst hp
       refine⟨jI,?_⟩
       have jr:idx=i:=by show es.length=i; omega
       rw[jr] at lD
       exact lD
      ·have hi:i<es.length:=by have:=(ba.1 dx).1; omega
       rw[am hi] at hp
       exact a5 i e' p dx hp
    ·
     simp only[ac] at hs
     obtain⟨rfl,rfl⟩:=hs
     have jr:idx=i:=by show i=i; rfl
     rw[jr] at lD
     have cQ:i<mes.size:=by have:=(aj.1 h3).1; simpa using this
     have lk:mes[i]? = some en:=by rw[← bR]; exact h3
     have pQ:Instr.sameBits 10000 en.key (a.eval x)=true:=b9I jI (a5 i en (p1,v') lk h4).1 h5 9999
     refine finish (mes.modify i λe=>{ e with key:=a.eval x,val:=a.eval y }) clock (es.set i (k,v)) (gI _ ?_) (by simp[a2]) ?_ ?_ ?_ rfl rfl
     ·simp only[Instr.mapUpdate,Sem.run_bind,run_underlying hu,Result.andThen_ok,run_getObj_map a1,HS eT jI fF,h2,lk,aA,bI,Instr.keyThatStays,pQ,if_true,Sem.run_pure,run_setObj_map _ a1]
     ·intro i' e' dx
      rw[Array.getElem?_modify] at dx
      split at dx
      ·simp only[ab] at dx
       obtain⟨e2,h6,rfl⟩:=dx
       exact a3 i' e2 h6
      ·exact a3 i' e' dx
     ·have cX:∀(i':Nat) (e':MapEntry),(mes.modify i λe=>{ e with key:=a.eval x,val:=a.eval y })[i']? = some e'→∃e2:MapEntry,mes[i']? = some e2∧e2.born=e'.born:=by
       intro i' e' dx
       rw[Array.getElem?_modify] at dx
       split at dx
       ·simp only[ab] at dx
        obtain⟨e2,h6,rfl⟩:=dx
        exact⟨e2,h6,rfl⟩
       ·exact⟨e',dx,rfl⟩
      intro i1 i2 e1 e2 vZ qV ir
      obtain⟨f1,g1,g2⟩:=cX i1 e1 vZ
      obtain⟨f2,g3,g4⟩:=cX i2 e2 qV
      exact a4 i1 i2 f1 f2 g1 g3 (by rw[g2,g4,ir])
     ·intro i' e' p dx hp
      rw[Array.getElem?_modify] at dx
      rw[aL] at hp
      split at dx
      ·rename_i jw
       subst jw
       rw[ah rfl] at hp
       split at hp
       ·simp at hp; subst hp
        rw[lk] at dx
        simp at dx; subst dx
        exact⟨jI,lD⟩
       ·simp at hp
      ·rename_i jw
       rw[af jw] at hp
       exact a5 i' e' p dx hp
 ·simp at hs
theorem b9J (hE:EnvOk E N) (nm:Names vs (wk vs ops)) (ho:ops[j]? = some o) (hf:FI N w G st a vs (wk vs ops)) {t kt e:TypeId} {ts:Array TypeId} {x:Operand} {px:PX} (cN:o.op = .call { callee := .builtin .len,args := #[x],argTypes:=ts })
  (h0:ts[0]? = some t) (hu:P.underlying t=some (.map kt e)) (hx:cx E vs ops x=some px) {cf:wu} (hs:wo cf (.mlen px) st=some (u,st1)) (hk:wG N w G a st1 u vs ops j o next):o.wp P a w next Q:=by
 simp only[wo] at hs
 split at hs
 ·rename_i n hp
  simp only[ab,ac] at hs
  obtain⟨es,hg,rfl,rfl⟩:=hs
  have h:=(wU hE hx hf hp).1
  generalize hv:a.eval x=v at h
  refine wW nm ho hf ?_ (SR.of_pure (.int _ _) rfl) hk
  cases h with
  | mapn =>
    simp only[wZ,aa] at hg
    subst hg
    simp only[execOp,cN,resolve,Sem.run_bind,Sem.run_pure,Result.andThen_ok,invoke,builtin,Builtin.len_,h0,List.map_toArray,aC,bw,hv,bD,bZ,run_underlying hu,goInt]
    rfl
  | map n b hb =>
    obtain⟨_,_,mes,clock,a1,a2,_⟩:=KZ hf hg hb
    simp only[execOp,cN,resolve,Sem.run_bind,Sem.run_pure,Result.andThen_ok,invoke,builtin,Builtin.len_,h0,List.map_toArray,aC,bw,hv,bD,bZ,run_underlying hu,goInt,run_getObj_map a1,a2]
 ·simp at hs
theorem b9K (hE:EnvOk E N) {x:Operand} {px:PX} (hc:cx E vs ops x=some px) (hf:FI N w G st a vs (wk vs ops)) (ht:zz st px=some (u,st1)):
  ∃G',FI N w G' st1 a vs (wk vs ops)∧Ext w G w G'∧VR N w G'.fix G'.heap (a.eval x) u:=by
 by_cases j9:∃i g cs,px = .v i∧raw st px=some (.loc g cs)
 ·obtain⟨i,g,cs,rfl,hr⟩:=j9
  simp only[zz,hr,aa,ac] at ht
  obtain⟨rfl,rfl⟩:=ht
  have hs:=BB hE hc hf hr
  obtain⟨b,i',hk,hv,hb,ho,gR,cv,T,hh,hl,iH⟩:=hs
  simp only[zi,Key.var.injEq] at hk
  subst hk
  have fe:=hf.owlt _ _ ho
  let G':GS:={ G with fix:=λb' o=>G.fix b' o∨(b'=b∧o<cs.length),ow:=λb'=>if b'=b then none else G.ow b' }
  have cL:Ext w G w G':=by
   refine⟨rfl,rfl,rfl,ao _,λ_ _ _=>rfl,λ_ _ h=>⟨.inl h,rfl⟩,?_,?_,λ_ _ h=>h,ShapeLe.refl w,rfl⟩
   ·rintro b' o (h|⟨rfl,_⟩)
    ·exact .inl h
    ·refine .inr (.inr ?_)
     rw[show G.ow b'=some (zi (.v i)) from ho]; simp
   ·intro b' h
    simp only[G'] at h
    split at h
    ·simp at h
    ·exact .inr h
  have cP:xq (λk=>k = .var i) w G w G':=by
   refine⟨?_,λ_ _ h=>h⟩
   intro b' k cX hn
   have da:b'≠b:=by rintro rfl; rw[show G.ow b'=some (zi (.v i)) from ho] at cX; simp[zi] at cX; exact hn cX.symm
   refine⟨by simp only[G']; rw[af da]; exact cX,rfl,?_⟩
   rintro o (h|⟨h,_⟩)
   ·exact h
   ·exact absurd h da
  have cT:VR N w G'.fix G'.heap (a.eval x) (.cptr (cs.map dem)):=by
   rw[hv]
   refine .cptr b 0 (cs.map dem) (λk=>cv.getD k undef) ?_ ?_ ?_
   ·intro y hy
    obtain⟨z,hz,rfl⟩:=bl.1 hy
    obtain⟨k,hk⟩:=bh.1 hz
    have cQ:k<cv.size:=by have:=(aj.1 hk).1; omega
    rw[C8]
    exact(iH k cv[k] z (by simp[cQ]) hk).2.1
   ·intro k hk
    simp only[aN] at hk
    have cQ:k<cv.size:=by omega
    refine⟨?_,.inr ⟨rfl,by omega⟩⟩
    simp[World.cell?,hh,cQ]
   ·intro k y hy
    simp only[aF,ab] at hy
    obtain⟨z,hz,rfl⟩:=hy
    have cQ:k<cv.size:=by have:=(aj.1 hz).1; omega
    have:=(iH k cv[k] z (by simp[cQ]) hz).1
    simp only[aM,Array.getElem?_eq_getElem cQ,bI]
    exact this.dem.ext cL
  have hx:∃t,vs[i]? = some t∧a.eval (.tmp t)=a.eval x:=by
   cases x with
   | tmp t =>
     simp only[cx] at hc
     split at hc
     ·rename_i i2 hi
      simp at hc; subst hc
      obtain⟨_,h2⟩:=Cd hi
      exact⟨t,by simpa using h2,rfl⟩
     ·simp at hc
   | const v=>simp only[cx] at hc; split at hc<;>simp at hc
   | global g=>simp[cx] at hc
   | func f=>simp[cx] at hc
  obtain⟨tx,nL,kR⟩:=hx
  refine⟨G',?_,cL,cT⟩
  refine⟨by simp[hf.len],?_,λj' t' u' h1 h2=>(hf.loc j' t' u' h1 h2).keep cL cP (by simp) (by simp),hf.tv,hf.tl,hf.defers,hf.gen,?_,?_,hf.heap.keep cL cP (by rintro k hk rfl; simp[Key.isH] at hk),hf.hdom⟩
  ·intro i' t' u' h1 h2
   simp only[aL] at h2
   split at h2
   ·rename_i hi
    subst hi
    split at h2
    ·simp at h2; subst h2
     have:t'=tx:=by rw[nL] at h1; simpa using h1.symm
     subst this
     exact SR.of_pure (kR▸cT) rfl
    ·simp at h2
   ·rename_i hi
    exact(hf.var i' t' u' h1 h2).keep cL cP (by simp; omega) (by simp)
  ·intro b' k h
   simp only[G'] at h
   split at h
   ·simp at h
   ·exact hf.owlt _ _ h
  ·rintro b' o (h|⟨rfl,_⟩)
   ·exact hf.fixlt _ _ h
   ·exact fe
 ·have fu:zz st px=(rd st px).map (·,st):=by
   unfold zz
   split
   ·rename_i i g cs h; exact absurd ⟨i,g,cs,rfl,h⟩ j9
   ·rfl
  rw[fu] at ht
  simp only[ab,ac] at ht
  obtain⟨r,hr,rfl,rfl⟩:=ht
  exact⟨G,hf,Ext.refl _ _,(wU hE hc hf hr).1⟩
theorem K0 (hE:EnvOk E N):∀{xs:List Operand} {pxs:List PX} {G:GS} {st st1:St} {us:List PV},cxs E vs ops xs=some pxs→FI N w G st a vs (wk vs ops)→xW st pxs=some (us,st1) →
  ∃G',FI N w G' st1 a vs (wk vs ops)∧Ext w G w G'∧xs.length=us.length∧∀(i:Nat) (x:Operand) (u:PV),xs[i]? = some x→us[i]? = some u→VR N w G'.fix G'.heap (a.eval x) u
 | [], pxs, G, st, st1, us, hc, hf, h => by
   simp[cxs] at hc; subst hc
   simp only[xW,aa,ac] at h
   obtain⟨rfl,rfl⟩:=h
   exact⟨G,hf,Ext.refl _ _,rfl,by simp⟩
 | x :: xs, pxs, G, st, st1, us, hc, hf, h => by
   simp only[cxs,ae,ab] at hc
   obtain⟨p,hp,ps,ea,rfl⟩:=hc
   simp only[xW,ae,ab,ac] at h
   obtain⟨⟨v,st2⟩,h1,⟨q,st3⟩,h2,rfl,rfl⟩:=h
   obtain⟨G1,f1,e1,v1⟩:=b9K hE hp hf h1
   obtain⟨G2,f2,e2,l2,v2⟩:=K0 hE ea f1 h2
   refine⟨G2,f2,e1.trans e2,by simp[l2],?_⟩
   intro i y z hy hz
   cases i with
   | zero=>simp at hy hz; subst hy hz; exact v1.ext e2
   | succ i=>exact v2 i y z (by simpa using hy) (by simpa using hz)
theorem b6M (hE:EnvOk E N) (nm:Names vs (wk vs ops)) (ho:ops[j]? = some o) (hf:FI N w G st a vs (wk vs ops)) {f:FuncId} {k:Nat} {xs ys:Array Operand} {ps qs:List PX} (cN:o.op = .makeFunc (.func f) xs ys) (dh:E.inv f=some k)
  (hx:cxs E vs ops xs.toList=some ps) (hy:cxs E vs ops ys.toList=some qs) {cf:wu} (hs:wo cf (.mkfunc k ps qs) st=some (u,st1)) (hk:wG N w G a st1 u vs ops j o next):o.wp P a w next Q:=by
 simp only[wo,ae,ab,ac] at hs
 obtain⟨⟨us,st2⟩,h1,⟨zs,st3⟩,h2,rfl,rfl⟩:=hs
 obtain⟨G1,f1,e1,l1,v1⟩:=K0 hE hx hf h1
 obtain⟨G2,f2,e2,l2,v2⟩:=K0 hE hy f1 h2
 have ei:=hE.fn _ _ dh
 have wc:=hE.yl _ _ dh
 unfold Oper.wp
 have cO:(execOp a.eval o).run P w = .ok (.value (.func (.func f) (xs.map a.eval) (ys.map a.eval))) w:=by
  simp[execOp,cN,Instr.makeFunc]
 rw[cO]
 refine hk _ _ G2 (f2.put nm (yV ho) (SR.of_pure ?_ rfl)) (e1.trans e2) (yW _ _ _)
 subst ei
 refine .func k _ _ us zs wc (by simpa using l1) (by simpa using l2) ?_ ?_
 ·intro i c p hc hp
  simp only[bQ,ab] at hc
  obtain⟨x,eA,rfl⟩:=hc
  exact(v1 i x p (by simpa using eA) hp).ext e2
 ·intro i c p hc hp
  simp only[bQ,ab] at hc
  obtain⟨x,eA,rfl⟩:=hc
  exact v2 i x p (by simpa using eA) hp
theorem HT {t:TypeId} {v c:Value} {b:Bool} (h:(Op.equalIn 10000 t v c).run P w = .ok b w) (op:BinOp) (cN:op = .eql∨op = .neq) (x y:Operand)
  (hg:(eqGuard op t x y v c).run P w = .ok () w) (eC:binOp .eql t v c=(do let r←Op.equal t v c; pure (.bool r))) (dy:binOp .neq t v c=(do let r←Op.equal t v c; pure (.bool !r))):
  (do eqGuard op t x y v c; binOp op t v c:Sem Value).run P w = .ok (.bool (if op == .neq then !b else b)) w:=by
 have h':(Op.equal t v c).run P w = .ok b w:=h
 rcases cN with rfl|rfl
 ·simp only[Sem.run_bind,hg,Result.andThen_ok,eC,h',Sem.run_pure]; rfl
 ·simp only[Sem.run_bind,hg,Result.andThen_ok,dy,h',Sem.run_pure]; rfl
theorem c1p {t e:TypeId} (hu:P.underlying t=some (.slice e)) (ad:Option Addr) (l c:Nat):(Op.equalIn 10000 t (.slice ad l c) (.slice none 0 0)).run P w = .ok ad.isNone w:=by
 unfold Op.equalIn
 simp only[Sem.run_bind,run_underlying hu,Result.andThen_ok]
 cases ad<;>rfl
theorem c6h {t e:TypeId} (hu:P.underlying t=some (.pointer e)) (ad:Option Addr):(Op.equalIn 10000 t (.pointer ad) (.pointer none)).run P w = .ok ad.isNone w:=by
 unfold Op.equalIn
 simp only[Sem.run_bind,run_underlying hu,Result.andThen_ok]
 cases ad<;>rfl
theorem c6i {t k e:TypeId} (hu:P.underlying t=some (.map k e)) (r:Option Nat):(Op.equalIn 10000 t (.map r) (.map none)).run P w = .ok r.isNone w:=by
 unfold Op.equalIn
 simp only[Sem.run_bind,run_underlying hu,Result.andThen_ok]
 cases r<;>rfl
theorem c1q {t:TypeId} {ms:Array (String×TypeId)} (hu:P.underlying t=some (.interface ms)) (v:Value) (b:Bool) (h:(v = .nilIface∧b=true)∨(∃t' x,v = .iface t' x)∧b=false):(Op.equalIn 10000 t v .nilIface).run P w = .ok b w:=by
 unfold Op.equalIn
 simp only[Sem.run_bind,run_underlying hu,Result.andThen_ok]
 rcases h with⟨rfl,rfl⟩|⟨⟨t',x,rfl⟩,rfl⟩<;>rfl
theorem b7S (hE:EnvOk E N) (nm:Names vs (wk vs ops)) (ho:ops[j]? = some o) (hf:FI N w G st a vs (wk vs ops)) {op:BinOp} {t t':TypeId} {x y:Operand} {px:PX} {kd:Nat} (cN:o.op = .binOp op t x y t')
  (fQ:op = .eql∨op = .neq) (ht:Ik P t y=some kd) (hx:cx E vs ops x=some px) {cf:wu} (hs:wo cf (.isnil kd (op == .neq) px) st=some (u,st1)) (hk:wG N w G a st1 u vs ops j o next):o.wp P a w next Q:=by
 simp only[wo,ab,ae,ac] at hs
 obtain⟨b,⟨p,hp,hb⟩,rfl,rfl⟩:=hs
 have hv:=(wU hE hx hf hp).1
 refine wW nm ho hf ?_ (SR.of_pure (.bool _) rfl) hk
 have iU:∀v c:Value,(∀cs,v≠.agg cs)→v≠.nilIface→(eqGuard op t x y v c).run P w = .ok () w:=by
  intro v c h1 h2
  rcases fQ with rfl|rfl<;>cases v<;>cases c<;>first|rfl|exact absurd rfl h2|exact absurd rfl (h1 _)
 have key:(do eqGuard op t x y (a.eval x) (a.eval y); binOp op t (a.eval x) (a.eval y):Sem Value).run P w = .ok (.bool (if op == .neq then !b else b)) w:=by
  unfold Ik at ht
  split at ht<;>simp only[aa,reduceCtorEq] at ht<;>subst ht
  ·rename_i hu
   have dg:∃ad l c,a.eval x = .slice ad l c∧ad.isNone=b:=by
    generalize a.eval x=v at hv
    unfold Ct at hb
    split at hb<;>simp only[aa,reduceCtorEq] at hb<;>subst hb<;>(try (rename_i h0; simp at h0))<;>cases hv<;>first|exact⟨_,_,_,rfl,rfl⟩|simp_all
   obtain⟨ad,l,c,eA,rfl⟩:=dg
   rw[eA]
   exact HT (c1p hu ad l c) op fQ x _ (iU _ _ (by simp) (by simp)) rfl rfl
  ·rename_i hu
   have dg:∃ad,a.eval x = .pointer ad∧ad.isNone=b:=by
    generalize a.eval x=v at hv
    unfold Ct at hb
    split at hb<;>simp only[aa,reduceCtorEq] at hb<;>subst hb<;>(try (rename_i h0; simp at h0))<;>cases hv<;>exact⟨_,rfl,rfl⟩
   obtain⟨ad,eA,rfl⟩:=dg
   rw[eA]
   exact HT (c6h hu ad) op fQ x _ (iU _ _ (by simp) (by simp)) rfl rfl
  ·rename_i hu
   have dg:∃ad,a.eval x = .map ad∧ad.isNone=b:=by
    generalize a.eval x=v at hv
    unfold Ct at hb
    split at hb<;>simp only[aa,reduceCtorEq] at hb<;>subst hb<;>(try (rename_i h0; simp at h0))<;>cases hv<;>exact⟨_,rfl,rfl⟩
   obtain⟨ad,eA,rfl⟩:=dg
   rw[eA]
   exact HT (c6i hu ad) op fQ x _ (iU _ _ (by simp) (by simp)) rfl rfl
  ·rename_i hu
   have dg:(a.eval x = .nilIface∧b=true)∨(∃t' z,a.eval x = .iface t' z)∧b=false:=by
    generalize a.eval x=v at hv
    unfold Ct at hb
    split at hb<;>simp only[aa,reduceCtorEq] at hb<;>subst hb<;>(try (rename_i h0; simp at h0))<;>cases hv<;>first|exact .inl ⟨rfl,rfl⟩|exact .inr ⟨⟨_,_,rfl⟩,rfl⟩
   have hg:(eqGuard op t x (.const .nilIface) (a.eval x) .nilIface).run P w = .ok () w:=by
    rcases dg with⟨h,_⟩|⟨⟨t',z,h⟩,_⟩<;>rw[h]<;>rcases fQ with rfl|rfl<;>simp[eqGuard]
   have he:=c1q (P:=P) (w:=w) hu _ _ dg
   refine HT he op fQ x _ hg ?_ ?_<;>(rcases dg with⟨h,_⟩|⟨⟨t',z,h⟩,_⟩<;>rw[h]<;>rfl)
 simp only[execOp,cN,Sem.run_bind,key,Result.andThen_ok,Sem.run_pure]
theorem b7T (hE:EnvOk E N) (nm:Names vs (wk vs ops)) (ho:ops[j]? = some o) (hf:FI N w G st a vs (wk vs ops)) {t:TypeId} {n:Nat} {x:Operand} {px:PX} (cN:o.op = .load t x) (hn:wP P t=some n)
  (hx:cx E vs ops x=some px) {cf:wu} (hs:wo cf (.loadc n (xi P t) px) st=some (u,st1)) (hk:wG N w G a st1 u vs ops j o next):o.wp P a w next Q:=by
 simp only[wo] at hs
 split at hs
 ·rename_i cs ha
  simp only[ab,ac] at hs
  obtain⟨r,hr,rfl,rfl⟩:=hs
  obtain⟨r',h1,h2,h3⟩:=KK (P:=P) hn (wU hE hx hf ha).1 hr
  exact wW nm ho hf (by simp[execOp,cN,h1]) (SR.of_pure h2 h3) hk
 ·simp at hs
theorem b6N (hE:EnvOk E N) (nm:Names vs (wk vs ops)) (ho:ops[j]? = some o) (hf:FI N w G st a vs (wk vs ops)) {x:Operand} {px:PX} (cN:o.op = .nilCheck x)
  (hx:cx E vs ops x=some px) {cf:wu} (hs:wo cf (.nilchk px) st=some (u,st1)) (hk:wG N w G a st1 u vs ops j o next):o.wp P a w next Q:=by
 have run:∀ad,a.eval x = .pointer (some ad)→(execOp a.eval o).run P w = .ok (.value (.pointer (some ad))) w:=by
  intro ad h
  simp[execOp,cN,h]
 simp only[wo] at hs
 split at hs
 ·rename_i n off ha
  simp only[aa,ac] at hs
  obtain⟨rfl,rfl⟩:=hs
  obtain⟨b,hv,hb⟩:=HP hE hx hf ha
  exact wW nm ho hf (run _ hv) (SR.of_pure (.ptr _ _ b hb) rfl) hk
 ·rename_i cs ha
  simp only[aa,ac] at hs
  obtain⟨rfl,rfl⟩:=hs
  rcases Bb hE hx hf ha with⟨_,_,_,_,h,_⟩|⟨h,_⟩
  ·simp at h
  ·generalize hv:a.eval x=v at h
   have h':=h
   cases h with
   | cptr b off _ cv _ _ _=>exact wW nm ho hf (run _ hv) (SR.of_pure h' rfl) hk
 ·rename_i s g off ha
  simp only[aa,ac] at hs
  obtain⟨rfl,rfl⟩:=hs
  rcases Bb hE hx hf ha with⟨_,_,_,b,h,hv,hb⟩|⟨_,h⟩
  ·simp only[PV.lptr.injEq] at h
   obtain⟨rfl,rfl,rfl⟩:=h
   exact wW nm ho hf (run _ hv) (SR.lptr rfl hb) hk
  ·simp[cp] at h
 ·simp at hs
theorem b9L (hE:EnvOk E N) (nm:Names vs (wk vs ops)) (ho:ops[j]? = some o) (hf:FI N w G st a vs (wk vs ops)) {t e:TypeId} {n size:Nat} {parts:Array (Nat×Operand)} {z:List PV} {ps:List (Nat×Nat×PX)}
  (cN:o.op = .build t parts) (hu:P.underlying t=some (.array n e)) (hn:wP P e=some size) (hz:yf P t=some z)
  (hc:CF E vs ops (λi=>some (i*size,size)) parts.toList=some ps) {cf:wu} (hs:wo cf (.barr z ps) st=some (u,st1)) (hk:wG N w G a st1 u vs ops j o next):o.wp P a w next Q:=by
 simp only[wo,ab,ae,ac] at hs
 obtain⟨rs,⟨qs,hq,wT⟩,rfl,rfl⟩:=hs
 obtain⟨i,zv,hi,jl,_,_,hR,hO⟩:=B7 (N:=N) (w:=w) (fix:=G.fix) (hp:=G.heap) hz
 obtain⟨ie,d,pj,cS,_,_⟩:=yO hn
 obtain⟨ds,h1,h2,h3⟩:=KP hE hf hc hq wT hR hO
 refine wW nm ho hf (v := .agg ds) ?_ (SR.of_pure (by simpa using h2.agg h3) rfl) hk
 have hb:P.built t (parts.map λ(i,x)=>(i,a.eval x)).toList=some ds:=by
  simp only[Program.built,hi,hu,jl,pj,cS]
  simpa using h1
 simp[execOp,cN,run_build w t _ ds hb]
theorem b9M (hE:EnvOk E N) (nm:Names vs (wk vs ops)) (ho:ops[j]? = some o) (hf:FI N w G st a vs (wk vs ops)) {t e:TypeId} {len n:Nat} {x i:Operand} {px pi:PX} (cN:o.op = .index t x i)
  (hu:P.underlying t=some (.array len e)) (hn:wP P e=some n) (hx:cx E vs ops x=some px) (hi:cx E vs ops i=some pi) {cf:wu}
  (hs:wo cf (.idxA len n (xi P e) px pi) st=some (u,st1)) (hk:wG N w G a st1 u vs ops j o next):o.wp P a w next Q:=by
 have eN:n≠0:=by obtain⟨_,_,_,_,h,_⟩:=yO hn; exact h
 simp only[wo] at hs
 split at hs
 ·rename_i ps k ea ic
  split at hs
  ·rename_i dY
   simp only[ab,ac] at hs
   obtain⟨r,hr,rfl,rfl⟩:=hs
   obtain⟨cs,hv,hR⟩:=CellsR.of_agg (wU hE hx hf ea).1
   obtain⟨kk,fT⟩:=BC hE hi hf ic
   obtain⟨h1,h2,h3⟩:=C3 hR hr eN (BL hn)
   refine wW nm ho hf ?_ (SR.of_pure h2 h3) hk
   have hx:(part e cs (k.toNat*n)).run P w = .ok (if xi P e then .agg ((cs.toList.drop (k.toNat*n)).take n).toArray else(cs.toList.drop (k.toNat*n)).headD undef) w:=by
    simp only[part,Sem.run_bind,Dw hn,Sem.run_ite,zx hn,Result.andThen_ok,Sem.run_pure]
    by_cases ha:xi P e=true
    ·simp only[ha,if_true]
     congr 2
     apply Array.ext'
     simp
    ·simp only[Bool.not_eq_true] at ha
     have cQ:k.toNat*n<cs.size:=by simp at h1; omega
     simp[ha,aU (l:=cs.toList) (i:=k.toNat*n) (by simpa using cQ),cQ]
   simp[execOp,cN,Instr.index,fT,asIntOf,run_underlying hu,hv,dY,zx hn,hx]
  ·simp at hs
 ·simp at hs
end
end PI
