import Derived.Test.YtljbhgpanekomaaGreatDoorPiSound1
import Derived.Laws.BytesArg
import Derived.Lib.ConvBytes
import Derived.MapKept
set_option linter.unusedSimpArgs false
set_option linter.unusedVariables false
set_option linter.unusedSectionVars false
namespace PI
open Go
theorem FI.extDst {N:Nm} {w w':World} {G G':GS} {st:St} {a:Act} {vs:List Tmp} {lm:Nat→Option Tmp} {j:Nat} {d:PD} {dst:Option Tmp} {v:Value} {u:PV}
  (h:FI N w G st a vs lm) (nm:Names vs lm) (hd:If vs lm j d dst) (da:d≠.n) (e:Ext w G w' G') (hk:xO (λk=>k=yA d j) w G w' G')
  (hg:∀g b,G'.box g=some b→g<st.gen) (ho:∀b k,G'.ow b=some k→b<w'.heap.size) (hx:∀b o,G'.fix b o→b<w'.heap.size) (hh:G'.heap=G.heap) (hs:SR N w' G' (yA d j) v u):
  FI N w' G' (PI.put st j d u) (a.put dst v) vs lm:=by
 cases d with
 | n=>exact absurd rfl da
 | v i =>
   obtain⟨t,rfl,ht⟩:=hd
   have cQ:=h.tv i t ht
   refine⟨by simp[PI.put,h.len],?_,?_,?_,?_,(h.defers.trans e.df.symm),hg,ho,hx,h.heap.keep e hk (by intro k hk e; subst e; simp[yA,Key.isH] at hk),by rw[hh]; exact h.hdom⟩
   ·intro i' t' u' h1 h2
    rw[Db _ _ _ _ cQ]
    simp only[PI.put,aJ] at h2
    by_cases hi:i=i'
    ·subst hi
     have:t'=t:=by rw[ht] at h1; simpa using h1.symm
     subst this
     split at h2
     ·split at h2
      ·simp at h2; subst h2; simp only[if_true]; exact hs
      ·simp at h2
     ·exact absurd rfl ‹_›
    ·rw[af hi] at h2
     have c9:t'≠t:=λe=>hi (nm.vnd i i' t ht (e▸h1))
     rw[af c9]
     exact(h.var i' t' u' h1 h2).keep e hk (by simp[yA]; omega) (by simp[yA])
   ·intro j' t' u' h1 h2
    rw[Db _ _ _ _ cQ,af (λe:t'=t=>nm.sep j' t' i h1 (e▸ht))]
    exact(h.loc j' t' u' h1 h2).keep e hk (by simp[yA]) (by simp)
   ·intro i' t' h1; simpa[Act.put] using h.tv i' t' h1
   ·intro j' t' h1; simpa[Act.put] using h.tl j' t' h1
 | l =>
   obtain⟨t,rfl,ht⟩:=hd
   have cQ:=h.tl j t ht
   refine⟨h.len,?_,?_,?_,?_,(h.defers.trans e.df.symm),hg,ho,hx,h.heap.keep e hk (by intro k hk e; subst e; simp[yA,Key.isH] at hk),by rw[hh]; exact h.hdom⟩
   ·intro i' t' u' h1 h2
    rw[Db _ _ _ _ cQ,af (λe:t'=t=>nm.sep j t i' ht (e▸h1))]
    exact(h.var i' t' u' h1 h2).keep e hk (by simp[yA]) (by simp[yA])
   ·intro j' t' u' h1 h2
    rw[Db _ _ _ _ cQ]
    simp only[PI.put,aJ] at h2
    by_cases hj:j=j'
    ·subst hj
     have:t'=t:=by rw[ht] at h1; simpa using h1.symm
     subst this
     split at h2
     ·split at h2
      ·simp at h2; subst h2; simp only[if_true]; exact hs
      ·simp at h2
     ·exact absurd rfl ‹_›
    ·rw[af hj] at h2
     have c9:t'≠t:=λe=>hj (nm.lnd j j' t ht (e▸h1))
     rw[af c9]
     exact(h.loc j' t' u' h1 h2).keep e hk (by simp[yA]; omega) (by simp)
   ·intro i' t' h1; simpa[Act.put] using h.tv i' t' h1
   ·intro j' t' h1; simpa[Act.put] using h.tl j' t' h1
theorem SR.own {N:Nm} {w:World} {G:GS} {key:Key} {v:Value} {es:List PV} (h:VR N w G.fix G.heap v (.list true es)) (hr:Room w G key v es):SR N w G key v (.list true es):=⟨h,hr⟩
structure ListR (N:Nm) (w:World) (fix:Nat→Nat→Prop) (hp:Nat→Option Nat) (size:Nat) (news:List Value) (es:List PV):Prop where
 len:news.length=es.length*size
 sz:∀e∈es,e.cells.length=size
 flat:∀e∈es,∀x∈e.cells,x.flat=true
 vr:∀(i:Nat) (e:PV),es[i]? = some e→∀(k:Nat) (c:Value) (x:PV),news[i*size+k]? = some c→e.cells[k]? = some x→VR N w fix hp c x
section
variable {E:Env} {N:Nm} {w:World} {G:GS} {st:St} {a:Act} {vs:List Tmp} {ops:List Oper} {P:Program}
variable {o:Oper} {j:Nat} {next:Act→World→Prop} {Q:Exit→Act→World→Prop} {u:PV} {st1:St}
theorem ListR.append {fix:Nat→Nat→Prop} {hp:Nat→Option Nat} {size:Nat} {xs ys:List Value} {es fs:List PV} (h:ListR N w fix hp size xs es) (k:ListR N w fix hp size ys fs) (hs:size≠0):
  ListR N w fix hp size (xs++ys) (es++fs):=by
 refine⟨by simp[h.len,k.len,aP],?_,?_,?_⟩
 ·intro e he; rcases ax.1 he with he|he
  ·exact h.sz e he
  ·exact k.sz e he
 ·intro e he; rcases ax.1 he with he|he
  ·exact h.flat e he
  ·exact k.flat e he
 ·intro i e he m c x hc hx
  by_cases hi:i<es.length
  ·rw[am hi] at he
   have hm:m<size:=by have:=(aj.1 hx).1; have:=h.sz e (aw he); omega
   rw[am (by rw[h.len]; exact Ik hi hm)] at hc
   exact h.vr i e he m c x hc hx
  ·rw[ap (by omega)] at he
   have oN:xs.length≤i*size+m:=by
    rw[h.len]
    have:es.length*size≤i*size:=bm _ (by omega)
    omega
   rw[ap oN,h.len] at hc
   refine k.vr _ e he m c x ?_ hx
   rw[show (i - es.length)*size+m=i*size+m - es.length*size by
    rw[Nat.sub_mul]
    have:es.length*size≤i*size:=bm _ (by omega)
    omega]
   exact hc
theorem ListR.mono {w':World} {fix fix':Nat→Nat→Prop} {hp fk:Nat→Option Nat} {size:Nat} {xs:List Value} {es:List PV} (h:ListR N w fix hp size xs es)
  (hf:∀b o,fix b o→fix' b o∧w'.cell? ⟨b,o,none⟩=w.cell? ⟨b,o,none⟩) (hh:∀n b,hp n=some b→fk n=some b) (hs:ShapeLe w w'):ListR N w' fix' fk size xs es:=
 ⟨h.len,h.sz,h.flat,λi e he k c x hc hx=>(h.vr i e he k c x hc hx).mono hf hh hs⟩
theorem ListR.one {fix:Nat→Nat→Prop} {hp:Nat→Option Nat} {size:Nat} {xs:List Value} {es:List PV} (h:ListR N w fix hp size xs es) (hs:size≠0):∀c∈xs,c.oneCell'=true:=by
 intro c hc
 obtain⟨m,hm⟩:=be.1 hc
 have cO:m<es.length*size:=by have:=(aj.1 hm).1; rw[h.len] at this; exact this
 have hi:m / size<es.length:=by rw[Nat.div_lt_iff_lt_mul (by omega)]; exact cO
 have hk:m % size<size:=bZ _ (by omega)
 have he:=an hi
 have eI:=aw he
 have lq:m % size<(es[m / size]).cells.length:=by rw[h.sz _ eI]; exact hk
 have hx:=an lq
 have vY:m / size*size+m % size=m:=by rw[Nat.mul_comm]; exact Nat.div_add_mod m size
 have h1:=(h.vr _ _ he _ c _ (by rw[vY]; exact hm) hx).oneCell (h.flat _ eI _ (aw hx))
 cases c<;>first|rfl|simp[oneCell] at h1
theorem LO {fix:Nat→Nat→Prop} {hp:Nat→Option Nat} {size:Nat} {v:Value} {own:Bool} {es:List PV} (h:VR N w fix hp v (.list own es)) (hh:xq size es=true):
  ∃ news, ListR N w fix hp size news es ∧ ((v = .slice none 0 0 ∧ es = [] ∧ news = []) ∨ (∃ ad cap, v = .slice (some ad) 0 cap ∧ es = [] ∧ news = []) ∨
    ∃b off cap,v = .slice (some ⟨b,off,none⟩) es.length cap∧es.length≤cap∧∀(j:Nat) (u:Value),news[j]? = some u→w.cell? ⟨b,off+j,none⟩=some u∧fix b (off+j)):=by
 cases h with
 | nils=>exact⟨[],⟨by simp,by simp,by simp,by simp⟩,.inl ⟨rfl,rfl,rfl⟩⟩
 | void _ ad cap=>exact⟨[],⟨by simp,by simp,by simp,by simp⟩,.inr (.inl ⟨ad,cap,rfl,rfl,rfl⟩)⟩
 | list _ b off len cap sz _ cv cI cT cQ cS hcell cR =>
   subst cI
   by_cases h0:es=[]
   ·subst h0
    exact⟨[],⟨by simp,by simp,by simp,by simp⟩,.inr (.inr ⟨b,off,cap,rfl,cT,by simp⟩)⟩
   ·have hs:sz=size:=by
     cases es with
     | nil=>exact absurd rfl h0
     | cons y ys =>
       have:=cQ y (by simp)
       simp[xq] at hh
       omega
    subst hs
    refine⟨(List.range (es.length*sz)).map cv,⟨by simp,cQ,cS,?_⟩,.inr (.inr ⟨b,off,cap,rfl,cT,?_⟩)⟩
    ·intro i e he k c x hc hx
     simp only[aB,ab] at hc
     obtain⟨m,hm,rfl⟩:=hc
     have:m=i*sz+k:=by
      have:=(aj.1 hm)
      obtain⟨h1,h2⟩:=this
      simp at h2; exact h2.symm
     subst this
     exact cR i e he k x hx
    ·intro j u hu
     simp only[aB,ab] at hu
     obtain⟨m,hm,rfl⟩:=hu
     have kW:m=j∧j<es.length*sz:=by
      obtain⟨h1,h2⟩:=aj.1 hm
      simp at h1 h2; exact⟨h2.symm,h1⟩
     obtain⟨rfl,cO⟩:=kW
     exact hcell m cO
theorem Im {fix:Nat→Nat→Prop} {hp:Nat→Option Nat} {size b off cap:Nat} {own:Bool} {es:List PV} {news:List Value} (h:ListR N w fix hp size news es) (cT:es.length≤cap)
  (hc:∀(j:Nat) (u:Value),news[j]? = some u→w.cell? ⟨b,off+j,none⟩=some u∧fix b (off+j)):VR N w fix hp (.slice (some ⟨b,off,none⟩) es.length cap) (.list own es):=by
 refine .list own b off es.length cap size es (λk=>news.getD k undef) rfl cT h.sz h.flat ?_ ?_
 ·intro k hk
  have cO:k<news.length:=by rw[h.len]; exact hk
  have:=hc k news[k] (an cO)
  simpa[List.getD,an cO] using this
 ·intro i e he k x hx
  have hk:k<size:=by have:=(aj.1 hx).1; have:=h.sz e (aw he); omega
  have hi:i<es.length:=(aj.1 he).1
  have cO:i*size+k<news.length:=by rw[h.len]; exact Ik hi hk
  have:=h.vr i e he k news[i*size+k] x (an cO) hx
  simpa[List.getD,an cO] using this
theorem Io (P:Program) (g o:Nat) (t:TypeId) (fz:Nat×Nat):∀(vs:List Value) (i:Nat) (cur:Array Value) (w:World),w.heap[g]? = some (.cells cur t fz)→(∀o,o<cur.size→¬(fz.1≤o∧o<fz.2))→o+i+vs.length≤cur.size→(∀v∈vs,v.oneCell'=true) →
  (storeCells ⟨g,o,none⟩ vs i).run P w = .ok () (w.setRow g (cur.toList.take (o+i)++vs++cur.toList.drop (o+i+vs.length)).toArray)
 | [], i, cur, w, hg, _, _, _ => by
   simp only[storeCells,aL,cj,br,bO,Array.toArray_toList]
   rw[setRow_self w g cur t fz hg]
   rfl
 | v :: rest, i, cur, w, hg, hz, hl, h1 => by
   have hi:o+i<cur.size:=by simp at hl; omega
   have dH:(⟨g,o,none⟩:Addr).add i=⟨g,o+i,none⟩:=by unfold Addr.add; split<;>simp_all
   have hcell:w.cell? ⟨g,o+i,none⟩=some cur[o+i]:=by simp[World.cell?,hg,hi]
   have sL:w.frozen? ⟨g,o+i,none⟩=false:=by
    have:=hz _ hi
    obtain⟨lo,jZ⟩:=fz
    simp only at this
    simp only[World.frozen?,hg,Bool.and_eq_false_iff,aT]
    omega
   have dz:(store ((⟨g,o,none⟩:Addr).add i) v).run P w = .ok () (w.setRow g (cur.setIfInBounds (o+i) v)):=by
    rw[dH,run_store P w _ v _ (h1 v (by simp)),hcell]
    simp[sL,setCell_eq_setRow w g (o+i) cur t fz v hg]
   have ih:=Io P g o t fz rest (i+1) (cur.setIfInBounds (o+i) v) (w.setRow g (cur.setIfInBounds (o+i) v)) (setRow_heap w g cur _ t _ hg) (by simpa using hz) (by simp at hl ⊢; omega) (λx hx=>h1 x (by simp[hx]))
   simp only[storeCells,Sem.run_bind,dz,Result.andThen_ok,ih,setRow_setRow]
   congr 3
   have e:=list_seg_step cur.toList (o+i) v rest (by simp at hl ⊢; omega)
   simpa[Array.toList_setIfInBounds,b8] using e
theorem QM (hE:EnvOk E N) (nm:Names vs (wq vs ops)) (ho:ops[j]? = some o) (hf:FI N w G st a vs (wq vs ops)) {ts tx e:TypeId} {size:Nat} {z:List PV} {s x:Operand} {ps:PX}
  (cK:o.op = .call { callee := .builtin .append,args := #[s,x],argTypes := #[ts,tx] }) (dZ:wS vs o.dst≠.n) (eo:P.underlying ts=some (.slice e)) (hn:wT P e=some size) (hz:yE P e=some z)
  (jC:cx E vs ops s=some ps) {es xs:List PV} {st':St} (ek:tk st ps=some (.list true es,st')) (lN:xq size es=true) (cI:es.length+xs.length≤9223372036854775807) (ez:(es.length+xs.length)*P.bytesOf e≤140737488355328)
  {news:List Value} (fx:ListR N w G.fix G.heap size news xs) (dR:Src P size tx (a.eval x) xs.length news w)
  (hk:wN N w G a st' (.list true (es++xs)) vs ops j o next):o.wp P a w next Q:=by
 obtain⟨i,d,hi,gV,fE,hd⟩:=zu hn
 obtain⟨i2,zv,dS,jE,_,j5,gW,_⟩:=Ct (N:=N) (w:=w) (fix:=G.fix) (hp:=G.heap) hz
 have:i2=i:=by rw[hi] at dS; simpa using dS.symm
 subst this
 subst gV
 have gB:zv.cells.size=i2.size:=by have:=gW.1; simp at this; omega
 have ik:P.bytesOf e=i2.bytes:=by simp[Program.bytesOf,hi]
 rw[ik] at ez
 obtain⟨G1,de,dW,iL,eM,dJ,cR,fv,_,vZ,_⟩:=EJ hE jC hf ek (yA (wS vs o.dst) j)
 obtain⟨olds,pL,ea⟩:=LO cR lN
 have dA:Room w G1 (yA (wS vs o.dst) j) (a.eval s) es:=fv
 have gX:∀v w',(Builtin.append_ #[ts,tx] o.type #[a.eval s,a.eval x]).run P w = .ok v w'→(execOp a.eval o).run P w = .ok (.value v) w':=by
  intro v w' hr
  simp[execOp,cK,resolve,invoke,builtin,hr]
 have pM:ListR N w G1.fix G1.heap i2.size news xs:=by rw[eM,dJ]; exact fx
 have pN:ListR N w G1.fix G1.heap i2.size olds es:=by rw[eM,dJ]; exact pL
 have nf:VR N w G1.fix G1.heap (a.eval s) (.list true es):=by rw[eM,dJ]; exact cR
 have finish:∀(v:Value) (w':World) (G':GS),(Builtin.append_ #[ts,tx] o.type #[a.eval s,a.eval x]).run P w = .ok v w'→Ext w G1 w' G'→xO (λk=>k=yA (wS vs o.dst) j) w G1 w' G' →
   (∀g b,G'.box g=some b→G1.box g=some b)→(∀b k,G'.ow b=some k→b<w'.heap.size)→(∀b o,G'.fix b o→b<w'.heap.size)→G'.heap=G1.heap→VR N w' G'.fix G'.heap v (.list true (es++xs))→Room w' G' (yA (wS vs o.dst) j) v (es++xs) →
   o.wp P a w next Q:=by
  intro v w' G' hr cH cM sC how fC hh hv pO
  unfold Oper.wp
  rw[gX v w' hr]
  refine hk _ _ G' (de.extDst nm (zK ho) dZ cH cM ?_ how fC hh (SR.own hv pO)) (dW.trans cH) (zL _ _ _)
  intro g b hb
  exact de.gen g b (sC g b hb)
 by_cases jF:∃base cap,a.eval s = .slice base es.length cap∧cap<es.length+xs.length
 ·
  obtain⟨base,cap,hv,cT⟩:=jF
  have gY:(Builtin.firstCells i2.size es.length (.slice base es.length cap)).run P w.drew = .ok olds.toArray w.drew:=by
   rcases ea with⟨h1,h2,h3⟩|⟨ad,cap',h1,h2,h3⟩|⟨b,off,cap',h1,h2,h3⟩
   ·rw[hv] at h1; simp at h1
    obtain⟨rfl,_,rfl⟩:=h1
    subst h3
    exact run_firstCells_none w.drew _ _ _ _
   ·rw[hv] at h1; simp at h1
    obtain⟨rfl,_,rfl⟩:=h1
    subst h3
    rw[h2]
    exact run_firstCells_some w.drew _ _ _ _ _ [] (by simp) (by simp)
   ·rw[hv] at h1; simp at h1
    obtain⟨rfl,rfl⟩:=h1
    exact run_firstCells_some w.drew _ _ _ _ _ olds pL.len (λj u hu=>by rw[Ai]; exact(h3 j u hu).1)
  have gT:Builtin.nextslicecap (es.length+xs.length) cap*i2.bytes≤281474976710656:=by
   exact growslice_fits cT ez
  have cL:=run_append_grow_src (P:=P) w ts tx o.type e i2 zv eo hi jE base es.length cap olds gY (a.eval x) xs.length news dR cT (by omega) gT
  rw[← hv] at cL
  have fJ:∀o,¬G1.fix w.heap.size o:=λo h=>by have:=de.fixlt _ _ h; omega
  have gp:=grownCap_ge w (es.length+xs.length) cap e
  let CS:Array Value:=(olds++news).toArray++Builtin.zeroCells zv.cells (grownCap w (es.length+xs.length) cap e - (es.length+xs.length))
  let G':GS:={ G1 with fix:=λb o=>G1.fix b o∨(b=w.heap.size∧o<(es.length+xs.length)*i2.size),ow:=λb=>if b=w.heap.size then some (yA (wS vs o.dst) j) else G1.ow b }
  have hR:=pN.append pM fE
  have sM:CS.size=grownCap w (es.length+xs.length) cap e*i2.size:=by
   simp only[CS,bL,cq,size_zeroCells,gB,hR.len,av]
   rw[Nat.sub_mul]
   have:(es.length+xs.length)*i2.size≤grownCap w (es.length+xs.length) cap e*i2.size:=bm _ gp
   omega
  have cH:Ext w G1 (w.drew.alloc (.cells CS e)) G':=by
   refine⟨rfl,rfl,rfl,by simp,λb hb _=>zt (w:=w.drew) hb,λb o h=>⟨.inl h,Dl (w:=w.drew) (de.fixlt _ _ h)⟩,?_,?_,λ_ _ h=>h,.same λk hk=>zt (w:=w.drew) hk,rfl⟩
   ·rintro b o (h|h)
    ·exact .inl h
    ·exact .inr (.inl (by omega))
   ·intro b hb
    simp only[G'] at hb
    split at hb
    ·exact .inl (by omega)
    ·exact .inr hb
  refine finish _ _ G' cL cH ?_ (λ_ _ h=>h) ?_ ?_ rfl ?_ ?_
  ·refine⟨?_,λ_ _ h=>h⟩
   intro b k hb _
   have cO:=de.owlt _ _ hb
   refine⟨?_,zt (w:=w.drew) cO,?_⟩
   ·simp only[G']; rw[af (by omega)]; exact hb
   ·rintro o (h|h)
    ·exact h
    ·omega
  ·intro b k hb
   simp only[G'] at hb
   split at hb
   ·simp; omega
   ·have:=de.owlt _ _ hb; simp; omega
  ·rintro b o (h|h)
   ·have:=de.fixlt _ _ h; simp; omega
   ·simp; omega
  ·have dp:(es++xs).length=es.length+xs.length:=by simp
   have dQ:VR N (w.drew.alloc (.cells CS e)) G'.fix G'.heap (.slice (some ⟨w.heap.size,0,none⟩) (es++xs).length (grownCap w (es.length+xs.length) cap e)) (.list true (es++xs)) := ?_
   ·rw[dp] at dQ; exact dQ
   refine Im (hR.mono cH.fix cH.heap cH.shape) (by rw[dp]; exact gp) ?_
   intro j' u' hu
   have cO:j'<(olds++news).length:=(aj.1 hu).1
   refine⟨?_,.inr ⟨rfl,by rw[hR.len,dp] at cO; omega⟩⟩
   rw[aK]
   have:=World.cell?_alloc_new w.drew CS e j'
   refine this.trans ?_
   simp only[CS]
   rw[bo (by simpa using cO)]
   simpa using hu
  ·refine .inr ⟨by simp[G'],i2.size,CS,e,hR.sz,.of (Bg (w:=w.drew)),by rw[sM]; simp,by omega,?_⟩
   rintro o' eN (h|h)
   ·exact fJ _ h
   ·simp at eN; omega
 ·
  have kl:∃base cap,a.eval s = .slice base es.length cap:=by
   rcases ea with⟨h1,h2,_⟩|⟨ad,cap,h1,h2,_⟩|⟨b,off,cap,h1,_⟩
   ·exact⟨none,0,by rw[h1,h2]; rfl⟩
   ·exact⟨some ad,cap,by rw[h1,h2]; rfl⟩
   ·exact⟨_,cap,h1⟩
  obtain⟨base,cap,hv⟩:=kl
  have el:es.length+xs.length≤cap:=by
   rcases Nat.lt_or_ge cap (es.length+xs.length) with h|h
   ·exact absurd ⟨base,cap,hv,h⟩ jF
   ·exact h
  by_cases fV:xs=[]
  ·subst fV
   have kq:news=[]:=by have:=fx.len; simpa using this
   subst kq
   have cL:(Builtin.append_ #[ts,tx] o.type #[a.eval s,a.eval x]).run P w = .ok (a.eval s) w:=by
    rw[hv]
    have sN:es.length≤cap:=by simpa using el
    have jz:(Builtin.lenOf (a.eval x)).run P w = .ok 0 w:=by simpa using dR.len w
    have kA:(Builtin.firstCells i2.size 0 (a.eval x)).run P w = .ok #[] w:=by simpa using dR.cells
    rcases dR.kind with⟨e'',dh⟩|dh <;>
     cases base<;>simp[Builtin.append_,run_underlying eo,run_underlying dh,Go.sizeOf,typeInfo,hi,jz,sN,kA,storeCells]
   refine finish _ w G1 cL (Ext.refl _ _) ⟨λb k h _=>⟨h,rfl,λ_ h=>h⟩,λ_ _ h=>h⟩ (λ_ _ h=>h) de.owlt de.fixlt rfl (by simpa using nf) (by simpa using dA)
  ·
   have tc:0<xs.length:=bC.2 fV
   rcases ea with⟨h1,h2,_⟩|⟨ad,cap',h1,h2,_⟩|⟨b,off,cap',h1,h2,h3⟩
   ·rw[hv] at h1; simp at h1; omega
   ·have sO:base=some ad∧cap=cap':=by rw[hv,h2] at h1; simpa using h1
    obtain⟨rfl,rfl⟩:=sO
    rw[hv] at dA
    rw[h2] at dA el
    rcases dA with dA|⟨_,_,_,_,_,_,_,dU,_⟩
    ·simp at el dA; omega
    ·simp at dU
   ·have sO:base=some ⟨b,off,none⟩∧cap=cap':=by rw[hv] at h1; simpa using h1
    obtain⟨rfl,rfl⟩:=sO
    rw[hv] at dA
    rcases dA with dA|⟨how,sz,cur,T,cQ,⟨fz,dX,ng⟩,gT,dU,d3⟩
    ·omega
    ·have sP:sz=i2.size:=by
      cases es with
      | nil=>simp at dU
      | cons y ys=>have:=cQ y (by simp); have:=pL.sz y (by simp); omega
     subst sP
     simp only at how dX gT d3 ng
     have sQ:off+es.length*i2.size+news.length≤cur.size:=by
      rw[fx.len]
      have:(es.length+xs.length)*i2.size≤cap*i2.size:=bm _ el
      rw[aP] at this; omega
     let NR:Array Value:=(cur.toList.take (off+es.length*i2.size)++news++cur.toList.drop (off+es.length*i2.size+news.length)).toArray
     have cL:(Builtin.append_ #[ts,tx] o.type #[a.eval s,a.eval x]).run P w = .ok (.slice (some ⟨b,off,none⟩) (es.length+xs.length) cap) (w.setRow b NR):=by
      have dz:=Io P b (off+es.length*i2.size) T fz news 0 cur w dX ng (by simpa using sQ) (fx.one fE)
      simp only[br] at dz
      rw[hv]
      rcases dR.kind with⟨e'',dh⟩|dh <;>
       simp[Builtin.append_,run_underlying eo,run_underlying dh,Go.sizeOf,typeInfo,hi,dR.len,el,dR.cells,Ai,dz,NR]
     have fp:b<w.heap.size:=de.owlt _ _ how
     have cV:∀x,x≠b→(w.setRow b NR).heap[x]? = w.heap[x]? := λx hx=>setRow_other w b x _ hx
     let G':GS:={ G1 with fix:=λb' o=>G1.fix b' o∨(b'=b∧off+es.length*i2.size≤o∧o<off+(es.length+xs.length)*i2.size) }
     have jT:NR.size=cur.size:=by simp only[NR,cq,av,bG,cz,aV]; omega
     have qS:∀k,k<off+es.length*i2.size→NR[k]? = cur[k]? := by
      intro k hk
      simp only[NR,bI,aC]
      rw[am (by simp; omega),aQ,ah hk]
      simp
     have sR:∀k,k<news.length→NR[off+es.length*i2.size+k]? = news[k]? := by
      intro k hk
      have hl:(cur.toList.take (off+es.length*i2.size)).length=off+es.length*i2.size:=by simp; omega
      simp only[NR,bI,aC]
      rw[ap (by omega),hl,am (by omega)]
      congr 1; omega
     have kQ:∀k,(w.setRow b NR).cell? ⟨b,k,none⟩=NR[k]? := λk=>cell_setRow_same w b k cur NR T fz dX
     have cH:Ext w G1 (w.setRow b NR) G':=by
      refine⟨rfl,rfl,rfl,by simp[World.setRow],?_,?_,?_,λ_ h => .inr h,λ_ _ h=>h,Gg dX _ jT,rfl⟩
      ·intro y _ jP
       exact cV y (by rintro rfl; rw[how] at jP; simp at jP)
      ·intro y o' fC
       refine⟨.inl fC,?_⟩
       by_cases jG:y=b
       ·subst jG
        have cO:o'<off+es.length*i2.size:=by
         rcases Nat.lt_or_ge o' (off+es.length*i2.size) with h|h
         ·exact h
         ·exact absurd fC (d3 o' h)
        rw[kQ,qS o' cO]
        simp[World.cell?,dX]
       ·simp only[World.cell?,cV y jG]
      ·rintro y o' (h|h)
       ·exact .inl h
       ·exact .inr (.inr (by rw[h.1,how]; simp))
     refine finish _ _ G' cL cH ?_ (λ_ _ h=>h) (λy k hy=>by simpa[World.setRow] using de.owlt y k hy) ?_ rfl ?_ ?_
     ·refine⟨?_,λ_ _ h=>h⟩
      intro y k hy gJ
      have jG:y≠b:=by rintro rfl; rw[how] at hy; simp at hy; exact gJ hy.symm
      refine⟨hy,cV y jG,?_⟩
      rintro o' (h|h)
      ·exact h
      ·exact absurd h.1 jG
     ·rintro y o' (h|h)
      ·simpa[World.setRow] using de.fixlt _ _ h
      ·simp[World.setRow]; omega
     ·have dp:(es++xs).length=es.length+xs.length:=by simp
      rw[← dp]
      refine Im ((pN.append pM fE).mono cH.fix cH.heap cH.shape) (by rw[dp]; exact el) ?_
      intro k u' hu
      by_cases ic:k<olds.length
      ·rw[am ic] at hu
       obtain⟨c1,c2⟩:=h3 k u' hu
       have:=cH.fix b (off+k) (by rw[eM]; exact c2)
       exact⟨this.2.trans c1,this.1⟩
      ·rw[ap (by omega)] at hu
       have cO:k - olds.length<news.length:=(aj.1 hu).1
       have he:off+k=off+es.length*i2.size+(k - olds.length):=by have:=pL.len; omega
       refine⟨?_,.inr ⟨rfl,?_,?_⟩⟩
       ·rw[kQ,he,sR _ cO]; exact hu
       ·rw[he]; omega
       ·rw[he,aP]; have:=fx.len; omega
     ·refine .inr ⟨how,i2.size,NR,T,?_,⟨fz,setRow_heap w b cur NR T fz dX,λo ho=>ng o (by rw[← jT]; exact ho)⟩,?_,by omega,?_⟩
      ·intro y hy
       rcases ax.1 hy with hy|hy
       ·exact pL.sz y hy
       ·exact fx.sz y hy
      ·simp only[NR,cq,av,bG,cz,aV]; omega
      ·rintro o' eN (h|h)
       ·refine d3 o' ?_ h
        simp only[av,aP] at eN
        omega
       ·simp only[av,aP] at eN
        have:=h.2.2
        rw[aP] at this
        omega
theorem b8h (hE:EnvOk E N) (nm:Names vs (wq vs ops)) (ho:ops[j]? = some o) (hf:FI N w G st a vs (wq vs ops)) {ts tx e e':TypeId} {size:Nat} {z:List PV} {s x:Operand} {ps px:PX}
  (cK:o.op = .call { callee := .builtin .append,args := #[s,x],argTypes := #[ts,tx] }) (dZ:wS vs o.dst≠.n) (eo:P.underlying ts=some (.slice e)) (gy:P.underlying tx=some (.slice e')) (hn:wT P e=some size) (hz:yE P e=some z)
  (jC:cx E vs ops s=some ps) (hx:cx E vs ops x=some px) {cf:wE} (hs:opv cf (.append size (P.bytesOf e) ps px) st=some (u,st1)) (hk:wN N w G a st1 u vs ops j o next):o.wp P a w next Q:=by
 simp only[opv] at hs
 split at hs
 ·rename_i xs es st' pP ek
  split at hs
  ·rename_i cP
   obtain⟨lN,fQ,kR⟩:=cP
   have cI:es.length+xs.length≤9223372036854775807:=by rcases kR with⟨h,_⟩|⟨h,_⟩<;>omega
   have ez:(es.length+xs.length)*P.bytesOf e≤140737488355328:=by
    rcases kR with⟨h,h'⟩|⟨_,h⟩
    ·exact aR (Nat.mul_le_mul h h') (by decide)
    ·exact h
   simp only[aa,ac] at hs
   obtain⟨rfl,rfl⟩:=hs
   simp only[ai] at pP
   obtain⟨px0,jw,kS⟩:=pP
   have gE:=(wW hE hx hf jw).1.row kS
   obtain⟨news,fx,sS⟩:=LO gE fQ
   obtain⟨_,_,_,_,fE,_⟩:=zu hn
   have dR:Src P size tx (a.eval x) xs.length news w:=by
    rcases sS with⟨h1,h2,h3⟩|⟨ad,cap,h1,h2,h3⟩|⟨b,off,cap,h1,h2,h3⟩
    ·rw[h1,h2,h3]; exact Src.ofNil w gy 0
    ·rw[h1,h2,h3]; exact Src.ofSlice w gy ad 0 cap [] (by simp) (by simp) (by simp)
    ·rw[h1]
     exact Src.ofSlice w gy ⟨b,off,none⟩ xs.length cap news fx.len (λj u hu=>by rw[Ai]; exact(h3 j u hu).1) (fx.one fE)
   exact QM hE nm ho hf cK dZ eo hn hz jC ek lN cI ez fx dR hk
  ·simp at hs
 ·simp at hs
theorem QN (fix:Nat→Nat→Prop) (hp:Nat→Option Nat) (s:ByteArray):ListR N w fix hp 1 (byteCells s) (AN s.data.toList):=by
 refine⟨by rw[byteCells_length,Nat.mul_one]; simp only[AN,aS,aV]; rfl,?_,?_,?_⟩
 ·intro e he
  obtain⟨b,_,rfl⟩:=a8.1 he
  rfl
 ·intro e he x hx
  obtain⟨b,_,rfl⟩:=a8.1 he
  simp only[PV.cells,bH] at hx
  subst hx; rfl
 ·intro i e he k c x hc hx
  simp only[AN,aB,ab] at he
  obtain⟨b,hb,rfl⟩:=he
  cases k with
  | zero =>
    simp only[PV.cells,ci,aa] at hx
    subst hx
    simp only[byteCells,Nat.mul_one,br,aB,ab] at hc
    obtain⟨b',cW,rfl⟩:=hc
    rw[hb] at cW; cases cW
    exact .int _ _
  | succ k=>simp[PV.cells] at hx
theorem b9j (s:List UInt8):(AN s).length=s.length:=by simp[AN]
theorem b8j (hE:EnvOk E N) (nm:Names vs (wq vs ops)) (ho:ops[j]? = some o) (hf:FI N w G st a vs (wq vs ops)) {ts tx e:TypeId} {z:List PV} {s x:Operand} {ps px:PX}
  (cK:o.op = .call { callee := .builtin .append,args := #[s,x],argTypes := #[ts,tx] }) (dZ:wS vs o.dst≠.n) (eo:P.underlying ts=some (.slice e)) (gy:P.underlying tx=some .string) (hn:wT P e=some 1) (hz:yE P e=some z) (eJ:P.bytesOf e=1)
  (jC:cx E vs ops s=some ps) (hx:cx E vs ops x=some px) {cf:wE} (hs:opv cf (.appstr ps px) st=some (u,st1)) (hk:wN N w G a st1 u vs ops j o next):o.wp P a w next Q:=by
 simp only[opv] at hs
 split at hs
 ·rename_i xs es st' jw ek
  split at hs
  ·rename_i cP
   obtain⟨lN,cI⟩:=cP
   simp only[aa,ac] at hs
   obtain⟨rfl,rfl⟩:=hs
   have gE:=(wW hE hx hf jw).1
   generalize hv:a.eval x=v at gE
   cases gE with
   | str s0 =>
     have hl:(AN s0.data.toList).length=s0.size:=by simp only[AN,aS,aV]; rfl
     have ei:s0.data.toList.length=s0.size:=aV
     refine QM (xs:=AN s0.data.toList) (news:=byteCells s0) hE nm ho hf cK dZ eo hn hz jC ek lN (by omega) (by rw[eJ]; omega) (QN _ _ _) ?_ hk
     rw[hv,hl]
     exact Src.ofString w gy s0
  ·simp at hs
 ·simp at hs
theorem b6z {fix:Nat→Nat→Prop} {hp:Nat→Option Nat} {v:Value} {es:List PV} {bs:List UInt8} (h:VR N w fix hp v (.list false es)) (hb:bytesOf es=some bs):
  (∃l c,v = .slice none l c∧bs=[])∨∃ad c,v = .slice (some ad) bs.length c∧((bs=[])∨(ad.spot=none∧∀i,i<bs.length→w.cell? ⟨ad.block,ad.off+i,none⟩=some (.int .u8 ((bs.map λb=>(b.toNat:Int)).getD i 0)))):=by
 have key:∀{es:List PV} {bs:List UInt8},bytesOf es=some bs→es.length=bs.length∧∀(i:Nat) (e:PV),es[i]? = some e→e = .int .u8 ((bs.map λb=>(b.toNat:Int)).getD i 0):=by
  intro es
  induction es with
  | nil=>intro bs h; simp[bytesOf] at h; subst h; simp
  | cons x xs ih =>
    intro bs h
    unfold bytesOf at h
    split at h
    ·rename_i h0; simp at h0
    ·rename_i n r h0
     simp only[bx] at h0
     obtain⟨rfl,rfl⟩:=h0
     split at h
     ·rename_i hn
      simp only[ab] at h
      obtain⟨bs',h1,rfl⟩:=h
      obtain⟨k1,k2⟩:=ih h1
      refine⟨by simp[k1],?_⟩
      intro i e he
      cases i with
      | zero =>
        simp at he; subst he
        have:(UInt8.ofNat n.toNat).toNat=n.toNat:=by simp[UInt8.toNat_ofNat']; omega
        simp[this]; omega
      | succ i =>
        have:=k2 i e (by simpa using he)
        simpa using this
     ·simp at h
    ·simp at h
 obtain⟨k1,k2⟩:=key hb
 cases h with
 | nils=>simp at k1; exact .inl ⟨_,_,rfl,List.eq_nil_of_length_eq_zero k1.symm⟩
 | void _ ad cap=>simp at k1; refine .inr ⟨ad,cap,?_,.inl (List.eq_nil_of_length_eq_zero k1.symm)⟩; rw[← k1]
 | list _ b off len cap sz _ cv cI cT cQ cS hcell cR =>
   refine .inr ⟨⟨b,off,none⟩,cap,by rw[← k1,cI],.inr ⟨rfl,?_⟩⟩
   intro i hi
   have cO:i<es.length:=by omega
   have he:=an cO
   have eO:=k2 i _ he
   have d4:sz=1:=by rw[← cQ _ (ae cO),eO]; rfl
   subst d4
   have h1:=cR i _ he 0 (es[i]) (by rw[eO]; rfl)
   rw[eO] at h1
   have h2:=(hcell i (by omega)).1
   rw[Nat.mul_one,br] at h1
   generalize hg:cv i=c at h1 h2
   cases h1
   exact h2
theorem b2a (bs:List UInt8):strOfNums (bs.map λb=>(b.toNat:Int))=⟨bs.toArray⟩:=by
 have:=strOfNums_data (bs.map λb=>(b.toNat:Int))
 have h2:(strOfNums (bs.map λb=>(b.toNat:Int))).data.toList=bs:=by
  rw[this,List.map_map]
  conv=>rhs; rw[← List.map_id bs]
  apply List.map_congr_left
  intro b _
  simp
 generalize strOfNums (bs.map λb=>(b.toNat:Int))=x at h2
 cases x with
 | mk d=>simp at h2; subst h2; simp
theorem c3a (hE:EnvOk E N) (nm:Names vs (wq vs ops)) (ho:ops[j]? = some o) (hf:FI N w G st a vs (wq vs ops)) {src dst e:TypeId} {x:Operand} {px:PX} (cK:o.op = .convert src dst x)
  (d4:P.underlying src=some (.slice e)) (he:P.underlying e=some (.int .u8)) (hd:P.underlying dst=some .string) (hx:cx E vs ops x=some px) {cf:wE} (hs:opv cf (.b2s px) st=some (u,st1)) (hk:wN N w G a st1 u vs ops j o next):o.wp P a w next Q:=by
 simp only[opv] at hs
 split at hs
 ·rename_i es jw
  simp only[ab,ac] at hs
  obtain⟨bs,sJ,rfl,rfl⟩:=hs
  simp only[ai] at jw
  obtain⟨p0,qf,kS⟩:=jw
  have hv:=(wW hE hx hf qf).1.row kS
  have cL:(convert src dst (a.eval x)).run P w = .ok (.string ⟨bs.toArray⟩) w:=by
   rcases b6z hv sJ with⟨l,c,h1,rfl⟩|⟨ad,c,h1,h2⟩
   ·rw[h1,run_convert_bytes_nil (w:=w) src e d4 he l c dst hd]; rfl
   ·rw[h1]
    rcases h2 with rfl|⟨fw,h2⟩
    ·rw[run_convert_bytes_string w src dst e _ _ _ d4 he hd]
     have:=run_bytesToString (P:=P) w ad 0 c [] (by simpa using run_loadCells_list (P:=P) w ad [] (by simp))
     exact this
    ·obtain⟨b,off,sp⟩:=ad
     simp only at fw; subst fw
     have:=run_convert_bytes_arg (w:=w) src e d4 he b off bs.length c (bs.map λb=>(b.toNat:Int)) (by simp) h2 dst hd
     rw[this,b2a]
  refine wZ (v := .string ⟨bs.toArray⟩) nm ho hf (by simp[execOp,cK,cL]) (SR.of_pure ?_ rfl) hk
  have:=VR.str (N:=N) (w:=w) (fix:=G.fix) (hp:=G.heap) ⟨bs.toArray⟩
  simpa using this
 ·simp at hs
theorem b5b (hE:EnvOk E N) (nm:Names vs (wq vs ops)) (ho:ops[j]? = some o) (hf:FI N w G st a vs (wq vs ops)) {t e:TypeId} {n:Nat} {x:Operand} {px:PX} (cK:o.op = .slice t x none none none)
  (hu:P.underlying t=some (.array n e)) (hn:wT P e=some 1) (hx:cx E vs ops x=some px) {cf:wE} (hs:opv cf (.sliceLoc n px) st=some (u,st1)) (hk:wN N w G a st1 u vs ops j o next):o.wp P a w next Q:=by
 simp only[opv] at hs
 split at hs
 ·rename_i i g cs fB
  split at hs
  ·rename_i cI
   simp only[aa,ac] at hs
   obtain⟨rfl,rfl⟩:=hs
   have qx:st.vars[i]? = some (.loc g cs):=fB
   have pQ:=BZ hE hx hf fB
   obtain⟨b0,i0,lR,hv,iB,_⟩:=pQ
   obtain⟨tt,nP,lc,lj,iI,cv,T,hh,hl,hc⟩:=Il hf qx iB
   obtain⟨hR,hcell⟩:=IS hh hl hc
   let G':GS:={ G with fix:=λb o=>G.fix b o∨b=b0 }
   have cH:Ext w G w G':=by
    refine⟨rfl,rfl,rfl,aq _,λ_ _ _=>rfl,λ_ _ h=>⟨.inl h,rfl⟩,?_,λ_ h => .inr h,λ_ _ h=>h,ShapeLe.refl w,rfl⟩
    rintro b o (h|h)
    ·exact .inl h
    ·exact .inr (.inr (by rw[h,lj]; simp))
   have cM:xO (λk=>k = .var i) w G w G':=by
    refine⟨?_,λ_ _ h=>h⟩
    intro b k hb gJ
    refine⟨hb,rfl,?_⟩
    rintro o (h|h)
    ·exact h
    ·subst h; rw[lj] at hb; simp at hb; exact absurd hb.symm gJ
   have uc:=hf.owlt _ _ lj
   have de:FI N w G' { st with vars:=st.vars.set i .dead } a vs (wq vs ops):=by
    refine⟨by simp[hf.len],?_,λj' t' u' h1 h2=>(hf.loc j' t' u' h1 h2).keep cH cM (by simp) (by simp),hf.tv,hf.tl,hf.defers,hf.gen,hf.owlt,?_,hf.heap.keep cH cM (by rintro k hk rfl; simp[Key.isH] at hk),hf.hdom⟩
    ·intro i' t' u' h1 h2
     simp only[aJ] at h2
     split at h2
     ·split at h2
      ·simp at h2; subst h2; trivial
      ·simp at h2
     ·rename_i hi
      exact(hf.var i' t' u' h1 h2).keep cH cM (by simp; omega) (by simp)
    ·rintro b o (h|h)
     ·exact hf.fixlt _ _ h
     ·omega
   have cL:(execOp a.eval o).run P w = .ok (.value (.slice (some ⟨b0,0,none⟩) n n)) w:=by
    have hz:(if n=0 then(⟨b0,0,none⟩:Addr) else(⟨b0,0,none⟩:Addr).add (0*1))=⟨b0,0,none⟩:=by simp[Ai]
    simp[execOp,cK,hv,Instr.sliceAt,run_underlying hu,Instr.sureAddr,Instr.sliceBounds,z8 hn,hz]
   unfold Oper.wp
   rw[cL]
   refine hk _ _ G' (de.put nm (zK ho) ⟨?_,.inl rfl⟩) cH (zL _ _ _)
   have fW:∀x∈cs,x.cells=[x]:=by
    intro x hx
    have:=hR.2.1 x hx
    cases x<;>first|rfl|simp[PV.flat] at this
   rw[← cI]
   refine Im (size:=1) (news:=cv.toList) ⟨?_,?_,?_,?_⟩ (aq _) ?_
   ·simpa using hl
   ·intro e he; rw[fW e he]; rfl
   ·intro e he y hy; rw[fW e he] at hy; simp at hy; subst hy; exact hR.2.1 _ he
   ·intro k e he m c y eH hy
    rw[fW e (aw he)] at hy
    have hm:m=0:=by
     cases m with
     | zero=>rfl
     | succ m=>simp at hy
    subst hm
    simp at hy; subst hy
    exact(hR.2.2 k c _ (by simpa using eH) he).ext cH
   ·intro k v dN
    exact⟨by rw[aK]; exact hcell k v dN,.inr rfl⟩
  ·simp at hs
 ·simp at hs
end
section
variable {E:Env} {N:Nm} {w:World} {G:GS} {st:St} {a:Act} {vs:List Tmp} {ops:List Oper} {P:Program}
variable {o:Oper} {j:Nat} {next:Act→World→Prop} {Q:Exit→Act→World→Prop} {u:PV} {st1:St}
def GS.more (G:GS) (b n:Nat):GS:={ G with ow:=λx=>if x=b then some (.hobj n) else G.ow x,heap:=λm=>if m=n then some b else G.heap m }
theorem EL (nm:Names vs (wq vs ops)) (ho:ops[j]? = some o) (hf:FI N w G st a vs (wq vs ops)) {ob:PObj} {mob:Obj} {v:Value} {u:PV}
  (cL:(execOp a.eval o).run P w = .ok (.value v) (w.alloc mob)) (hv:∀G',G'=G.more w.heap.size st.heap.length→SR N (w.alloc mob) G' (yA (wS vs o.dst) j) v u)
  (hR:∀G',G'=G.more w.heap.size st.heap.length→Ext w G (w.alloc mob) G'→ObjR N (w.alloc mob) G' st.heap.length w.heap.size ob)
  (hk:wN N w G a { st with heap:=st.heap++[ob] } u vs ops j o next):o.wp P a w next Q:=by
 unfold Oper.wp
 rw[cL]
 let G':GS:=G.more w.heap.size st.heap.length
 have cH:Ext w G (w.alloc mob) G':=by
  refine⟨rfl,rfl,rfl,by simp,λb hb _=>zt hb,λb o h=>⟨h,Dl (hf.fixlt _ _ h)⟩,λ_ _ h => .inl h,?_,?_,.same λk hk=>zt hk,rfl⟩
  ·intro b hb
   by_cases cO:b<w.heap.size
   ·refine .inr ?_
    simp only[G',GS.more] at hb
    rw[af (by omega)] at hb
    exact hb
   ·exact .inl (by omega)
  ·intro n b h
   have:=hf.hdom _ _ h
   simp only[G',GS.more]
   rw[af (by omega)]; exact h
 have cM:xO (λ_=>False) w G (w.alloc mob) G':=by
  refine⟨?_,λ_ _ h=>h⟩
  intro b k hb _
  have cO:=hf.owlt _ _ hb
  refine⟨?_,zt cO,λ_ h=>h⟩
  simp only[G',GS.more]
  rw[af (by omega)]; exact hb
 have de:FI N (w.alloc mob) G' { st with heap:=st.heap++[ob] } a vs (wq vs ops):=by
  refine⟨hf.len,λi t u h1 h2=>(hf.var i t u h1 h2).keep cH cM (λh=>h) (λ_ _ _ h=>h),λj t u h1 h2=>(hf.loc j t u h1 h2).keep cH cM (λh=>h) (λ_ _ _ h=>h),hf.tv,hf.tl,hf.defers,hf.gen,?_,?_,?_,?_⟩
  ·intro b k hb
   simp only[G',GS.more] at hb
   split at hb
   ·simp; omega
   ·have:=hf.owlt _ _ hb; simp; omega
  ·intro b o h; have:=hf.fixlt _ _ h; simp; omega
  ·exact hf.heap.push cH cM (λ_ _ _=>⟨λh=>h,λh=>h⟩) (.inr ⟨w.heap.size,by simp[G',GS.more],by simp[G',GS.more],hR G' rfl cH⟩)
  ·intro n b h
   simp only[G',GS.more] at h
   simp only[av,List.length_singleton]
   split at h
   ·omega
   ·have:=hf.hdom _ _ h; omega
 exact hk _ _ G' (de.put nm (zK ho) (hv _ rfl)) cH (zL _ _ _)
theorem LR (hf:FI N w G st a vs (wq vs ops)) {cs:Array Value} {ps:List PV} {T:TypeId}
  (hR:∀(k:Nat) (c:Value) (x:PV),cs[k]? = some c→ps[k]? = some x→VR N w G.fix G.heap c x∧x.flat=true∧(∀es,x = .list true es→c = .slice none 0 0)) (hl:cs.size=ps.length)
  {G':GS} (hG:G'=G.more w.heap.size st.heap.length) (cH:Ext w G (w.alloc (.cells cs T)) G'):ObjR N (w.alloc (.cells cs T)) G' st.heap.length w.heap.size (.cells ps):=by
 subst hG
 have fJ:∀o,¬G.fix w.heap.size o:=λo h=>by have:=hf.fixlt _ _ h; omega
 refine⟨fJ,cs,T,Bg,Nat.le_of_eq hl.symm,?_⟩
 intro k c x hc hx
 obtain⟨h1,h2,h3⟩:=hR k c x hc hx
 refine⟨h1.ext cH,h2,?_⟩
 split
 ·rename_i es
  have:=h3 es rfl
  subst this
  trivial
 ·trivial
theorem b8m (nm:Names vs (wq vs ops)) (ho:ops[j]? = some o) (hf:FI N w G st a vs (wq vs ops)) {t:TypeId} {z:List PV} (cK:o.op = .alloc t) (hz:yE P t=some z) {cf:wE}
  (hs:wx cf (.newobj z) st=some (u,st1)) (hk:wN N w G a st1 u vs ops j o next):o.wp P a w next Q:=by
 simp only[wx,aa,ac] at hs
 obtain⟨rfl,rfl⟩:=hs
 obtain⟨ti,zv,h1,h2,h3,h4,h5,_⟩:=Ct (N:=N) (w:=w) (fix:=G.fix) (hp:=G.heap) hz
 refine EL (mob := .cells zv.cells t) (v := .pointer (some ⟨w.heap.size,0,none⟩)) nm ho hf ?_ ?_ (λG' hG cH=>LR hf ?_ ?_ hG cH) hk
 ·simp[execOp,cK,Instr.alloc,zeroValue,typeInfo,h1,h2,newVar,newRow]
 ·rintro G' rfl
  exact .ptr _ _ w.heap.size (by simp[GS.more])
 ·intro k c x hc hx
  refine⟨h5.2.2 k c x (by simpa using hc) hx,h5.2.1 x (aw hx),?_⟩
  rintro es rfl
  unfold yE at hz
  simp only[h1,h2,ai] at hz
  obtain⟨cs',ea,hz⟩:=hz
  split at hz
  ·simp at hz; subst hz
   exact EH ea k c es (by simpa using hc) hx
  ·simp at hz
 ·have:=h5.1; simpa using this
theorem b8n (hE:EnvOk E N) (nm:Names vs (wq vs ops)) (ho:ops[j]? = some o) (hf:FI N w G st a vs (wq vs ops)) {t:TypeId} {n:Nat} {x:Operand} {px:PX} (cK:o.op = .box t x) (hn:wT P t=some n) (hx:cx E vs ops x=some px)
  {cf:wE} (hs:wx cf (.boxobj n px) st=some (u,st1)) (hk:wN N w G a st1 u vs ops j o next):o.wp P a w next Q:=by
 simp only[wx] at hs
 split at hs
 ·rename_i p hp
  split at hs
  ·rename_i hl
   simp only[aa,ac] at hs
   obtain⟨rfl,rfl⟩:=hs
   obtain⟨_,_,_,_,eP,_⟩:=zu hn
   have hv:=(wW hE hx hf hp).1
   have dj:=(CellsR.of_cells hv (by intro e; rw[e] at hl; simp at hl; omega))
   refine EL (mob := .cells (a.eval x).cells t) (v := .pointer (some ⟨w.heap.size,0,none⟩)) nm ho hf ?_ ?_ (λG' hG cH=>LR hf ?_ ?_ hG cH) hk
   ·simp[execOp,cK,Instr.box,newVar,newRow]
   ·rintro G' rfl
    exact .ptr _ _ w.heap.size (by simp[GS.more])
   ·intro k c y hc hy
    refine⟨dj.2.2 k c y (by simpa using hc) hy,dj.2.1 y (aw hy),?_⟩
    rintro es rfl
    have eY:∀es,p≠.list true es:=by
     rintro es rfl
     unfold rd at hp
     cases h1:raw st px with
     | none=>rw[h1] at hp; simp at hp
     | some q=>rw[h1] at hp; cases q<;>simp[cp] at hp
    generalize a.eval x=v at hv hc
    cases hv with
    | agg cs ps cI cS eS hcell=>exact eS k c es hc hy
    | _ =>
      exfalso
      cases k with
      | succ k=>simp[PV.cells] at hy
      | zero =>
        simp[PV.cells] at hy
        try (obtain⟨rfl,rfl⟩:=hy; exact eY _ rfl)
        try (subst hy; exact eY _ rfl)
   ·have:=dj.1; simpa using this
  ·simp at hs
 ·simp at hs
theorem b9p (nm:Names vs (wq vs ops)) (ho:ops[j]? = some o) (hf:FI N w G st a vs (wq vs ops)) {t:TypeId} (cK:o.op = .makeMap t none) {cf:wE}
  (hs:wx cf .mkmap st=some (u,st1)) (hk:wN N w G a st1 u vs ops j o next):o.wp P a w next Q:=by
 simp only[wx,aa,ac] at hs
 obtain⟨rfl,rfl⟩:=hs
 refine EL (mob := .map #[] 0) (v := .map (some w.heap.size)) nm ho hf ?_ ?_ ?_ hk
 ·simp[execOp,cK,Instr.makeMap]
 ·rintro G' rfl
  exact .map _ w.heap.size (by simp[GS.more])
 ·rintro G' rfl cH
  exact⟨#[],0,Bg,rfl,by simp,by simp,by simp⟩
theorem Gi (hf:FI N w G st a vs (wq vs ops)) {n b:Nat} {cs:List PV} (hg:xF st n=some cs) (hb:G.heap n=some b):
  G.ow b=some (.hobj n)∧(∀o,¬G.fix b o)∧∃cv T,w.heap[b]? = some (.cells cv T (0,0))∧cs.length≤cv.size∧∀(k:Nat) (c:Value) (x:PV),cv[k]? = some c→cs[k]? = some x→CR N w G (.hcell n k) c x:=by
 unfold xF at hg
 split at hg
 ·rename_i cs' hn
  simp at hg; subst hg
  rcases hf.heap.1 n _ hn with e|⟨b',h1,h2,h3,h4⟩
  ·simp at e
  have:b'=b:=by rw[hb] at h1; simpa using h1.symm
  subst this
  exact⟨h2,h3,h4⟩
 ·simp at hg
theorem Mr {b n:Nat} {cv:Array Value} {T:TypeId} {cs:List PV} (hh:w.heap[b]? = some (.cells cv T (0,0))) (hl:cs.length≤cv.size)
  (hc:∀(k:Nat) (c:Value) (x:PV),cv[k]? = some c→cs[k]? = some x→CR N w G (.hcell n k) c x):
  CellsR N w G.fix G.heap (cv.toList.take cs.length) cs∧∀(k:Nat) (v:Value),(cv.toList.take cs.length)[k]? = some v→w.cell? ⟨b,k,none⟩=some v:=by
 have get:∀(k:Nat) (v:Value),(cv.toList.take cs.length)[k]? = some v→cv[k]? = some v:=by
  intro k v hv
  rw[aQ] at hv
  split at hv
  ·simpa using hv
  ·simp at hv
 refine⟨⟨by simp; omega,?_,λi c x h1 h2=>(hc i c x (get i c h1) h2).1⟩,?_⟩
 ·intro x hx
  obtain⟨i,hi⟩:=be.1 hx
  have cO:i<cv.size:=by have:=(aj.1 hi).1; omega
  exact(hc i cv[i] x (by simp[cO]) hi).2.1
 ·intro k v hv
  simp[World.cell?,hh,get k v hv]
theorem Iq (hE:EnvOk E N) {x:Operand} {px:PX} {n off:Nat} (hc:cx E vs ops x=some px) (hf:FI N w G st a vs (wq vs ops)) (hr:addr st px=some (.ptr n off)):
  ∃b,a.eval x = .pointer (some ⟨b,off,none⟩)∧G.heap n=some b:=by
 rcases Bx hE hc hf hr with⟨_,_,_,_,h,_⟩|⟨h,_⟩
 ·simp at h
 ·generalize a.eval x=v at h
  cases h with
  | ptr _ _ b hb=>exact⟨b,rfl,hb⟩
theorem b9q (hE:EnvOk E N) (nm:Names vs (wq vs ops)) (ho:ops[j]? = some o) (hf:FI N w G st a vs (wq vs ops)) {t:TypeId} {n:Nat} {x:Operand} {px:PX} {tk:Bool} (cK:o.op = .load t x) (hn:wT P t=some n)
  (hx:cx E vs ops x=some px) {cf:wE} (hs:wx cf (.load n (xu P t) px tk) st=some (u,st1)) (hk:wN N w G a st1 u vs ops j o next):o.wp P a w next Q:=by
 have plain:∀r,(Instr.loadAt t (a.eval x)).run P w = .ok r w→(execOp a.eval o).run P w = .ok (.value r) w:=by
  intro r hr
  simp[execOp,cK,hr]
 have eP:n≠0:=by obtain⟨_,_,_,_,h,_⟩:=zu hn; exact h
 simp only[wx] at hs
 split at hs
 ·rename_i cs ha
  simp only[ab,ac] at hs
  obtain⟨r,hr,rfl,rfl⟩:=hs
  rcases Bx hE hx hf ha with⟨_,_,_,_,h,_⟩|⟨h,_⟩
  ·simp at h
  ·obtain⟨r',h1,h2,h3⟩:=LI (P:=P) hn h hr
   exact wZ nm ho hf (plain _ h1) (SR.of_pure h2 h3) hk
 ·rename_i m off ha
  obtain⟨b,hv,hb⟩:=Iq hE hx hf ha
  simp only[ai] at hs
  obtain⟨cs,hg,hs⟩:=hs
  obtain⟨ev,gL,cv,T,hh,hl,hc⟩:=Gi hf hg hb
  split at hs
  ·rename_i es ek hcell
   simp only[aa,ac] at hs
   obtain⟨rfl,rfl⟩:=hs
   simp only[al,bj] at ek
   have cO:off<cv.size:=by have:=(aj.1 hcell).1; omega
   obtain⟨cR,_,dA⟩:=hc off cv[off] _ (by simp[cO]) hcell
   obtain⟨G',hG,fu⟩:=Room.give (key':=yA (wS vs o.dst) j) dA
   have iu:G'.box=G.box∧G'.fix=G.fix∧G'.heap=G.heap:=by
    rcases hG with rfl|⟨b,_,rfl⟩<;>exact⟨rfl,rfl,rfl⟩
   have cH:Ext w G w G':=by
    rcases hG with rfl|⟨b,hb,rfl⟩
    ·exact Ext.refl _ _
    ·exact Ih b _ (λ_=>by simp[hb])
   have cM:xO (λk=>k = .hcell m off) w G w G':=by
    rcases hG with rfl|⟨b,hb,rfl⟩
    ·exact⟨λb k h _=>⟨h,rfl,λ_ h=>h⟩,λ_ _ h=>h⟩
    ·exact Ii b _ (λk' dh=>by rw[hb] at dh; simpa using dh.symm)
   have de:FI N w G' (wV st m (.cells (cs.set off (.list false es)))) a vs (wq vs ops):=by
    refine⟨hf.len,λi t' u' h1 h2=>(hf.var i t' u' h1 h2).keep cH cM (by simp) (by simp),λi t' u' h1 h2=>(hf.loc i t' u' h1 h2).keep cH cM (by simp) (by simp),hf.tv,hf.tl,(hf.defers.trans cH.df.symm),by rw[iu.1]; exact hf.gen,?_,by rw[iu.2.1]; exact hf.fixlt,?_,?_⟩
    ·intro b' k cW
     rcases hG with rfl|⟨b2,dI,rfl⟩
     ·exact hf.owlt _ _ cW
     ·simp only[GS.give] at cW
      split at cW
      ·subst_vars; exact hf.owlt _ _ dI
      ·exact hf.owlt _ _ cW
    ·refine hf.heap.keepBut cH cM (λn k c9=>⟨by simp,by simp; omega⟩) (λ_ =>?_)
     refine .inr ⟨b,cH.heap _ _ hb,(cM.1 _ _ ev (by simp)).1,by rw[iu.2.1]; exact gL,cv,T,hh,by simp[hl],?_⟩
     intro k c y dL hy
     rw[aJ] at hy
     split at hy
     ·rename_i eD
      subst eD
      split at hy
      ·simp at hy; subst hy
       have:c=cv[off]:=by simp[cO] at dL; exact dL.symm
       subst this
       exact⟨(cR.dem).ext cH,rfl,trivial⟩
      ·simp at hy
     ·rename_i eD
      exact(hc k c y dL hy).keep cH cM (by simp; omega)
    ·rw[iu.2.2]; simp only[wV,bM]; exact hf.hdom
   unfold Oper.wp
   have cL:(Instr.loadAt t (a.eval x)).run P w = .ok cv[off] w:=by
    have dm:w.cell? ⟨b,off,none⟩=some cv[off]:=by simp[World.cell?,hh,cO]
    rw[hv]
    simp[Instr.loadAt,Instr.sureAddr,loadVar,DS hn,ek.2,dm]
   rw[plain _ cL]
   exact hk _ _ G' (de.put nm (zK ho) ⟨cR.ext cH,fu⟩) cH (zL _ _ _)
  ·simp only[ab,ac] at hs
   obtain⟨r,hr,rfl,rfl⟩:=hs
   obtain⟨hR,hcell⟩:=Mr hh hl hc
   obtain⟨k1,k2,k3⟩:=Dj hR hr eP (B4 hn)
   have:=E5 (w:=w) hn b off ((cv.toList.take cs.length).drop off) (by simp at k1 ⊢; omega) (λj v hv=>by
    rw[aU] at hv
    exact hcell _ _ hv)
   refine wZ nm ho hf (plain _ ?_) (SR.of_pure k2 k3) hk
   rw[hv]
   simpa[Instr.loadAt,Instr.sureAddr] using this
 ·simp at hs
theorem b4Q {n off:Nat} {t:TypeId} {cv:Array Value} {cs cs':List PV} {v:PV} {val:Value} (hl:cs.length≤cv.size) (hn:wT P t=some n) (dz:wM n (xu P t) cs off v=some cs') (cR:VR N w G.fix G.heap val v):
  ∃ nc : List Value, val.cells.toList = nc ∧ nc.length = n ∧ off + n ≤ cv.size ∧ (∀ c ∈ nc, c.oneCell' = true) ∧ cs'.length = cs.length ∧
    ∀ (k : Nat) (c : Value) (z : PV), (cv.toList.take off ++ nc ++ cv.toList.drop (off + n))[k]? = some c → cs'[k]? = some z →
      (cv[k]? = some c∧cs[k]? = some z)∨(VR N w G.fix G.heap c z∧z.flat=true∧∀es,z = .list true es→(k=off∧c=val∧v = .list true es)∨c = .slice none 0 0):=by
 unfold wM at dz
 split at dz
 ·rename_i gG
  split at dz
  ·rename_i ws
   split at dz
   ·rename_i cP
    simp only[aa] at dz; subst dz
    obtain⟨ca,mE,hR⟩:=CellsR.of_agg cR
    have hO:OwnNil ca.toList ws:=OwnNil.of_agg (mE▸cR)
    have dm:val.cells.toList=ca.toList:=by rw[mE]; rfl
    have cI:ca.toList.length=n:=by have:=hR.1; omega
    refine⟨ca.toList,dm,cI,by omega,?_,by simp; omega,?_⟩
    ·intro c gI
     obtain⟨i,hi⟩:=be.1 gI
     have cO:i<ws.length:=by have:=(aj.1 hi).1; have:=hR.1; omega
     have h1:=hR.2.2 i c ws[i] hi (an cO)
     have h2:=h1.oneCell (hR.2.1 _ (ae cO))
     cases c<;>first|rfl|simp[oneCell] at h2
    ·intro k c z dL hz
     rw[aC] at dL
     have fP:(cv.toList.take off).length=off:=by simp; omega
     have kP:(cs.take off).length=off:=by simp; omega
     by_cases h1:k<off
     ·rw[am (by omega),aQ,ah h1] at dL
      rw[am (by omega),aQ,ah h1] at hz
      exact .inl ⟨by simpa using dL,hz⟩
     ·rw[ap (by omega),fP] at dL
      rw[ap (by omega),kP] at hz
      by_cases h2:k<off+n
      ·rw[am (by omega)] at dL
       rw[am (by omega)] at hz
       refine .inr ⟨hR.2.2 _ c z dL hz,hR.2.1 z (aw hz),?_⟩
       rintro es rfl
       exact .inr (hO _ c es dL hz)
      ·rw[ap (by omega),aU,cI] at dL
       rw[ap (by omega),aU,cP.1] at hz
       rw[show off+n+(k - off - n)=k by omega] at dL hz
       exact .inl ⟨by simpa using dL,hz⟩
   ·simp at dz
  ·simp at dz
 ·rename_i gG
  have io:=B4 hn (by simpa using gG)
  subst io
  split at dz
  ·rename_i cP
   simp only[aa] at dz; subst dz
   have h1:=cR.oneCell cP.2
   have dm:val.cells.toList=[val]:=by
    cases val<;>first|rfl|simp[oneCell] at h1
   refine⟨[val],dm,rfl,by omega,?_,by simp,?_⟩
   ·intro c gI
    simp at gI; subst gI
    cases c<;>first|rfl|simp[oneCell] at h1
   ·intro k c z dL hz
    rw[aC] at dL
    have fP:(cv.toList.take off).length=off:=by simp; omega
    rw[aJ] at hz
    split at hz
    ·rename_i pK
     subst pK
     split at hz
     ·simp at hz; subst hz
      rw[ap (by omega),fP] at dL
      simp at dL; subst dL
      exact .inr ⟨cR,cP.2,λes e => .inl ⟨rfl,rfl,e⟩⟩
     ·simp at hz
    ·rename_i pK
     refine .inl ⟨?_,hz⟩
     by_cases h1:k<off
     ·rw[am (by omega),aQ,ah h1] at dL
      simpa using dL
     ·rw[ap (by omega),fP,ap (by simp; omega),aU] at dL
      simp only[List.length_singleton] at dL
      rw[show off+1+(k - off - 1)=k by omega] at dL
      simpa using dL
  ·simp at dz
theorem QT (hE:EnvOk E N) (nm:Names vs (wq vs ops)) (ho:ops[j]? = some o) (hf:FI N w G st a vs (wq vs ops)) {t:TypeId} {n:Nat} {x y:Operand} {px py:PX} (cK:o.op = .store t x y) (dZ:o.dst=none) (hn:wT P t=some n)
  (hx:cx E vs ops x=some px) (hy:cx E vs ops y=some py) {cf:wE} (hs:wx cf (.store n (xu P t) px py) st=some (u,st1)) (hk:wN N w G a st1 u vs ops j o next):o.wp P a w next Q:=by
 simp only[wx] at hs
 split at hs
 ·rename_i m off v st' ha ek
  obtain⟨b,hv,hb⟩:=Iq hE hx hf ha
  obtain⟨G1,de,dW,iL,eM,dJ,cR,fv,_,_,_⟩:=EJ hE hy hf ek (.hcell m off)
  simp only[ai,ab,ac] at hs
  obtain⟨cs,hg,cs',dz,rfl,rfl⟩:=hs
  have eJ:G1.heap m=some b:=by rw[dJ]; exact hb
  obtain⟨ev,gL,cv,T,hh,hl,hc⟩:=Gi de hg eJ
  obtain⟨nc,gp,cI,gT,kM,sK,dj⟩:=b4Q hl hn dz cR
  have cL:(execOp a.eval o).run P w = .ok .skip (w.setRow b (cv.toList.take off++nc++cv.toList.drop (off+n)).toArray):=by
   have dz:=run_storeCells_at P b off T nc 0 cv w hh (by simp; omega) kM
   simp only[br,cI] at dz
   have cQ:(a.eval y).cells.size=n:=by rw[← cI,← gp]; simp
   simp[execOp,cK,Instr.storeAt,hv,Instr.sureAddr,storeVar,z8 hn,cQ,gp,dz]
  unfold Oper.wp
  rw[cL]
  have fp:b<w.heap.size:=de.owlt _ _ ev
  have cV:∀x,x≠b→(w.setRow b (cv.toList.take off++nc++cv.toList.drop (off+n)).toArray).heap[x]? = w.heap[x]? := λx hx=>setRow_other w b x _ hx
  have dM:Ext w G1 (w.setRow b (cv.toList.take off++nc++cv.toList.drop (off+n)).toArray) G1:=by
   refine⟨rfl,rfl,rfl,by simp[World.setRow],?_,?_,λ_ _ h => .inl h,λ_ h => .inr h,λ_ _ h=>h,Gg hh _ (by simp; omega),rfl⟩
   ·intro x _ jA
    exact cV x (by rintro rfl; rw[ev] at jA; simp at jA)
   ·intro x o' fC
    refine⟨fC,?_⟩
    have gA:x≠b:=by rintro rfl; exact gL _ fC
    simp only[World.cell?,cV x gA]
  have dE:xO (λk=>k = .hobj m) w G1 (w.setRow b (cv.toList.take off++nc++cv.toList.drop (off+n)).toArray) G1:=by
   refine⟨?_,λ_ _ h=>h⟩
   intro x k gU gJ
   refine⟨gU,cV x ?_,λ_ h=>h⟩
   rintro rfl
   rw[ev] at gU
   simp at gU
   exact gJ gU.symm
  have gO:FI N (w.setRow b (cv.toList.take off++nc++cv.toList.drop (off+n)).toArray) G1 (wV st' m (.cells cs')) a vs (wq vs ops):=by
   refine⟨de.len,λi t' u' h1 h2=>(de.var i t' u' h1 h2).keep dM dE (by simp) (by simp),λi t' u' h1 h2=>(de.loc i t' u' h1 h2).keep dM dE (by simp) (by simp),de.tv,de.tl,de.defers,de.gen,?_,?_,?_,?_⟩
   ·intro x k hx; simpa[World.setRow] using de.owlt x k hx
   ·intro x o' hx; simpa[World.setRow] using de.fixlt x o' hx
   ·refine de.heap.keepBut dM dE (λn k c9=>⟨by simp; omega,by simp⟩) (λ_ =>?_)
    refine .inr ⟨b,eJ,ev,gL,_,T,setRow_heap w b cv _ T (0,0) hh,?_,?_⟩
    ·simp; omega
    ·intro k c z dL hz
     rcases dj k c z (by simpa using dL) hz with⟨k1,k2⟩|⟨k1,k2,k3⟩
     ·exact(hc k c z k1 k2).keep dM dE (by simp)
     ·refine⟨(eM▸dJ▸k1:VR N w G1.fix G1.heap c z).ext dM,k2,?_⟩
      split
      ·rename_i es
       rcases k3 es rfl with⟨e1,e2,e3⟩|e
       ·subst e1 e2 e3
        have hr:Room w G1 (.hcell m k) (a.eval y) es:=fv
        exact hr.keep dE (by simp)
       ·subst e; trivial
      ·trivial
   ·simp only[wV,bM]; exact de.hdom
  have gc:a.put o.dst undef=a:=by simp[dZ,Act.put]
  have hd:wS vs o.dst = .n:=by simp[dZ,wS]
  show next (a.put o.dst undef) _
  rw[gc]
  refine hk _ _ G1 ?_ (dW.trans dM) rfl
  rw[hd]
  exact gO
 ·simp at hs
theorem b6D (hE:EnvOk E N) (nm:Names vs (wq vs ops)) (ho:ops[j]? = some o) (hf:FI N w G st a vs (wq vs ops)) {t:TypeId} {n:Nat} {x y:Operand} {px py:PX} (cK:o.op = .store t x y) (dZ:o.dst=none) (hn:wT P t=some n)
  (hx:cx E vs ops x=some px) (hy:cx E vs ops y=some py) {cf:wE} (hs:wx cf (.storer n (xu P t) px py) st=some (u,st1)) (hk:wN N w G a st1 u vs ops j o next):o.wp P a w next Q:=by
 refine QT hE nm ho hf cK dZ hn hx hy (cf:=cf) ?_ hk
 simp only[wx] at hs ⊢
 split at hs
 ·rename_i m off v ha hr
  split at hs
  ·simp at hs
  ·rename_i hl
   have ek:tk st py=some (v,st):=by
    unfold tk
    simp only[rd,ai] at hr
    obtain⟨r,h1,h2⟩:=hr
    rw[h1]
    cases r<;>simp[cp] at h2<;>subst h2<;>first|rfl|simp[Gm] at hl
   simp only[ha,ek]
   exact hs
 ·simp at hs
theorem b8o (hE:EnvOk E N) (nm:Names vs (wq vs ops)) (ho:ops[j]? = some o) (hf:FI N w G st a vs (wq vs ops)) {t e:TypeId} {x i:Operand} {px pi:PX} {n len:Nat} (cK:o.op = .indexAddr t x i)
  (hu:P.underlying t=some (.array len e)) (hn:wT P e=some n) (hx:cx E vs ops x=some px) (hi:cx E vs ops i=some pi) {cf:wE} (hs:wx cf (.iaddr len n px pi) st=some (u,st1)) (hk:wN N w G a st1 u vs ops j o next):o.wp P a w next Q:=by
 simp only[wx] at hs
 split at hs
 ·rename_i m off k ha iF
  split at hs
  ·rename_i hb
   simp only[aa,ac] at hs
   obtain⟨rfl,rfl⟩:=hs
   obtain⟨b,hv,wh⟩:=Iq hE hx hf ha
   obtain⟨kk,gk⟩:=B0 hE hi hf iF
   refine wZ nm ho hf (v := .pointer (some ⟨b,off+k.toNat*n,none⟩)) ?_ (SR.of_pure (.ptr _ _ b wh) rfl) hk
   simp[execOp,cK,Instr.indexAt,gk,hv,asIntOf,run_underlying hu,Instr.sureAddr,hb,z8 hn,Ai]
  ·simp at hs
 ·simp at hs
end
end PI
set_option linter.unusedSimpArgs false
set_option linter.unusedVariables false
namespace PI
open Go Go.MapKept
section
variable {E:Env} {N:Nm} {w:World} {G:GS} {st:St} {a:Act} {vs:List Tmp} {ops:List Oper} {P:Program}
variable {o:Oper} {j:Nat} {next:Act→World→Prop} {Q:Exit→Act→World→Prop} {u:PV} {st1:St}
theorem QZ (s t:ByteArray):(s==t)=(s.data.toList==t.data.toList):=by
 rw[aF,MapKept.bytes_beq,bl]
 constructor
 ·rintro rfl; rfl
 ·intro h
  obtain⟨⟨s⟩⟩:=s
  obtain⟨⟨t⟩⟩:=t
  simpa using h
theorem c1l {kt:TypeId} {d:TypeDesc} {kk:EK} {fix:Nat→Nat→Prop} {hp:Nat→Option Nat} {vx vy:Value} {x y:PV} {b:Bool} (hd:P.underlying kt=some d) (hk:ekT P kt=some kk) (hx:VR N w fix hp vx x) (hy:VR N w fix hp vy y) (h:AB kk x y=some b):
  Instr.sameNow d vx vy=some b:=by
 unfold ekT at hk
 rw[hd] at hk
 unfold AB at h
 split at h
 ·cases hx; cases hy
  simp only[aa] at h; subst h
  split at hk<;>simp at hk
  rename_i hX
  simp at hX; subst hX
  rfl
 ·cases hx; cases hy
  split at h
  ·subst_vars
   simp only[aa] at h; subst h
   split at hk<;>simp at hk
   rename_i hX
   simp at hX; subst hX
   simp[Instr.sameNow]
  ·simp at h
 ·cases hx; cases hy
  simp only[aa] at h; subst h
  split at hk<;>simp at hk
  rename_i hX
  simp at hX; subst hX
  simp only[Instr.sameNow,QZ]
 ·simp at h
theorem Q0 {fix:Nat→Nat→Prop} {hp:Nat→Option Nat} {kk:EK} {vx vy:Value} {x y:PV} (hx:VR N w fix hp vx x) (hy:VR N w fix hp vy y) (h:AB kk x y=some true) (n:Nat):Instr.sameBits n vy vx=true:=by
 unfold AB at h
 split at h
 ·cases hx; cases hy
  simp at h; subst h; simp[Instr.sameBits]
 ·cases hx; cases hy
  split at h
  ·subst_vars
   simp at h; subst h; simp[Instr.sameBits]
  ·simp at h
 ·cases hx with
  | str s =>
    cases hy with
    | str t =>
      have e:(s==t)=true:=by rw[QZ]; simpa using h
      have e':s=t:=(MapKept.bytes_beq s t).1 e
      subst e'
      simpa[Instr.sameBits] using e
 ·simp at h
theorem Q1 {kt:TypeId} {d:TypeDesc} {kk:EK} {fix:Nat→Nat→Prop} {hp:Nat→Option Nat} {kv:Value} {kp:PV} (hd:P.underlying kt=some d) (hk:ekT P kt=some kk) (jo:VR N w fix hp kv kp):
  ∀{mes:List MapEntry} {es:List (PV×PV)} {i:Nat} {r:Option (Nat×PV)},mes.length=es.length→(∀(i:Nat) (e:MapEntry) (p:PV×PV),mes[i]? = some e→es[i]? = some p→VR N w fix hp e.key p.1) →
  yk false [kk] kp es i=some r →
  (r=none∧Instr.findNow d kv mes i=some none)∨(∃n v e p1,r=some (i+n,v)∧Instr.findNow d kv mes i=some (some (i+n,e.val))∧mes[n]? = some e∧es[n]? = some (p1,v)∧AB kk kp p1=some true)
 | [], [], i, r, _, _, h => by
   simp[yk] at h; subst h
   exact .inl ⟨rfl,rfl⟩
 | e :: mes, p :: es, i, r, hl, hv, h => by
   simp only[yk,peq,ay,if_false,ai] at h
   obtain⟨b,hb,h⟩:=h
   have hs:=c1l hd hk jo (hv 0 e p rfl rfl) hb
   cases b with
   | true =>
     simp at h; subst h
     exact .inr ⟨0,p.2,e,p.1,rfl,by simp[Instr.findNow,hs],rfl,rfl,hb⟩
   | false =>
     simp at h
     rcases Q1 hd hk jo (mes:=mes) (es:=es) (by simpa using hl) (λi e p h1 h2=>hv (i+1) e p (by simpa using h1) (by simpa using h2)) h with⟨h1,h2⟩ | ⟨n,v,e',p1,h1,h2,h3,h4,h5⟩
     ·exact .inl ⟨h1,by simp[Instr.findNow,hs,h2]⟩
     ·exact .inr ⟨n+1,v,e',p1,by rw[h1]; simp; omega,by simp[Instr.findNow,hs,h2]; omega,by simpa using h3,by simpa using h4,h5⟩
 | [],_::_,_,_,hl,_,_=>by simp at hl
 | _::_,[],_,_,hl,_,_=>by simp at hl
theorem b6E {kt:TypeId} {kk:EK} (hk:ekT P kt=some kk) (b:Bool) (v:Value):(Instr.checkKey b 10000 kt v).run P w = .ok () w:=by
 unfold ekT at hk
 unfold Instr.checkKey
 split at hk
 ·rename_i hu; simp only[Sem.run_bind,run_underlying hu,Result.andThen_ok]; cases v<;>rfl
 ·rename_i hu; simp only[Sem.run_bind,run_underlying hu,Result.andThen_ok]; cases v<;>rfl
 ·rename_i hu; simp only[Sem.run_bind,run_underlying hu,Result.andThen_ok]; cases v<;>rfl
 ·simp at hk
theorem Q2 {kt:TypeId} {kk:Bool×List EK} (h:CX P kt=some kk):(∃k,ekT P kt=some k∧kk=(false,[k])) ∨
  ∃fs,P.underlying kt=some (.struct fs)∧eqFields P fs.toList 0=some kk.2∧kk.1=true∧P.stoodInHeld kt=false:=by
 unfold CX at h
 split at h
 ·rename_i k hk
  simp only[aa] at h
  exact .inl ⟨k,hk,h.symm⟩
 ·split at h
  ·rename_i ks it
   simp only[aa] at h
   subst h
   unfold eqT at it
   split at it
   ·simp at it
   ·simp at it
   ·simp at it
   ·rename_i fs hu
    split at it
    ·rename_i ks' sT
     split at it
     ·rename_i cP
      simp only[aa,ac,true_and] at it
      subst it
      simp only[al,bj] at cP
      exact .inr ⟨fs,hu,sT,rfl,cP.1⟩
     ·simp at it
    ·simp at it
   ·simp at it
  ·simp at h
theorem Q3:∀{fs:List Field} {off:Nat} {ks:List EK},eqFields P fs off=some ks→ks.length=fs.length∧∀f∈fs,∃i,off≤i∧i<off+fs.length∧f.offset=i∧f.name ≠ "_" ∧ wT P f.type=some 1∧xu P f.type=false∧∃k,ekT P f.type=some k
 | [],off,ks,h=>by simp[eqFields] at h; subst h; simp
 | f :: fs, off, ks, h => by
   simp only[eqFields] at h
   split at h
   ·rename_i hc
    simp only[ai,ab] at h
    obtain⟨k,hk,ks',it,rfl⟩:=h
    obtain⟨h1,h2⟩:=Q3 it
    refine⟨by simp[h1],?_⟩
    intro g hg
    rcases aA.1 hg with rfl|hg
    ·exact⟨off,aq _,by simp,hc.1,hc.2.1,hc.2.2.1,hc.2.2.2,k,hk⟩
    ·obtain⟨i,a1,a2,a3⟩:=h2 g hg
     exact⟨i,by omega,by simp; omega,a3⟩
   ·simp at h
theorem Ir:∀{ks:List EK} {xs ys:List PV} {b:Bool},Ah ks xs ys=some b→xs.length=ks.length∧ys.length=ks.length
 | [],xs,ys,b,h=>by cases xs<;>cases ys<;>simp_all [Ah]
 | k :: ks, xs, ys, b, h => by
   cases xs with
   | nil=>simp[Ah] at h
   | cons x xs =>
     cases ys with
     | nil=>simp[Ah] at h
     | cons y ys =>
       simp only[Ah,ai,ab] at h
       obtain⟨_,_,_,h2,_⟩:=h
       obtain⟨a1,a2⟩:=Ir h2
       simp[a1,a2]
theorem LT {ks:List EK} {kp:PV} {es:List (PV×PV)} {i:Nat} {r} (h:yk true ks kp es i=some r):∃cs,kp = .agg cs∧cs.length=ks.length:=by
 cases es with
 | nil =>
   rw[yk.eq_def] at h
   cases kp<;>simp only[Option.ite_none_right_eq_some,reduceCtorEq] at h<;>exact⟨_,rfl,h.1⟩
 | cons e es =>
   simp only[yk,ai] at h
   obtain⟨b,hb,_⟩:=h
   simp only[peq,if_true] at hb
   split at hb
   ·exact⟨_,rfl,(Ir hb).1⟩
   ·simp at hb
theorem Is {kt:TypeId} {kk:Bool×List EK} {G:GS} {kv:Value} {kp:PV} (hk:CX P kt=some kk) (jo:VR N w G.fix G.heap kv kp) {es:List (PV×PV)} {i:Nat} {r} (h:yk kk.1 kk.2 kp es i=some r) (b:Bool):(Instr.checkKey b 10000 kt kv).run P w = .ok () w:=by
 rcases Q2 hk with⟨k,dh,rfl⟩|⟨fs,hu,hf,h1,_⟩
 ·exact b6E dh b kv
 ·rw[h1] at h
  obtain⟨cs,rfl,hl⟩:=LT h
  obtain⟨vs,rfl,hc⟩:=CellsR.of_agg jo
  obtain⟨e1,e2⟩:=Q3 hf
  have cQ:vs.size=fs.size:=by have:=hc.1; simp at this; simp at e1; omega
  have key:∀(l:List Field),(∀f∈l,f∈fs.toList)→((do for f in l do if f.name ≠ "_" then Instr.checkKey b 9999 f.type (← part f.type vs f.offset)):Sem Unit).run P w = .ok () w:=by
   intro l
   induction l with
   | nil=>intro _; rfl
   | cons f l ih =>
     intro hl
     obtain⟨i,a1,a2,a3,a4,a5,a6,k,a7⟩:=e2 f (hl f (by simp))
     have cO:i<vs.size:=by simp at a2; omega
     have jD:(part f.type vs f.offset).run P w = .ok vs[i] w:=by
      simp[part,DS a5,a6,a3,cO]
     have kY:(Instr.checkKey b 9999 f.type vs[i]).run P w = .ok () w:=by
      unfold ekT at a7
      unfold Instr.checkKey
      split at a7
      ·rename_i hu; simp only[Sem.run_bind,run_underlying hu,Result.andThen_ok]; cases vs[i]<;>rfl
      ·rename_i hu; simp only[Sem.run_bind,run_underlying hu,Result.andThen_ok]; cases vs[i]<;>rfl
      ·rename_i hu; simp only[Sem.run_bind,run_underlying hu,Result.andThen_ok]; cases vs[i]<;>rfl
      ·simp at a7
     have ih':=ih (λg hg=>hl g (by simp[hg]))
     rw[List.forIn_cons]
     simp only[Sem.run_bind,ne_eq,a4,cB,if_true,jD,Result.andThen_ok,kY,Sem.run_pure] at ih' ⊢
     exact ih'
  unfold Instr.checkKey
  simp only[Sem.run_bind,run_underlying hu,Result.andThen_ok,← Array.forIn_toList]
  have:=key fs.toList (λ_ h=>h)
  rw[Sem.run_bind] at this
  exact this
theorem c1m {ks:List EK}:∀{xs ys:List PV} {cs ds:List Value},Ah ks xs ys=some true→cs.length=xs.length→ds.length=ys.length→∀{fix:Nat→Nat→Prop} {hp:Nat→Option Nat},(∀(i:Nat) (v:Value) (p:PV),cs[i]? = some v→xs[i]? = some p→VR N w fix hp v p) →
  (∀(i:Nat) (v:Value) (p:PV),ds[i]? = some v→ys[i]? = some p→VR N w fix hp v p)→∀n,((ds.zip cs).all λ(x,y)=>Instr.sameBits n x y)=true:=by
 induction ks with
 | nil =>
   intro xs ys cs ds h h1 h2 fix hp hx hy n
   obtain⟨a1,a2⟩:=Ir h
   simp at a1 a2
   subst a1 a2
   simp at h1 h2
   subst h1 h2
   rfl
 | cons k ks ih =>
   intro xs ys cs ds h h1 h2 fix hp hx hy n
   cases xs with
   | nil=>simp[Ah] at h
   | cons x xs =>
     cases ys with
     | nil=>simp[Ah] at h
     | cons y ys =>
       simp only[Ah,ai,ab] at h
       obtain⟨b1,eJ,b2,dI,hb⟩:=h
       simp only[al] at hb
       obtain⟨rfl,rfl⟩:=hb
       cases cs with
       | nil=>simp at h1
       | cons c cs =>
         cases ds with
         | nil=>simp at h2
         | cons d ds =>
           simp only[List.zip_cons_cons,List.all_cons,al]
           exact⟨Q0 (hx 0 c x rfl rfl) (hy 0 d y rfl rfl) eJ n,ih dI (by simpa using h1) (by simpa using h2) (λi v p a b=>hx (i+1) v p (by simpa using a) (by simpa using b)) (λi v p a b=>hy (i+1) v p (by simpa using a) (by simpa using b)) n⟩
theorem c1n {kk:Bool×List EK} {G:GS} {vx vy:Value} {x y:PV} (hx:VR N w G.fix G.heap vx x) (hy:VR N w G.fix G.heap vy y) (h:peq kk.1 kk.2 x y=some true) (n:Nat):Instr.sameBits (n+1) vy vx=true:=by
 unfold peq at h
 split at h
 ·split at h
  ·rename_i xs ys
   obtain⟨cs,rfl,hc⟩:=CellsR.of_agg hx
   obtain⟨ds,rfl,hd⟩:=CellsR.of_agg hy
   obtain⟨a1,a2⟩:=Ir h
   have h1:=hc.1
   have h2:=hd.1
   simp only[Instr.sameBits,al,bl]
   refine⟨by simp at h1 h2; omega,c1m h (by simpa using h1) (by simpa using h2) (λi v p a b=>hc.2.2 i v p (by simpa using a) b) (λi v p a b=>hd.2.2 i v p (by simpa using a) b) n⟩
  ·simp at h
 ·split at h
  ·exact Q0 hx hy h (n+1)
  ·simp at h
theorem LU {kt:TypeId} {kk:Bool×List EK} {G:GS} {kv:Value} {kp:PV} (hk:CX P kt=some kk) (jo:VR N w G.fix G.heap kv kp) {mes:List MapEntry} {es:List (PV×PV)} {r:Option (Nat×PV)} (hl:mes.length=es.length)
  (hv:∀(i:Nat) (e:MapEntry) (p:PV×PV),mes[i]? = some e→es[i]? = some p→VR N w G.fix G.heap e.key p.1) (h:yk kk.1 kk.2 kp es 0=some r):
  (r=none∧(Instr.findKey kt kv mes).run P w = .ok none w)∨(∃n v e p1,r=some (n,v)∧(Instr.findKey kt kv mes).run P w = .ok (some (n,e.val)) w∧mes[n]? = some e∧es[n]? = some (p1,v)∧peq kk.1 kk.2 kp p1=some true):=by
 rcases Q2 hk with⟨k,dh,rfl⟩|⟨fs,hu,hf,h1,dz⟩
 ·obtain⟨d,hd⟩:∃d,P.underlying kt=some d:=by
   unfold ekT at dh
   split at dh<;>first|exact⟨_,by assumption⟩|simp at dh
  rcases Q1 hd dh jo hl hv h with⟨a1,a2⟩|⟨n,v,e,p1,a1,a2,a3,a4,a5⟩
  ·exact .inl ⟨a1,run_findKey hd a2⟩
  ·simp only[aK] at a1 a2
   exact .inr ⟨n,v,e,p1,a1,run_findKey hd a2,a3,a4,by simpa[peq] using a5⟩
 ·simp only[h1] at h ⊢
  have ask:∀(mes:List MapEntry) (es:List (PV×PV)) (i:Nat) (r:Option (Nat×PV)),mes.length=es.length→(∀(i:Nat) (e:MapEntry) (p:PV×PV),mes[i]? = some e→es[i]? = some p→VR N w G.fix G.heap e.key p.1)→yk true kk.2 kp es i=some r →
    (r=none∧(Instr.findAsking kt kv mes i).run P w = .ok none w)∨(∃n v e p1,r=some (i+n,v)∧(Instr.findAsking kt kv mes i).run P w = .ok (some (i+n,e.val)) w∧mes[n]? = some e∧es[n]? = some (p1,v)∧peq true kk.2 kp p1=some true):=by
   intro mes
   induction mes with
   | nil =>
     intro es i r hl hv h
     cases es with
     | cons _ _=>simp at hl
     | nil =>
       obtain⟨cs,rfl,cI⟩:=LT h
       rw[yk.eq_def] at h
       simp only[cI,if_true,aa] at h
       subst h
       exact .inl ⟨rfl,by simp[Instr.findAsking]⟩
   | cons e mes ih =>
     intro es i r hl hv h
     cases es with
     | nil=>simp at hl
     | cons p es =>
       simp only[yk,ai] at h
       obtain⟨b,hb,h⟩:=h
       have iB:=hb
       simp only[peq,if_true] at hb
       split at hb
       ·rename_i ys pH _
        have ue:=hv 0 e p rfl rfl
        rw[pH] at ue
        clear pH
        obtain⟨cs,rfl,hc⟩:=CellsR.of_agg jo
        obtain⟨ds,qT,hd⟩:=CellsR.of_agg ue
        have kF:P.fieldsOf kt=fs:=by simp[Program.fieldsOf,hu]
        have heq:=run_equalIn_struct (P:=P) w 9999 kt cs ds (by rw[kF]; exact hu) dz
        rw[kF,LJ hc hd hf (by simpa using hb)] at heq
        have nh:(Op.equal kt (.agg cs) e.key).run P w = .ok b w:=by
         rw[qT]
         simpa[Op.equal,Op.maxDepth] using heq
        cases b with
        | true =>
          simp at h; subst h
          exact .inr ⟨0,p.2,e,p.1,rfl,by simp[Instr.findAsking,nh],rfl,rfl,iB⟩
        | false =>
          simp at h
          rcases ih es (i+1) r (by simpa using hl) (λi e p a b=>hv (i+1) e p (by simpa using a) (by simpa using b)) h with⟨a1,a2⟩ | ⟨n,v,e',p1,a1,a2,a3,a4,a5⟩
          ·exact .inl ⟨a1,by simp[Instr.findAsking,nh,a2]⟩
          ·exact .inr ⟨n+1,v,e',p1,by rw[a1]; simp; omega,by simp[Instr.findAsking,nh,a2]; omega,by simpa using a3,by simpa using a4,a5⟩
       ·simp at hb
  have qA:(Instr.findKey kt kv mes).run P w=(Instr.findAsking kt kv mes 0).run P w:=by
   obtain⟨cs,rfl,_⟩:=LT h
   obtain⟨vs,rfl,_⟩:=CellsR.of_agg jo
   unfold Instr.findKey
   simp only[Sem.run_bind,run_underlying hu,Result.andThen_ok]
   cases mes with
   | nil=>simp[Instr.findNow,Instr.findAsking]
   | cons e mes =>
     have:Instr.findNow (.struct fs) (.agg vs) (e::mes) 0=none:=by simp[Instr.findNow,Instr.sameNow]
     rw[this]
  rw[qA]
  rcases ask mes es 0 r hl hv h with h|⟨n,v,e,p1,a1,a2,a3⟩
  ·exact .inl h
  ·exact .inr ⟨n,v,e,p1,by simpa using a1,by simpa using a2,a3⟩
theorem Nb {fix:Nat→Nat→Prop} {hp:Nat→Option Nat} {t:TypeId} {z:PV} (h:D3 P t=some z):∃zv,(zeroValue t).run P w = .ok zv w∧VR N w fix hp zv z∧((∃es,z = .list true es∧zv = .slice none 0 0)∨cp z=some z):=by
 unfold D3 at h
 split at h
 ·rename_i i hi
  simp only[ai] at h
  obtain⟨zv,h1,h2⟩:=h
  exact⟨zv,by simp[zeroValue,typeInfo,hi,h1],Qw h2,LG h2⟩
 ·simp at h
theorem VR.cp_dem' {fix:Nat→Nat→Prop} {hp:Nat→Option Nat} {v:Value} {p:PV} (h:VR N w fix hp v p):cp (PI.dem p)=some (PI.dem p):=by
 cases h<;>rfl
theorem LV (hf:FI N w G st a vs (wq vs ops)) {n b:Nat} {es:List (PV×PV)} (hg:xt st (some n)=some es) (hb:G.heap n=some b):
  G.ow b=some (.hobj n)∧st.heap[n]? = some (.map es)∧ObjR N w G n b (.map es):=by
 unfold xt at hg
 simp only at hg
 split at hg
 ·rename_i es' hn
  simp at hg; subst hg
  rcases hf.heap.1 n _ hn with e|⟨b',h1,h2,h3⟩
  ·simp at e
  have:b'=b:=by rw[hb] at h1; simpa using h1.symm
  subst this
  exact⟨h2,hn,h3⟩
 ·simp at hg
theorem MR.read {key:Key} {v:Value} {p:PV} (h:MR N w G key v p):VR N w G.fix G.heap v (dem p):=h.1.dem
theorem b8q (hE:EnvOk E N) (nm:Names vs (wq vs ops)) (ho:ops[j]? = some o) (hf:FI N w G st a vs (wq vs ops)) {t kt e:TypeId} {m x:Operand} {ok:Bool} {kk:Bool×List EK} {z:PV} {pm px:PX} {tk:Bool}
  (cK:o.op = .lookup t m x ok) (hu:P.underlying t=some (.map kt e)) (eW:CX P kt=some kk) (hz:D3 P e=some z) (hm:cx E vs ops m=some pm) (hx:cx E vs ops x=some px) {cf:wE}
  (hs:wx cf (.lookup ok tk kk.1 kk.2 z pm px) st=some (u,st1)) (hk:wN N w G a st1 u vs ops j o next):o.wp P a w next Q:=by
 obtain⟨zv,eQ,eE,lI⟩:=Nb (P:=P) (N:=N) (w:=w) (fix:=G.fix) (hp:=G.heap) hz
 simp only[wx] at hs
 split at hs
 ·rename_i n k pO sU
  have jo:=(wW hE hx hf sU).1
  have ni:=(wW hE hm hf pO).1
  simp only[ai] at hs
  obtain⟨es,hg,r,fU,hs⟩:=hs
  have run:∀(mes:Array MapEntry) (r':Option (Nat×Value)),(a.eval m = .map none∧mes = #[]∨∃b clock,a.eval m = .map (some b)∧w.heap[b]? = some (.map mes clock))→(Instr.findKey kt (a.eval x) mes.toList).run P w = .ok r' w →
    (execOp a.eval o).run P w = .ok (.value (if ok then .tuple #[(r'.map Prod.snd).getD zv,.bool r'.isSome] else(r'.map Prod.snd).getD zv)) w:=by
   intro mes r' h1 h2
   have qA:=h2
   rcases h1 with⟨h1,rfl⟩|⟨b,clock,h1,h3⟩
   ·simp only[execOp,cK,Instr.lookup,Sem.run_bind,run_underlying hu,Result.andThen_ok,h1,Sem.run_pure,Is eW jo fU,qA]
    cases r' with
    | none=>simp[eQ]
    | some q=>simp
   ·simp only[execOp,cK,Instr.lookup,Sem.run_bind,run_underlying hu,Result.andThen_ok,h1,run_getObj_map h3,Sem.run_pure,Is eW jo fU,qA]
    cases r' with
    | none=>simp[eQ]
    | some q=>simp
  generalize mo:a.eval m=mv at ni run
  cases ni with
  | mapn =>
    simp only[xt,aa] at hg
    subst hg
    have h0:=LU (P:=P) eW jo (mes:=[]) (es:=[]) rfl (by simp) fU
    have iq:r=none∧(Instr.findKey kt (a.eval x) []).run P w = .ok none w:=by
     rcases h0 with h0|⟨n,v,e,p1,_,_,h3,_⟩
     ·exact h0
     ·simp at h3
    obtain⟨rfl,eB⟩:=iq
    simp only[aa,ac] at hs
    obtain⟨rfl,rfl⟩:=hs
    have cL:=run #[] none (.inl ⟨rfl,rfl⟩) eB
    simp only[co,Option.getD_none,Option.isSome_none] at cL
    cases ok with
    | true =>
      refine wZ nm ho hf cL (SR.of_pure (.tuple _ _ rfl ?_) rfl) hk
      intro i c p hc hp
      match i,hc,hp with
      | 0,hc,hp=>simp at hc hp; subst hc hp; exact eE
      | 1,hc,hp=>simp at hc hp; subst hc hp; exact .bool _
    | false =>
      refine wZ nm ho hf cL ?_ hk
      rcases lI with⟨es,rfl,rfl⟩|h
      ·exact⟨eE,trivial⟩
      ·exact SR.of_pure eE h
  | map n b hb =>
    obtain⟨ev,sB,hobj⟩:=LV hf hg hb
    obtain⟨mes,clock,a1,a2,a3,a4,a5⟩:=hobj
    have hK:(Value.map (some b) = .map none∧mes = #[])∨∃b' clock,Value.map (some b) = .map (some b')∧w.heap[b']? = some (.map mes clock) := .inr ⟨b,clock,rfl,a1⟩
    rcases LU eW jo (mes:=mes.toList) (es:=es) (by simpa using a2) (λi e p h1 h2=>(a5 i e p (by simpa using h1) h2).1) fU with⟨rfl,h2⟩ | ⟨i,v,en,p1,rfl,h2,h3,h4,_⟩
    ·have cL:=run mes none hK h2
     simp only[aa,ac] at hs
     obtain⟨rfl,rfl⟩:=hs
     simp only[co,Option.getD_none,Option.isSome_none] at cL
     cases ok with
     | true =>
       refine wZ nm ho hf cL (SR.of_pure (.tuple _ _ rfl ?_) rfl) hk
       intro i c p hc hp
       match i,hc,hp with
       | 0,hc,hp=>simp at hc hp; subst hc hp; exact eE
       | 1,hc,hp=>simp at hc hp; subst hc hp; exact .bool _
     | false =>
       refine wZ nm ho hf cL ?_ hk
       rcases lI with⟨es,rfl,rfl⟩|h
       ·exact⟨eE,trivial⟩
       ·exact SR.of_pure eE h
    ·have cL:=run mes _ hK h2
     have lw:=(a5 i en (p1,v) (by simpa using h3) h4).2
     simp only[az,bJ,Option.isSome_some] at cL
     simp only at hs
     split at hs
     ·
      rename_i ek
      simp only[al,bj] at ek
      obtain⟨⟨_,cJ⟩,eS⟩:=ek
      subst cJ
      have:∃l,v = .list true l:=by
       unfold Gn at eS
       split at eS
       ·exact⟨_,rfl⟩
       ·simp at eS
      obtain⟨l,rfl⟩:=this
      simp only[aa,ac] at hs
      obtain⟨rfl,rfl⟩:=hs
      obtain⟨cR,dA⟩:=lw
      obtain⟨G',hG,fu⟩:=Room.give (key':=yA (wS vs o.dst) j) dA
      have iu:G'.box=G.box∧G'.fix=G.fix∧G'.heap=G.heap:=by
       rcases hG with rfl|⟨b,_,rfl⟩<;>exact⟨rfl,rfl,rfl⟩
      have cH:Ext w G w G':=by
       rcases hG with rfl|⟨b,hb,rfl⟩
       ·exact Ext.refl _ _
       ·exact Ih b _ (λ_=>by simp[hb])
      have cM:xO (λk=>k = .hcell n i) w G w G':=by
       rcases hG with rfl|⟨b,hb,rfl⟩
       ·exact⟨λb k h _=>⟨h,rfl,λ_ h=>h⟩,λ_ _ h=>h⟩
       ·exact Ii b _ (λk' dh=>by rw[hb] at dh; simpa using dh.symm)
      have de:FI N w G' (wV st n (.map (es.modify i λe=>(e.1,dem e.2)))) a vs (wq vs ops):=by
       refine⟨hf.len,λi' t' u' h1 h2=>(hf.var i' t' u' h1 h2).keep cH cM (by simp) (by simp),λi' t' u' h1 h2=>(hf.loc i' t' u' h1 h2).keep cH cM (by simp) (by simp),hf.tv,hf.tl,(hf.defers.trans cH.df.symm),by rw[iu.1]; exact hf.gen,?_,by rw[iu.2.1]; exact hf.fixlt,?_,?_⟩
       ·intro b' k cW
        rcases hG with rfl|⟨b2,dI,rfl⟩
        ·exact hf.owlt _ _ cW
        ·simp only[GS.give] at cW
         split at cW
         ·subst_vars; exact hf.owlt _ _ dI
         ·exact hf.owlt _ _ cW
       ·refine hf.heap.keepBut cH cM (λn' k c9=>⟨by simp,by simp; omega⟩) (λ_ =>?_)
        refine .inr ⟨b,cH.heap _ _ hb,(cM.1 _ _ ev (by simp)).1,mes,clock,a1,by simpa using a2,a3,a4,?_⟩
        intro i' e' p' dB fk
        rw[aZ] at fk
        by_cases fG:i=i'
        ·subst fG
         rw[h4] at fk
         simp at fk; subst fk
         have:e'=en:=by rw[← bP] at dB; rw[h3] at dB; simpa using dB.symm
         subst this
         obtain⟨b1,b2⟩:=a5 i e' (p1,.list true l) dB h4
         exact⟨b1.ext cH,(b2.1.dem).ext cH,trivial⟩
        ·simp only[fG,if_false,cE] at fk
         have hp'':es[i']? = some p':=by simpa using fk
         obtain⟨b1,b2⟩:=a5 i' e' p' dB hp''
         exact⟨b1.ext cH,b2.keep cH cM (by simp; omega)⟩
       ·rw[iu.2.2]; simp only[wV,bM]; exact hf.hdom
      unfold Oper.wp
      rw[cL]
      exact hk _ _ G' (de.put nm (zK ho) ⟨cR.ext cH,fu⟩) cH (zL _ _ _)
     ·simp only[aa,ac] at hs
      obtain⟨rfl,rfl⟩:=hs
      have nn:VR N w G.fix G.heap en.val (dem v):=lw.1.dem
      cases ok with
      | true =>
        refine wZ nm ho hf cL (SR.of_pure (.tuple _ _ rfl ?_) rfl) hk
        intro i c p hc hp
        match i,hc,hp with
        | 0,hc,hp=>simp at hc hp; subst hc hp; exact nn
        | 1,hc,hp=>simp at hc hp; subst hc hp; exact .bool _
      | false=>exact wZ nm ho hf cL (SR.of_pure nn lw.1.cp_dem') hk
 ·simp at hs
theorem c3e {b:Nat} (hb:b<w.heap.size) (gY:∃mes clock,w.heap[b]? = some (.map mes clock)) (fC:G.ow b≠none) (mes':Array MapEntry) (clock':Nat):
  let w':World:={ w with heap:=w.heap.setIfInBounds b (.map mes' clock') }
  Ext w G w' G∧w'.heap[b]? = some (.map mes' clock')∧∀x,x≠b→w'.heap[x]? = w.heap[x]? := by
 intro w'
 have ee:∀x,x≠b→w'.heap[x]? = w.heap[x]? := λx hx=>by simp[w',aY,Ne.symm hx]
 have ft:w'.heap[b]? = some (.map mes' clock'):=by simp[w',aY,hb]
 refine⟨⟨rfl,rfl,rfl,by simp[w'],?_,?_,λ_ _ h => .inl h,λ_ h => .inr h,λ_ _ h=>h,.one b (λk _ hk=>ee k hk) (λs hx=>by obtain⟨mes,clock,h⟩:=gY; simp[World.shape?,h] at hx) (λs hx=>by obtain⟨mes,clock,h⟩:=gY; simp[zk,h] at hx),rfl⟩,ft,ee⟩
 ·intro x _ hx
  exact ee x (by rintro rfl; exact fC hx)
 ·intro x o hx
  refine⟨hx,?_⟩
  by_cases gA:x=b
  ·subst gA
   obtain⟨mes,clock,h⟩:=gY
   simp only[World.cell?,ft,h]
  ·simp only[World.cell?,ee x gA]
theorem QU (hE:EnvOk E N) (nm:Names vs (wq vs ops)) (ho:ops[j]? = some o) (hf:FI N w G st a vs (wq vs ops)) {t kt e:TypeId} {m x y:Operand} {kk:Bool×List EK} {pm px py:PX}
  (cK:o.op = .mapUpdate t m x y∨o.op = .insert t m x y) (dZ:o.dst=none) (hu:P.underlying t=some (.map kt e)) (eW:CX P kt=some kk) (hm:cx E vs ops m=some pm) (hx:cx E vs ops x=some px) (hy:cx E vs ops y=some py) {cf:wE}
  (hs:wx cf (.mset kk.1 kk.2 pm px py) st=some (u,st1)) (hk:wN N w G a st1 u vs ops j o next):o.wp P a w next Q:=by
 simp only[wx] at hs
 split at hs
 ·rename_i n k v st' pO sU ek
  have jo:=(wW hE hx hf sU).1
  have ni:=(wW hE hm hf pO).1
  simp only[ai,ab] at hs
  obtain⟨es,hg,r,fU,hs⟩:=hs
  generalize mo:a.eval m=mv at ni
  cases ni with
  | map _ b hb =>
    let idx:Nat:=match r with | some (i,_)=>i | none=>es.length
    obtain⟨G1,de,dW,iL,eM,dJ,cR,fv,_,_,_⟩:=EJ hE hy hf ek (.hcell n idx)
    have eJ:G1.heap n=some b:=by rw[dJ]; exact hb
    obtain⟨ev,sB,hobj⟩:=LV de hg eJ
    obtain⟨mes,clock,a1,a2,a3,a4,a5⟩:=hobj
    have jU:VR N w G1.fix G1.heap (a.eval x) k:=by rw[eM,dJ]; exact jo
    have nf:VR N w G1.fix G1.heap (a.eval y) v:=by rw[eM,dJ]; exact cR
    have lO:MR N w G1 (.hcell n idx) (a.eval y) v:=by
     refine⟨nf,?_⟩
     split
     ·exact fv
     ·trivial
    have fp:b<w.heap.size:=de.owlt _ _ ev
    have gc:a.put o.dst undef=a:=by simp[dZ,Act.put]
    have da:wS vs o.dst = .n:=by simp[dZ,wS]
    have finish:∀(mes':Array MapEntry) (clock':Nat) (es':List (PV×PV)),(execOp a.eval o).run P w = .ok .skip { w with heap:=w.heap.setIfInBounds b (.map mes' clock') }→mes'.size=es'.length →
      (∀(i:Nat) (e:MapEntry),mes'[i]? = some e→e.born<clock')→(∀(i i':Nat) (e e':MapEntry),mes'[i]? = some e→mes'[i']? = some e'→e.born=e'.born→i=i') →
      (∀(i:Nat) (e:MapEntry) (p:PV×PV),mes'[i]? = some e→es'[i]? = some p→VR N w G1.fix G1.heap e.key p.1∧MR N w G1 (.hcell n i) e.val p.2)→u = .dead→st1=wV st' n (.map es')→o.wp P a w next Q:=by
     intro mes' clock' es' cL b2 b3 b4 b5 eU kj
     subst eU kj
     obtain⟨dM,ft,cV⟩:=c3e (G:=G1) fp ⟨mes,clock,a1⟩ (by rw[ev]; simp) mes' clock'
     unfold Oper.wp
     rw[cL]
     have dE:xO (λk=>k = .hobj n) w G1 { w with heap:=w.heap.setIfInBounds b (.map mes' clock') } G1:=by
      refine⟨?_,λ_ _ h=>h⟩
      intro x k gU gJ
      refine⟨gU,cV x ?_,λ_ h=>h⟩
      rintro rfl
      rw[ev] at gU
      simp at gU
      exact gJ gU.symm
     have gO:FI N { w with heap:=w.heap.setIfInBounds b (.map mes' clock') } G1 (wV st' n (.map es')) a vs (wq vs ops):=by
      refine⟨de.len,λi t' u' h1 h2=>(de.var i t' u' h1 h2).keep dM dE (by simp) (by simp),λi t' u' h1 h2=>(de.loc i t' u' h1 h2).keep dM dE (by simp) (by simp),de.tv,de.tl,de.defers,de.gen,?_,?_,?_,?_⟩
      ·intro x k hx; simpa using de.owlt x k hx
      ·intro x o' hx; simpa using de.fixlt x o' hx
      ·refine de.heap.keepBut dM dE (λn' k c9=>⟨by simp; omega,by simp⟩) (λ_ =>?_)
       refine .inr ⟨b,eJ,ev,mes',clock',ft,b2,b3,b4,?_⟩
       intro i en p hi hp
       obtain⟨c1,c2⟩:=b5 i en p hi hp
       exact⟨c1.ext dM,c2.keep dM dE (by simp)⟩
      ·simp only[wV,bM]; exact de.hdom
     show next (a.put o.dst undef) _
     rw[gc]
     refine hk _ _ G1 ?_ (dW.trans dM) rfl
     rw[da]
     exact gO
    have gX:∀w',(Instr.mapUpdate t (.map (some b)) (a.eval x) (a.eval y)).run P w = .ok () w'→(execOp a.eval o).run P w = .ok .skip w':=by
     intro w' h
     rcases cK with cK|cK<;>simp[execOp,cK,mo,h]
    rcases LU eW jU (mes:=mes.toList) (es:=es) (by simpa using a2) (λi e p h1 h2=>(a5 i e p (by simpa using h1) h2).1) fU with⟨rfl,h2⟩ | ⟨i,v',en,p1,rfl,h2,h3,h4,h5⟩
    ·
     simp only[ac] at hs
     obtain⟨rfl,rfl⟩:=hs
     refine finish (mes.push { key:=a.eval x,val:=a.eval y,born:=clock }) (clock+1) (es++[(k,v)]) (gX _ ?_) (by simp[a2]) ?_ ?_ ?_ rfl rfl
     ·simp only[Instr.mapUpdate,Sem.run_bind,run_underlying hu,Result.andThen_ok,run_getObj_map a1,Is eW jU fU,h2,run_setObj_map _ a1]
     ·intro i e' dB
      rw[Array.getElem?_push] at dB
      split at dB
      ·simp at dB; subst dB; simp
      ·have:=a3 i e' dB; omega
     ·intro i i' e' e'' dB he'' iN
      rw[Array.getElem?_push] at dB he''
      split at dB<;>split at he''
      ·omega
      ·simp at dB; subst dB
       have:=a3 i' e'' he''; simp at iN; omega
      ·simp at he''; subst he''
       have:=a3 i e' dB; simp at iN; omega
      ·exact a4 i i' e' e'' dB he'' iN
     ·intro i e' p dB hp
      rw[Array.getElem?_push] at dB
      split at dB
      ·rename_i hi
       simp at dB; subst dB
       rw[ap (by omega)] at hp
       have:i - es.length=0:=by omega
       rw[this] at hp
       simp at hp; subst hp
       refine⟨jU,?_⟩
       have jI:idx=i:=by show es.length=i; omega
       rw[jI] at lO
       exact lO
      ·have hi:i<es.length:=by have:=(aX.1 dB).1; omega
       rw[am hi] at hp
       exact a5 i e' p dB hp
    ·
     simp only[ac] at hs
     obtain⟨rfl,rfl⟩:=hs
     have jI:idx=i:=by show i=i; rfl
     rw[jI] at lO
     have cO:i<mes.size:=by have:=(aj.1 h3).1; simpa using this
     have lA:mes[i]? = some en:=by rw[← bP]; exact h3
     have pR:Instr.sameBits 10000 en.key (a.eval x)=true:=c1n jU (a5 i en (p1,v') lA h4).1 h5 9999
     refine finish (mes.modify i λe=>{ e with key:=a.eval x,val:=a.eval y }) clock (es.set i (k,v)) (gX _ ?_) (by simp[a2]) ?_ ?_ ?_ rfl rfl
     ·simp only[Instr.mapUpdate,Sem.run_bind,run_underlying hu,Result.andThen_ok,run_getObj_map a1,Is eW jU fU,h2,lA,az,bJ,Instr.keyThatStays,pR,if_true,Sem.run_pure,run_setObj_map _ a1]
     ·intro i' e' dB
      rw[Array.getElem?_modify] at dB
      split at dB
      ·simp only[ab] at dB
       obtain⟨e2,h6,rfl⟩:=dB
       exact a3 i' e2 h6
      ·exact a3 i' e' dB
     ·have cW:∀(i':Nat) (e':MapEntry),(mes.modify i λe=>{ e with key:=a.eval x,val:=a.eval y })[i']? = some e'→∃e2:MapEntry,mes[i']? = some e2∧e2.born=e'.born:=by
       intro i' e' dB
       rw[Array.getElem?_modify] at dB
       split at dB
       ·simp only[ab] at dB
        obtain⟨e2,h6,rfl⟩:=dB
        exact⟨e2,h6,rfl⟩
       ·exact⟨e',dB,rfl⟩
      intro i1 i2 e1 e2 wi qU iN
      obtain⟨f1,g1,g2⟩:=cW i1 e1 wi
      obtain⟨f2,g3,g4⟩:=cW i2 e2 qU
      exact a4 i1 i2 f1 f2 g1 g3 (by rw[g2,g4,iN])
     ·intro i' e' p dB hp
      rw[Array.getElem?_modify] at dB
      rw[aJ] at hp
      split at dB
      ·rename_i fG
       subst fG
       rw[ah rfl] at hp
       split at hp
       ·simp at hp; subst hp
        rw[lA] at dB
        simp at dB; subst dB
        exact⟨jU,lO⟩
       ·simp at hp
      ·rename_i fG
       rw[af fG] at hp
       exact a5 i' e' p dB hp
 ·simp at hs
theorem c1o (hE:EnvOk E N) (nm:Names vs (wq vs ops)) (ho:ops[j]? = some o) (hf:FI N w G st a vs (wq vs ops)) {t kt e:TypeId} {ts:Array TypeId} {x:Operand} {px:PX} (cK:o.op = .call { callee := .builtin .len,args := #[x],argTypes:=ts })
  (h0:ts[0]? = some t) (hu:P.underlying t=some (.map kt e)) (hx:cx E vs ops x=some px) {cf:wE} (hs:wx cf (.mlen px) st=some (u,st1)) (hk:wN N w G a st1 u vs ops j o next):o.wp P a w next Q:=by
 simp only[wx] at hs
 split at hs
 ·rename_i n hp
  simp only[ab,ac] at hs
  obtain⟨es,hg,rfl,rfl⟩:=hs
  have h:=(wW hE hx hf hp).1
  generalize hv:a.eval x=v at h
  refine wZ nm ho hf ?_ (SR.of_pure (.int _ _) rfl) hk
  cases h with
  | mapn =>
    simp only[xt,aa] at hg
    subst hg
    simp only[execOp,cK,resolve,Sem.run_bind,Sem.run_pure,Result.andThen_ok,invoke,builtin,Builtin.len_,h0,List.map_toArray,aG,bA,hv,bI,ci,run_underlying hu,goInt]
    rfl
  | map n b hb =>
    obtain⟨_,_,mes,clock,a1,a2,_⟩:=LV hf hg hb
    simp only[execOp,cK,resolve,Sem.run_bind,Sem.run_pure,Result.andThen_ok,invoke,builtin,Builtin.len_,h0,List.map_toArray,aG,bA,hv,bI,ci,run_underlying hu,goInt,run_getObj_map a1,a2]
 ·simp at hs
theorem c1p (hE:EnvOk E N) {x:Operand} {px:PX} (hc:cx E vs ops x=some px) (hf:FI N w G st a vs (wq vs ops)) (ht:Ab st px=some (u,st1)):
  ∃G',FI N w G' st1 a vs (wq vs ops)∧Ext w G w G'∧VR N w G'.fix G'.heap (a.eval x) u:=by
 by_cases ku:∃i g cs,px = .v i∧raw st px=some (.loc g cs)
 ·obtain⟨i,g,cs,rfl,hr⟩:=ku
  simp only[Ab,hr,aa,ac] at ht
  obtain⟨rfl,rfl⟩:=ht
  have hs:=BZ hE hc hf hr
  obtain⟨b,i',hk,hv,hb,ho,ig,cv,T,hh,hl,i8⟩:=hs
  simp only[zJ,Key.var.injEq] at hk
  subst hk
  have fp:=hf.owlt _ _ ho
  let G':GS:={ G with fix:=λb' o=>G.fix b' o∨(b'=b∧o<cs.length),ow:=λb'=>if b'=b then none else G.ow b' }
  have cH:Ext w G w G':=by
   refine⟨rfl,rfl,rfl,aq _,λ_ _ _=>rfl,λ_ _ h=>⟨.inl h,rfl⟩,?_,?_,λ_ _ h=>h,ShapeLe.refl w,rfl⟩
   ·rintro b' o (h|⟨rfl,_⟩)
    ·exact .inl h
    ·refine .inr (.inr ?_)
     rw[show G.ow b'=some (zJ (.v i)) from ho]; simp
   ·intro b' h
    simp only[G'] at h
    split at h
    ·simp at h
    ·exact .inr h
  have cM:xO (λk=>k = .var i) w G w G':=by
   refine⟨?_,λ_ _ h=>h⟩
   intro b' k cW hn
   have c9:b'≠b:=by rintro rfl; rw[show G.ow b'=some (zJ (.v i)) from ho] at cW; simp[zJ] at cW; exact hn cW.symm
   refine⟨by simp only[G']; rw[af c9]; exact cW,rfl,?_⟩
   rintro o (h|⟨h,_⟩)
   ·exact h
   ·exact absurd h c9
  have cR:VR N w G'.fix G'.heap (a.eval x) (.cptr (cs.map dem)):=by
   rw[hv]
   refine .cptr b 0 (cs.map dem) (λk=>cv.getD k undef) ?_ ?_ ?_
   ·intro y hy
    obtain⟨z,hz,rfl⟩:=a8.1 hy
    obtain⟨k,hk⟩:=be.1 hz
    have cO:k<cv.size:=by have:=(aj.1 hk).1; omega
    rw[Di]
    exact(i8 k cv[k] z (by simp[cO]) hk).2.1
   ·intro k hk
    simp only[aS] at hk
    have cO:k<cv.size:=by omega
    refine⟨?_,.inr ⟨rfl,by omega⟩⟩
    simp[World.cell?,hh,cO]
   ·intro k y hy
    simp only[aB,ab] at hy
    obtain⟨z,hz,rfl⟩:=hy
    have cO:k<cv.size:=by have:=(aj.1 hz).1; omega
    have:=(i8 k cv[k] z (by simp[cO]) hz).1
    simp only[aM,Array.getElem?_eq_getElem cO,bJ]
    exact this.dem.ext cH
  have hx:∃t,vs[i]? = some t∧a.eval (.tmp t)=a.eval x:=by
   cases x with
   | tmp t =>
     simp only[cx] at hc
     split at hc
     ·rename_i i2 hi
      simp at hc; subst hc
      obtain⟨_,h2⟩:=CB hi
      exact⟨t,by simpa using h2,rfl⟩
     ·simp at hc
   | const v=>simp only[cx] at hc; split at hc<;>simp at hc
   | global g=>simp[cx] at hc
   | func f=>simp[cx] at hc
  obtain⟨tx,nP,lc⟩:=hx
  refine⟨G',?_,cH,cR⟩
  refine⟨by simp[hf.len],?_,λj' t' u' h1 h2=>(hf.loc j' t' u' h1 h2).keep cH cM (by simp) (by simp),hf.tv,hf.tl,hf.defers,hf.gen,?_,?_,hf.heap.keep cH cM (by rintro k hk rfl; simp[Key.isH] at hk),hf.hdom⟩
  ·intro i' t' u' h1 h2
   simp only[aJ] at h2
   split at h2
   ·rename_i hi
    subst hi
    split at h2
    ·simp at h2; subst h2
     have:t'=tx:=by rw[nP] at h1; simpa using h1.symm
     subst this
     exact SR.of_pure (lc▸cR) rfl
    ·simp at h2
   ·rename_i hi
    exact(hf.var i' t' u' h1 h2).keep cH cM (by simp; omega) (by simp)
  ·intro b' k h
   simp only[G'] at h
   split at h
   ·simp at h
   ·exact hf.owlt _ _ h
  ·rintro b' o (h|⟨rfl,_⟩)
   ·exact hf.fixlt _ _ h
   ·exact fp
 ·have fK:Ab st px=(rd st px).map (·,st):=by
   unfold Ab
   split
   ·rename_i i g cs h; exact absurd ⟨i,g,cs,rfl,h⟩ ku
   ·rfl
  rw[fK] at ht
  simp only[ab,ac] at ht
  obtain⟨r,hr,rfl,rfl⟩:=ht
  exact⟨G,hf,Ext.refl _ _,(wW hE hc hf hr).1⟩
theorem LW (hE:EnvOk E N):∀{xs:List Operand} {pxs:List PX} {G:GS} {st st1:St} {us:List PV},cxs E vs ops xs=some pxs→FI N w G st a vs (wq vs ops)→yp st pxs=some (us,st1) →
  ∃G',FI N w G' st1 a vs (wq vs ops)∧Ext w G w G'∧xs.length=us.length∧∀(i:Nat) (x:Operand) (u:PV),xs[i]? = some x→us[i]? = some u→VR N w G'.fix G'.heap (a.eval x) u
 | [], pxs, G, st, st1, us, hc, hf, h => by
   simp[cxs] at hc; subst hc
   simp only[yp,aa,ac] at h
   obtain⟨rfl,rfl⟩:=h
   exact⟨G,hf,Ext.refl _ _,rfl,by simp⟩
 | x :: xs, pxs, G, st, st1, us, hc, hf, h => by
   simp only[cxs,ai,ab] at hc
   obtain⟨p,hp,ps,d9,rfl⟩:=hc
   simp only[yp,ai,ab,ac] at h
   obtain⟨⟨v,st2⟩,h1,⟨q,st3⟩,h2,rfl,rfl⟩:=h
   obtain⟨G1,f1,e1,v1⟩:=c1p hE hp hf h1
   obtain⟨G2,f2,e2,l2,v2⟩:=LW hE d9 f1 h2
   refine⟨G2,f2,e1.trans e2,by simp[l2],?_⟩
   intro i y z hy hz
   cases i with
   | zero=>simp at hy hz; subst hy hz; exact v1.ext e2
   | succ i=>exact v2 i y z (by simpa using hy) (by simpa using hz)
theorem b8r (hE:EnvOk E N) (nm:Names vs (wq vs ops)) (ho:ops[j]? = some o) (hf:FI N w G st a vs (wq vs ops)) {f:FuncId} {k:Nat} {xs ys:Array Operand} {ps qs:List PX} (cK:o.op = .makeFunc (.func f) xs ys) (dh:E.inv f=some k)
  (hx:cxs E vs ops xs.toList=some ps) (hy:cxs E vs ops ys.toList=some qs) {cf:wE} (hs:wx cf (.mkfunc k ps qs) st=some (u,st1)) (hk:wN N w G a st1 u vs ops j o next):o.wp P a w next Q:=by
 simp only[wx,ai,ab,ac] at hs
 obtain⟨⟨us,st2⟩,h1,⟨zs,st3⟩,h2,rfl,rfl⟩:=hs
 obtain⟨G1,f1,e1,l1,v1⟩:=LW hE hx hf h1
 obtain⟨G2,f2,e2,l2,v2⟩:=LW hE hy f1 h2
 have eB:=hE.fn _ _ dh
 have wj:=hE.yl _ _ dh
 unfold Oper.wp
 have cL:(execOp a.eval o).run P w = .ok (.value (.func (.func f) (xs.map a.eval) (ys.map a.eval))) w:=by
  simp[execOp,cK,Instr.makeFunc]
 rw[cL]
 refine hk _ _ G2 (f2.put nm (zK ho) (SR.of_pure ?_ rfl)) (e1.trans e2) (zL _ _ _)
 subst eB
 refine .func k _ _ us zs wj (by simpa using l1) (by simpa using l2) ?_ ?_
 ·intro i c p hc hp
  simp only[bN,ab] at hc
  obtain⟨x,eA,rfl⟩:=hc
  exact(v1 i x p (by simpa using eA) hp).ext e2
 ·intro i c p hc hp
  simp only[bN,ab] at hc
  obtain⟨x,eA,rfl⟩:=hc
  exact v2 i x p (by simpa using eA) hp
theorem It {t:TypeId} {v c:Value} {b:Bool} (h:(Op.equalIn 10000 t v c).run P w = .ok b w) (op:BinOp) (cK:op = .eql∨op = .neq) (x y:Operand)
  (hg:(eqGuard op t x y v c).run P w = .ok () w) (eJ:binOp .eql t v c=(do let r←Op.equal t v c; pure (.bool r))) (dI:binOp .neq t v c=(do let r←Op.equal t v c; pure (.bool !r))):
  (do eqGuard op t x y v c; binOp op t v c:Sem Value).run P w = .ok (.bool (if op == .neq then !b else b)) w:=by
 have h':(Op.equal t v c).run P w = .ok b w:=h
 rcases cK with rfl|rfl
 ·simp only[Sem.run_bind,hg,Result.andThen_ok,eJ,h',Sem.run_pure]; rfl
 ·simp only[Sem.run_bind,hg,Result.andThen_ok,dI,h',Sem.run_pure]; rfl
theorem c3f {t e:TypeId} (hu:P.underlying t=some (.slice e)) (ad:Option Addr) (l c:Nat):(Op.equalIn 10000 t (.slice ad l c) (.slice none 0 0)).run P w = .ok ad.isNone w:=by
 unfold Op.equalIn
 simp only[Sem.run_bind,run_underlying hu,Result.andThen_ok]
 cases ad<;>rfl
theorem c7M {t e:TypeId} (hu:P.underlying t=some (.pointer e)) (ad:Option Addr):(Op.equalIn 10000 t (.pointer ad) (.pointer none)).run P w = .ok ad.isNone w:=by
 unfold Op.equalIn
 simp only[Sem.run_bind,run_underlying hu,Result.andThen_ok]
 cases ad<;>rfl
theorem c7N {t k e:TypeId} (hu:P.underlying t=some (.map k e)) (r:Option Nat):(Op.equalIn 10000 t (.map r) (.map none)).run P w = .ok r.isNone w:=by
 unfold Op.equalIn
 simp only[Sem.run_bind,run_underlying hu,Result.andThen_ok]
 cases r<;>rfl
theorem c3g {t:TypeId} {ms:Array (String×TypeId)} (hu:P.underlying t=some (.interface ms)) (v:Value) (b:Bool) (h:(v = .nilIface∧b=true)∨(∃t' x,v = .iface t' x)∧b=false):(Op.equalIn 10000 t v .nilIface).run P w = .ok b w:=by
 unfold Op.equalIn
 simp only[Sem.run_bind,run_underlying hu,Result.andThen_ok]
 rcases h with⟨rfl,rfl⟩|⟨⟨t',x,rfl⟩,rfl⟩<;>rfl
theorem b9r (hE:EnvOk E N) (nm:Names vs (wq vs ops)) (ho:ops[j]? = some o) (hf:FI N w G st a vs (wq vs ops)) {op:BinOp} {t t':TypeId} {x y:Operand} {px:PX} {kd:Nat} (cK:o.op = .binOp op t x y t')
  (ge:op = .eql∨op = .neq) (ht:IL P t y=some kd) (hx:cx E vs ops x=some px) {cf:wE} (hs:wx cf (.isnil kd (op == .neq) px) st=some (u,st1)) (hk:wN N w G a st1 u vs ops j o next):o.wp P a w next Q:=by
 simp only[wx,ab,ai,ac] at hs
 obtain⟨b,⟨p,hp,hb⟩,rfl,rfl⟩:=hs
 have hv:=(wW hE hx hf hp).1
 refine wZ nm ho hf ?_ (SR.of_pure (.bool _) rfl) hk
 have jr:∀v c:Value,(∀cs,v≠.agg cs)→v≠.nilIface→(eqGuard op t x y v c).run P w = .ok () w:=by
  intro v c h1 h2
  rcases ge with rfl|rfl<;>cases v<;>cases c<;>first|rfl|exact absurd rfl h2|exact absurd rfl (h1 _)
 have key:(do eqGuard op t x y (a.eval x) (a.eval y); binOp op t (a.eval x) (a.eval y):Sem Value).run P w = .ok (.bool (if op == .neq then !b else b)) w:=by
  unfold IL at ht
  split at ht<;>simp only[aa,reduceCtorEq] at ht<;>subst ht
  ·rename_i hu
   have dg:∃ad l c,a.eval x = .slice ad l c∧ad.isNone=b:=by
    generalize a.eval x=v at hv
    unfold CK at hb
    split at hb<;>simp only[aa,reduceCtorEq] at hb<;>subst hb<;>(try (rename_i h0; simp at h0))<;>cases hv<;>first|exact⟨_,_,_,rfl,rfl⟩|simp_all
   obtain⟨ad,l,c,eA,rfl⟩:=dg
   rw[eA]
   exact It (c3f hu ad l c) op ge x _ (jr _ _ (by simp) (by simp)) rfl rfl
  ·rename_i hu
   have dg:∃ad,a.eval x = .pointer ad∧ad.isNone=b:=by
    generalize a.eval x=v at hv
    unfold CK at hb
    split at hb<;>simp only[aa,reduceCtorEq] at hb<;>subst hb<;>(try (rename_i h0; simp at h0))<;>cases hv<;>exact⟨_,rfl,rfl⟩
   obtain⟨ad,eA,rfl⟩:=dg
   rw[eA]
   exact It (c7M hu ad) op ge x _ (jr _ _ (by simp) (by simp)) rfl rfl
  ·rename_i hu
   have dg:∃ad,a.eval x = .map ad∧ad.isNone=b:=by
    generalize a.eval x=v at hv
    unfold CK at hb
    split at hb<;>simp only[aa,reduceCtorEq] at hb<;>subst hb<;>(try (rename_i h0; simp at h0))<;>cases hv<;>exact⟨_,rfl,rfl⟩
   obtain⟨ad,eA,rfl⟩:=dg
   rw[eA]
   exact It (c7N hu ad) op ge x _ (jr _ _ (by simp) (by simp)) rfl rfl
  ·rename_i hu
   have dg:(a.eval x = .nilIface∧b=true)∨(∃t' z,a.eval x = .iface t' z)∧b=false:=by
    generalize a.eval x=v at hv
    unfold CK at hb
    split at hb<;>simp only[aa,reduceCtorEq] at hb<;>subst hb<;>(try (rename_i h0; simp at h0))<;>cases hv<;>first|exact .inl ⟨rfl,rfl⟩|exact .inr ⟨⟨_,_,rfl⟩,rfl⟩
   have hg:(eqGuard op t x (.const .nilIface) (a.eval x) .nilIface).run P w = .ok () w:=by
    rcases dg with⟨h,_⟩|⟨⟨t',z,h⟩,_⟩<;>rw[h]<;>rcases ge with rfl|rfl<;>simp[eqGuard]
   have he:=c3g (P:=P) (w:=w) hu _ _ dg
   refine It he op ge x _ hg ?_ ?_<;>(rcases dg with⟨h,_⟩|⟨⟨t',z,h⟩,_⟩<;>rw[h]<;>rfl)
 simp only[execOp,cK,Sem.run_bind,key,Result.andThen_ok,Sem.run_pure]
theorem b9s (hE:EnvOk E N) (nm:Names vs (wq vs ops)) (ho:ops[j]? = some o) (hf:FI N w G st a vs (wq vs ops)) {t:TypeId} {n:Nat} {x:Operand} {px:PX} (cK:o.op = .load t x) (hn:wT P t=some n)
  (hx:cx E vs ops x=some px) {cf:wE} (hs:wx cf (.loadc n (xu P t) px) st=some (u,st1)) (hk:wN N w G a st1 u vs ops j o next):o.wp P a w next Q:=by
 simp only[wx] at hs
 split at hs
 ·rename_i cs ha
  simp only[ab,ac] at hs
  obtain⟨r,hr,rfl,rfl⟩:=hs
  obtain⟨r',h1,h2,h3⟩:=LI (P:=P) hn (wW hE hx hf ha).1 hr
  exact wZ nm ho hf (by simp[execOp,cK,h1]) (SR.of_pure h2 h3) hk
 ·simp at hs
theorem b8s (hE:EnvOk E N) (nm:Names vs (wq vs ops)) (ho:ops[j]? = some o) (hf:FI N w G st a vs (wq vs ops)) {x:Operand} {px:PX} (cK:o.op = .nilCheck x)
  (hx:cx E vs ops x=some px) {cf:wE} (hs:wx cf (.nilchk px) st=some (u,st1)) (hk:wN N w G a st1 u vs ops j o next):o.wp P a w next Q:=by
 have run:∀ad,a.eval x = .pointer (some ad)→(execOp a.eval o).run P w = .ok (.value (.pointer (some ad))) w:=by
  intro ad h
  simp[execOp,cK,h]
 simp only[wx] at hs
 split at hs
 ·rename_i n off ha
  simp only[aa,ac] at hs
  obtain⟨rfl,rfl⟩:=hs
  obtain⟨b,hv,hb⟩:=Iq hE hx hf ha
  exact wZ nm ho hf (run _ hv) (SR.of_pure (.ptr _ _ b hb) rfl) hk
 ·rename_i cs ha
  simp only[aa,ac] at hs
  obtain⟨rfl,rfl⟩:=hs
  rcases Bx hE hx hf ha with⟨_,_,_,_,h,_⟩|⟨h,_⟩
  ·simp at h
  ·generalize hv:a.eval x=v at h
   have h':=h
   cases h with
   | cptr b off _ cv _ _ _=>exact wZ nm ho hf (run _ hv) (SR.of_pure h' rfl) hk
 ·rename_i s g off ha
  simp only[aa,ac] at hs
  obtain⟨rfl,rfl⟩:=hs
  rcases Bx hE hx hf ha with⟨_,_,_,b,h,hv,hb⟩|⟨_,h⟩
  ·simp only[PV.lptr.injEq] at h
   obtain⟨rfl,rfl,rfl⟩:=h
   exact wZ nm ho hf (run _ hv) (SR.lptr rfl hb) hk
  ·simp[cp] at h
 ·simp at hs
theorem c1q (hE:EnvOk E N) (nm:Names vs (wq vs ops)) (ho:ops[j]? = some o) (hf:FI N w G st a vs (wq vs ops)) {t e:TypeId} {n size:Nat} {parts:Array (Nat×Operand)} {z:List PV} {ps:List (Nat×Nat×PX)}
  (cK:o.op = .build t parts) (hu:P.underlying t=some (.array n e)) (hn:wT P e=some size) (hz:yE P t=some z)
  (hc:CW E vs ops (λi=>some (i*size,size)) parts.toList=some ps) {cf:wE} (hs:wx cf (.barr z ps) st=some (u,st1)) (hk:wN N w G a st1 u vs ops j o next):o.wp P a w next Q:=by
 simp only[wx,ab,ai,ac] at hs
 obtain⟨rs,⟨qs,hq,wV⟩,rfl,rfl⟩:=hs
 obtain⟨i,zv,hi,jE,_,_,hR,hO⟩:=Ct (N:=N) (w:=w) (fix:=G.fix) (hp:=G.heap) hz
 obtain⟨ie,d,pp,cQ,_,_⟩:=zu hn
 obtain⟨ds,h1,h2,h3⟩:=LM hE hf hc hq wV hR hO
 refine wZ nm ho hf (v := .agg ds) ?_ (SR.of_pure (by simpa using h2.agg h3) rfl) hk
 have hb:P.built t (parts.map λ(i,x)=>(i,a.eval x)).toList=some ds:=by
  simp only[Program.built,hi,hu,jE,pp,cQ]
  simpa using h1
 simp[execOp,cK,run_build w t _ ds hb]
theorem c1r (hE:EnvOk E N) (nm:Names vs (wq vs ops)) (ho:ops[j]? = some o) (hf:FI N w G st a vs (wq vs ops)) {t e:TypeId} {len n:Nat} {x i:Operand} {px pi:PX} (cK:o.op = .index t x i)
  (hu:P.underlying t=some (.array len e)) (hn:wT P e=some n) (hx:cx E vs ops x=some px) (hi:cx E vs ops i=some pi) {cf:wE}
  (hs:wx cf (.idxA len n (xu P e) px pi) st=some (u,st1)) (hk:wN N w G a st1 u vs ops j o next):o.wp P a w next Q:=by
 have eP:n≠0:=by obtain⟨_,_,_,_,h,_⟩:=zu hn; exact h
 simp only[wx] at hs
 split at hs
 ·rename_i ps k d9 iF
  split at hs
  ·rename_i eD
   simp only[ab,ac] at hs
   obtain⟨r,hr,rfl,rfl⟩:=hs
   obtain⟨cs,hv,hR⟩:=CellsR.of_agg (wW hE hx hf d9).1
   obtain⟨kk,gk⟩:=B0 hE hi hf iF
   obtain⟨h1,h2,h3⟩:=Dj hR hr eP (B4 hn)
   refine wZ nm ho hf ?_ (SR.of_pure h2 h3) hk
   have hx:(part e cs (k.toNat*n)).run P w = .ok (if xu P e then .agg ((cs.toList.drop (k.toNat*n)).take n).toArray else(cs.toList.drop (k.toNat*n)).headD undef) w:=by
    simp only[part,Sem.run_bind,DS hn,Sem.run_ite,z8 hn,Result.andThen_ok,Sem.run_pure]
    by_cases ha:xu P e=true
    ·simp only[ha,if_true]
     congr 2
     apply Array.ext'
     simp
    ·simp only[cn] at ha
     have cO:k.toNat*n<cs.size:=by simp at h1; omega
     simp[ha,aN (l:=cs.toList) (i:=k.toNat*n) (by simpa using cO),cO]
   simp[execOp,cK,Instr.index,gk,asIntOf,run_underlying hu,hv,eD,z8 hn,hx]
  ·simp at hs
 ·simp at hs
end
end PI
