import Derived.Test.YtljbhgpanekomaaGreatDoorPiSound1
import Derived.Laws.BytesArg
import Derived.Lib.ConvBytes
import Derived.MapKept
set_option linter.unusedSimpArgs false
set_option linter.unusedVariables false
set_option linter.unusedSectionVars false
namespace PI
open Go
theorem FI.extDst {N:Nm} {w w':World} {G G':GS} {st:St} {a:Act} {vs:List Tmp} {lm:Nat→Option Tmp} {j:Nat} {d:PD} {dst:Option Tmp} {v:Value} {u:PV}
  (h:FI N w G st a vs lm) (nm:Names vs lm) (hd:c1y vs lm j d dst) (hdn:d≠.n) (e:Ext w G w' G') (hk:a6B (λk=>k=a9j d j) w G w' G')
  (hg:∀g b,G'.box g=some b→g<st.gen) (ho:∀b k,G'.ow b=some k→b<w'.heap.size) (hx:∀b o,G'.fix b o→b<w'.heap.size) (hh:G'.heap=G.heap) (hs:SR N w' G' (a9j d j) v u):
  FI N w' G' (PI.put st j d u) (a.put dst v) vs lm:=by
 cases d with
 | n=>exact absurd rfl hdn
 | v i =>
   obtain⟨t,rfl,ht⟩:=hd
   have hsz:=h.tv i t ht
   refine⟨by simp[PI.put,h.len],?_,?_,?_,?_,(h.defers.trans e.df.symm),hg,ho,hx,h.heap.keep e hk (by intro k hk e; subst e; simp[a9j,Key.isH] at hk),by rw[hh]; exact h.hdom⟩
   ·intro i' t' u' h1 h2
    rw[a5Q _ _ _ _ hsz]
    simp only[PI.put,List.getElem?_set] at h2
    by_cases hi:i=i'
    ·subst hi
     have:t'=t:=by rw[ht] at h1; simpa using h1.symm
     subst this
     split at h2
     ·split at h2
      ·simp at h2; subst h2; simp only[if_true]; exact hs
      ·simp at h2
     ·exact absurd rfl ‹_›
    ·rw[if_neg hi] at h2
     have hne:t'≠t:=λe=>hi (nm.vnd i i' t ht (e▸h1))
     rw[if_neg hne]
     exact(h.var i' t' u' h1 h2).keep e hk (by simp[a9j]; omega) (by simp[a9j])
   ·intro j' t' u' h1 h2
    rw[a5Q _ _ _ _ hsz,if_neg (λe:t'=t=>nm.sep j' t' i h1 (e▸ht))]
    exact(h.loc j' t' u' h1 h2).keep e hk (by simp[a9j]) (by simp)
   ·intro i' t' h1; simpa[Act.put] using h.tv i' t' h1
   ·intro j' t' h1; simpa[Act.put] using h.tl j' t' h1
 | l =>
   obtain⟨t,rfl,ht⟩:=hd
   have hsz:=h.tl j t ht
   refine⟨h.len,?_,?_,?_,?_,(h.defers.trans e.df.symm),hg,ho,hx,h.heap.keep e hk (by intro k hk e; subst e; simp[a9j,Key.isH] at hk),by rw[hh]; exact h.hdom⟩
   ·intro i' t' u' h1 h2
    rw[a5Q _ _ _ _ hsz,if_neg (λe:t'=t=>nm.sep j t i' ht (e▸h1))]
    exact(h.var i' t' u' h1 h2).keep e hk (by simp[a9j]) (by simp[a9j])
   ·intro j' t' u' h1 h2
    rw[a5Q _ _ _ _ hsz]
    simp only[PI.put,List.getElem?_set] at h2
    by_cases hj:j=j'
    ·subst hj
     have:t'=t:=by rw[ht] at h1; simpa using h1.symm
     subst this
     split at h2
     ·split at h2
      ·simp at h2; subst h2; simp only[if_true]; exact hs
      ·simp at h2
     ·exact absurd rfl ‹_›
    ·rw[if_neg hj] at h2
     have hne:t'≠t:=λe=>hj (nm.lnd j j' t ht (e▸h1))
     rw[if_neg hne]
     exact(h.loc j' t' u' h1 h2).keep e hk (by simp[a9j]; omega) (by simp)
   ·intro i' t' h1; simpa[Act.put] using h.tv i' t' h1
   ·intro j' t' h1; simpa[Act.put] using h.tl j' t' h1
theorem SR.own {N:Nm} {w:World} {G:GS} {key:Key} {v:Value} {es:List PV} (h:VR N w G.fix G.heap v (.list true es)) (hr:Room w G key v es):SR N w G key v (.list true es):=⟨h,hr⟩
structure ListR (N:Nm) (w:World) (fix:Nat→Nat→Prop) (hp:Nat→Option Nat) (size:Nat) (news:List Value) (es:List PV):Prop where
 len:news.length=es.length*size
 sz:∀e∈es,e.cells.length=size
 flat:∀e∈es,∀x∈e.cells,x.flat=true
 vr:∀(i:Nat) (e:PV),es[i]? = some e→∀(k:Nat) (c:Value) (x:PV),news[i*size+k]? = some c→e.cells[k]? = some x→VR N w fix hp c x
section
variable {E:Env} {N:Nm} {w:World} {G:GS} {st:St} {a:Act} {vs:List Tmp} {ops:List Oper} {P:Program}
variable {o:Oper} {j:Nat} {next:Act→World→Prop} {Q:Exit→Act→World→Prop} {u:PV} {st1:St}
theorem ListR.append {fix:Nat→Nat→Prop} {hp:Nat→Option Nat} {size:Nat} {xs ys:List Value} {es fs:List PV} (h:ListR N w fix hp size xs es) (k:ListR N w fix hp size ys fs) (hs:size≠0):
  ListR N w fix hp size (xs++ys) (es++fs):=by
 refine⟨by simp[h.len,k.len,Nat.add_mul],?_,?_,?_⟩
 ·intro e he; rcases List.mem_append.1 he with he|he
  ·exact h.sz e he
  ·exact k.sz e he
 ·intro e he; rcases List.mem_append.1 he with he|he
  ·exact h.flat e he
  ·exact k.flat e he
 ·intro i e he m c x hc hx
  by_cases hi:i<es.length
  ·rw[List.getElem?_append_left hi] at he
   have hm:m<size:=by have:=(List.getElem?_eq_some_iff.1 hx).1; have:=h.sz e (List.mem_of_getElem? he); omega
   rw[List.getElem?_append_left (by rw[h.len]; exact b7i hi hm)] at hc
   exact h.vr i e he m c x hc hx
  ·rw[List.getElem?_append_right (by omega)] at he
   have hge:xs.length≤i*size+m:=by
    rw[h.len]
    have:es.length*size≤i*size:=Nat.mul_le_mul_right _ (by omega)
    omega
   rw[List.getElem?_append_right hge,h.len] at hc
   refine k.vr _ e he m c x ?_ hx
   rw[show (i - es.length)*size+m=i*size+m - es.length*size by
    rw[Nat.sub_mul]
    have:es.length*size≤i*size:=Nat.mul_le_mul_right _ (by omega)
    omega]
   exact hc
theorem ListR.mono {w':World} {fix fix':Nat→Nat→Prop} {hp hp':Nat→Option Nat} {size:Nat} {xs:List Value} {es:List PV} (h:ListR N w fix hp size xs es)
  (hf:∀b o,fix b o→fix' b o∧w'.cell? ⟨b,o,none⟩=w.cell? ⟨b,o,none⟩) (hh:∀n b,hp n=some b→hp' n=some b) (hs:ShapeLe w w'):ListR N w' fix' hp' size xs es:=
 ⟨h.len,h.sz,h.flat,λi e he k c x hc hx=>(h.vr i e he k c x hc hx).mono hf hh hs⟩
theorem ListR.one {fix:Nat→Nat→Prop} {hp:Nat→Option Nat} {size:Nat} {xs:List Value} {es:List PV} (h:ListR N w fix hp size xs es) (hs:size≠0):∀c∈xs,c.oneCell'=true:=by
 intro c hc
 obtain⟨m,hm⟩:=List.mem_iff_getElem?.1 hc
 have hlt:m<es.length*size:=by have:=(List.getElem?_eq_some_iff.1 hm).1; rw[h.len] at this; exact this
 have hi:m / size<es.length:=by rw[Nat.div_lt_iff_lt_mul (by omega)]; exact hlt
 have hk:m % size<size:=Nat.mod_lt _ (by omega)
 have he:=List.getElem?_eq_getElem hi
 have hmem:=List.mem_of_getElem? he
 have hkl:m % size<(es[m / size]).cells.length:=by rw[h.sz _ hmem]; exact hk
 have hx:=List.getElem?_eq_getElem hkl
 have hmk:m / size*size+m % size=m:=by rw[Nat.mul_comm]; exact Nat.div_add_mod m size
 have h1:=(h.vr _ _ he _ c _ (by rw[hmk]; exact hm) hx).oneCell (h.flat _ hmem _ (List.mem_of_getElem? hx))
 cases c<;>first|rfl|simp[oneCell] at h1
theorem a97 {fix:Nat→Nat→Prop} {hp:Nat→Option Nat} {size:Nat} {v:Value} {own:Bool} {es:List PV} (h:VR N w fix hp v (.list own es)) (hh:a0W size es=true):
  ∃ news, ListR N w fix hp size news es ∧ ((v = .slice none 0 0 ∧ es = [] ∧ news = []) ∨ (∃ ad cap, v = .slice (some ad) 0 cap ∧ es = [] ∧ news = []) ∨
    ∃b off cap,v = .slice (some ⟨b,off,none⟩) es.length cap∧es.length≤cap∧∀(j:Nat) (u:Value),news[j]? = some u→w.cell? ⟨b,off+j,none⟩=some u∧fix b (off+j)):=by
 cases h with
 | nils=>exact⟨[],⟨by simp,by simp,by simp,by simp⟩,.inl ⟨rfl,rfl,rfl⟩⟩
 | void _ ad cap=>exact⟨[],⟨by simp,by simp,by simp,by simp⟩,.inr (.inl ⟨ad,cap,rfl,rfl,rfl⟩)⟩
 | list _ b off len cap sz _ cv hlen hcap hsz hflat hcell hvr =>
   subst hlen
   by_cases h0:es=[]
   ·subst h0
    exact⟨[],⟨by simp,by simp,by simp,by simp⟩,.inr (.inr ⟨b,off,cap,rfl,hcap,by simp⟩)⟩
   ·have hs:sz=size:=by
     cases es with
     | nil=>exact absurd rfl h0
     | cons y ys =>
       have:=hsz y (by simp)
       simp[a0W] at hh
       omega
    subst hs
    refine⟨(List.range (es.length*sz)).map cv,⟨by simp,hsz,hflat,?_⟩,.inr (.inr ⟨b,off,cap,rfl,hcap,?_⟩)⟩
    ·intro i e he k c x hc hx
     simp only[List.getElem?_map,Option.map_eq_some_iff] at hc
     obtain⟨m,hm,rfl⟩:=hc
     have:m=i*sz+k:=by
      have:=(List.getElem?_eq_some_iff.1 hm)
      obtain⟨h1,h2⟩:=this
      simp at h2; exact h2.symm
     subst this
     exact hvr i e he k x hx
    ·intro j u hu
     simp only[List.getElem?_map,Option.map_eq_some_iff] at hu
     obtain⟨m,hm,rfl⟩:=hu
     have hm':m=j∧j<es.length*sz:=by
      obtain⟨h1,h2⟩:=List.getElem?_eq_some_iff.1 hm
      simp at h1 h2; exact⟨h2.symm,h1⟩
     obtain⟨rfl,hlt⟩:=hm'
     exact hcell m hlt
theorem b3P {fix:Nat→Nat→Prop} {hp:Nat→Option Nat} {size b off cap:Nat} {own:Bool} {es:List PV} {news:List Value} (h:ListR N w fix hp size news es) (hcap:es.length≤cap)
  (hc:∀(j:Nat) (u:Value),news[j]? = some u→w.cell? ⟨b,off+j,none⟩=some u∧fix b (off+j)):VR N w fix hp (.slice (some ⟨b,off,none⟩) es.length cap) (.list own es):=by
 refine .list own b off es.length cap size es (λk=>news.getD k undef) rfl hcap h.sz h.flat ?_ ?_
 ·intro k hk
  have hlt:k<news.length:=by rw[h.len]; exact hk
  have:=hc k news[k] (List.getElem?_eq_getElem hlt)
  simpa[List.getD,List.getElem?_eq_getElem hlt] using this
 ·intro i e he k x hx
  have hk:k<size:=by have:=(List.getElem?_eq_some_iff.1 hx).1; have:=h.sz e (List.mem_of_getElem? he); omega
  have hi:i<es.length:=(List.getElem?_eq_some_iff.1 he).1
  have hlt:i*size+k<news.length:=by rw[h.len]; exact b7i hi hk
  have:=h.vr i e he k news[i*size+k] x (List.getElem?_eq_getElem hlt) hx
  simpa[List.getD,List.getElem?_eq_getElem hlt] using this
theorem a2A (P:Program) (g o:Nat) (t:TypeId) (fz:Nat×Nat):∀(vs:List Value) (i:Nat) (cur:Array Value) (w:World),w.heap[g]? = some (.cells cur t fz)→(∀o,o<cur.size→¬(fz.1≤o∧o<fz.2))→o+i+vs.length≤cur.size→(∀v∈vs,v.oneCell'=true) →
  (storeCells ⟨g,o,none⟩ vs i).run P w = .ok () (w.setRow g (cur.toList.take (o+i)++vs++cur.toList.drop (o+i+vs.length)).toArray)
 | [], i, cur, w, hg, _, _, _ => by
   simp only[storeCells,List.append_nil,List.length_nil,Nat.add_zero,List.take_append_drop,Array.toArray_toList]
   rw[setRow_self w g cur t fz hg]
   rfl
 | v :: rest, i, cur, w, hg, hz, hl, h1 => by
   have hi:o+i<cur.size:=by simp at hl; omega
   have hadd:(⟨g,o,none⟩:Addr).add i=⟨g,o+i,none⟩:=by unfold Addr.add; split<;>simp_all
   have hcell:w.cell? ⟨g,o+i,none⟩=some cur[o+i]:=by simp[World.cell?,hg,hi]
   have hfro:w.frozen? ⟨g,o+i,none⟩=false:=by
    have:=hz _ hi
    obtain⟨lo,hi'⟩:=fz
    simp only at this
    simp only[World.frozen?,hg,Bool.and_eq_false_iff,decide_eq_false_iff_not]
    omega
   have hst:(store ((⟨g,o,none⟩:Addr).add i) v).run P w = .ok () (w.setRow g (cur.setIfInBounds (o+i) v)):=by
    rw[hadd,run_store P w _ v _ (h1 v (by simp)),hcell]
    simp[hfro,setCell_eq_setRow w g (o+i) cur t fz v hg]
   have ih:=a2A P g o t fz rest (i+1) (cur.setIfInBounds (o+i) v) (w.setRow g (cur.setIfInBounds (o+i) v)) (setRow_heap w g cur _ t _ hg) (by simpa using hz) (by simp at hl ⊢; omega) (λx hx=>h1 x (by simp[hx]))
   simp only[storeCells,Sem.run_bind,hst,Result.andThen_ok,ih,setRow_setRow]
   congr 3
   have e:=list_seg_step cur.toList (o+i) v rest (by simp at hl ⊢; omega)
   simpa[Array.toList_setIfInBounds,Nat.add_assoc] using e
theorem b17 (hE:EnvOk E N) (nm:Names vs (a0t vs ops)) (ho:ops[j]? = some o) (hf:FI N w G st a vs (a0t vs ops)) {ts tx e:TypeId} {size:Nat} {z:List PV} {s x:Operand} {ps:PX}
  (hop:o.op = .call { callee := .builtin .append,args := #[s,x],argTypes := #[ts,tx] }) (hdst:a3j vs o.dst≠.n) (hts:P.underlying ts=some (.slice e)) (hn:a05 P e=some size) (hz:a38 P e=some z)
  (hs':cx E vs ops s=some ps) {es xs:List PV} {st':St} (htk:tk st ps=some (.list true es,st')) (hh1:a0W size es=true) (hlen:es.length+xs.length≤9223372036854775807) (hbytes:(es.length+xs.length)*P.bytesOf e≤140737488355328)
  {news:List Value} (hRx:ListR N w G.fix G.heap size news xs) (hsrc:Src P size tx (a.eval x) xs.length news w)
  (hk:a2Z N w G a st' (.list true (es++xs)) vs ops j o next):o.wp P a w next Q:=by
 obtain⟨i,d,hi,hisz,hs0,hd⟩:=a0n hn
 obtain⟨i2,zv,hi2,hzv,_,hzl,hzR,_⟩:=a19 (N:=N) (w:=w) (fix:=G.fix) (hp:=G.heap) hz
 have:i2=i:=by rw[hi] at hi2; simpa using hi2.symm
 subst this
 subst hisz
 have hzs:zv.cells.size=i2.size:=by have:=hzR.1; simp at this; omega
 have hby:P.bytesOf e=i2.bytes:=by simp[Program.bytesOf,hi]
 rw[hby] at hbytes
 obtain⟨G1,hf1,hext1,hbox1,hfix1,hheap1,hvr,htaken,_,hgen,_⟩:=a7R hE hs' hf htk (a9j (a3j vs o.dst) j)
 obtain⟨olds,hRs,hcs⟩:=a97 hvr hh1
 have hroom:Room w G1 (a9j (a3j vs o.dst) j) (a.eval s) es:=htaken
 have hop':∀v w',(Builtin.append_ #[ts,tx] o.type #[a.eval s,a.eval x]).run P w = .ok v w'→(execOp a.eval o).run P w = .ok (.value v) w':=by
  intro v w' hr
  simp[execOp,hop,resolve,invoke,builtin,hr]
 have hRx1:ListR N w G1.fix G1.heap i2.size news xs:=by rw[hfix1,hheap1]; exact hRx
 have hRs1:ListR N w G1.fix G1.heap i2.size olds es:=by rw[hfix1,hheap1]; exact hRs
 have hvr1:VR N w G1.fix G1.heap (a.eval s) (.list true es):=by rw[hfix1,hheap1]; exact hvr
 have finish:∀(v:Value) (w':World) (G':GS),(Builtin.append_ #[ts,tx] o.type #[a.eval s,a.eval x]).run P w = .ok v w'→Ext w G1 w' G'→a6B (λk=>k=a9j (a3j vs o.dst) j) w G1 w' G' →
   (∀g b,G'.box g=some b→G1.box g=some b)→(∀b k,G'.ow b=some k→b<w'.heap.size)→(∀b o,G'.fix b o→b<w'.heap.size)→G'.heap=G1.heap→VR N w' G'.fix G'.heap v (.list true (es++xs))→Room w' G' (a9j (a3j vs o.dst) j) v (es++xs) →
   o.wp P a w next Q:=by
  intro v w' G' hr hext hkeep hbx how hfx hh hv hrm
  unfold Oper.wp
  rw[hop' v w' hr]
  refine hk _ _ G' (hf1.extDst nm (a17 ho) hdst hext hkeep ?_ how hfx hh (SR.own hv hrm)) (hext1.trans hext) (a1v _ _ _)
  intro g b hb
  exact hf1.gen g b (hbx g b hb)
 by_cases hgrow:∃base cap,a.eval s = .slice base es.length cap∧cap<es.length+xs.length
 ·
  obtain⟨base,cap,hv,hcap⟩:=hgrow
  have hold:(Builtin.firstCells i2.size es.length (.slice base es.length cap)).run P w.drew = .ok olds.toArray w.drew:=by
   rcases hcs with⟨h1,h2,h3⟩|⟨ad,cap',h1,h2,h3⟩|⟨b,off,cap',h1,h2,h3⟩
   ·rw[hv] at h1; simp at h1
    obtain⟨rfl,_,rfl⟩:=h1
    subst h3
    exact run_firstCells_none w.drew _ _ _ _
   ·rw[hv] at h1; simp at h1
    obtain⟨rfl,_,rfl⟩:=h1
    subst h3
    rw[h2]
    exact run_firstCells_some w.drew _ _ _ _ _ [] (by simp) (by simp)
   ·rw[hv] at h1; simp at h1
    obtain⟨rfl,rfl⟩:=h1
    exact run_firstCells_some w.drew _ _ _ _ _ olds hRs.len (λj u hu=>by rw[a1X]; exact(h3 j u hu).1)
  have hfit:Builtin.nextslicecap (es.length+xs.length) cap*i2.bytes≤281474976710656:=by
   exact growslice_fits hcap hbytes
  have hrun:=run_append_grow_src (P:=P) w ts tx o.type e i2 zv hts hi hzv base es.length cap olds hold (a.eval x) xs.length news hsrc hcap (by omega) hfit
  rw[← hv] at hrun
  have hnofix:∀o,¬G1.fix w.heap.size o:=λo h=>by have:=hf1.fixlt _ _ h; omega
  have hnc:=grownCap_ge w (es.length+xs.length) cap e
  let CS:Array Value:=(olds++news).toArray++Builtin.zeroCells zv.cells (grownCap w (es.length+xs.length) cap e - (es.length+xs.length))
  let G':GS:={ G1 with fix:=λb o=>G1.fix b o∨(b=w.heap.size∧o<(es.length+xs.length)*i2.size),ow:=λb=>if b=w.heap.size then some (a9j (a3j vs o.dst) j) else G1.ow b }
  have hR:=hRs1.append hRx1 hs0
  have hCS:CS.size=grownCap w (es.length+xs.length) cap e*i2.size:=by
   simp only[CS,Array.size_append,List.size_toArray,size_zeroCells,hzs,hR.len,List.length_append]
   rw[Nat.sub_mul]
   have:(es.length+xs.length)*i2.size≤grownCap w (es.length+xs.length) cap e*i2.size:=Nat.mul_le_mul_right _ hnc
   omega
  have hext:Ext w G1 (w.drew.alloc (.cells CS e)) G':=by
   refine⟨rfl,rfl,rfl,by simp,λb hb _=>a0q (w:=w.drew) hb,λb o h=>⟨.inl h,a2a (w:=w.drew) (hf1.fixlt _ _ h)⟩,?_,?_,λ_ _ h=>h,.same λk hk=>a0q (w:=w.drew) hk,rfl⟩
   ·rintro b o (h|h)
    ·exact .inl h
    ·exact .inr (.inl (by omega))
   ·intro b hb
    simp only[G'] at hb
    split at hb
    ·exact .inl (by omega)
    ·exact .inr hb
  refine finish _ _ G' hrun hext ?_ (λ_ _ h=>h) ?_ ?_ rfl ?_ ?_
  ·refine⟨?_,λ_ _ h=>h⟩
   intro b k hb _
   have hlt:=hf1.owlt _ _ hb
   refine⟨?_,a0q (w:=w.drew) hlt,?_⟩
   ·simp only[G']; rw[if_neg (by omega)]; exact hb
   ·rintro o (h|h)
    ·exact h
    ·omega
  ·intro b k hb
   simp only[G'] at hb
   split at hb
   ·simp; omega
   ·have:=hf1.owlt _ _ hb; simp; omega
  ·rintro b o (h|h)
   ·have:=hf1.fixlt _ _ h; simp; omega
   ·simp; omega
  ·have hlen2:(es++xs).length=es.length+xs.length:=by simp
   have hfin:VR N (w.drew.alloc (.cells CS e)) G'.fix G'.heap (.slice (some ⟨w.heap.size,0,none⟩) (es++xs).length (grownCap w (es.length+xs.length) cap e)) (.list true (es++xs)) := ?_
   ·rw[hlen2] at hfin; exact hfin
   refine b3P (hR.mono hext.fix hext.heap hext.shape) (by rw[hlen2]; exact hnc) ?_
   intro j' u' hu
   have hlt:j'<(olds++news).length:=(List.getElem?_eq_some_iff.1 hu).1
   refine⟨?_,.inr ⟨rfl,by rw[hR.len,hlen2] at hlt; omega⟩⟩
   rw[Nat.zero_add]
   have:=World.cell?_alloc_new w.drew CS e j'
   refine this.trans ?_
   simp only[CS]
   rw[Array.getElem?_append_left (by simpa using hlt)]
   simpa using hu
  ·refine .inr ⟨by simp[G'],i2.size,CS,e,hR.sz,.of (a0S (w:=w.drew)),by rw[hCS]; simp,by omega,?_⟩
   rintro o' ho' (h|h)
   ·exact hnofix _ h
   ·simp at ho'; omega
 ·
  have hcase:∃base cap,a.eval s = .slice base es.length cap:=by
   rcases hcs with⟨h1,h2,_⟩|⟨ad,cap,h1,h2,_⟩|⟨b,off,cap,h1,_⟩
   ·exact⟨none,0,by rw[h1,h2]; rfl⟩
   ·exact⟨some ad,cap,by rw[h1,h2]; rfl⟩
   ·exact⟨_,cap,h1⟩
  obtain⟨base,cap,hv⟩:=hcase
  have hle:es.length+xs.length≤cap:=by
   rcases Nat.lt_or_ge cap (es.length+xs.length) with h|h
   ·exact absurd ⟨base,cap,hv,h⟩ hgrow
   ·exact h
  by_cases hx0:xs=[]
  ·subst hx0
   have hnil:news=[]:=by have:=hRx.len; simpa using this
   subst hnil
   have hrun:(Builtin.append_ #[ts,tx] o.type #[a.eval s,a.eval x]).run P w = .ok (a.eval s) w:=by
    rw[hv]
    have hle':es.length≤cap:=by simpa using hle
    have hl0:(Builtin.lenOf (a.eval x)).run P w = .ok 0 w:=by simpa using hsrc.len w
    have hc0:(Builtin.firstCells i2.size 0 (a.eval x)).run P w = .ok #[] w:=by simpa using hsrc.cells
    rcases hsrc.kind with⟨e'',hk'⟩|hk' <;>
     cases base<;>simp[Builtin.append_,run_underlying hts,run_underlying hk',Go.sizeOf,typeInfo,hi,hl0,hle',hc0,storeCells]
   refine finish _ w G1 hrun (Ext.refl _ _) ⟨λb k h _=>⟨h,rfl,λ_ h=>h⟩,λ_ _ h=>h⟩ (λ_ _ h=>h) hf1.owlt hf1.fixlt rfl (by simpa using hvr1) (by simpa using hroom)
  ·
   have hxl:0<xs.length:=List.length_pos_iff.2 hx0
   rcases hcs with⟨h1,h2,_⟩|⟨ad,cap',h1,h2,_⟩|⟨b,off,cap',h1,h2,h3⟩
   ·rw[hv] at h1; simp at h1; omega
   ·have hbc:base=some ad∧cap=cap':=by rw[hv,h2] at h1; simpa using h1
    obtain⟨rfl,rfl⟩:=hbc
    rw[hv] at hroom
    rw[h2] at hroom hle
    rcases hroom with hroom|⟨_,_,_,_,_,_,_,hpos,_⟩
    ·simp at hle hroom; omega
    ·simp at hpos
   ·have hbc:base=some ⟨b,off,none⟩∧cap=cap':=by rw[hv] at h1; simpa using h1
    obtain⟨rfl,rfl⟩:=hbc
    rw[hv] at hroom
    rcases hroom with hroom|⟨how,sz,cur,T,hsz,⟨fz,hheap,hfzn⟩,hfit,hpos,hfree⟩
    ·omega
    ·have hszz:sz=i2.size:=by
      cases es with
      | nil=>simp at hpos
      | cons y ys=>have:=hsz y (by simp); have:=hRs.sz y (by simp); omega
     subst hszz
     simp only at how hheap hfit hfree hfzn
     have hcs2:off+es.length*i2.size+news.length≤cur.size:=by
      rw[hRx.len]
      have:(es.length+xs.length)*i2.size≤cap*i2.size:=Nat.mul_le_mul_right _ hle
      rw[Nat.add_mul] at this; omega
     let NR:Array Value:=(cur.toList.take (off+es.length*i2.size)++news++cur.toList.drop (off+es.length*i2.size+news.length)).toArray
     have hrun:(Builtin.append_ #[ts,tx] o.type #[a.eval s,a.eval x]).run P w = .ok (.slice (some ⟨b,off,none⟩) (es.length+xs.length) cap) (w.setRow b NR):=by
      have hst:=a2A P b (off+es.length*i2.size) T fz news 0 cur w hheap hfzn (by simpa using hcs2) (hRx.one hs0)
      simp only[Nat.add_zero] at hst
      rw[hv]
      rcases hsrc.kind with⟨e'',hk'⟩|hk' <;>
       simp[Builtin.append_,run_underlying hts,run_underlying hk',Go.sizeOf,typeInfo,hi,hsrc.len,hle,hsrc.cells,a1X,hst,NR]
     have hblt:b<w.heap.size:=hf1.owlt _ _ how
     have hother:∀x,x≠b→(w.setRow b NR).heap[x]? = w.heap[x]? := λx hx=>setRow_other w b x _ hx
     let G':GS:={ G1 with fix:=λb' o=>G1.fix b' o∨(b'=b∧off+es.length*i2.size≤o∧o<off+(es.length+xs.length)*i2.size) }
     have hNRs:NR.size=cur.size:=by simp only[NR,List.size_toArray,List.length_append,List.length_take,List.length_drop,Array.length_toList]; omega
     have hNR:∀k,k<off+es.length*i2.size→NR[k]? = cur[k]? := by
      intro k hk
      simp only[NR,List.getElem?_toArray,List.append_assoc]
      rw[List.getElem?_append_left (by simp; omega),List.getElem?_take,if_pos hk]
      simp
     have hNR2:∀k,k<news.length→NR[off+es.length*i2.size+k]? = news[k]? := by
      intro k hk
      have hl:(cur.toList.take (off+es.length*i2.size)).length=off+es.length*i2.size:=by simp; omega
      simp only[NR,List.getElem?_toArray,List.append_assoc]
      rw[List.getElem?_append_right (by omega),hl,List.getElem?_append_left (by omega)]
      congr 1; omega
     have hcellb:∀k,(w.setRow b NR).cell? ⟨b,k,none⟩=NR[k]? := λk=>cell_setRow_same w b k cur NR T fz hheap
     have hext:Ext w G1 (w.setRow b NR) G':=by
      refine⟨rfl,rfl,rfl,by simp[World.setRow],?_,?_,?_,λ_ h => .inr h,λ_ _ h=>h,a4N hheap _ hNRs,rfl⟩
      ·intro y _ hyo
       exact hother y (by rintro rfl; rw[how] at hyo; simp at hyo)
      ·intro y o' hfx
       refine⟨.inl hfx,?_⟩
       by_cases hyb:y=b
       ·subst hyb
        have hlt:o'<off+es.length*i2.size:=by
         rcases Nat.lt_or_ge o' (off+es.length*i2.size) with h|h
         ·exact h
         ·exact absurd hfx (hfree o' h)
        rw[hcellb,hNR o' hlt]
        simp[World.cell?,hheap]
       ·simp only[World.cell?,hother y hyb]
      ·rintro y o' (h|h)
       ·exact .inl h
       ·exact .inr (.inr (by rw[h.1,how]; simp))
     refine finish _ _ G' hrun hext ?_ (λ_ _ h=>h) (λy k hy=>by simpa[World.setRow] using hf1.owlt y k hy) ?_ rfl ?_ ?_
     ·refine⟨?_,λ_ _ h=>h⟩
      intro y k hy hnk
      have hyb:y≠b:=by rintro rfl; rw[how] at hy; simp at hy; exact hnk hy.symm
      refine⟨hy,hother y hyb,?_⟩
      rintro o' (h|h)
      ·exact h
      ·exact absurd h.1 hyb
     ·rintro y o' (h|h)
      ·simpa[World.setRow] using hf1.fixlt _ _ h
      ·simp[World.setRow]; omega
     ·have hlen2:(es++xs).length=es.length+xs.length:=by simp
      rw[← hlen2]
      refine b3P ((hRs1.append hRx1 hs0).mono hext.fix hext.heap hext.shape) (by rw[hlen2]; exact hle) ?_
      intro k u' hu
      by_cases hk1:k<olds.length
      ·rw[List.getElem?_append_left hk1] at hu
       obtain⟨c1,c2⟩:=h3 k u' hu
       have:=hext.fix b (off+k) (by rw[hfix1]; exact c2)
       exact⟨this.2.trans c1,this.1⟩
      ·rw[List.getElem?_append_right (by omega)] at hu
       have hlt:k - olds.length<news.length:=(List.getElem?_eq_some_iff.1 hu).1
       have he:off+k=off+es.length*i2.size+(k - olds.length):=by have:=hRs.len; omega
       refine⟨?_,.inr ⟨rfl,?_,?_⟩⟩
       ·rw[hcellb,he,hNR2 _ hlt]; exact hu
       ·rw[he]; omega
       ·rw[he,Nat.add_mul]; have:=hRx.len; omega
     ·refine .inr ⟨how,i2.size,NR,T,?_,⟨fz,setRow_heap w b cur NR T fz hheap,λo ho=>hfzn o (by rw[← hNRs]; exact ho)⟩,?_,by omega,?_⟩
      ·intro y hy
       rcases List.mem_append.1 hy with hy|hy
       ·exact hRs.sz y hy
       ·exact hRx.sz y hy
      ·simp only[NR,List.size_toArray,List.length_append,List.length_take,List.length_drop,Array.length_toList]; omega
      ·rintro o' ho' (h|h)
       ·refine hfree o' ?_ h
        simp only[List.length_append,Nat.add_mul] at ho'
        omega
       ·simp only[List.length_append,Nat.add_mul] at ho'
        have:=h.2.2
        rw[Nat.add_mul] at this
        omega
theorem b5v (hE:EnvOk E N) (nm:Names vs (a0t vs ops)) (ho:ops[j]? = some o) (hf:FI N w G st a vs (a0t vs ops)) {ts tx e e':TypeId} {size:Nat} {z:List PV} {s x:Operand} {ps px:PX}
  (hop:o.op = .call { callee := .builtin .append,args := #[s,x],argTypes := #[ts,tx] }) (hdst:a3j vs o.dst≠.n) (hts:P.underlying ts=some (.slice e)) (htx:P.underlying tx=some (.slice e')) (hn:a05 P e=some size) (hz:a38 P e=some z)
  (hs':cx E vs ops s=some ps) (hx:cx E vs ops x=some px) {cf:a0v} (hs:opv cf (.append size (P.bytesOf e) ps px) st=some (u,st1)) (hk:a2Z N w G a st1 u vs ops j o next):o.wp P a w next Q:=by
 simp only[opv] at hs
 split at hs
 ·rename_i xs es st' hrd0 htk
  split at hs
  ·rename_i hcond
   obtain⟨hh1,hh2,hroomy⟩:=hcond
   have hlen:es.length+xs.length≤9223372036854775807:=by rcases hroomy with⟨h,_⟩|⟨h,_⟩<;>omega
   have hbytes:(es.length+xs.length)*P.bytesOf e≤140737488355328:=by
    rcases hroomy with⟨h,h'⟩|⟨_,h⟩
    ·exact Nat.le_trans (Nat.mul_le_mul h h') (by decide)
    ·exact h
   simp only[Option.some.injEq,Prod.mk.injEq] at hs
   obtain⟨rfl,rfl⟩:=hs
   simp only[Option.bind_eq_some_iff] at hrd0
   obtain⟨px0,hrd,hrow⟩:=hrd0
   have hvx:=(a0k hE hx hf hrd).1.row hrow
   obtain⟨news,hRx,hcx⟩:=a97 hvx hh2
   obtain⟨_,_,_,_,hs0,_⟩:=a0n hn
   have hsrc:Src P size tx (a.eval x) xs.length news w:=by
    rcases hcx with⟨h1,h2,h3⟩|⟨ad,cap,h1,h2,h3⟩|⟨b,off,cap,h1,h2,h3⟩
    ·rw[h1,h2,h3]; exact Src.ofNil w htx 0
    ·rw[h1,h2,h3]; exact Src.ofSlice w htx ad 0 cap [] (by simp) (by simp) (by simp)
    ·rw[h1]
     exact Src.ofSlice w htx ⟨b,off,none⟩ xs.length cap news hRx.len (λj u hu=>by rw[a1X]; exact(h3 j u hu).1) (hRx.one hs0)
   exact b17 hE nm ho hf hop hdst hts hn hz hs' htk hh1 hlen hbytes hRx hsrc hk
  ·simp at hs
 ·simp at hs
theorem b5w (fix:Nat→Nat→Prop) (hp:Nat→Option Nat) (s:ByteArray):ListR N w fix hp 1 (byteCells s) (a3N s.data.toList):=by
 refine⟨by rw[byteCells_length,Nat.mul_one]; simp only[a3N,List.length_map,Array.length_toList]; rfl,?_,?_,?_⟩
 ·intro e he
  obtain⟨b,_,rfl⟩:=List.mem_map.1 he
  rfl
 ·intro e he x hx
  obtain⟨b,_,rfl⟩:=List.mem_map.1 he
  simp only[PV.cells,List.mem_singleton] at hx
  subst hx; rfl
 ·intro i e he k c x hc hx
  simp only[a3N,List.getElem?_map,Option.map_eq_some_iff] at he
  obtain⟨b,hb,rfl⟩:=he
  cases k with
  | zero =>
    simp only[PV.cells,List.getElem?_cons_zero,Option.some.injEq] at hx
    subst hx
    simp only[byteCells,Nat.mul_one,Nat.add_zero,List.getElem?_map,Option.map_eq_some_iff] at hc
    obtain⟨b',hb',rfl⟩:=hc
    rw[hb] at hb'; cases hb'
    exact .int _ _
  | succ k=>simp[PV.cells] at hx
theorem b6x (s:List UInt8):(a3N s).length=s.length:=by simp[a3N]
theorem b5x (hE:EnvOk E N) (nm:Names vs (a0t vs ops)) (ho:ops[j]? = some o) (hf:FI N w G st a vs (a0t vs ops)) {ts tx e:TypeId} {z:List PV} {s x:Operand} {ps px:PX}
  (hop:o.op = .call { callee := .builtin .append,args := #[s,x],argTypes := #[ts,tx] }) (hdst:a3j vs o.dst≠.n) (hts:P.underlying ts=some (.slice e)) (htx:P.underlying tx=some .string) (hn:a05 P e=some 1) (hz:a38 P e=some z) (hb1:P.bytesOf e=1)
  (hs':cx E vs ops s=some ps) (hx:cx E vs ops x=some px) {cf:a0v} (hs:opv cf (.appstr ps px) st=some (u,st1)) (hk:a2Z N w G a st1 u vs ops j o next):o.wp P a w next Q:=by
 simp only[opv] at hs
 split at hs
 ·rename_i xs es st' hrd htk
  split at hs
  ·rename_i hcond
   obtain⟨hh1,hlen⟩:=hcond
   simp only[Option.some.injEq,Prod.mk.injEq] at hs
   obtain⟨rfl,rfl⟩:=hs
   have hvx:=(a0k hE hx hf hrd).1
   generalize hv:a.eval x=v at hvx
   cases hvx with
   | str s0 =>
     have hl:(a3N s0.data.toList).length=s0.size:=by simp only[a3N,List.length_map,Array.length_toList]; rfl
     have hl2:s0.data.toList.length=s0.size:=Array.length_toList
     refine b17 (xs:=a3N s0.data.toList) (news:=byteCells s0) hE nm ho hf hop hdst hts hn hz hs' htk hh1 (by omega) (by rw[hb1]; omega) (b5w _ _ _) ?_ hk
     rw[hv,hl]
     exact Src.ofString w htx s0
  ·simp at hs
 ·simp at hs
theorem b3Q {fix:Nat→Nat→Prop} {hp:Nat→Option Nat} {v:Value} {es:List PV} {bs:List UInt8} (h:VR N w fix hp v (.list false es)) (hb:bytesOf es=some bs):
  (∃l c,v = .slice none l c∧bs=[])∨∃ad c,v = .slice (some ad) bs.length c∧((bs=[])∨(ad.spot=none∧∀i,i<bs.length→w.cell? ⟨ad.block,ad.off+i,none⟩=some (.int .u8 ((bs.map λb=>(b.toNat:Int)).getD i 0)))):=by
 have key:∀{es:List PV} {bs:List UInt8},bytesOf es=some bs→es.length=bs.length∧∀(i:Nat) (e:PV),es[i]? = some e→e = .int .u8 ((bs.map λb=>(b.toNat:Int)).getD i 0):=by
  intro es
  induction es with
  | nil=>intro bs h; simp[bytesOf] at h; subst h; simp
  | cons x xs ih =>
    intro bs h
    unfold bytesOf at h
    split at h
    ·rename_i h0; simp at h0
    ·rename_i n r h0
     simp only[List.cons.injEq] at h0
     obtain⟨rfl,rfl⟩:=h0
     split at h
     ·rename_i hn
      simp only[Option.map_eq_some_iff] at h
      obtain⟨bs',h1,rfl⟩:=h
      obtain⟨k1,k2⟩:=ih h1
      refine⟨by simp[k1],?_⟩
      intro i e he
      cases i with
      | zero =>
        simp at he; subst he
        have:(UInt8.ofNat n.toNat).toNat=n.toNat:=by simp[UInt8.toNat_ofNat']; omega
        simp[this]; omega
      | succ i =>
        have:=k2 i e (by simpa using he)
        simpa using this
     ·simp at h
    ·simp at h
 obtain⟨k1,k2⟩:=key hb
 cases h with
 | nils=>simp at k1; exact .inl ⟨_,_,rfl,List.eq_nil_of_length_eq_zero k1.symm⟩
 | void _ ad cap=>simp at k1; refine .inr ⟨ad,cap,?_,.inl (List.eq_nil_of_length_eq_zero k1.symm)⟩; rw[← k1]
 | list _ b off len cap sz _ cv hlen hcap hsz hflat hcell hvr =>
   refine .inr ⟨⟨b,off,none⟩,cap,by rw[← k1,hlen],.inr ⟨rfl,?_⟩⟩
   intro i hi
   have hlt:i<es.length:=by omega
   have he:=List.getElem?_eq_getElem hlt
   have hev:=k2 i _ he
   have hs1:sz=1:=by rw[← hsz _ (List.getElem_mem hlt),hev]; rfl
   subst hs1
   have h1:=hvr i _ he 0 (es[i]) (by rw[hev]; rfl)
   rw[hev] at h1
   have h2:=(hcell i (by omega)).1
   rw[Nat.mul_one,Nat.add_zero] at h1
   generalize hg:cv i=c at h1 h2
   cases h1
   exact h2
theorem a98 (bs:List UInt8):strOfNums (bs.map λb=>(b.toNat:Int))=⟨bs.toArray⟩:=by
 have:=strOfNums_data (bs.map λb=>(b.toNat:Int))
 have h2:(strOfNums (bs.map λb=>(b.toNat:Int))).data.toList=bs:=by
  rw[this,List.map_map]
  conv=>rhs; rw[← List.map_id bs]
  apply List.map_congr_left
  intro b _
  simp
 generalize strOfNums (bs.map λb=>(b.toNat:Int))=x at h2
 cases x with
 | mk d=>simp at h2; subst h2; simp
theorem b9U (hE:EnvOk E N) (nm:Names vs (a0t vs ops)) (ho:ops[j]? = some o) (hf:FI N w G st a vs (a0t vs ops)) {src dst e:TypeId} {x:Operand} {px:PX} (hop:o.op = .convert src dst x)
  (hs1:P.underlying src=some (.slice e)) (he:P.underlying e=some (.int .u8)) (hd:P.underlying dst=some .string) (hx:cx E vs ops x=some px) {cf:a0v} (hs:opv cf (.b2s px) st=some (u,st1)) (hk:a2Z N w G a st1 u vs ops j o next):o.wp P a w next Q:=by
 simp only[opv] at hs
 split at hs
 ·rename_i es hrd
  simp only[Option.map_eq_some_iff,Prod.mk.injEq] at hs
  obtain⟨bs,hbs,rfl,rfl⟩:=hs
  simp only[Option.bind_eq_some_iff] at hrd
  obtain⟨p0,hp0,hrow⟩:=hrd
  have hv:=(a0k hE hx hf hp0).1.row hrow
  have hrun:(convert src dst (a.eval x)).run P w = .ok (.string ⟨bs.toArray⟩) w:=by
   rcases b3Q hv hbs with⟨l,c,h1,rfl⟩|⟨ad,c,h1,h2⟩
   ·rw[h1,run_convert_bytes_nil (w:=w) src e hs1 he l c dst hd]; rfl
   ·rw[h1]
    rcases h2 with rfl|⟨hsp,h2⟩
    ·rw[run_convert_bytes_string w src dst e _ _ _ hs1 he hd]
     have:=run_bytesToString (P:=P) w ad 0 c [] (by simpa using run_loadCells_list (P:=P) w ad [] (by simp))
     exact this
    ·obtain⟨b,off,sp⟩:=ad
     simp only at hsp; subst hsp
     have:=run_convert_bytes_arg (w:=w) src e hs1 he b off bs.length c (bs.map λb=>(b.toNat:Int)) (by simp) h2 dst hd
     rw[this,a98]
  refine a0l (v := .string ⟨bs.toArray⟩) nm ho hf (by simp[execOp,hop,hrun]) (SR.of_pure ?_ rfl) hk
  have:=VR.str (N:=N) (w:=w) (fix:=G.fix) (hp:=G.heap) ⟨bs.toArray⟩
  simpa using this
 ·simp at hs
theorem b2x (hE:EnvOk E N) (nm:Names vs (a0t vs ops)) (ho:ops[j]? = some o) (hf:FI N w G st a vs (a0t vs ops)) {t e:TypeId} {n:Nat} {x:Operand} {px:PX} (hop:o.op = .slice t x none none none)
  (hu:P.underlying t=some (.array n e)) (hn:a05 P e=some 1) (hx:cx E vs ops x=some px) {cf:a0v} (hs:opv cf (.sliceLoc n px) st=some (u,st1)) (hk:a2Z N w G a st1 u vs ops j o next):o.wp P a w next Q:=by
 simp only[opv] at hs
 split at hs
 ·rename_i i g cs hraw
  split at hs
  ·rename_i hlen
   simp only[Option.some.injEq,Prod.mk.injEq] at hs
   obtain⟨rfl,rfl⟩:=hs
   have hvi:st.vars[i]? = some (.loc g cs):=hraw
   have hsr:=a2X hE hx hf hraw
   obtain⟨b0,i0,hk0,hv,hb0,_⟩:=hsr
   obtain⟨tt,ht1,ht2,ht3,ht4,cv,T,hh,hl,hc⟩:=b01 hf hvi hb0
   obtain⟨hR,hcell⟩:=a7H hh hl hc
   let G':GS:={ G with fix:=λb o=>G.fix b o∨b=b0 }
   have hext:Ext w G w G':=by
    refine⟨rfl,rfl,rfl,Nat.le_refl _,λ_ _ _=>rfl,λ_ _ h=>⟨.inl h,rfl⟩,?_,λ_ h => .inr h,λ_ _ h=>h,ShapeLe.refl w,rfl⟩
    rintro b o (h|h)
    ·exact .inl h
    ·exact .inr (.inr (by rw[h,ht3]; simp))
   have hkeep:a6B (λk=>k = .var i) w G w G':=by
    refine⟨?_,λ_ _ h=>h⟩
    intro b k hb hnk
    refine⟨hb,rfl,?_⟩
    rintro o (h|h)
    ·exact h
    ·subst h; rw[ht3] at hb; simp at hb; exact absurd hb.symm hnk
   have hb0lt:=hf.owlt _ _ ht3
   have hf1:FI N w G' { st with vars:=st.vars.set i .dead } a vs (a0t vs ops):=by
    refine⟨by simp[hf.len],?_,λj' t' u' h1 h2=>(hf.loc j' t' u' h1 h2).keep hext hkeep (by simp) (by simp),hf.tv,hf.tl,hf.defers,hf.gen,hf.owlt,?_,hf.heap.keep hext hkeep (by rintro k hk rfl; simp[Key.isH] at hk),hf.hdom⟩
    ·intro i' t' u' h1 h2
     simp only[List.getElem?_set] at h2
     split at h2
     ·split at h2
      ·simp at h2; subst h2; trivial
      ·simp at h2
     ·rename_i hi
      exact(hf.var i' t' u' h1 h2).keep hext hkeep (by simp; omega) (by simp)
    ·rintro b o (h|h)
     ·exact hf.fixlt _ _ h
     ·omega
   have hrun:(execOp a.eval o).run P w = .ok (.value (.slice (some ⟨b0,0,none⟩) n n)) w:=by
    have hz:(if n=0 then(⟨b0,0,none⟩:Addr) else(⟨b0,0,none⟩:Addr).add (0*1))=⟨b0,0,none⟩:=by simp[a1X]
    simp[execOp,hop,hv,Instr.sliceAt,run_underlying hu,Instr.sureAddr,Instr.sliceBounds,a08 hn,hz]
   unfold Oper.wp
   rw[hrun]
   refine hk _ _ G' (hf1.put nm (a17 ho) ⟨?_,.inl rfl⟩) hext (a1v _ _ _)
   have hfl:∀x∈cs,x.cells=[x]:=by
    intro x hx
    have:=hR.2.1 x hx
    cases x<;>first|rfl|simp[PV.flat] at this
   rw[← hlen]
   refine b3P (size:=1) (news:=cv.toList) ⟨?_,?_,?_,?_⟩ (Nat.le_refl _) ?_
   ·simpa using hl
   ·intro e he; rw[hfl e he]; rfl
   ·intro e he y hy; rw[hfl e he] at hy; simp at hy; subst hy; exact hR.2.1 _ he
   ·intro k e he m c y hcc hy
    rw[hfl e (List.mem_of_getElem? he)] at hy
    have hm:m=0:=by
     cases m with
     | zero=>rfl
     | succ m=>simp at hy
    subst hm
    simp at hy; subst hy
    exact(hR.2.2 k c _ (by simpa using hcc) he).ext hext
   ·intro k v hv'
    exact⟨by rw[Nat.zero_add]; exact hcell k v hv',.inr rfl⟩
  ·simp at hs
 ·simp at hs
end
section
variable {E:Env} {N:Nm} {w:World} {G:GS} {st:St} {a:Act} {vs:List Tmp} {ops:List Oper} {P:Program}
variable {o:Oper} {j:Nat} {next:Act→World→Prop} {Q:Exit→Act→World→Prop} {u:PV} {st1:St}
def GS.more (G:GS) (b n:Nat):GS:={ G with ow:=λx=>if x=b then some (.hobj n) else G.ow x,heap:=λm=>if m=n then some b else G.heap m }
theorem a99 (nm:Names vs (a0t vs ops)) (ho:ops[j]? = some o) (hf:FI N w G st a vs (a0t vs ops)) {ob:PObj} {mob:Obj} {v:Value} {u:PV}
  (hrun:(execOp a.eval o).run P w = .ok (.value v) (w.alloc mob)) (hv:∀G',G'=G.more w.heap.size st.heap.length→SR N (w.alloc mob) G' (a9j (a3j vs o.dst) j) v u)
  (hR:∀G',G'=G.more w.heap.size st.heap.length→Ext w G (w.alloc mob) G'→ObjR N (w.alloc mob) G' st.heap.length w.heap.size ob)
  (hk:a2Z N w G a { st with heap:=st.heap++[ob] } u vs ops j o next):o.wp P a w next Q:=by
 unfold Oper.wp
 rw[hrun]
 let G':GS:=G.more w.heap.size st.heap.length
 have hext:Ext w G (w.alloc mob) G':=by
  refine⟨rfl,rfl,rfl,by simp,λb hb _=>a0q hb,λb o h=>⟨h,a2a (hf.fixlt _ _ h)⟩,λ_ _ h => .inl h,?_,?_,.same λk hk=>a0q hk,rfl⟩
  ·intro b hb
   by_cases hlt:b<w.heap.size
   ·refine .inr ?_
    simp only[G',GS.more] at hb
    rw[if_neg (by omega)] at hb
    exact hb
   ·exact .inl (by omega)
  ·intro n b h
   have:=hf.hdom _ _ h
   simp only[G',GS.more]
   rw[if_neg (by omega)]; exact h
 have hkeep:a6B (λ_=>False) w G (w.alloc mob) G':=by
  refine⟨?_,λ_ _ h=>h⟩
  intro b k hb _
  have hlt:=hf.owlt _ _ hb
  refine⟨?_,a0q hlt,λ_ h=>h⟩
  simp only[G',GS.more]
  rw[if_neg (by omega)]; exact hb
 have hf1:FI N (w.alloc mob) G' { st with heap:=st.heap++[ob] } a vs (a0t vs ops):=by
  refine⟨hf.len,λi t u h1 h2=>(hf.var i t u h1 h2).keep hext hkeep (λh=>h) (λ_ _ _ h=>h),λj t u h1 h2=>(hf.loc j t u h1 h2).keep hext hkeep (λh=>h) (λ_ _ _ h=>h),hf.tv,hf.tl,hf.defers,hf.gen,?_,?_,?_,?_⟩
  ·intro b k hb
   simp only[G',GS.more] at hb
   split at hb
   ·simp; omega
   ·have:=hf.owlt _ _ hb; simp; omega
  ·intro b o h; have:=hf.fixlt _ _ h; simp; omega
  ·exact hf.heap.push hext hkeep (λ_ _ _=>⟨λh=>h,λh=>h⟩) (.inr ⟨w.heap.size,by simp[G',GS.more],by simp[G',GS.more],hR G' rfl hext⟩)
  ·intro n b h
   simp only[G',GS.more] at h
   simp only[List.length_append,List.length_singleton]
   split at h
   ·omega
   ·have:=hf.hdom _ _ h; omega
 exact hk _ _ G' (hf1.put nm (a17 ho) (hv _ rfl)) hext (a1v _ _ _)
theorem b2d (hf:FI N w G st a vs (a0t vs ops)) {cs:Array Value} {ps:List PV} {T:TypeId}
  (hR:∀(k:Nat) (c:Value) (x:PV),cs[k]? = some c→ps[k]? = some x→VR N w G.fix G.heap c x∧x.flat=true∧(∀es,x = .list true es→c = .slice none 0 0)) (hl:cs.size=ps.length)
  {G':GS} (hG:G'=G.more w.heap.size st.heap.length) (hext:Ext w G (w.alloc (.cells cs T)) G'):ObjR N (w.alloc (.cells cs T)) G' st.heap.length w.heap.size (.cells ps):=by
 subst hG
 have hnofix:∀o,¬G.fix w.heap.size o:=λo h=>by have:=hf.fixlt _ _ h; omega
 refine⟨hnofix,cs,T,a0S,Nat.le_of_eq hl.symm,?_⟩
 intro k c x hc hx
 obtain⟨h1,h2,h3⟩:=hR k c x hc hx
 refine⟨h1.ext hext,h2,?_⟩
 split
 ·rename_i es
  have:=h3 es rfl
  subst this
  trivial
 ·trivial
theorem b5A (nm:Names vs (a0t vs ops)) (ho:ops[j]? = some o) (hf:FI N w G st a vs (a0t vs ops)) {t:TypeId} {z:List PV} (hop:o.op = .alloc t) (hz:a38 P t=some z) {cf:a0v}
  (hs:a0N cf (.newobj z) st=some (u,st1)) (hk:a2Z N w G a st1 u vs ops j o next):o.wp P a w next Q:=by
 simp only[a0N,Option.some.injEq,Prod.mk.injEq] at hs
 obtain⟨rfl,rfl⟩:=hs
 obtain⟨ti,zv,h1,h2,h3,h4,h5,_⟩:=a19 (N:=N) (w:=w) (fix:=G.fix) (hp:=G.heap) hz
 refine a99 (mob := .cells zv.cells t) (v := .pointer (some ⟨w.heap.size,0,none⟩)) nm ho hf ?_ ?_ (λG' hG hext=>b2d hf ?_ ?_ hG hext) hk
 ·simp[execOp,hop,Instr.alloc,zeroValue,typeInfo,h1,h2,newVar,newRow]
 ·rintro G' rfl
  exact .ptr _ _ w.heap.size (by simp[GS.more])
 ·intro k c x hc hx
  refine⟨h5.2.2 k c x (by simpa using hc) hx,h5.2.1 x (List.mem_of_getElem? hx),?_⟩
  rintro es rfl
  unfold a38 at hz
  simp only[h1,h2,Option.bind_eq_some_iff] at hz
  obtain⟨cs',hcs,hz⟩:=hz
  split at hz
  ·simp at hz; subst hz
   exact a3I hcs k c es (by simpa using hc) hx
  ·simp at hz
 ·have:=h5.1; simpa using this
theorem b5B (hE:EnvOk E N) (nm:Names vs (a0t vs ops)) (ho:ops[j]? = some o) (hf:FI N w G st a vs (a0t vs ops)) {t:TypeId} {n:Nat} {x:Operand} {px:PX} (hop:o.op = .box t x) (hn:a05 P t=some n) (hx:cx E vs ops x=some px)
  {cf:a0v} (hs:a0N cf (.boxobj n px) st=some (u,st1)) (hk:a2Z N w G a st1 u vs ops j o next):o.wp P a w next Q:=by
 simp only[a0N] at hs
 split at hs
 ·rename_i p hp
  split at hs
  ·rename_i hl
   simp only[Option.some.injEq,Prod.mk.injEq] at hs
   obtain⟨rfl,rfl⟩:=hs
   obtain⟨_,_,_,_,hn0,_⟩:=a0n hn
   have hv:=(a0k hE hx hf hp).1
   have hcells:=(CellsR.of_cells hv (by intro e; rw[e] at hl; simp at hl; omega))
   refine a99 (mob := .cells (a.eval x).cells t) (v := .pointer (some ⟨w.heap.size,0,none⟩)) nm ho hf ?_ ?_ (λG' hG hext=>b2d hf ?_ ?_ hG hext) hk
   ·simp[execOp,hop,Instr.box,newVar,newRow]
   ·rintro G' rfl
    exact .ptr _ _ w.heap.size (by simp[GS.more])
   ·intro k c y hc hy
    refine⟨hcells.2.2 k c y (by simpa using hc) hy,hcells.2.1 y (List.mem_of_getElem? hy),?_⟩
    rintro es rfl
    have hno:∀es,p≠.list true es:=by
     rintro es rfl
     unfold rd at hp
     cases h1:raw st px with
     | none=>rw[h1] at hp; simp at hp
     | some q=>rw[h1] at hp; cases q<;>simp[cp] at hp
    generalize a.eval x=v at hv hc
    cases hv with
    | agg cs ps hlen hflat hown hcell=>exact hown k c es hc hy
    | _ =>
      exfalso
      cases k with
      | succ k=>simp[PV.cells] at hy
      | zero =>
        simp[PV.cells] at hy
        try (obtain⟨rfl,rfl⟩:=hy; exact hno _ rfl)
        try (subst hy; exact hno _ rfl)
   ·have:=hcells.1; simpa using this
  ·simp at hs
 ·simp at hs
theorem b6D (nm:Names vs (a0t vs ops)) (ho:ops[j]? = some o) (hf:FI N w G st a vs (a0t vs ops)) {t:TypeId} (hop:o.op = .makeMap t none) {cf:a0v}
  (hs:a0N cf .mkmap st=some (u,st1)) (hk:a2Z N w G a st1 u vs ops j o next):o.wp P a w next Q:=by
 simp only[a0N,Option.some.injEq,Prod.mk.injEq] at hs
 obtain⟨rfl,rfl⟩:=hs
 refine a99 (mob := .map #[] 0) (v := .map (some w.heap.size)) nm ho hf ?_ ?_ ?_ hk
 ·simp[execOp,hop,Instr.makeMap]
 ·rintro G' rfl
  exact .map _ w.heap.size (by simp[GS.more])
 ·rintro G' rfl hext
  exact⟨#[],0,a0S,rfl,by simp,by simp,by simp⟩
theorem a9o (hf:FI N w G st a vs (a0t vs ops)) {n b:Nat} {cs:List PV} (hg:a57 st n=some cs) (hb:G.heap n=some b):
  G.ow b=some (.hobj n)∧(∀o,¬G.fix b o)∧∃cv T,w.heap[b]? = some (.cells cv T (0,0))∧cs.length≤cv.size∧∀(k:Nat) (c:Value) (x:PV),cv[k]? = some c→cs[k]? = some x→CR N w G (.hcell n k) c x:=by
 unfold a57 at hg
 split at hg
 ·rename_i cs' hn
  simp at hg; subst hg
  rcases hf.heap.1 n _ hn with e|⟨b',h1,h2,h3,h4⟩
  ·simp at e
  have:b'=b:=by rw[hb] at h1; simpa using h1.symm
  subst this
  exact⟨h2,h3,h4⟩
 ·simp at hg
theorem b0z {b n:Nat} {cv:Array Value} {T:TypeId} {cs:List PV} (hh:w.heap[b]? = some (.cells cv T (0,0))) (hl:cs.length≤cv.size)
  (hc:∀(k:Nat) (c:Value) (x:PV),cv[k]? = some c→cs[k]? = some x→CR N w G (.hcell n k) c x):
  CellsR N w G.fix G.heap (cv.toList.take cs.length) cs∧∀(k:Nat) (v:Value),(cv.toList.take cs.length)[k]? = some v→w.cell? ⟨b,k,none⟩=some v:=by
 have get:∀(k:Nat) (v:Value),(cv.toList.take cs.length)[k]? = some v→cv[k]? = some v:=by
  intro k v hv
  rw[List.getElem?_take] at hv
  split at hv
  ·simpa using hv
  ·simp at hv
 refine⟨⟨by simp; omega,?_,λi c x h1 h2=>(hc i c x (get i c h1) h2).1⟩,?_⟩
 ·intro x hx
  obtain⟨i,hi⟩:=List.mem_iff_getElem?.1 hx
  have hlt:i<cv.size:=by have:=(List.getElem?_eq_some_iff.1 hi).1; omega
  exact(hc i cv[i] x (by simp[hlt]) hi).2.1
 ·intro k v hv
  simp[World.cell?,hh,get k v hv]
theorem b02 (hE:EnvOk E N) {x:Operand} {px:PX} {n off:Nat} (hc:cx E vs ops x=some px) (hf:FI N w G st a vs (a0t vs ops)) (hr:addr st px=some (.ptr n off)):
  ∃b,a.eval x = .pointer (some ⟨b,off,none⟩)∧G.heap n=some b:=by
 rcases a1Z hE hc hf hr with⟨_,_,_,_,h,_⟩|⟨h,_⟩
 ·simp at h
 ·generalize a.eval x=v at h
  cases h with
  | ptr _ _ b hb=>exact⟨b,rfl,hb⟩
theorem b6E (hE:EnvOk E N) (nm:Names vs (a0t vs ops)) (ho:ops[j]? = some o) (hf:FI N w G st a vs (a0t vs ops)) {t:TypeId} {n:Nat} {x:Operand} {px:PX} {tk:Bool} (hop:o.op = .load t x) (hn:a05 P t=some n)
  (hx:cx E vs ops x=some px) {cf:a0v} (hs:a0N cf (.load n (a0T P t) px tk) st=some (u,st1)) (hk:a2Z N w G a st1 u vs ops j o next):o.wp P a w next Q:=by
 have plain:∀r,(Instr.loadAt t (a.eval x)).run P w = .ok r w→(execOp a.eval o).run P w = .ok (.value r) w:=by
  intro r hr
  simp[execOp,hop,hr]
 have hn0:n≠0:=by obtain⟨_,_,_,_,h,_⟩:=a0n hn; exact h
 simp only[a0N] at hs
 split at hs
 ·rename_i cs ha
  simp only[Option.map_eq_some_iff,Prod.mk.injEq] at hs
  obtain⟨r,hr,rfl,rfl⟩:=hs
  rcases a1Z hE hx hf ha with⟨_,_,_,_,h,_⟩|⟨h,_⟩
  ·simp at h
  ·obtain⟨r',h1,h2,h3⟩:=b12 (P:=P) hn h hr
   exact a0l nm ho hf (plain _ h1) (SR.of_pure h2 h3) hk
 ·rename_i m off ha
  obtain⟨b,hv,hb⟩:=b02 hE hx hf ha
  simp only[Option.bind_eq_some_iff] at hs
  obtain⟨cs,hg,hs⟩:=hs
  obtain⟨ho1,ho2,cv,T,hh,hl,hc⟩:=a9o hf hg hb
  split at hs
  ·rename_i es htk hcell
   simp only[Option.some.injEq,Prod.mk.injEq] at hs
   obtain⟨rfl,rfl⟩:=hs
   simp only[Bool.and_eq_true,Bool.not_eq_true'] at htk
   have hlt:off<cv.size:=by have:=(List.getElem?_eq_some_iff.1 hcell).1; omega
   obtain⟨hvr,_,hroom⟩:=hc off cv[off] _ (by simp[hlt]) hcell
   obtain⟨G',hG,hroom'⟩:=Room.give (key':=a9j (a3j vs o.dst) j) hroom
   have hgg:G'.box=G.box∧G'.fix=G.fix∧G'.heap=G.heap:=by
    rcases hG with rfl|⟨b,_,rfl⟩<;>exact⟨rfl,rfl,rfl⟩
   have hext:Ext w G w G':=by
    rcases hG with rfl|⟨b,hb,rfl⟩
    ·exact Ext.refl _ _
    ·exact b00 b _ (λ_=>by simp[hb])
   have hkeep:a6B (λk=>k = .hcell m off) w G w G':=by
    rcases hG with rfl|⟨b,hb,rfl⟩
    ·exact⟨λb k h _=>⟨h,rfl,λ_ h=>h⟩,λ_ _ h=>h⟩
    ·exact a9k b _ (λk' hk'=>by rw[hb] at hk'; simpa using hk'.symm)
   have hf1:FI N w G' (a3L st m (.cells (cs.set off (.list false es)))) a vs (a0t vs ops):=by
    refine⟨hf.len,λi t' u' h1 h2=>(hf.var i t' u' h1 h2).keep hext hkeep (by simp) (by simp),λi t' u' h1 h2=>(hf.loc i t' u' h1 h2).keep hext hkeep (by simp) (by simp),hf.tv,hf.tl,(hf.defers.trans hext.df.symm),by rw[hgg.1]; exact hf.gen,?_,by rw[hgg.2.1]; exact hf.fixlt,?_,?_⟩
    ·intro b' k hb'
     rcases hG with rfl|⟨b2,hb2,rfl⟩
     ·exact hf.owlt _ _ hb'
     ·simp only[GS.give] at hb'
      split at hb'
      ·subst_vars; exact hf.owlt _ _ hb2
      ·exact hf.owlt _ _ hb'
    ·refine hf.heap.keepBut hext hkeep (λn k hne=>⟨by simp,by simp; omega⟩) (λ_ =>?_)
     refine .inr ⟨b,hext.heap _ _ hb,(hkeep.1 _ _ ho1 (by simp)).1,by rw[hgg.2.1]; exact ho2,cv,T,hh,by simp[hl],?_⟩
     intro k c y hc1 hy
     rw[List.getElem?_set] at hy
     split at hy
     ·rename_i hk2
      subst hk2
      split at hy
      ·simp at hy; subst hy
       have:c=cv[off]:=by simp[hlt] at hc1; exact hc1.symm
       subst this
       exact⟨(hvr.dem).ext hext,rfl,trivial⟩
      ·simp at hy
     ·rename_i hk2
      exact(hc k c y hc1 hy).keep hext hkeep (by simp; omega)
    ·rw[hgg.2.2]; simp only[a3L,List.length_set]; exact hf.hdom
   unfold Oper.wp
   have hrun:(Instr.loadAt t (a.eval x)).run P w = .ok cv[off] w:=by
    have hcl:w.cell? ⟨b,off,none⟩=some cv[off]:=by simp[World.cell?,hh,hlt]
    rw[hv]
    simp[Instr.loadAt,Instr.sureAddr,loadVar,a4o hn,htk.2,hcl]
   rw[plain _ hrun]
   exact hk _ _ G' (hf1.put nm (a17 ho) ⟨hvr.ext hext,hroom'⟩) hext (a1v _ _ _)
  ·simp only[Option.map_eq_some_iff,Prod.mk.injEq] at hs
   obtain⟨r,hr,rfl,rfl⟩:=hs
   obtain⟨hR,hcell⟩:=b0z hh hl hc
   obtain⟨k1,k2,k3⟩:=a18 hR hr hn0 (a3q hn)
   have:=a4O (w:=w) hn b off ((cv.toList.take cs.length).drop off) (by simp at k1 ⊢; omega) (λj v hv=>by
    rw[List.getElem?_drop] at hv
    exact hcell _ _ hv)
   refine a0l nm ho hf (plain _ ?_) (SR.of_pure k2 k3) hk
   rw[hv]
   simpa[Instr.loadAt,Instr.sureAddr] using this
 ·simp at hs
theorem b2e {n off:Nat} {t:TypeId} {cv:Array Value} {cs cs':List PV} {v:PV} {val:Value} (hl:cs.length≤cv.size) (hn:a05 P t=some n) (hst:a0g n (a0T P t) cs off v=some cs') (hvr:VR N w G.fix G.heap val v):
  ∃ nc : List Value, val.cells.toList = nc ∧ nc.length = n ∧ off + n ≤ cv.size ∧ (∀ c ∈ nc, c.oneCell' = true) ∧ cs'.length = cs.length ∧
    ∀ (k : Nat) (c : Value) (z : PV), (cv.toList.take off ++ nc ++ cv.toList.drop (off + n))[k]? = some c → cs'[k]? = some z →
      (cv[k]? = some c∧cs[k]? = some z)∨(VR N w G.fix G.heap c z∧z.flat=true∧∀es,z = .list true es→(k=off∧c=val∧v = .list true es)∨c = .slice none 0 0):=by
 unfold a0g at hst
 split at hst
 ·rename_i hagg
  split at hst
  ·rename_i ws
   split at hst
   ·rename_i hcond
    simp only[Option.some.injEq] at hst; subst hst
    obtain⟨ca,hca,hR⟩:=CellsR.of_agg hvr
    have hO:OwnNil ca.toList ws:=OwnNil.of_agg (hca▸hvr)
    have hcl:val.cells.toList=ca.toList:=by rw[hca]; rfl
    have hlen:ca.toList.length=n:=by have:=hR.1; omega
    refine⟨ca.toList,hcl,hlen,by omega,?_,by simp; omega,?_⟩
    ·intro c hcm
     obtain⟨i,hi⟩:=List.mem_iff_getElem?.1 hcm
     have hlt:i<ws.length:=by have:=(List.getElem?_eq_some_iff.1 hi).1; have:=hR.1; omega
     have h1:=hR.2.2 i c ws[i] hi (List.getElem?_eq_getElem hlt)
     have h2:=h1.oneCell (hR.2.1 _ (List.getElem_mem hlt))
     cases c<;>first|rfl|simp[oneCell] at h2
    ·intro k c z hc1 hz
     rw[List.append_assoc] at hc1
     have hoff:(cv.toList.take off).length=off:=by simp; omega
     have hoff':(cs.take off).length=off:=by simp; omega
     by_cases h1:k<off
     ·rw[List.getElem?_append_left (by omega),List.getElem?_take,if_pos h1] at hc1
      rw[List.getElem?_append_left (by omega),List.getElem?_take,if_pos h1] at hz
      exact .inl ⟨by simpa using hc1,hz⟩
     ·rw[List.getElem?_append_right (by omega),hoff] at hc1
      rw[List.getElem?_append_right (by omega),hoff'] at hz
      by_cases h2:k<off+n
      ·rw[List.getElem?_append_left (by omega)] at hc1
       rw[List.getElem?_append_left (by omega)] at hz
       refine .inr ⟨hR.2.2 _ c z hc1 hz,hR.2.1 z (List.mem_of_getElem? hz),?_⟩
       rintro es rfl
       exact .inr (hO _ c es hc1 hz)
      ·rw[List.getElem?_append_right (by omega),List.getElem?_drop,hlen] at hc1
       rw[List.getElem?_append_right (by omega),List.getElem?_drop,hcond.1] at hz
       rw[show off+n+(k - off - n)=k by omega] at hc1 hz
       exact .inl ⟨by simpa using hc1,hz⟩
   ·simp at hst
  ·simp at hst
 ·rename_i hagg
  have hn1:=a3q hn (by simpa using hagg)
  subst hn1
  split at hst
  ·rename_i hcond
   simp only[Option.some.injEq] at hst; subst hst
   have h1:=hvr.oneCell hcond.2
   have hcl:val.cells.toList=[val]:=by
    cases val<;>first|rfl|simp[oneCell] at h1
   refine⟨[val],hcl,rfl,by omega,?_,by simp,?_⟩
   ·intro c hcm
    simp at hcm; subst hcm
    cases c<;>first|rfl|simp[oneCell] at h1
   ·intro k c z hc1 hz
    rw[List.append_assoc] at hc1
    have hoff:(cv.toList.take off).length=off:=by simp; omega
    rw[List.getElem?_set] at hz
    split at hz
    ·rename_i hko
     subst hko
     split at hz
     ·simp at hz; subst hz
      rw[List.getElem?_append_right (by omega),hoff] at hc1
      simp at hc1; subst hc1
      exact .inr ⟨hvr,hcond.2,λes e => .inl ⟨rfl,rfl,e⟩⟩
     ·simp at hz
    ·rename_i hko
     refine .inl ⟨?_,hz⟩
     by_cases h1:k<off
     ·rw[List.getElem?_append_left (by omega),List.getElem?_take,if_pos h1] at hc1
      simpa using hc1
     ·rw[List.getElem?_append_right (by omega),hoff,List.getElem?_append_right (by simp; omega),List.getElem?_drop] at hc1
      simp only[List.length_singleton] at hc1
      rw[show off+1+(k - off - 1)=k by omega] at hc1
      simpa using hc1
  ·simp at hst
theorem b0A (hE:EnvOk E N) (nm:Names vs (a0t vs ops)) (ho:ops[j]? = some o) (hf:FI N w G st a vs (a0t vs ops)) {t:TypeId} {n:Nat} {x y:Operand} {px py:PX} (hop:o.op = .store t x y) (hdst:o.dst=none) (hn:a05 P t=some n)
  (hx:cx E vs ops x=some px) (hy:cx E vs ops y=some py) {cf:a0v} (hs:a0N cf (.store n (a0T P t) px py) st=some (u,st1)) (hk:a2Z N w G a st1 u vs ops j o next):o.wp P a w next Q:=by
 simp only[a0N] at hs
 split at hs
 ·rename_i m off v st' ha htk
  obtain⟨b,hv,hb⟩:=b02 hE hx hf ha
  obtain⟨G1,hf1,hext1,hbox1,hfix1,hheap1,hvr,htaken,_,_,_⟩:=a7R hE hy hf htk (.hcell m off)
  simp only[Option.bind_eq_some_iff,Option.map_eq_some_iff,Prod.mk.injEq] at hs
  obtain⟨cs,hg,cs',hst,rfl,rfl⟩:=hs
  have hb1:G1.heap m=some b:=by rw[hheap1]; exact hb
  obtain⟨ho1,ho2,cv,T,hh,hl,hc⟩:=a9o hf1 hg hb1
  obtain⟨nc,hnc,hlen,hfit,hone,hlcs,hcells⟩:=b2e hl hn hst hvr
  have hrun:(execOp a.eval o).run P w = .ok .skip (w.setRow b (cv.toList.take off++nc++cv.toList.drop (off+n)).toArray):=by
   have hst:=run_storeCells_at P b off T nc 0 cv w hh (by simp; omega) hone
   simp only[Nat.add_zero,hlen] at hst
   have hsz:(a.eval y).cells.size=n:=by rw[← hlen,← hnc]; simp
   simp[execOp,hop,Instr.storeAt,hv,Instr.sureAddr,storeVar,a08 hn,hsz,hnc,hst]
  unfold Oper.wp
  rw[hrun]
  have hblt:b<w.heap.size:=hf1.owlt _ _ ho1
  have hother:∀x,x≠b→(w.setRow b (cv.toList.take off++nc++cv.toList.drop (off+n)).toArray).heap[x]? = w.heap[x]? := λx hx=>setRow_other w b x _ hx
  have hext2:Ext w G1 (w.setRow b (cv.toList.take off++nc++cv.toList.drop (off+n)).toArray) G1:=by
   refine⟨rfl,rfl,rfl,by simp[World.setRow],?_,?_,λ_ _ h => .inl h,λ_ h => .inr h,λ_ _ h=>h,a4N hh _ (by simp; omega),rfl⟩
   ·intro x _ hxo
    exact hother x (by rintro rfl; rw[ho1] at hxo; simp at hxo)
   ·intro x o' hfx
    refine⟨hfx,?_⟩
    have hxb:x≠b:=by rintro rfl; exact ho2 _ hfx
    simp only[World.cell?,hother x hxb]
  have hkeep2:a6B (λk=>k = .hobj m) w G1 (w.setRow b (cv.toList.take off++nc++cv.toList.drop (off+n)).toArray) G1:=by
   refine⟨?_,λ_ _ h=>h⟩
   intro x k hxk hnk
   refine⟨hxk,hother x ?_,λ_ h=>h⟩
   rintro rfl
   rw[ho1] at hxk
   simp at hxk
   exact hnk hxk.symm
  have hf2:FI N (w.setRow b (cv.toList.take off++nc++cv.toList.drop (off+n)).toArray) G1 (a3L st' m (.cells cs')) a vs (a0t vs ops):=by
   refine⟨hf1.len,λi t' u' h1 h2=>(hf1.var i t' u' h1 h2).keep hext2 hkeep2 (by simp) (by simp),λi t' u' h1 h2=>(hf1.loc i t' u' h1 h2).keep hext2 hkeep2 (by simp) (by simp),hf1.tv,hf1.tl,hf1.defers,hf1.gen,?_,?_,?_,?_⟩
   ·intro x k hx; simpa[World.setRow] using hf1.owlt x k hx
   ·intro x o' hx; simpa[World.setRow] using hf1.fixlt x o' hx
   ·refine hf1.heap.keepBut hext2 hkeep2 (λn k hne=>⟨by simp; omega,by simp⟩) (λ_ =>?_)
    refine .inr ⟨b,hb1,ho1,ho2,_,T,setRow_heap w b cv _ T (0,0) hh,?_,?_⟩
    ·simp; omega
    ·intro k c z hc1 hz
     rcases hcells k c z (by simpa using hc1) hz with⟨k1,k2⟩|⟨k1,k2,k3⟩
     ·exact(hc k c z k1 k2).keep hext2 hkeep2 (by simp)
     ·refine⟨(hfix1▸hheap1▸k1:VR N w G1.fix G1.heap c z).ext hext2,k2,?_⟩
      split
      ·rename_i es
       rcases k3 es rfl with⟨e1,e2,e3⟩|e
       ·subst e1 e2 e3
        have hr:Room w G1 (.hcell m k) (a.eval y) es:=htaken
        exact hr.keep hkeep2 (by simp)
       ·subst e; trivial
      ·trivial
   ·simp only[a3L,List.length_set]; exact hf1.hdom
  have hput:a.put o.dst undef=a:=by simp[hdst,Act.put]
  have hd:a3j vs o.dst = .n:=by simp[hdst,a3j]
  show next (a.put o.dst undef) _
  rw[hput]
  refine hk _ _ G1 ?_ (hext1.trans hext2) rfl
  rw[hd]
  exact hf2
 ·simp at hs
theorem b3U (hE:EnvOk E N) (nm:Names vs (a0t vs ops)) (ho:ops[j]? = some o) (hf:FI N w G st a vs (a0t vs ops)) {t:TypeId} {n:Nat} {x y:Operand} {px py:PX} (hop:o.op = .store t x y) (hdst:o.dst=none) (hn:a05 P t=some n)
  (hx:cx E vs ops x=some px) (hy:cx E vs ops y=some py) {cf:a0v} (hs:a0N cf (.storer n (a0T P t) px py) st=some (u,st1)) (hk:a2Z N w G a st1 u vs ops j o next):o.wp P a w next Q:=by
 refine b0A hE nm ho hf hop hdst hn hx hy (cf:=cf) ?_ hk
 simp only[a0N] at hs ⊢
 split at hs
 ·rename_i m off v ha hr
  split at hs
  ·simp at hs
  ·rename_i hl
   have htk:tk st py=some (v,st):=by
    unfold tk
    simp only[rd,Option.bind_eq_some_iff] at hr
    obtain⟨r,h1,h2⟩:=hr
    rw[h1]
    cases r<;>simp[cp] at h2<;>subst h2<;>first|rfl|simp[b6M] at hl
   simp only[ha,htk]
   exact hs
 ·simp at hs
theorem b5C (hE:EnvOk E N) (nm:Names vs (a0t vs ops)) (ho:ops[j]? = some o) (hf:FI N w G st a vs (a0t vs ops)) {t e:TypeId} {x i:Operand} {px pi:PX} {n len:Nat} (hop:o.op = .indexAddr t x i)
  (hu:P.underlying t=some (.array len e)) (hn:a05 P e=some n) (hx:cx E vs ops x=some px) (hi:cx E vs ops i=some pi) {cf:a0v} (hs:a0N cf (.iaddr len n px pi) st=some (u,st1)) (hk:a2Z N w G a st1 u vs ops j o next):o.wp P a w next Q:=by
 simp only[a0N] at hs
 split at hs
 ·rename_i m off k ha hki
  split at hs
  ·rename_i hb
   simp only[Option.some.injEq,Prod.mk.injEq] at hs
   obtain⟨rfl,rfl⟩:=hs
   obtain⟨b,hv,hbb⟩:=b02 hE hx hf ha
   obtain⟨kk,hik⟩:=a1T hE hi hf hki
   refine a0l nm ho hf (v := .pointer (some ⟨b,off+k.toNat*n,none⟩)) ?_ (SR.of_pure (.ptr _ _ b hbb) rfl) hk
   simp[execOp,hop,Instr.indexAt,hik,hv,asIntOf,run_underlying hu,Instr.sureAddr,hb,a08 hn,a1X]
  ·simp at hs
 ·simp at hs
end
end PI
set_option linter.unusedSimpArgs false
set_option linter.unusedVariables false
namespace PI
open Go Go.MapKept
section
variable {E:Env} {N:Nm} {w:World} {G:GS} {st:St} {a:Act} {vs:List Tmp} {ops:List Oper} {P:Program}
variable {o:Oper} {j:Nat} {next:Act→World→Prop} {Q:Exit→Act→World→Prop} {u:PV} {st1:St}
theorem b9X (s t:ByteArray):(s==t)=(s.data.toList==t.data.toList):=by
 rw[Bool.eq_iff_iff,MapKept.bytes_beq,beq_iff_eq]
 constructor
 ·rintro rfl; rfl
 ·intro h
  obtain⟨⟨s⟩⟩:=s
  obtain⟨⟨t⟩⟩:=t
  simpa using h
theorem b8h {kt:TypeId} {d:TypeDesc} {kk:EK} {fix:Nat→Nat→Prop} {hp:Nat→Option Nat} {vx vy:Value} {x y:PV} {b:Bool} (hd:P.underlying kt=some d) (hk:ekT P kt=some kk) (hx:VR N w fix hp vx x) (hy:VR N w fix hp vy y) (h:b6L kk x y=some b):
  Instr.sameNow d vx vy=some b:=by
 unfold ekT at hk
 rw[hd] at hk
 unfold b6L at h
 split at h
 ·cases hx; cases hy
  simp only[Option.some.injEq] at h; subst h
  split at hk<;>simp at hk
  rename_i hdd
  simp at hdd; subst hdd
  rfl
 ·cases hx; cases hy
  split at h
  ·subst_vars
   simp only[Option.some.injEq] at h; subst h
   split at hk<;>simp at hk
   rename_i hdd
   simp at hdd; subst hdd
   simp[Instr.sameNow]
  ·simp at h
 ·cases hx; cases hy
  simp only[Option.some.injEq] at h; subst h
  split at hk<;>simp at hk
  rename_i hdd
  simp at hdd; subst hdd
  simp only[Instr.sameNow,b9X]
 ·simp at h
theorem b5D {fix:Nat→Nat→Prop} {hp:Nat→Option Nat} {kk:EK} {vx vy:Value} {x y:PV} (hx:VR N w fix hp vx x) (hy:VR N w fix hp vy y) (h:b6L kk x y=some true) (n:Nat):Instr.sameBits n vy vx=true:=by
 unfold b6L at h
 split at h
 ·cases hx; cases hy
  simp at h; subst h; simp[Instr.sameBits]
 ·cases hx; cases hy
  split at h
  ·subst_vars
   simp at h; subst h; simp[Instr.sameBits]
  ·simp at h
 ·cases hx with
  | str s =>
    cases hy with
    | str t =>
      have e:(s==t)=true:=by rw[b9X]; simpa using h
      have e':s=t:=(MapKept.bytes_beq s t).1 e
      subst e'
      simpa[Instr.sameBits] using e
 ·simp at h
theorem b29 {kt:TypeId} {d:TypeDesc} {kk:EK} {fix:Nat→Nat→Prop} {hp:Nat→Option Nat} {kv:Value} {kp:PV} (hd:P.underlying kt=some d) (hk:ekT P kt=some kk) (hkv:VR N w fix hp kv kp):
  ∀{mes:List MapEntry} {es:List (PV×PV)} {i:Nat} {r:Option (Nat×PV)},mes.length=es.length→(∀(i:Nat) (e:MapEntry) (p:PV×PV),mes[i]? = some e→es[i]? = some p→VR N w fix hp e.key p.1) →
  a3u false [kk] kp es i=some r →
  (r=none∧Instr.findNow d kv mes i=some none)∨(∃n v e p1,r=some (i+n,v)∧Instr.findNow d kv mes i=some (some (i+n,e.val))∧mes[n]? = some e∧es[n]? = some (p1,v)∧b6L kk kp p1=some true)
 | [], [], i, r, _, _, h => by
   simp[a3u] at h; subst h
   exact .inl ⟨rfl,rfl⟩
 | e :: mes, p :: es, i, r, hl, hv, h => by
   simp only[a3u,peq,Bool.false_eq_true,if_false,Option.bind_eq_some_iff] at h
   obtain⟨b,hb,h⟩:=h
   have hs:=b8h hd hk hkv (hv 0 e p rfl rfl) hb
   cases b with
   | true =>
     simp at h; subst h
     exact .inr ⟨0,p.2,e,p.1,rfl,by simp[Instr.findNow,hs],rfl,rfl,hb⟩
   | false =>
     simp at h
     rcases b29 hd hk hkv (mes:=mes) (es:=es) (by simpa using hl) (λi e p h1 h2=>hv (i+1) e p (by simpa using h1) (by simpa using h2)) h with⟨h1,h2⟩ | ⟨n,v,e',p1,h1,h2,h3,h4,h5⟩
     ·exact .inl ⟨h1,by simp[Instr.findNow,hs,h2]⟩
     ·exact .inr ⟨n+1,v,e',p1,by rw[h1]; simp; omega,by simp[Instr.findNow,hs,h2]; omega,by simpa using h3,by simpa using h4,h5⟩
 | [],_::_,_,_,hl,_,_=>by simp at hl
 | _::_,[],_,_,hl,_,_=>by simp at hl
theorem b3V {kt:TypeId} {kk:EK} (hk:ekT P kt=some kk) (b:Bool) (v:Value):(Instr.checkKey b 10000 kt v).run P w = .ok () w:=by
 unfold ekT at hk
 unfold Instr.checkKey
 split at hk
 ·rename_i hu; simp only[Sem.run_bind,run_underlying hu,Result.andThen_ok]; cases v<;>rfl
 ·rename_i hu; simp only[Sem.run_bind,run_underlying hu,Result.andThen_ok]; cases v<;>rfl
 ·rename_i hu; simp only[Sem.run_bind,run_underlying hu,Result.andThen_ok]; cases v<;>rfl
 ·simp at hk
theorem b3a {kt:TypeId} {kk:Bool×List EK} (h:c1O P kt=some kk):(∃k,ekT P kt=some k∧kk=(false,[k])) ∨
  ∃fs,P.underlying kt=some (.struct fs)∧eqFields P fs.toList 0=some kk.2∧kk.1=true∧P.stoodInHeld kt=false:=by
 unfold c1O at h
 split at h
 ·rename_i k hk
  simp only[Option.some.injEq] at h
  exact .inl ⟨k,hk,h.symm⟩
 ·split at h
  ·rename_i ks hks
   simp only[Option.some.injEq] at h
   subst h
   unfold eqT at hks
   split at hks
   ·simp at hks
   ·simp at hks
   ·simp at hks
   ·rename_i fs hu
    split at hks
    ·rename_i ks' hks'
     split at hks
     ·rename_i hcond
      simp only[Option.some.injEq,Prod.mk.injEq,true_and] at hks
      subst hks
      simp only[Bool.and_eq_true,Bool.not_eq_true'] at hcond
      exact .inr ⟨fs,hu,hks',rfl,hcond.1⟩
     ·simp at hks
    ·simp at hks
   ·simp at hks
  ·simp at h
theorem b0B:∀{fs:List Field} {off:Nat} {ks:List EK},eqFields P fs off=some ks→ks.length=fs.length∧∀f∈fs,∃i,off≤i∧i<off+fs.length∧f.offset=i∧f.name ≠ "_" ∧ a05 P f.type=some 1∧a0T P f.type=false∧∃k,ekT P f.type=some k
 | [],off,ks,h=>by simp[eqFields] at h; subst h; simp
 | f :: fs, off, ks, h => by
   simp only[eqFields] at h
   split at h
   ·rename_i hc
    simp only[Option.bind_eq_some_iff,Option.map_eq_some_iff] at h
    obtain⟨k,hk,ks',hks,rfl⟩:=h
    obtain⟨h1,h2⟩:=b0B hks
    refine⟨by simp[h1],?_⟩
    intro g hg
    rcases List.mem_cons.1 hg with rfl|hg
    ·exact⟨off,Nat.le_refl _,by simp,hc.1,hc.2.1,hc.2.2.1,hc.2.2.2,k,hk⟩
    ·obtain⟨i,a1,a2,a3⟩:=h2 g hg
     exact⟨i,by omega,by simp; omega,a3⟩
   ·simp at h
theorem b03:∀{ks:List EK} {xs ys:List PV} {b:Bool},b33 ks xs ys=some b→xs.length=ks.length∧ys.length=ks.length
 | [],xs,ys,b,h=>by cases xs<;>cases ys<;>simp_all [b33]
 | k :: ks, xs, ys, b, h => by
   cases xs with
   | nil=>simp[b33] at h
   | cons x xs =>
     cases ys with
     | nil=>simp[b33] at h
     | cons y ys =>
       simp only[b33,Option.bind_eq_some_iff,Option.map_eq_some_iff] at h
       obtain⟨_,_,_,h2,_⟩:=h
       obtain⟨a1,a2⟩:=b03 h2
       simp[a1,a2]
theorem b2f {ks:List EK} {kp:PV} {es:List (PV×PV)} {i:Nat} {r} (h:a3u true ks kp es i=some r):∃cs,kp = .agg cs∧cs.length=ks.length:=by
 cases es with
 | nil =>
   rw[a3u.eq_def] at h
   cases kp<;>simp only[Option.ite_none_right_eq_some,reduceCtorEq] at h<;>exact⟨_,rfl,h.1⟩
 | cons e es =>
   simp only[a3u,Option.bind_eq_some_iff] at h
   obtain⟨b,hb,_⟩:=h
   simp only[peq,if_true] at hb
   split at hb
   ·exact⟨_,rfl,(b03 hb).1⟩
   ·simp at hb
theorem a5b {kt:TypeId} {kk:Bool×List EK} {G:GS} {kv:Value} {kp:PV} (hk:c1O P kt=some kk) (hkv:VR N w G.fix G.heap kv kp) {es:List (PV×PV)} {i:Nat} {r} (h:a3u kk.1 kk.2 kp es i=some r) (b:Bool):(Instr.checkKey b 10000 kt kv).run P w = .ok () w:=by
 rcases b3a hk with⟨k,hk',rfl⟩|⟨fs,hu,hf,h1,_⟩
 ·exact b3V hk' b kv
 ·rw[h1] at h
  obtain⟨cs,rfl,hl⟩:=b2f h
  obtain⟨vs,rfl,hc⟩:=CellsR.of_agg hkv
  obtain⟨e1,e2⟩:=b0B hf
  have hsz:vs.size=fs.size:=by have:=hc.1; simp at this; simp at e1; omega
  have key:∀(l:List Field),(∀f∈l,f∈fs.toList)→((do for f in l do if f.name ≠ "_" then Instr.checkKey b 9999 f.type (← part f.type vs f.offset)):Sem Unit).run P w = .ok () w:=by
   intro l
   induction l with
   | nil=>intro _; rfl
   | cons f l ih =>
     intro hl
     obtain⟨i,a1,a2,a3,a4,a5,a6,k,a7⟩:=e2 f (hl f (by simp))
     have hlt:i<vs.size:=by simp at a2; omega
     have hpart:(part f.type vs f.offset).run P w = .ok vs[i] w:=by
      simp[part,a4o a5,a6,a3,hlt]
     have hck:(Instr.checkKey b 9999 f.type vs[i]).run P w = .ok () w:=by
      unfold ekT at a7
      unfold Instr.checkKey
      split at a7
      ·rename_i hu; simp only[Sem.run_bind,run_underlying hu,Result.andThen_ok]; cases vs[i]<;>rfl
      ·rename_i hu; simp only[Sem.run_bind,run_underlying hu,Result.andThen_ok]; cases vs[i]<;>rfl
      ·rename_i hu; simp only[Sem.run_bind,run_underlying hu,Result.andThen_ok]; cases vs[i]<;>rfl
      ·simp at a7
     have ih':=ih (λg hg=>hl g (by simp[hg]))
     rw[List.forIn_cons]
     simp only[Sem.run_bind,ne_eq,a4,not_false_eq_true,if_true,hpart,Result.andThen_ok,hck,Sem.run_pure] at ih' ⊢
     exact ih'
  unfold Instr.checkKey
  simp only[Sem.run_bind,run_underlying hu,Result.andThen_ok,← Array.forIn_toList]
  have:=key fs.toList (λ_ h=>h)
  rw[Sem.run_bind] at this
  exact this
theorem b8i {ks:List EK}:∀{xs ys:List PV} {cs ds:List Value},b33 ks xs ys=some true→cs.length=xs.length→ds.length=ys.length→∀{fix:Nat→Nat→Prop} {hp:Nat→Option Nat},(∀(i:Nat) (v:Value) (p:PV),cs[i]? = some v→xs[i]? = some p→VR N w fix hp v p) →
  (∀(i:Nat) (v:Value) (p:PV),ds[i]? = some v→ys[i]? = some p→VR N w fix hp v p)→∀n,((ds.zip cs).all λ(x,y)=>Instr.sameBits n x y)=true:=by
 induction ks with
 | nil =>
   intro xs ys cs ds h h1 h2 fix hp hx hy n
   obtain⟨a1,a2⟩:=b03 h
   simp at a1 a2
   subst a1 a2
   simp at h1 h2
   subst h1 h2
   rfl
 | cons k ks ih =>
   intro xs ys cs ds h h1 h2 fix hp hx hy n
   cases xs with
   | nil=>simp[b33] at h
   | cons x xs =>
     cases ys with
     | nil=>simp[b33] at h
     | cons y ys =>
       simp only[b33,Option.bind_eq_some_iff,Option.map_eq_some_iff] at h
       obtain⟨b1,hb1,b2,hb2,hb⟩:=h
       simp only[Bool.and_eq_true] at hb
       obtain⟨rfl,rfl⟩:=hb
       cases cs with
       | nil=>simp at h1
       | cons c cs =>
         cases ds with
         | nil=>simp at h2
         | cons d ds =>
           simp only[List.zip_cons_cons,List.all_cons,Bool.and_eq_true]
           exact⟨b5D (hx 0 c x rfl rfl) (hy 0 d y rfl rfl) hb1 n,ih hb2 (by simpa using h1) (by simpa using h2) (λi v p a b=>hx (i+1) v p (by simpa using a) (by simpa using b)) (λi v p a b=>hy (i+1) v p (by simpa using a) (by simpa using b)) n⟩
theorem b8j {kk:Bool×List EK} {G:GS} {vx vy:Value} {x y:PV} (hx:VR N w G.fix G.heap vx x) (hy:VR N w G.fix G.heap vy y) (h:peq kk.1 kk.2 x y=some true) (n:Nat):Instr.sameBits (n+1) vy vx=true:=by
 unfold peq at h
 split at h
 ·split at h
  ·rename_i xs ys
   obtain⟨cs,rfl,hc⟩:=CellsR.of_agg hx
   obtain⟨ds,rfl,hd⟩:=CellsR.of_agg hy
   obtain⟨a1,a2⟩:=b03 h
   have h1:=hc.1
   have h2:=hd.1
   simp only[Instr.sameBits,Bool.and_eq_true,beq_iff_eq]
   refine⟨by simp at h1 h2; omega,b8i h (by simpa using h1) (by simpa using h2) (λi v p a b=>hc.2.2 i v p (by simpa using a) b) (λi v p a b=>hd.2.2 i v p (by simpa using a) b) n⟩
  ·simp at h
 ·split at h
  ·exact b5D hx hy h (n+1)
  ·simp at h
theorem a8B {kt:TypeId} {kk:Bool×List EK} {G:GS} {kv:Value} {kp:PV} (hk:c1O P kt=some kk) (hkv:VR N w G.fix G.heap kv kp) {mes:List MapEntry} {es:List (PV×PV)} {r:Option (Nat×PV)} (hl:mes.length=es.length)
  (hv:∀(i:Nat) (e:MapEntry) (p:PV×PV),mes[i]? = some e→es[i]? = some p→VR N w G.fix G.heap e.key p.1) (h:a3u kk.1 kk.2 kp es 0=some r):
  (r=none∧(Instr.findKey kt kv mes).run P w = .ok none w)∨(∃n v e p1,r=some (n,v)∧(Instr.findKey kt kv mes).run P w = .ok (some (n,e.val)) w∧mes[n]? = some e∧es[n]? = some (p1,v)∧peq kk.1 kk.2 kp p1=some true):=by
 rcases b3a hk with⟨k,hk',rfl⟩|⟨fs,hu,hf,h1,hst⟩
 ·obtain⟨d,hd⟩:∃d,P.underlying kt=some d:=by
   unfold ekT at hk'
   split at hk'<;>first|exact⟨_,by assumption⟩|simp at hk'
  rcases b29 hd hk' hkv hl hv h with⟨a1,a2⟩|⟨n,v,e,p1,a1,a2,a3,a4,a5⟩
  ·exact .inl ⟨a1,run_findKey hd a2⟩
  ·simp only[Nat.zero_add] at a1 a2
   exact .inr ⟨n,v,e,p1,a1,run_findKey hd a2,a3,a4,by simpa[peq] using a5⟩
 ·simp only[h1] at h ⊢
  have ask:∀(mes:List MapEntry) (es:List (PV×PV)) (i:Nat) (r:Option (Nat×PV)),mes.length=es.length→(∀(i:Nat) (e:MapEntry) (p:PV×PV),mes[i]? = some e→es[i]? = some p→VR N w G.fix G.heap e.key p.1)→a3u true kk.2 kp es i=some r →
    (r=none∧(Instr.findAsking kt kv mes i).run P w = .ok none w)∨(∃n v e p1,r=some (i+n,v)∧(Instr.findAsking kt kv mes i).run P w = .ok (some (i+n,e.val)) w∧mes[n]? = some e∧es[n]? = some (p1,v)∧peq true kk.2 kp p1=some true):=by
   intro mes
   induction mes with
   | nil =>
     intro es i r hl hv h
     cases es with
     | cons _ _=>simp at hl
     | nil =>
       obtain⟨cs,rfl,hlen⟩:=b2f h
       rw[a3u.eq_def] at h
       simp only[hlen,if_true,Option.some.injEq] at h
       subst h
       exact .inl ⟨rfl,by simp[Instr.findAsking]⟩
   | cons e mes ih =>
     intro es i r hl hv h
     cases es with
     | nil=>simp at hl
     | cons p es =>
       simp only[a3u,Option.bind_eq_some_iff] at h
       obtain⟨b,hb,h⟩:=h
       have hb0:=hb
       simp only[peq,if_true] at hb
       split at hb
       ·rename_i ys hys _
        have hve:=hv 0 e p rfl rfl
        rw[hys] at hve
        clear hys
        obtain⟨cs,rfl,hc⟩:=CellsR.of_agg hkv
        obtain⟨ds,hds,hd⟩:=CellsR.of_agg hve
        have hfo:P.fieldsOf kt=fs:=by simp[Program.fieldsOf,hu]
        have heq:=run_equalIn_struct (P:=P) w 9999 kt cs ds (by rw[hfo]; exact hu) hst
        rw[hfo,a96 hc hd hf (by simpa using hb)] at heq
        have heq':(Op.equal kt (.agg cs) e.key).run P w = .ok b w:=by
         rw[hds]
         simpa[Op.equal,Op.maxDepth] using heq
        cases b with
        | true =>
          simp at h; subst h
          exact .inr ⟨0,p.2,e,p.1,rfl,by simp[Instr.findAsking,heq'],rfl,rfl,hb0⟩
        | false =>
          simp at h
          rcases ih es (i+1) r (by simpa using hl) (λi e p a b=>hv (i+1) e p (by simpa using a) (by simpa using b)) h with⟨a1,a2⟩ | ⟨n,v,e',p1,a1,a2,a3,a4,a5⟩
          ·exact .inl ⟨a1,by simp[Instr.findAsking,heq',a2]⟩
          ·exact .inr ⟨n+1,v,e',p1,by rw[a1]; simp; omega,by simp[Instr.findAsking,heq',a2]; omega,by simpa using a3,by simpa using a4,a5⟩
       ·simp at hb
  have hfk:(Instr.findKey kt kv mes).run P w=(Instr.findAsking kt kv mes 0).run P w:=by
   obtain⟨cs,rfl,_⟩:=b2f h
   obtain⟨vs,rfl,_⟩:=CellsR.of_agg hkv
   unfold Instr.findKey
   simp only[Sem.run_bind,run_underlying hu,Result.andThen_ok]
   cases mes with
   | nil=>simp[Instr.findNow,Instr.findAsking]
   | cons e mes =>
     have:Instr.findNow (.struct fs) (.agg vs) (e::mes) 0=none:=by simp[Instr.findNow,Instr.sameNow]
     rw[this]
  rw[hfk]
  rcases ask mes es 0 r hl hv h with h|⟨n,v,e,p1,a1,a2,a3⟩
  ·exact .inl h
  ·exact .inr ⟨n,v,e,p1,by simpa using a1,by simpa using a2,a3⟩
theorem b2g {fix:Nat→Nat→Prop} {hp:Nat→Option Nat} {t:TypeId} {z:PV} (h:b7o P t=some z):∃zv,(zeroValue t).run P w = .ok zv w∧VR N w fix hp zv z∧((∃es,z = .list true es∧zv = .slice none 0 0)∨cp z=some z):=by
 unfold b7o at h
 split at h
 ·rename_i i hi
  simp only[Option.bind_eq_some_iff] at h
  obtain⟨zv,h1,h2⟩:=h
  exact⟨zv,by simp[zeroValue,typeInfo,hi,h1],a9i h2,a7G h2⟩
 ·simp at h
theorem VR.cp_dem' {fix:Nat→Nat→Prop} {hp:Nat→Option Nat} {v:Value} {p:PV} (h:VR N w fix hp v p):cp (PI.dem p)=some (PI.dem p):=by
 cases h<;>rfl
theorem b3W (hf:FI N w G st a vs (a0t vs ops)) {n b:Nat} {es:List (PV×PV)} (hg:a5D st (some n)=some es) (hb:G.heap n=some b):
  G.ow b=some (.hobj n)∧st.heap[n]? = some (.map es)∧ObjR N w G n b (.map es):=by
 unfold a5D at hg
 simp only at hg
 split at hg
 ·rename_i es' hn
  simp at hg; subst hg
  rcases hf.heap.1 n _ hn with e|⟨b',h1,h2,h3⟩
  ·simp at e
  have:b'=b:=by rw[hb] at h1; simpa using h1.symm
  subst this
  exact⟨h2,hn,h3⟩
 ·simp at hg
theorem MR.read {key:Key} {v:Value} {p:PV} (h:MR N w G key v p):VR N w G.fix G.heap v (dem p):=h.1.dem
theorem b5E (hE:EnvOk E N) (nm:Names vs (a0t vs ops)) (ho:ops[j]? = some o) (hf:FI N w G st a vs (a0t vs ops)) {t kt e:TypeId} {m x:Operand} {ok:Bool} {kk:Bool×List EK} {z:PV} {pm px:PX} {tk:Bool}
  (hop:o.op = .lookup t m x ok) (hu:P.underlying t=some (.map kt e)) (hkk:c1O P kt=some kk) (hz:b7o P e=some z) (hm:cx E vs ops m=some pm) (hx:cx E vs ops x=some px) {cf:a0v}
  (hs:a0N cf (.lookup ok tk kk.1 kk.2 z pm px) st=some (u,st1)) (hk:a2Z N w G a st1 u vs ops j o next):o.wp P a w next Q:=by
 obtain⟨zv,hz1,hz2,hz3⟩:=b2g (P:=P) (N:=N) (w:=w) (fix:=G.fix) (hp:=G.heap) hz
 simp only[a0N] at hs
 split at hs
 ·rename_i n k hrm hrk
  have hkv:=(a0k hE hx hf hrk).1
  have hmv:=(a0k hE hm hf hrm).1
  simp only[Option.bind_eq_some_iff] at hs
  obtain⟨es,hg,r,hfi,hs⟩:=hs
  have run:∀(mes:Array MapEntry) (r':Option (Nat×Value)),(a.eval m = .map none∧mes = #[]∨∃b clock,a.eval m = .map (some b)∧w.heap[b]? = some (.map mes clock))→(Instr.findKey kt (a.eval x) mes.toList).run P w = .ok r' w →
    (execOp a.eval o).run P w = .ok (.value (if ok then .tuple #[(r'.map Prod.snd).getD zv,.bool r'.isSome] else(r'.map Prod.snd).getD zv)) w:=by
   intro mes r' h1 h2
   have hfk:=h2
   rcases h1 with⟨h1,rfl⟩|⟨b,clock,h1,h3⟩
   ·simp only[execOp,hop,Instr.lookup,Sem.run_bind,run_underlying hu,Result.andThen_ok,h1,Sem.run_pure,a5b hkk hkv hfi,hfk]
    cases r' with
    | none=>simp[hz1]
    | some q=>simp
   ·simp only[execOp,hop,Instr.lookup,Sem.run_bind,run_underlying hu,Result.andThen_ok,h1,run_getObj_map h3,Sem.run_pure,a5b hkk hkv hfi,hfk]
    cases r' with
    | none=>simp[hz1]
    | some q=>simp
  generalize hmval:a.eval m=mv at hmv run
  cases hmv with
  | mapn =>
    simp only[a5D,Option.some.injEq] at hg
    subst hg
    have h0:=a8B (P:=P) hkk hkv (mes:=[]) (es:=[]) rfl (by simp) hfi
    have h0':r=none∧(Instr.findKey kt (a.eval x) []).run P w = .ok none w:=by
     rcases h0 with h0|⟨n,v,e,p1,_,_,h3,_⟩
     ·exact h0
     ·simp at h3
    obtain⟨rfl,hfn⟩:=h0'
    simp only[Option.some.injEq,Prod.mk.injEq] at hs
    obtain⟨rfl,rfl⟩:=hs
    have hrun:=run #[] none (.inl ⟨rfl,rfl⟩) hfn
    simp only[Option.map_none,Option.getD_none,Option.isSome_none] at hrun
    cases ok with
    | true =>
      refine a0l nm ho hf hrun (SR.of_pure (.tuple _ _ rfl ?_) rfl) hk
      intro i c p hc hp
      match i,hc,hp with
      | 0,hc,hp=>simp at hc hp; subst hc hp; exact hz2
      | 1,hc,hp=>simp at hc hp; subst hc hp; exact .bool _
    | false =>
      refine a0l nm ho hf hrun ?_ hk
      rcases hz3 with⟨es,rfl,rfl⟩|h
      ·exact⟨hz2,trivial⟩
      ·exact SR.of_pure hz2 h
  | map n b hb =>
    obtain⟨ho1,hgn,hobj⟩:=b3W hf hg hb
    obtain⟨mes,clock,a1,a2,a3,a4,a5⟩:=hobj
    have hK:(Value.map (some b) = .map none∧mes = #[])∨∃b' clock,Value.map (some b) = .map (some b')∧w.heap[b']? = some (.map mes clock) := .inr ⟨b,clock,rfl,a1⟩
    rcases a8B hkk hkv (mes:=mes.toList) (es:=es) (by simpa using a2) (λi e p h1 h2=>(a5 i e p (by simpa using h1) h2).1) hfi with⟨rfl,h2⟩ | ⟨i,v,en,p1,rfl,h2,h3,h4,_⟩
    ·have hrun:=run mes none hK h2
     simp only[Option.some.injEq,Prod.mk.injEq] at hs
     obtain⟨rfl,rfl⟩:=hs
     simp only[Option.map_none,Option.getD_none,Option.isSome_none] at hrun
     cases ok with
     | true =>
       refine a0l nm ho hf hrun (SR.of_pure (.tuple _ _ rfl ?_) rfl) hk
       intro i c p hc hp
       match i,hc,hp with
       | 0,hc,hp=>simp at hc hp; subst hc hp; exact hz2
       | 1,hc,hp=>simp at hc hp; subst hc hp; exact .bool _
     | false =>
       refine a0l nm ho hf hrun ?_ hk
       rcases hz3 with⟨es,rfl,rfl⟩|h
       ·exact⟨hz2,trivial⟩
       ·exact SR.of_pure hz2 h
    ·have hrun:=run mes _ hK h2
     have hmr:=(a5 i en (p1,v) (by simpa using h3) h4).2
     simp only[Option.map_some,Option.getD_some,Option.isSome_some] at hrun
     simp only at hs
     split at hs
     ·
      rename_i htk
      simp only[Bool.and_eq_true,Bool.not_eq_true'] at htk
      obtain⟨⟨_,hok⟩,hown⟩:=htk
      subst hok
      have:∃l,v = .list true l:=by
       unfold c0p at hown
       split at hown
       ·exact⟨_,rfl⟩
       ·simp at hown
      obtain⟨l,rfl⟩:=this
      simp only[Option.some.injEq,Prod.mk.injEq] at hs
      obtain⟨rfl,rfl⟩:=hs
      obtain⟨hvr,hroom⟩:=hmr
      obtain⟨G',hG,hroom'⟩:=Room.give (key':=a9j (a3j vs o.dst) j) hroom
      have hgg:G'.box=G.box∧G'.fix=G.fix∧G'.heap=G.heap:=by
       rcases hG with rfl|⟨b,_,rfl⟩<;>exact⟨rfl,rfl,rfl⟩
      have hext:Ext w G w G':=by
       rcases hG with rfl|⟨b,hb,rfl⟩
       ·exact Ext.refl _ _
       ·exact b00 b _ (λ_=>by simp[hb])
      have hkeep:a6B (λk=>k = .hcell n i) w G w G':=by
       rcases hG with rfl|⟨b,hb,rfl⟩
       ·exact⟨λb k h _=>⟨h,rfl,λ_ h=>h⟩,λ_ _ h=>h⟩
       ·exact a9k b _ (λk' hk'=>by rw[hb] at hk'; simpa using hk'.symm)
      have hf1:FI N w G' (a3L st n (.map (es.modify i λe=>(e.1,dem e.2)))) a vs (a0t vs ops):=by
       refine⟨hf.len,λi' t' u' h1 h2=>(hf.var i' t' u' h1 h2).keep hext hkeep (by simp) (by simp),λi' t' u' h1 h2=>(hf.loc i' t' u' h1 h2).keep hext hkeep (by simp) (by simp),hf.tv,hf.tl,(hf.defers.trans hext.df.symm),by rw[hgg.1]; exact hf.gen,?_,by rw[hgg.2.1]; exact hf.fixlt,?_,?_⟩
       ·intro b' k hb'
        rcases hG with rfl|⟨b2,hb2,rfl⟩
        ·exact hf.owlt _ _ hb'
        ·simp only[GS.give] at hb'
         split at hb'
         ·subst_vars; exact hf.owlt _ _ hb2
         ·exact hf.owlt _ _ hb'
       ·refine hf.heap.keepBut hext hkeep (λn' k hne=>⟨by simp,by simp; omega⟩) (λ_ =>?_)
        refine .inr ⟨b,hext.heap _ _ hb,(hkeep.1 _ _ ho1 (by simp)).1,mes,clock,a1,by simpa using a2,a3,a4,?_⟩
        intro i' e' p' he' hp'
        rw[List.getElem?_modify] at hp'
        by_cases hii:i=i'
        ·subst hii
         rw[h4] at hp'
         simp at hp'; subst hp'
         have:e'=en:=by rw[← Array.getElem?_toList] at he'; rw[h3] at he'; simpa using he'.symm
         subst this
         obtain⟨b1,b2⟩:=a5 i e' (p1,.list true l) he' h4
         exact⟨b1.ext hext,(b2.1.dem).ext hext,trivial⟩
        ·simp only[hii,if_false,Option.map_eq_map] at hp'
         have hp'':es[i']? = some p':=by simpa using hp'
         obtain⟨b1,b2⟩:=a5 i' e' p' he' hp''
         exact⟨b1.ext hext,b2.keep hext hkeep (by simp; omega)⟩
       ·rw[hgg.2.2]; simp only[a3L,List.length_set]; exact hf.hdom
      unfold Oper.wp
      rw[hrun]
      exact hk _ _ G' (hf1.put nm (a17 ho) ⟨hvr.ext hext,hroom'⟩) hext (a1v _ _ _)
     ·simp only[Option.some.injEq,Prod.mk.injEq] at hs
      obtain⟨rfl,rfl⟩:=hs
      have hdv:VR N w G.fix G.heap en.val (dem v):=hmr.1.dem
      cases ok with
      | true =>
        refine a0l nm ho hf hrun (SR.of_pure (.tuple _ _ rfl ?_) rfl) hk
        intro i c p hc hp
        match i,hc,hp with
        | 0,hc,hp=>simp at hc hp; subst hc hp; exact hdv
        | 1,hc,hp=>simp at hc hp; subst hc hp; exact .bool _
      | false=>exact a0l nm ho hf hrun (SR.of_pure hdv hmr.1.cp_dem') hk
 ·simp at hs
theorem b9Y {b:Nat} (hb:b<w.heap.size) (hold:∃mes clock,w.heap[b]? = some (.map mes clock)) (hfx:G.ow b≠none) (mes':Array MapEntry) (clock':Nat):
  let w':World:={ w with heap:=w.heap.setIfInBounds b (.map mes' clock') }
  Ext w G w' G∧w'.heap[b]? = some (.map mes' clock')∧∀x,x≠b→w'.heap[x]? = w.heap[x]? := by
 intro w'
 have hsame:∀x,x≠b→w'.heap[x]? = w.heap[x]? := λx hx=>by simp[w',Array.getElem?_setIfInBounds,Ne.symm hx]
 have hnew:w'.heap[b]? = some (.map mes' clock'):=by simp[w',Array.getElem?_setIfInBounds,hb]
 refine⟨⟨rfl,rfl,rfl,by simp[w'],?_,?_,λ_ _ h => .inl h,λ_ h => .inr h,λ_ _ h=>h,.one b (λk _ hk=>hsame k hk) (λs hx=>by obtain⟨mes,clock,h⟩:=hold; simp[World.shape?,h] at hx) (λs hx=>by obtain⟨mes,clock,h⟩:=hold; simp[a2J,h] at hx),rfl⟩,hnew,hsame⟩
 ·intro x _ hx
  exact hsame x (by rintro rfl; exact hfx hx)
 ·intro x o hx
  refine⟨hx,?_⟩
  by_cases hxb:x=b
  ·subst hxb
   obtain⟨mes,clock,h⟩:=hold
   simp only[World.cell?,hnew,h]
  ·simp only[World.cell?,hsame x hxb]
theorem b3b (hE:EnvOk E N) (nm:Names vs (a0t vs ops)) (ho:ops[j]? = some o) (hf:FI N w G st a vs (a0t vs ops)) {t kt e:TypeId} {m x y:Operand} {kk:Bool×List EK} {pm px py:PX}
  (hop:o.op = .mapUpdate t m x y∨o.op = .insert t m x y) (hdst:o.dst=none) (hu:P.underlying t=some (.map kt e)) (hkk:c1O P kt=some kk) (hm:cx E vs ops m=some pm) (hx:cx E vs ops x=some px) (hy:cx E vs ops y=some py) {cf:a0v}
  (hs:a0N cf (.mset kk.1 kk.2 pm px py) st=some (u,st1)) (hk:a2Z N w G a st1 u vs ops j o next):o.wp P a w next Q:=by
 simp only[a0N] at hs
 split at hs
 ·rename_i n k v st' hrm hrk htk
  have hkv:=(a0k hE hx hf hrk).1
  have hmv:=(a0k hE hm hf hrm).1
  simp only[Option.bind_eq_some_iff,Option.map_eq_some_iff] at hs
  obtain⟨es,hg,r,hfi,hs⟩:=hs
  generalize hmval:a.eval m=mv at hmv
  cases hmv with
  | map _ b hb =>
    let idx:Nat:=match r with | some (i,_)=>i | none=>es.length
    obtain⟨G1,hf1,hext1,hbox1,hfix1,hheap1,hvr,htaken,_,_,_⟩:=a7R hE hy hf htk (.hcell n idx)
    have hb1:G1.heap n=some b:=by rw[hheap1]; exact hb
    obtain⟨ho1,hgn,hobj⟩:=b3W hf1 hg hb1
    obtain⟨mes,clock,a1,a2,a3,a4,a5⟩:=hobj
    have hkv1:VR N w G1.fix G1.heap (a.eval x) k:=by rw[hfix1,hheap1]; exact hkv
    have hvr1:VR N w G1.fix G1.heap (a.eval y) v:=by rw[hfix1,hheap1]; exact hvr
    have hmr1:MR N w G1 (.hcell n idx) (a.eval y) v:=by
     refine⟨hvr1,?_⟩
     split
     ·exact htaken
     ·trivial
    have hblt:b<w.heap.size:=hf1.owlt _ _ ho1
    have hput:a.put o.dst undef=a:=by simp[hdst,Act.put]
    have hdn:a3j vs o.dst = .n:=by simp[hdst,a3j]
    have finish:∀(mes':Array MapEntry) (clock':Nat) (es':List (PV×PV)),(execOp a.eval o).run P w = .ok .skip { w with heap:=w.heap.setIfInBounds b (.map mes' clock') }→mes'.size=es'.length →
      (∀(i:Nat) (e:MapEntry),mes'[i]? = some e→e.born<clock')→(∀(i i':Nat) (e e':MapEntry),mes'[i]? = some e→mes'[i']? = some e'→e.born=e'.born→i=i') →
      (∀(i:Nat) (e:MapEntry) (p:PV×PV),mes'[i]? = some e→es'[i]? = some p→VR N w G1.fix G1.heap e.key p.1∧MR N w G1 (.hcell n i) e.val p.2)→u = .dead→st1=a3L st' n (.map es')→o.wp P a w next Q:=by
     intro mes' clock' es' hrun b2 b3 b4 b5 hu' hst1
     subst hu' hst1
     obtain⟨hext2,hnew,hother⟩:=b9Y (G:=G1) hblt ⟨mes,clock,a1⟩ (by rw[ho1]; simp) mes' clock'
     unfold Oper.wp
     rw[hrun]
     have hkeep2:a6B (λk=>k = .hobj n) w G1 { w with heap:=w.heap.setIfInBounds b (.map mes' clock') } G1:=by
      refine⟨?_,λ_ _ h=>h⟩
      intro x k hxk hnk
      refine⟨hxk,hother x ?_,λ_ h=>h⟩
      rintro rfl
      rw[ho1] at hxk
      simp at hxk
      exact hnk hxk.symm
     have hf2:FI N { w with heap:=w.heap.setIfInBounds b (.map mes' clock') } G1 (a3L st' n (.map es')) a vs (a0t vs ops):=by
      refine⟨hf1.len,λi t' u' h1 h2=>(hf1.var i t' u' h1 h2).keep hext2 hkeep2 (by simp) (by simp),λi t' u' h1 h2=>(hf1.loc i t' u' h1 h2).keep hext2 hkeep2 (by simp) (by simp),hf1.tv,hf1.tl,hf1.defers,hf1.gen,?_,?_,?_,?_⟩
      ·intro x k hx; simpa using hf1.owlt x k hx
      ·intro x o' hx; simpa using hf1.fixlt x o' hx
      ·refine hf1.heap.keepBut hext2 hkeep2 (λn' k hne=>⟨by simp; omega,by simp⟩) (λ_ =>?_)
       refine .inr ⟨b,hb1,ho1,mes',clock',hnew,b2,b3,b4,?_⟩
       intro i en p hi hp
       obtain⟨c1,c2⟩:=b5 i en p hi hp
       exact⟨c1.ext hext2,c2.keep hext2 hkeep2 (by simp)⟩
      ·simp only[a3L,List.length_set]; exact hf1.hdom
     show next (a.put o.dst undef) _
     rw[hput]
     refine hk _ _ G1 ?_ (hext1.trans hext2) rfl
     rw[hdn]
     exact hf2
    have hop':∀w',(Instr.mapUpdate t (.map (some b)) (a.eval x) (a.eval y)).run P w = .ok () w'→(execOp a.eval o).run P w = .ok .skip w':=by
     intro w' h
     rcases hop with hop|hop<;>simp[execOp,hop,hmval,h]
    rcases a8B hkk hkv1 (mes:=mes.toList) (es:=es) (by simpa using a2) (λi e p h1 h2=>(a5 i e p (by simpa using h1) h2).1) hfi with⟨rfl,h2⟩ | ⟨i,v',en,p1,rfl,h2,h3,h4,h5⟩
    ·
     simp only[Prod.mk.injEq] at hs
     obtain⟨rfl,rfl⟩:=hs
     refine finish (mes.push { key:=a.eval x,val:=a.eval y,born:=clock }) (clock+1) (es++[(k,v)]) (hop' _ ?_) (by simp[a2]) ?_ ?_ ?_ rfl rfl
     ·simp only[Instr.mapUpdate,Sem.run_bind,run_underlying hu,Result.andThen_ok,run_getObj_map a1,a5b hkk hkv1 hfi,h2,run_setObj_map _ a1]
     ·intro i e' he'
      rw[Array.getElem?_push] at he'
      split at he'
      ·simp at he'; subst he'; simp
      ·have:=a3 i e' he'; omega
     ·intro i i' e' e'' he' he'' hborn
      rw[Array.getElem?_push] at he' he''
      split at he'<;>split at he''
      ·omega
      ·simp at he'; subst he'
       have:=a3 i' e'' he''; simp at hborn; omega
      ·simp at he''; subst he''
       have:=a3 i e' he'; simp at hborn; omega
      ·exact a4 i i' e' e'' he' he'' hborn
     ·intro i e' p he' hp
      rw[Array.getElem?_push] at he'
      split at he'
      ·rename_i hi
       simp at he'; subst he'
       rw[List.getElem?_append_right (by omega)] at hp
       have:i - es.length=0:=by omega
       rw[this] at hp
       simp at hp; subst hp
       refine⟨hkv1,?_⟩
       have hidx:idx=i:=by show es.length=i; omega
       rw[hidx] at hmr1
       exact hmr1
      ·have hi:i<es.length:=by have:=(Array.getElem?_eq_some_iff.1 he').1; omega
       rw[List.getElem?_append_left hi] at hp
       exact a5 i e' p he' hp
    ·
     simp only[Prod.mk.injEq] at hs
     obtain⟨rfl,rfl⟩:=hs
     have hidx:idx=i:=by show i=i; rfl
     rw[hidx] at hmr1
     have hlt:i<mes.size:=by have:=(List.getElem?_eq_some_iff.1 h3).1; simpa using this
     have hen:mes[i]? = some en:=by rw[← Array.getElem?_toList]; exact h3
     have hbits:Instr.sameBits 10000 en.key (a.eval x)=true:=b8j hkv1 (a5 i en (p1,v') hen h4).1 h5 9999
     refine finish (mes.modify i λe=>{ e with key:=a.eval x,val:=a.eval y }) clock (es.set i (k,v)) (hop' _ ?_) (by simp[a2]) ?_ ?_ ?_ rfl rfl
     ·simp only[Instr.mapUpdate,Sem.run_bind,run_underlying hu,Result.andThen_ok,run_getObj_map a1,a5b hkk hkv1 hfi,h2,hen,Option.map_some,Option.getD_some,Instr.keyThatStays,hbits,if_true,Sem.run_pure,run_setObj_map _ a1]
     ·intro i' e' he'
      rw[Array.getElem?_modify] at he'
      split at he'
      ·simp only[Option.map_eq_some_iff] at he'
       obtain⟨e2,h6,rfl⟩:=he'
       exact a3 i' e2 h6
      ·exact a3 i' e' he'
     ·have hb':∀(i':Nat) (e':MapEntry),(mes.modify i λe=>{ e with key:=a.eval x,val:=a.eval y })[i']? = some e'→∃e2:MapEntry,mes[i']? = some e2∧e2.born=e'.born:=by
       intro i' e' he'
       rw[Array.getElem?_modify] at he'
       split at he'
       ·simp only[Option.map_eq_some_iff] at he'
        obtain⟨e2,h6,rfl⟩:=he'
        exact⟨e2,h6,rfl⟩
       ·exact⟨e',he',rfl⟩
      intro i1 i2 e1 e2 he1 he2 hborn
      obtain⟨f1,g1,g2⟩:=hb' i1 e1 he1
      obtain⟨f2,g3,g4⟩:=hb' i2 e2 he2
      exact a4 i1 i2 f1 f2 g1 g3 (by rw[g2,g4,hborn])
     ·intro i' e' p he' hp
      rw[Array.getElem?_modify] at he'
      rw[List.getElem?_set] at hp
      split at he'
      ·rename_i hii
       subst hii
       rw[if_pos rfl] at hp
       split at hp
       ·simp at hp; subst hp
        rw[hen] at he'
        simp at he'; subst he'
        exact⟨hkv1,hmr1⟩
       ·simp at hp
      ·rename_i hii
       rw[if_neg hii] at hp
       exact a5 i' e' p he' hp
 ·simp at hs
theorem b8k (hE:EnvOk E N) (nm:Names vs (a0t vs ops)) (ho:ops[j]? = some o) (hf:FI N w G st a vs (a0t vs ops)) {t kt e:TypeId} {ts:Array TypeId} {x:Operand} {px:PX} (hop:o.op = .call { callee := .builtin .len,args := #[x],argTypes:=ts })
  (h0:ts[0]? = some t) (hu:P.underlying t=some (.map kt e)) (hx:cx E vs ops x=some px) {cf:a0v} (hs:a0N cf (.mlen px) st=some (u,st1)) (hk:a2Z N w G a st1 u vs ops j o next):o.wp P a w next Q:=by
 simp only[a0N] at hs
 split at hs
 ·rename_i n hp
  simp only[Option.map_eq_some_iff,Prod.mk.injEq] at hs
  obtain⟨es,hg,rfl,rfl⟩:=hs
  have h:=(a0k hE hx hf hp).1
  generalize hv:a.eval x=v at h
  refine a0l nm ho hf ?_ (SR.of_pure (.int _ _) rfl) hk
  cases h with
  | mapn =>
    simp only[a5D,Option.some.injEq] at hg
    subst hg
    simp only[execOp,hop,resolve,Sem.run_bind,Sem.run_pure,Result.andThen_ok,invoke,builtin,Builtin.len_,h0,List.map_toArray,List.map_cons,List.map_nil,hv,List.getElem?_toArray,List.getElem?_cons_zero,run_underlying hu,goInt]
    rfl
  | map n b hb =>
    obtain⟨_,_,mes,clock,a1,a2,_⟩:=b3W hf hg hb
    simp only[execOp,hop,resolve,Sem.run_bind,Sem.run_pure,Result.andThen_ok,invoke,builtin,Builtin.len_,h0,List.map_toArray,List.map_cons,List.map_nil,hv,List.getElem?_toArray,List.getElem?_cons_zero,run_underlying hu,goInt,run_getObj_map a1,a2]
 ·simp at hs
theorem b8l (hE:EnvOk E N) {x:Operand} {px:PX} (hc:cx E vs ops x=some px) (hf:FI N w G st a vs (a0t vs ops)) (ht:b3g st px=some (u,st1)):
  ∃G',FI N w G' st1 a vs (a0t vs ops)∧Ext w G w G'∧VR N w G'.fix G'.heap (a.eval x) u:=by
 by_cases hloc:∃i g cs,px = .v i∧raw st px=some (.loc g cs)
 ·obtain⟨i,g,cs,rfl,hr⟩:=hloc
  simp only[b3g,hr,Option.some.injEq,Prod.mk.injEq] at ht
  obtain⟨rfl,rfl⟩:=ht
  have hs:=a2X hE hc hf hr
  obtain⟨b,i',hk,hv,hb,ho,hnf,cv,T,hh,hl,hcr⟩:=hs
  simp only[b2v,Key.var.injEq] at hk
  subst hk
  have hblt:=hf.owlt _ _ ho
  let G':GS:={ G with fix:=λb' o=>G.fix b' o∨(b'=b∧o<cs.length),ow:=λb'=>if b'=b then none else G.ow b' }
  have hext:Ext w G w G':=by
   refine⟨rfl,rfl,rfl,Nat.le_refl _,λ_ _ _=>rfl,λ_ _ h=>⟨.inl h,rfl⟩,?_,?_,λ_ _ h=>h,ShapeLe.refl w,rfl⟩
   ·rintro b' o (h|⟨rfl,_⟩)
    ·exact .inl h
    ·refine .inr (.inr ?_)
     rw[show G.ow b'=some (b2v (.v i)) from ho]; simp
   ·intro b' h
    simp only[G'] at h
    split at h
    ·simp at h
    ·exact .inr h
  have hkeep:a6B (λk=>k = .var i) w G w G':=by
   refine⟨?_,λ_ _ h=>h⟩
   intro b' k hb' hn
   have hne:b'≠b:=by rintro rfl; rw[show G.ow b'=some (b2v (.v i)) from ho] at hb'; simp[b2v] at hb'; exact hn hb'.symm
   refine⟨by simp only[G']; rw[if_neg hne]; exact hb',rfl,?_⟩
   rintro o (h|⟨h,_⟩)
   ·exact h
   ·exact absurd h hne
  have hvr:VR N w G'.fix G'.heap (a.eval x) (.cptr (cs.map dem)):=by
   rw[hv]
   refine .cptr b 0 (cs.map dem) (λk=>cv.getD k undef) ?_ ?_ ?_
   ·intro y hy
    obtain⟨z,hz,rfl⟩:=List.mem_map.1 hy
    obtain⟨k,hk⟩:=List.mem_iff_getElem?.1 hz
    have hlt:k<cv.size:=by have:=(List.getElem?_eq_some_iff.1 hk).1; omega
    rw[a6A]
    exact(hcr k cv[k] z (by simp[hlt]) hk).2.1
   ·intro k hk
    simp only[List.length_map] at hk
    have hlt:k<cv.size:=by omega
    refine⟨?_,.inr ⟨rfl,by omega⟩⟩
    simp[World.cell?,hh,hlt]
   ·intro k y hy
    simp only[List.getElem?_map,Option.map_eq_some_iff] at hy
    obtain⟨z,hz,rfl⟩:=hy
    have hlt:k<cv.size:=by have:=(List.getElem?_eq_some_iff.1 hz).1; omega
    have:=(hcr k cv[k] z (by simp[hlt]) hz).1
    simp only[Array.getD_eq_getD_getElem?,Array.getElem?_eq_getElem hlt,Option.getD_some]
    exact this.dem.ext hext
  have hx:∃t,vs[i]? = some t∧a.eval (.tmp t)=a.eval x:=by
   cases x with
   | tmp t =>
     simp only[cx] at hc
     split at hc
     ·rename_i i2 hi
      simp at hc; subst hc
      obtain⟨_,h2⟩:=a28 hi
      exact⟨t,by simpa using h2,rfl⟩
     ·simp at hc
   | const v=>simp only[cx] at hc; split at hc<;>simp at hc
   | global g=>simp[cx] at hc
   | func f=>simp[cx] at hc
  obtain⟨tx,ht1,ht2⟩:=hx
  refine⟨G',?_,hext,hvr⟩
  refine⟨by simp[hf.len],?_,λj' t' u' h1 h2=>(hf.loc j' t' u' h1 h2).keep hext hkeep (by simp) (by simp),hf.tv,hf.tl,hf.defers,hf.gen,?_,?_,hf.heap.keep hext hkeep (by rintro k hk rfl; simp[Key.isH] at hk),hf.hdom⟩
  ·intro i' t' u' h1 h2
   simp only[List.getElem?_set] at h2
   split at h2
   ·rename_i hi
    subst hi
    split at h2
    ·simp at h2; subst h2
     have:t'=tx:=by rw[ht1] at h1; simpa using h1.symm
     subst this
     exact SR.of_pure (ht2▸hvr) rfl
    ·simp at h2
   ·rename_i hi
    exact(hf.var i' t' u' h1 h2).keep hext hkeep (by simp; omega) (by simp)
  ·intro b' k h
   simp only[G'] at h
   split at h
   ·simp at h
   ·exact hf.owlt _ _ h
  ·rintro b' o (h|⟨rfl,_⟩)
   ·exact hf.fixlt _ _ h
   ·exact hblt
 ·have hcp:b3g st px=(rd st px).map (·,st):=by
   unfold b3g
   split
   ·rename_i i g cs h; exact absurd ⟨i,g,cs,rfl,h⟩ hloc
   ·rfl
  rw[hcp] at ht
  simp only[Option.map_eq_some_iff,Prod.mk.injEq] at ht
  obtain⟨r,hr,rfl,rfl⟩:=ht
  exact⟨G,hf,Ext.refl _ _,(a0k hE hc hf hr).1⟩
theorem a8C (hE:EnvOk E N):∀{xs:List Operand} {pxs:List PX} {G:GS} {st st1:St} {us:List PV},cxs E vs ops xs=some pxs→FI N w G st a vs (a0t vs ops)→a3K st pxs=some (us,st1) →
  ∃G',FI N w G' st1 a vs (a0t vs ops)∧Ext w G w G'∧xs.length=us.length∧∀(i:Nat) (x:Operand) (u:PV),xs[i]? = some x→us[i]? = some u→VR N w G'.fix G'.heap (a.eval x) u
 | [], pxs, G, st, st1, us, hc, hf, h => by
   simp[cxs] at hc; subst hc
   simp only[a3K,Option.some.injEq,Prod.mk.injEq] at h
   obtain⟨rfl,rfl⟩:=h
   exact⟨G,hf,Ext.refl _ _,rfl,by simp⟩
 | x :: xs, pxs, G, st, st1, us, hc, hf, h => by
   simp only[cxs,Option.bind_eq_some_iff,Option.map_eq_some_iff] at hc
   obtain⟨p,hp,ps,hps,rfl⟩:=hc
   simp only[a3K,Option.bind_eq_some_iff,Option.map_eq_some_iff,Prod.mk.injEq] at h
   obtain⟨⟨v,st2⟩,h1,⟨q,st3⟩,h2,rfl,rfl⟩:=h
   obtain⟨G1,f1,e1,v1⟩:=b8l hE hp hf h1
   obtain⟨G2,f2,e2,l2,v2⟩:=a8C hE hps f1 h2
   refine⟨G2,f2,e1.trans e2,by simp[l2],?_⟩
   intro i y z hy hz
   cases i with
   | zero=>simp at hy hz; subst hy hz; exact v1.ext e2
   | succ i=>exact v2 i y z (by simpa using hy) (by simpa using hz)
theorem b5F (hE:EnvOk E N) (nm:Names vs (a0t vs ops)) (ho:ops[j]? = some o) (hf:FI N w G st a vs (a0t vs ops)) {f:FuncId} {k:Nat} {xs ys:Array Operand} {ps qs:List PX} (hop:o.op = .makeFunc (.func f) xs ys) (hk':E.inv f=some k)
  (hx:cxs E vs ops xs.toList=some ps) (hy:cxs E vs ops ys.toList=some qs) {cf:a0v} (hs:a0N cf (.mkfunc k ps qs) st=some (u,st1)) (hk:a2Z N w G a st1 u vs ops j o next):o.wp P a w next Q:=by
 simp only[a0N,Option.bind_eq_some_iff,Option.map_eq_some_iff,Prod.mk.injEq] at hs
 obtain⟨⟨us,st2⟩,h1,⟨zs,st3⟩,h2,rfl,rfl⟩:=hs
 obtain⟨G1,f1,e1,l1,v1⟩:=a8C hE hx hf h1
 obtain⟨G2,f2,e2,l2,v2⟩:=a8C hE hy f1 h2
 have hfn:=hE.fn _ _ hk'
 have hfy:=hE.yl _ _ hk'
 unfold Oper.wp
 have hrun:(execOp a.eval o).run P w = .ok (.value (.func (.func f) (xs.map a.eval) (ys.map a.eval))) w:=by
  simp[execOp,hop,Instr.makeFunc]
 rw[hrun]
 refine hk _ _ G2 (f2.put nm (a17 ho) (SR.of_pure ?_ rfl)) (e1.trans e2) (a1v _ _ _)
 subst hfn
 refine .func k _ _ us zs hfy (by simpa using l1) (by simpa using l2) ?_ ?_
 ·intro i c p hc hp
  simp only[Array.getElem?_map,Option.map_eq_some_iff] at hc
  obtain⟨x,hx',rfl⟩:=hc
  exact(v1 i x p (by simpa using hx') hp).ext e2
 ·intro i c p hc hp
  simp only[Array.getElem?_map,Option.map_eq_some_iff] at hc
  obtain⟨x,hx',rfl⟩:=hc
  exact v2 i x p (by simpa using hx') hp
theorem a9p {t:TypeId} {v c:Value} {b:Bool} (h:(Op.equalIn 10000 t v c).run P w = .ok b w) (op:BinOp) (hop:op = .eql∨op = .neq) (x y:Operand)
  (hg:(eqGuard op t x y v c).run P w = .ok () w) (hb1:binOp .eql t v c=(do let r←Op.equal t v c; pure (.bool r))) (hb2:binOp .neq t v c=(do let r←Op.equal t v c; pure (.bool !r))):
  (do eqGuard op t x y v c; binOp op t v c:Sem Value).run P w = .ok (.bool (if op == .neq then !b else b)) w:=by
 have h':(Op.equal t v c).run P w = .ok b w:=h
 rcases hop with rfl|rfl
 ·simp only[Sem.run_bind,hg,Result.andThen_ok,hb1,h',Sem.run_pure]; rfl
 ·simp only[Sem.run_bind,hg,Result.andThen_ok,hb2,h',Sem.run_pure]; rfl
theorem b9Z {t e:TypeId} (hu:P.underlying t=some (.slice e)) (ad:Option Addr) (l c:Nat):(Op.equalIn 10000 t (.slice ad l c) (.slice none 0 0)).run P w = .ok ad.isNone w:=by
 unfold Op.equalIn
 simp only[Sem.run_bind,run_underlying hu,Result.andThen_ok]
 cases ad<;>rfl
theorem c4A {t e:TypeId} (hu:P.underlying t=some (.pointer e)) (ad:Option Addr):(Op.equalIn 10000 t (.pointer ad) (.pointer none)).run P w = .ok ad.isNone w:=by
 unfold Op.equalIn
 simp only[Sem.run_bind,run_underlying hu,Result.andThen_ok]
 cases ad<;>rfl
theorem c4B {t k e:TypeId} (hu:P.underlying t=some (.map k e)) (r:Option Nat):(Op.equalIn 10000 t (.map r) (.map none)).run P w = .ok r.isNone w:=by
 unfold Op.equalIn
 simp only[Sem.run_bind,run_underlying hu,Result.andThen_ok]
 cases r<;>rfl
theorem b90 {t:TypeId} {ms:Array (String×TypeId)} (hu:P.underlying t=some (.interface ms)) (v:Value) (b:Bool) (h:(v = .nilIface∧b=true)∨(∃t' x,v = .iface t' x)∧b=false):(Op.equalIn 10000 t v .nilIface).run P w = .ok b w:=by
 unfold Op.equalIn
 simp only[Sem.run_bind,run_underlying hu,Result.andThen_ok]
 rcases h with⟨rfl,rfl⟩|⟨⟨t',x,rfl⟩,rfl⟩<;>rfl
theorem b6F (hE:EnvOk E N) (nm:Names vs (a0t vs ops)) (ho:ops[j]? = some o) (hf:FI N w G st a vs (a0t vs ops)) {op:BinOp} {t t':TypeId} {x y:Operand} {px:PX} {kd:Nat} (hop:o.op = .binOp op t x y t')
  (hop2:op = .eql∨op = .neq) (ht:d0p P t y=some kd) (hx:cx E vs ops x=some px) {cf:a0v} (hs:a0N cf (.isnil kd (op == .neq) px) st=some (u,st1)) (hk:a2Z N w G a st1 u vs ops j o next):o.wp P a w next Q:=by
 simp only[a0N,Option.map_eq_some_iff,Option.bind_eq_some_iff,Prod.mk.injEq] at hs
 obtain⟨b,⟨p,hp,hb⟩,rfl,rfl⟩:=hs
 have hv:=(a0k hE hx hf hp).1
 refine a0l nm ho hf ?_ (SR.of_pure (.bool _) rfl) hk
 have hguard:∀v c:Value,(∀cs,v≠.agg cs)→v≠.nilIface→(eqGuard op t x y v c).run P w = .ok () w:=by
  intro v c h1 h2
  rcases hop2 with rfl|rfl<;>cases v<;>cases c<;>first|rfl|exact absurd rfl h2|exact absurd rfl (h1 _)
 have key:(do eqGuard op t x y (a.eval x) (a.eval y); binOp op t (a.eval x) (a.eval y):Sem Value).run P w = .ok (.bool (if op == .neq then !b else b)) w:=by
  unfold d0p at ht
  split at ht<;>simp only[Option.some.injEq,reduceCtorEq] at ht<;>subst ht
  ·rename_i hu
   have hform:∃ad l c,a.eval x = .slice ad l c∧ad.isNone=b:=by
    generalize a.eval x=v at hv
    unfold a69 at hb
    split at hb<;>simp only[Option.some.injEq,reduceCtorEq] at hb<;>subst hb<;>(try (rename_i h0; simp at h0))<;>cases hv<;>first|exact⟨_,_,_,rfl,rfl⟩|simp_all
   obtain⟨ad,l,c,hx',rfl⟩:=hform
   rw[hx']
   exact a9p (b9Z hu ad l c) op hop2 x _ (hguard _ _ (by simp) (by simp)) rfl rfl
  ·rename_i hu
   have hform:∃ad,a.eval x = .pointer ad∧ad.isNone=b:=by
    generalize a.eval x=v at hv
    unfold a69 at hb
    split at hb<;>simp only[Option.some.injEq,reduceCtorEq] at hb<;>subst hb<;>(try (rename_i h0; simp at h0))<;>cases hv<;>exact⟨_,rfl,rfl⟩
   obtain⟨ad,hx',rfl⟩:=hform
   rw[hx']
   exact a9p (c4A hu ad) op hop2 x _ (hguard _ _ (by simp) (by simp)) rfl rfl
  ·rename_i hu
   have hform:∃ad,a.eval x = .map ad∧ad.isNone=b:=by
    generalize a.eval x=v at hv
    unfold a69 at hb
    split at hb<;>simp only[Option.some.injEq,reduceCtorEq] at hb<;>subst hb<;>(try (rename_i h0; simp at h0))<;>cases hv<;>exact⟨_,rfl,rfl⟩
   obtain⟨ad,hx',rfl⟩:=hform
   rw[hx']
   exact a9p (c4B hu ad) op hop2 x _ (hguard _ _ (by simp) (by simp)) rfl rfl
  ·rename_i hu
   have hform:(a.eval x = .nilIface∧b=true)∨(∃t' z,a.eval x = .iface t' z)∧b=false:=by
    generalize a.eval x=v at hv
    unfold a69 at hb
    split at hb<;>simp only[Option.some.injEq,reduceCtorEq] at hb<;>subst hb<;>(try (rename_i h0; simp at h0))<;>cases hv<;>first|exact .inl ⟨rfl,rfl⟩|exact .inr ⟨⟨_,_,rfl⟩,rfl⟩
   have hg:(eqGuard op t x (.const .nilIface) (a.eval x) .nilIface).run P w = .ok () w:=by
    rcases hform with⟨h,_⟩|⟨⟨t',z,h⟩,_⟩<;>rw[h]<;>rcases hop2 with rfl|rfl<;>simp[eqGuard]
   have he:=b90 (P:=P) (w:=w) hu _ _ hform
   refine a9p he op hop2 x _ hg ?_ ?_<;>(rcases hform with⟨h,_⟩|⟨⟨t',z,h⟩,_⟩<;>rw[h]<;>rfl)
 simp only[execOp,hop,Sem.run_bind,key,Result.andThen_ok,Sem.run_pure]
theorem b6G (hE:EnvOk E N) (nm:Names vs (a0t vs ops)) (ho:ops[j]? = some o) (hf:FI N w G st a vs (a0t vs ops)) {t:TypeId} {n:Nat} {x:Operand} {px:PX} (hop:o.op = .load t x) (hn:a05 P t=some n)
  (hx:cx E vs ops x=some px) {cf:a0v} (hs:a0N cf (.loadc n (a0T P t) px) st=some (u,st1)) (hk:a2Z N w G a st1 u vs ops j o next):o.wp P a w next Q:=by
 simp only[a0N] at hs
 split at hs
 ·rename_i cs ha
  simp only[Option.map_eq_some_iff,Prod.mk.injEq] at hs
  obtain⟨r,hr,rfl,rfl⟩:=hs
  obtain⟨r',h1,h2,h3⟩:=b12 (P:=P) hn (a0k hE hx hf ha).1 hr
  exact a0l nm ho hf (by simp[execOp,hop,h1]) (SR.of_pure h2 h3) hk
 ·simp at hs
theorem b5G (hE:EnvOk E N) (nm:Names vs (a0t vs ops)) (ho:ops[j]? = some o) (hf:FI N w G st a vs (a0t vs ops)) {x:Operand} {px:PX} (hop:o.op = .nilCheck x)
  (hx:cx E vs ops x=some px) {cf:a0v} (hs:a0N cf (.nilchk px) st=some (u,st1)) (hk:a2Z N w G a st1 u vs ops j o next):o.wp P a w next Q:=by
 have run:∀ad,a.eval x = .pointer (some ad)→(execOp a.eval o).run P w = .ok (.value (.pointer (some ad))) w:=by
  intro ad h
  simp[execOp,hop,h]
 simp only[a0N] at hs
 split at hs
 ·rename_i n off ha
  simp only[Option.some.injEq,Prod.mk.injEq] at hs
  obtain⟨rfl,rfl⟩:=hs
  obtain⟨b,hv,hb⟩:=b02 hE hx hf ha
  exact a0l nm ho hf (run _ hv) (SR.of_pure (.ptr _ _ b hb) rfl) hk
 ·rename_i cs ha
  simp only[Option.some.injEq,Prod.mk.injEq] at hs
  obtain⟨rfl,rfl⟩:=hs
  rcases a1Z hE hx hf ha with⟨_,_,_,_,h,_⟩|⟨h,_⟩
  ·simp at h
  ·generalize hv:a.eval x=v at h
   have h':=h
   cases h with
   | cptr b off _ cv _ _ _=>exact a0l nm ho hf (run _ hv) (SR.of_pure h' rfl) hk
 ·rename_i s g off ha
  simp only[Option.some.injEq,Prod.mk.injEq] at hs
  obtain⟨rfl,rfl⟩:=hs
  rcases a1Z hE hx hf ha with⟨_,_,_,b,h,hv,hb⟩|⟨_,h⟩
  ·simp only[PV.lptr.injEq] at h
   obtain⟨rfl,rfl,rfl⟩:=h
   exact a0l nm ho hf (run _ hv) (SR.lptr rfl hb) hk
  ·simp[cp] at h
 ·simp at hs
theorem b8m (hE:EnvOk E N) (nm:Names vs (a0t vs ops)) (ho:ops[j]? = some o) (hf:FI N w G st a vs (a0t vs ops)) {t e:TypeId} {n size:Nat} {parts:Array (Nat×Operand)} {z:List PV} {ps:List (Nat×Nat×PX)}
  (hop:o.op = .build t parts) (hu:P.underlying t=some (.array n e)) (hn:a05 P e=some size) (hz:a38 P t=some z)
  (hc:b0c E vs ops (λi=>some (i*size,size)) parts.toList=some ps) {cf:a0v} (hs:a0N cf (.barr z ps) st=some (u,st1)) (hk:a2Z N w G a st1 u vs ops j o next):o.wp P a w next Q:=by
 simp only[a0N,Option.map_eq_some_iff,Option.bind_eq_some_iff,Prod.mk.injEq] at hs
 obtain⟨rs,⟨qs,hq,a3L⟩,rfl,rfl⟩:=hs
 obtain⟨i,zv,hi,hzv,_,_,hR,hO⟩:=a19 (N:=N) (w:=w) (fix:=G.fix) (hp:=G.heap) hz
 obtain⟨ie,d,hie,hsz,_,_⟩:=a0n hn
 obtain⟨ds,h1,h2,h3⟩:=a6Q hE hf hc hq a3L hR hO
 refine a0l nm ho hf (v := .agg ds) ?_ (SR.of_pure (by simpa using h2.agg h3) rfl) hk
 have hb:P.built t (parts.map λ(i,x)=>(i,a.eval x)).toList=some ds:=by
  simp only[Program.built,hi,hu,hzv,hie,hsz]
  simpa using h1
 simp[execOp,hop,run_build w t _ ds hb]
theorem b8n (hE:EnvOk E N) (nm:Names vs (a0t vs ops)) (ho:ops[j]? = some o) (hf:FI N w G st a vs (a0t vs ops)) {t e:TypeId} {len n:Nat} {x i:Operand} {px pi:PX} (hop:o.op = .index t x i)
  (hu:P.underlying t=some (.array len e)) (hn:a05 P e=some n) (hx:cx E vs ops x=some px) (hi:cx E vs ops i=some pi) {cf:a0v}
  (hs:a0N cf (.idxA len n (a0T P e) px pi) st=some (u,st1)) (hk:a2Z N w G a st1 u vs ops j o next):o.wp P a w next Q:=by
 have hn0:n≠0:=by obtain⟨_,_,_,_,h,_⟩:=a0n hn; exact h
 simp only[a0N] at hs
 split at hs
 ·rename_i ps k hps hki
  split at hs
  ·rename_i hk2
   simp only[Option.map_eq_some_iff,Prod.mk.injEq] at hs
   obtain⟨r,hr,rfl,rfl⟩:=hs
   obtain⟨cs,hv,hR⟩:=CellsR.of_agg (a0k hE hx hf hps).1
   obtain⟨kk,hik⟩:=a1T hE hi hf hki
   obtain⟨h1,h2,h3⟩:=a18 hR hr hn0 (a3q hn)
   refine a0l nm ho hf ?_ (SR.of_pure h2 h3) hk
   have hx:(part e cs (k.toNat*n)).run P w = .ok (if a0T P e then .agg ((cs.toList.drop (k.toNat*n)).take n).toArray else(cs.toList.drop (k.toNat*n)).headD undef) w:=by
    simp only[part,Sem.run_bind,a4o hn,Sem.run_ite,a08 hn,Result.andThen_ok,Sem.run_pure]
    by_cases ha:a0T P e=true
    ·simp only[ha,if_true]
     congr 2
     apply Array.ext'
     simp
    ·simp only[Bool.not_eq_true] at ha
     have hlt:k.toNat*n<cs.size:=by simp at h1; omega
     simp[ha,List.drop_eq_getElem_cons (l:=cs.toList) (i:=k.toNat*n) (by simpa using hlt),hlt]
   simp[execOp,hop,Instr.index,hik,asIntOf,run_underlying hu,hv,hk2,a08 hn,hx]
  ·simp at hs
 ·simp at hs
end
end PI
