import Derived.Test.YtljbhgpanekomaaGreatDoorPiSound8
import Derived.Laws.MakeOwn
import Derived.Laws.RangeString
import Derived.Orders
import Derived.LoopN
set_option maxRecDepth 100000
set_option linter.unusedSimpArgs false
set_option linter.unusedVariables false
set_option linter.unusedSectionVars false
namespace PI
open Go
section
variable {E:Env} {N:Nm} {w:World} {G:GS} {st:St} {a:Act} {vs:List Tmp} {ops:List Oper} {P:Program}
variable {o:Oper} {j:Nat} {next:Act→World→Prop} {Q:Exit→Act→World→Prop} {u:PV} {st1:St}
theorem Kr {α:Type} (l:List α):∀(n k:Nat),(List.replicate n l).flatten[k]? = if k<n*l.length then l[k % l.length]? else none
 | 0,k=>by simp
 | n + 1, k => by
   have ih:=Kr l n (k - l.length)
   have e:(n+1)*l.length=n*l.length+l.length:=Nat.succ_mul _ _
   rw[List.replicate_succ,List.flatten_cons,List.getElem?_append,ih,e]
   by_cases hk:k<l.length
   ·have:k<n*l.length+l.length:=by omega
    simp only[hk,this,Nat.mod_eq_of_lt hk,if_true]
   ·have hm:(k - l.length) % l.length=k % l.length:=(Nat.mod_eq_sub_mod (by omega)).symm
    by_cases h2:k - l.length<n*l.length
    ·have:k<n*l.length+l.length:=by omega
     simp only[hk,h2,this,if_true,if_false,hm]
    ·have:¬k<n*l.length+l.length:=by omega
     simp only[hk,h2,this,if_false]
theorem b9k {x y:Operand} (h:FF x y=true) {k:IntKind} {n:Int} (hx:a.eval x = .int k n):∃k',a.eval y = .int k' n:=by
 unfold FF at h
 split at h
 ·simp at h; subst h; exact⟨k,hx⟩
 ·simp at h; subst h
  simp only[Act.eval] at hx ⊢
  cases hx
  exact⟨_,rfl⟩
 ·simp at h
theorem b7r (hE:EnvOk E N) (nm:Names vs (vS vs ops)) (ho:ops[j]? = some o) (hf:FI N w G st a vs (vS vs ops)) {t e:TypeId} {l c:Operand} {px:PX} {size:Nat} {z:List PV} (cL:o.op = .makeSlice t l c)
  (hu:P.underlying t=some (.slice e)) (hn:wx P e=some size) (hz:xN P e=some z) (ea:FF l c=true) (hx:cx E vs ops l=some px) {cf:vZ} (hs:vW cf (.mkarr size (wQ P e) (P.bytesOf e) z px) st=some (u,st1)) (hk:wn N w G a st1 u vs ops j o next):o.wp P a w next Q:=by
 simp only[vW] at hs
 split at hs
 ·rename_i n eF
  split at hs
  ·rename_i hc
   obtain⟨h0,hb,hm⟩:=hc
   simp only[aa,ac] at hs
   obtain⟨rfl,rfl⟩:=hs
   obtain⟨k,hl⟩:=Bg hE hx hf eF
   obtain⟨k',qg⟩:=b9k ea hl
   obtain⟨i,d,hi,gA,fD,hd⟩:=yt hn
   obtain⟨i2,zv,dK,ja,_,lC,gB,_⟩:=BG (N:=N) (w:=w) (fix:=G.fix) (hp:=G.heap) hz
   have:i2=i:=by rw[hi] at dK; simpa using dK.symm
   subst this
   subst gA
   have ge:zv.cells.size=i2.size:=by have:=gB.1; simp at this; omega
   have fY:P.bytesOf e=i2.bytes:=by simp[Program.bytesOf,hi]
   rw[fY] at hb
   have cM:=run_make (P:=P) w t e i2 zv hu hi ja k k' n n h0 (Int.le_refl _) hb hm
   refine DX (mob := .cells (madeCells zv.cells (n.toNat*i2.size)) e) (v := .slice (some ⟨w.heap.size,0,none⟩) n.toNat n.toNat) nm ho hf ?_ ?_ (λG' hG cJ=>Kl hf ?_ ?_ hG cJ) hk
   ·simp[execOp,cL,hl,qg,cM]
   ·rintro G' rfl
    refine .rowp _ _ _ _ w.heap.size _ (by simp[GS.more]) (ao _) ⟨e,n.toNat*i2.size,?_,ao _⟩
    simp only[World.shape?,AE,size_madeCells]
   ·intro k c x hc hx
    rw[Kr] at hx
    have gh:z.length=i2.size:=by have:=gB.1; simp at this; omega
    rw[gh] at hx
    split at hx
    ·rename_i cO
     have iG:k % i2.size<i2.size:=bW _ (by omega)
     have kR:c=zv.cells[k % i2.size]! := by
      simp only[madeCells,bK,ab] at hc
      obtain⟨a',ha,rfl⟩:=hc
      have:a'=k:=by
       obtain⟨h1,h2⟩:=aX.1 ha
       simpa using h2.symm
      rw[this,ge]
     have lJ:zv.cells[k % i2.size]? = some c:=by
      rw[kR]
      have:k % i2.size<zv.cells.size:=by omega
      simp[this]
     refine⟨gB.2.2 _ c x (by simpa using lJ) hx,gB.2.1 x (av hx),?_⟩
     rintro es rfl
     have gV:=hz
     unfold xN at gV
     simp only[hi,ja,af] at gV
     obtain⟨cs',dY,gV⟩:=gV
     split at gV
     ·simp at gV; subst gV
      exact DT dY _ c es (by simpa using lJ) hx
     ·simp at gV
    ·simp at hx
   ·have gh:z.length=i2.size:=by have:=gB.1; simp at this; omega
    rw[size_madeCells]
    simp[List.length_flatten,gh]
  ·simp at hs
 ·simp at hs
theorem b6l (hE:EnvOk E N) (hP:E.P=P) (nm:Names vs (vS vs ops)) (ho:ops[j]? = some o) (hf:FI N w G st a vs (vS vs ops)) {t:TypeId} (cL:o.op = .alloc t) (hb:E.bT=some t) {cf:vZ}
  (hs:vW cf .newbld st=some (u,st1)) (hk:wn N w G a st1 u vs ops j o next):o.wp P a w next Q:=by
 simp only[vW,aa,ac] at hs
 obtain⟨rfl,rfl⟩:=hs
 obtain⟨h1,i,h2,h3⟩:=hE.bt t hb
 rw[hP] at h2
 refine DX (mob := .cells #[.pointer none,.slice none 0 0] t) (v := .pointer (some ⟨w.heap.size,0,none⟩)) nm ho hf ?_ ?_ (λG' hG cJ =>?_) hk
 ·simp[execOp,cL,Instr.alloc,zeroValue,typeInfo,h2,h3,newVar,newRow,Value.cells]
 ·rintro G' rfl
  exact .ptr _ _ w.heap.size (by simp[GS.more])
 ·subst hG
  refine⟨?_,.pointer none,.slice none 0 0,by rw[h1]; exact AE,.inl rfl,.inl ⟨rfl,rfl⟩⟩
  intro o h
  have:=hf.fixlt _ _ h
  omega
theorem b7s (hE:EnvOk E N) (nm:Names vs (vS vs ops)) (ho:ops[j]? = some o) (hf:FI N w G st a vs (vS vs ops)) {t:TypeId} {x:Operand} {px:PX} (cL:o.op = .range t x)
  (hu:P.underlying t=some .string) (hx:cx E vs ops x=some px) {cf:vZ} (hs:vW cf (.range px) st=some (u,st1)) (hk:wn N w G a st1 u vs ops j o next):o.wp P a w next Q:=by
 simp only[vW] at hs
 split at hs
 ·rename_i s hp
  simp only[aa,ac] at hs
  obtain⟨rfl,rfl⟩:=hs
  have h:=(wB hE hx hf hp).1
  generalize hv:a.eval x=v at h
  cases h with
  | str s =>
    refine DX (mob := .stringIter s 0) (v := .pointer (some ⟨w.heap.size,0,none⟩)) nm ho hf ?_ ?_ (λG' hG cJ =>?_) hk
    ·have:=run_range_string (P:=P) w t s hu
     simp only[execOp,cL,hv,Sem.run_bind,Sem.run_map,this,Result.andThen_ok,Sem.run_pure]
     rfl
    ·rintro G' rfl
     exact .ptr _ _ w.heap.size (by simp[GS.more])
    ·subst hG
     refine⟨?_,s,AE,rfl⟩
     intro o h
     have:=hf.fixlt _ _ h
     omega
 ·simp at hs
theorem c2M (nm:Names vs (vS vs ops)) (ho:ops[j]? = some o) (hf:FI N w G st a vs (vS vs ops)) {n b:Nat} {ob ob':PObj} {mob:Obj} {v:Value} (dz:st.heap[n]? = some ob) (hb:G.heap n=some b) (how:G.ow b=some (.hobj n))
  (gI:∀o,¬G.fix b o) (cM:(execOp a.eval o).run P w = .ok (.value v) { w with heap:=w.heap.setIfInBounds b mob }) (fJ:w.shape? b=none∧yd w b=none)
  (hR:ObjR N { w with heap:=w.heap.setIfInBounds b mob } G n b ob')
  (hv:SR N { w with heap:=w.heap.setIfInBounds b mob } G (xJ (wv vs o.dst) j) v u)
  (hk:wn N w G a (wA st n ob') u vs ops j o next):o.wp P a w next Q:=by
 unfold Oper.wp
 rw[cM]
 let w':World:={ w with heap:=w.heap.setIfInBounds b mob }
 have eX:b<w.heap.size:=hf.owlt _ _ how
 have cU:∀x,x≠b→w'.heap[x]? = w.heap[x]? := λx hx=>by
  simp only[w',aY]; rw[ae (by omega)]
 have cJ:Ext w G w' G:=by
  refine⟨rfl,rfl,rfl,by simp[w'],λx _ iV=>cU x (by rintro rfl; rw[how] at iV; simp at iV),?_,λ_ _ h => .inl h,λ_ h => .inr h,λ_ _ h=>h,.one b (λk _ hk=>cU k hk) (λs hx=>by rw[fJ.1] at hx; simp at hx) (λs hx=>by rw[fJ.2] at hx; simp at hx),rfl⟩
  intro x o' fl
  have gc:x≠b:=by rintro rfl; exact gI _ fl
  refine⟨fl,?_⟩
  simp only[World.cell?,cU x gc]
 have cN:xa (λk=>k = .hobj n) w G w' G:=by
  refine⟨?_,λ_ _ h=>h⟩
  intro x k hx gp
  have gc:x≠b:=by rintro rfl; rw[how] at hx; simp at hx; exact gp hx.symm
  exact⟨hx,cU x gc,λ_ h=>h⟩
 have db:FI N w' G (wA st n ob') a vs (vS vs ops):=by
  refine⟨hf.len,λi t' u' h1 h2=>(hf.var i t' u' h1 h2).keep cJ cN (by simp) (by simp),λi t' u' h1 h2=>(hf.loc i t' u' h1 h2).keep cJ cN (by simp) (by simp),hf.tv,hf.tl,hf.defers,hf.gen,?_,?_,?_,?_⟩
  ·intro b' k cX; simpa[w'] using hf.owlt _ _ cX
  ·intro b' k cX; simpa[w'] using hf.fixlt _ _ cX
  ·exact hf.heap.keepBut cJ cN (λm k c9=>⟨by simp; omega,by simp⟩) (λ_ => .inr ⟨b,hb,how,hR⟩)
  ·intro m b' h; have:=hf.hdom _ _ h; simpa[wA] using this
 exact hk _ w' G (db.put nm (yI ho) hv) cJ (yJ _ _ _)
theorem b9l (hE:EnvOk E N) (nm:Names vs (vS vs ops)) (ho:ops[j]? = some o) (hf:FI N w G st a vs (vS vs ops)) {x:Operand} {px:PX} (cL:o.op = .next x true)
  (hx:cx E vs ops x=some px) {cf:vZ} (hs:vW cf (.next px) st=some (u,st1)) (hk:wn N w G a st1 u vs ops j o next):o.wp P a w next Q:=by
 simp only[vW] at hs
 split at hs
 ·rename_i n hp
  have h:=(wB hE hx hf hp).1
  split at hs
  ·rename_i s pos dz
   generalize hv:a.eval x=v at h
   cases h with
   | ptr _ _ b hb =>
     rcases hf.heap.1 n _ dz with e|⟨b',h1,h2,h3,s',h4,h5⟩
     ·simp at e
     have:b'=b:=by rw[hb] at h1; simpa using h1.symm
     subst this
     subst h5
     have cQ:s'.data.toList.length=s'.size:=aV
     have iW:(⟨s'.data.toList.toArray⟩:ByteArray)=s':=by cases s'; simp
     rw[cQ,iW] at hs
     have eX:b'<w.heap.size:=hf.owlt _ _ h2
     split at hs
     ·rename_i cO
      simp only[aa,ac] at hs
      obtain⟨rfl,rfl⟩:=hs
      refine c2M (ob' := .siter s'.data.toList (pos+(Utf8.decode s' pos).2)) (mob := .stringIter s' (pos+(Utf8.decode s' pos).2)) (v := .tuple #[.bool true,goInt pos,.int .i32 (Utf8.decode s' pos).1]) nm ho hf dz hb h2 h3 ?_ (by simp[World.shape?,yd,h4]) ⟨h3,s',?_,rfl⟩ (SR.of_pure ?_ rfl) hk
      ·simp[execOp,cL,hv,Instr.next,getObj,setObj,Sem.run,Result.andThen,h4,cO,goInt]
      ·simp[eX]
      ·refine .tuple _ _ rfl ?_
       intro i c p hc hp
       match i with
       | 0=>simp at hc hp; subst hc hp; exact .bool _
       | 1=>simp at hc hp; subst hc hp; exact .int _ _
       | 2=>simp at hc hp; subst hc hp; exact .int _ _
       | n+3=>simp at hc
     ·rename_i cO
      simp only[aa,ac] at hs
      obtain⟨rfl,rfl⟩:=hs
      refine wD (v := .tuple #[.bool false]) nm ho hf ?_ (SR.of_pure ?_ rfl) hk
      ·simp[execOp,cL,hv,Instr.next,getObj,Sem.run,Result.andThen,h4,cO]
      ·refine .tuple _ _ rfl ?_
       intro i c p hc hp
       match i with
       | 0=>simp at hc hp; subst hc hp; exact .bool _
       | n+1=>simp at hc
  ·simp at hs
 ·simp at hs
theorem c0W (hE:EnvOk E N) (nm:Names vs (vS vs ops)) (ho:ops[j]? = some o) (hf:FI N w G st a vs (vS vs ops)) {src dst e:TypeId} {x:Operand} {px:PX} (cL:o.op = .convert src dst x) (dU:wv vs o.dst≠.n)
  (d7:P.underlying src=some .string) (hd:P.underlying dst=some (.slice e)) (he:P.underlying e=some (.int .u8)) (hx:cx E vs ops x=some px) {cf:vZ} (hs:opv cf (.s2b px) st=some (u,st1)) (hk:wn N w G a st1 u vs ops j o next):o.wp P a w next Q:=by
 simp only[opv] at hs
 split at hs
 ·rename_i s hp
  split at hs
  ·rename_i cK
   simp only[aa,ac] at hs
   obtain⟨rfl,rfl⟩:=hs
   have h:=(wB hE hx hf hp).1
   generalize hv:a.eval x=v at h
   cases h with
   | str s =>
     have cQ:s.data.toList.length=s.size:=aV
     have cM:=Lib.run_convert_string_bytes (P:=P) w src dst e s d7 hd he
     unfold Oper.wp
     have jd:(execOp a.eval o).run P w = .ok (.value (.slice (some ⟨w.heap.size,0,none⟩) s.size (grownCap w s.size 0 e))) (Lib.bytesWorld w e s):=by
      simp[execOp,cL,hv,cM]
     rw[jd]
     have fJ:s.size≤grownCap w s.size 0 e:=grownCap_ge w s.size 0 e
     let G':GS:={ G with fix:=λb o=>G.fix b o∨(b=w.heap.size∧o<s.size),ow:=λb=>if b=w.heap.size then some (xJ (wv vs o.dst) j) else G.ow b }
     have eP:=Lib.bytesWorld_size w e s
     have cJ:Ext w G (Lib.bytesWorld w e s) G':=by
      refine⟨?_,?_,?_,by omega,λb hb _=>Lib.bytesWorld_at_old w e s b hb,λb o h=>⟨.inl h,Lib.bytesWorld_old w e s ⟨b,o,none⟩ (hf.fixlt _ _ h)⟩,?_,?_,λ_ _ h=>h,.same λk hk=>Lib.bytesWorld_at_old w e s k hk,rfl⟩
      ·simp[Lib.bytesWorld,World.freeze,World.alloc,World.drew,-World.alloc_eq,-World.drew_eq]
      ·simp[Lib.bytesWorld,World.freeze,World.alloc,World.drew,-World.alloc_eq,-World.drew_eq]
      ·simp[Lib.bytesWorld,World.freeze,World.alloc,World.drew,-World.alloc_eq,-World.drew_eq]
      ·rintro b o (h|h)
       ·exact .inl h
       ·exact .inr (.inl (by omega))
      ·intro b hb
       simp only[G'] at hb
       split at hb
       ·exact .inl (by omega)
       ·exact .inr hb
     have cN:xa (λk=>k=xJ (wv vs o.dst) j) w G (Lib.bytesWorld w e s) G':=by
      refine⟨?_,λ_ _ h=>h⟩
      intro b k hb _
      have cO:=hf.owlt _ _ hb
      refine⟨?_,Lib.bytesWorld_at_old w e s b cO,?_⟩
      ·simp only[G']; rw[ae (by omega)]; exact hb
      ·rintro o (h|h)
       ·exact h
       ·omega
     have hR:=O3 (N:=N) (w:=Lib.bytesWorld w e s) G'.fix G'.heap s
     have hl:(z8 s.data.toList).length=s.size:=by rw[b7h]; exact cQ
     have sl:∀b k,G'.ow b=some k→b<(Lib.bytesWorld w e s).heap.size:=by
      intro b k hb
      simp only[G'] at hb
      split at hb
      ·omega
      ·have:=hf.owlt _ _ hb; omega
     have sn:∀b o,G'.fix b o→b<(Lib.bytesWorld w e s).heap.size:=by
      rintro b o (h|h)
      ·have:=hf.fixlt _ _ h; omega
      ·omega
     have cR:∀own,VR N (Lib.bytesWorld w e s) G'.fix G'.heap (.slice (some ⟨w.heap.size,0,none⟩) s.size (grownCap w s.size 0 e)) (.list own (z8 s.data.toList)):=by
      intro own
      have hm:=Hb (own:=own) (b:=w.heap.size) (off:=0) (cap:=grownCap w s.size 0 e) hR (by rw[hl]; exact fJ) ?_
      ·rw[hl] at hm; exact hm
      ·intro k u' hu
       have hk:k<s.size:=by have:=(aj.1 hu).1; rw[byteCells_length] at this; exact this
       rw[aR]
       refine⟨?_,.inr ⟨rfl,hk⟩⟩
       rw[Lib.bytesWorld_cell w e s k hk]
       simp only[byteCells,aA,ab] at hu
       obtain⟨b,hb,rfl⟩:=hu
       simp[List.getD,hb]
     refine hk _ _ G' (hf.extDst nm (yI ho) dU cJ cN (λg b h=>hf.gen g b h) sl sn rfl ?_) cJ (yJ _ _ _)
     cases m7:s.data.toList.isEmpty with
     | true=>exact SR.of_pure (cR false) rfl
     | false =>
       refine⟨cR true,?_⟩
       have h0:0<s.size:=by
        rw[← cQ]
        cases hx:s.data.toList with
        | nil=>rw[hx] at m7; simp at m7
        | cons=>simp
       refine .inr ⟨by simp[G'],1,Lib.bytesCells w e s,e,hR.sz,⟨_,Lib.bytesWorld_at_new w e s,λo ho h=>by simp at h; omega⟩,?_,h0,?_⟩
       ·have:s.data.size=s.size:=rfl
        simp only[Lib.bytesCells,bH,Array.size_map,cy]
        omega
       ·rintro o' eE (h|h)
        ·have:=hf.fixlt _ _ h; simp at this
        ·simp at eE; omega
  ·simp at hs
 ·simp at hs
theorem Pk {size:Nat}:∀{xs:List PV},(∀e∈xs,e.cells.length=size)→(xs.flatMap PV.cells).length=xs.length*size∧∀(i:Nat) (e:PV),xs[i]? = some e→∀k,k<size→(xs.flatMap PV.cells)[i*size+k]? = e.cells[k]?
 | [],_=>by simp
 | x :: xs, h => by
   obtain⟨h1,h2⟩:=Pk (xs:=xs) (λe he=>h e (bx _ he))
   have hx:=h x (bS ..)
   refine⟨by simp only[bl,ax,h1,hx,bc,aO,Nat.one_mul]; omega,?_⟩
   intro i e he k hk
   rw[bl]
   cases i with
   | zero =>
     simp at he; subst he
     rw[Nat.zero_mul,aR,al (by omega)]
   | succ i =>
     rw[aO,Nat.one_mul,ap (by omega),hx]
     have:=h2 i e (by simpa using he) k hk
     rw[show i*size+size+k - size=i*size+k by omega]
     exact this
theorem ListR.flats {fix:Nat→Nat→Prop} {hp:Nat→Option Nat} {size:Nat} {news:List Value} {xs:List PV} (h:ListR N w fix hp size news xs) (hs:size≠0):
  news.length=((xs.flatMap PV.cells).map dem).length∧∀(k:Nat) (c:Value) (x:PV),news[k]? = some c→((xs.flatMap PV.cells).map dem)[k]? = some x→VR N w fix hp c x∧x.flat=true∧∀es,x≠.list true es:=by
 obtain⟨h1,h2⟩:=Pk h.sz
 refine⟨by rw[aS,h1,h.len],?_⟩
 intro k c x hc hx
 simp only[aA,ab] at hx
 obtain⟨y,hy,rfl⟩:=hx
 have hk:k<xs.length*size:=by rw[← h1]; exact(aj.1 hy).1
 have hi:k / size<xs.length:=by rw[Nat.div_lt_iff_lt_mul (by omega)]; exact hk
 have hm:k % size<size:=bW _ (by omega)
 have he:k / size*size+k % size=k:=by rw[Nat.mul_comm]; exact Nat.div_add_mod k size
 have h3:=h2 (k / size) xs[k / size] (aq hi) (k % size) hm
 rw[he,hy] at h3
 refine⟨(h.vr (k / size) _ (aq hi) (k % size) c y (by rw[he]; exact hc) h3.symm).dem,?_,?_⟩
 ·rw[CB]
  exact h.flat _ (ai hi) y (av h3.symm)
 ·intro es e; cases y<;>simp[dem] at e
theorem Pl (y:PV) (es:List PV):dem y≠.list true es:=by intro e; cases y<;>simp[dem] at e
theorem FG {sz:Nat} {agg:Bool} {cs:List PV}:∀{n off:Nat} {es:List PV},yk sz agg cs n off=some es→es.length=n∧∀(i:Nat) (e:PV),es[i]? = some e→wh sz agg cs (off+i*sz)=some e
 | 0,off,es,h=>by simp[yk] at h; subst h; simp
 | n + 1, off, es, h => by
   simp only[yk,af,ab] at h
   obtain⟨e,h1,es',h2,rfl⟩:=h
   obtain⟨k1,k2⟩:=FG h2
   refine⟨by simp[k1],?_⟩
   intro i x hx
   cases i with
   | zero=>simp at hx; subst hx; simpa using h1
   | succ i =>
     have:=k2 i x (by simpa using hx)
     rw[aO]
     simpa[bX,Nat.add_comm,Nat.add_left_comm] using this
theorem b6m {sz len:Nat} {agg:Bool} {cs es:List PV} (fP:∀(k:Nat) (y:PV),cs[k]? = some y→y.flat=true) (cQ:agg=true∨sz=1) (he:yk sz agg cs len 0=some es):
  es.length=len∧∀(i:Nat) (e:PV),es[i]? = some e→i*sz+sz≤cs.length∧e.cells.length=sz∧∀(j:Nat) (x:PV),e.cells[j]? = some x→∃y,cs[i*sz+j]? = some y∧x=dem y∧j<sz:=by
 obtain⟨e1,e2⟩:=FG he
 refine⟨e1,?_⟩
 intro i e hi
 have:=e2 i e hi
 rw[aR] at this
 unfold wh at this
 split at this
 ·split at this
  ·rename_i eg
   simp only[aa] at this; subst this
   refine⟨eg,by simp[PV.cells]; omega,?_⟩
   intro j x hx
   simp only[PV.cells,aA,ab] at hx
   obtain⟨y,hy,rfl⟩:=hx
   rw[aP] at hy
   split at hy
   ·rw[aT] at hy
    exact⟨y,hy,rfl,by assumption⟩
   ·simp at hy
  ·simp at this
 ·rename_i gk
  have h1:sz=1:=by rcases cQ with h|h; exact absurd h (by simpa using gk); exact h
  subst h1
  split at this
  ·rename_i y hy
   have cO:i*1<cs.length:=(aj.1 hy).1
   have fP:=fP _ y hy
   have ft:e=dem y∧y.cells=[y]:=by
    cases y<;>simp_all [cp,dem,PV.cells,PV.flat]
   obtain⟨rfl,_⟩:=ft
   have gl:(dem y).cells=[dem y]:=by cases y<;>simp_all [dem,PV.cells,PV.flat]
   refine⟨by omega,by rw[gl]; rfl,?_⟩
   intro j x hx
   rw[gl] at hx
   cases j with
   | zero=>simp at hx; subst hx; exact⟨y,hy,rfl,by omega⟩
   | succ j=>simp at hx
  ·simp at this
theorem Pm {ts tx e ty:TypeId} {size:Nat} {s x:Operand} {base:Option Addr} (hv:a.eval s = .slice base 0 0) (dM:Src P size tx (a.eval x) 0 [] w) (ej:P.underlying ts=some (.slice e)) {i:TypeInfo} (hi:P.info? e=some i) (cQ:i.size=size):
  (Builtin.append_ #[ts,tx] ty #[a.eval s,a.eval x]).run P w = .ok (.slice base 0 0) w:=by
 subst cQ
 rw[hv]
 rcases dM.kind with⟨e'',dg⟩|dg<;>cases base <;>
  simp[Builtin.append_,run_underlying ej,run_underlying dg,Go.sizeOf,typeInfo,hi,dM.len,dM.cells,storeCells]
theorem Pn (nm:Names vs (vS vs ops)) (ho:ops[j]? = some o) (hf:FI N w G st a vs (vS vs ops)) {heap1:List PObj} (lk:HR N w G heap1) (ku:heap1.length=st.heap.length) {v:Value} {CS:Array Value} {e:TypeId} {ps:List PV} {sz len cap:Nat} {agg:Bool}
  (cM:(execOp a.eval o).run P w = .ok (.value (.slice (some ⟨w.heap.size,0,none⟩) len cap)) (w.drew.alloc (.cells CS e))) (cT:len≤cap) (sc:CS.size=cap*sz) (d4:ps.length≤CS.size)
  (hR:∀(k:Nat) (c:Value) (x:PV),CS[k]? = some c→ps[k]? = some x→VR N w G.fix G.heap c x∧x.flat=true∧∀es,x≠.list true es)
  (hk:wn N w G a { st with heap:=heap1++[.cells ps] } (.rowp st.heap.length sz agg len) vs ops j o next):o.wp P a w next Q:=by
 unfold Oper.wp
 rw[cM]
 let w':World:=w.drew.alloc (.cells CS e)
 let G':GS:=G.more w.heap.size st.heap.length
 have cJ:Ext w G w' G':=by
  refine⟨rfl,rfl,rfl,by simp[w'],λb hb _=>yr (w:=w.drew) hb,λb o h=>⟨h,CE (w:=w.drew) (hf.fixlt _ _ h)⟩,λ_ _ h => .inl h,?_,?_,.same λk hk=>yr (w:=w.drew) hk,rfl⟩
  ·intro b hb
   by_cases cO:b<w.heap.size
   ·refine .inr ?_
    simp only[G',GS.more] at hb
    rw[ae (by omega)] at hb
    exact hb
   ·exact .inl (by omega)
  ·intro n b h
   have:=hf.hdom _ _ h
   simp only[G',GS.more]
   rw[ae (by omega)]; exact h
 have cN:xa (λ_=>False) w G w' G':=by
  refine⟨?_,λ_ _ h=>h⟩
  intro b k hb _
  have cO:=hf.owlt _ _ hb
  refine⟨?_,yr (w:=w.drew) cO,λ_ h=>h⟩
  simp only[G',GS.more]
  rw[ae (by omega)]; exact hb
 have hobj:ObjR N w' G' st.heap.length w.heap.size (.cells ps):=by
  refine⟨λo h=>by have:=hf.fixlt _ _ h; omega,CS,e,AE (w:=w.drew),d4,?_⟩
  intro k c x hc hx
  obtain⟨h1,h2,h3⟩:=hR k c x hc hx
  refine⟨h1.ext cJ,h2,?_⟩
  split
  ·exact absurd rfl (h3 _)
  ·trivial
 have db:FI N w' G' { st with heap:=heap1++[.cells ps] } a vs (vS vs ops):=by
  refine⟨hf.len,λi t u h1 h2=>(hf.var i t u h1 h2).keep cJ cN (λh=>h) (λ_ _ _ h=>h),λj t u h1 h2=>(hf.loc j t u h1 h2).keep cJ cN (λh=>h) (λ_ _ _ h=>h),hf.tv,hf.tl,(hf.defers.trans cJ.df.symm),hf.gen,?_,?_,?_,?_⟩
  ·intro b k hb
   simp only[G',GS.more] at hb
   split at hb
   ·simp[w']; omega
   ·have:=hf.owlt _ _ hb; simp[w']; omega
  ·intro b o h
   have:=hf.fixlt _ _ h; simp[w']; omega
  ·exact lk.push cJ cN (λ_ _ _=>⟨λh=>h,λh=>h⟩) (.inr ⟨w.heap.size,by simp[G',GS.more,ku],by simp[G',GS.more,ku],by rw[ku]; exact hobj⟩)
  ·intro n b h
   simp only[G',GS.more] at h
   split at h
   ·simp; omega
   ·have:=hf.hdom _ _ h; simp; omega
 refine hk _ w' G' (db.put nm (yI ho) (SR.of_pure (.rowp _ _ _ _ w.heap.size cap (by simp[G',GS.more]) cT ⟨e,cap*sz,?_,ao _⟩) rfl)) cJ (yJ _ _ _)
 have h1:w'.heap[w.heap.size]? = some (.cells CS e):=AE (w:=w.drew)
 simp only[World.shape?,h1,sc]
theorem b9m (hE:EnvOk E N) (nm:Names vs (vS vs ops)) (ho:ops[j]? = some o) (hf:FI N w G st a vs (vS vs ops)) {ts tx e e':TypeId} {size:Nat} {z:List PV} {s x:Operand} {ps px:PX}
  (cL:o.op = .call { callee := .builtin .append,args := #[s,x],argTypes := #[ts,tx] }) (ej:P.underlying ts=some (.slice e)) (f0:P.underlying tx=some (.slice e')) (hn:wx P e=some size) (hz:xN P e=some z)
  (iW:cx E vs ops s=some ps) (hx:cx E vs ops x=some px) {cf:vZ} (hs:vW cf (.happ size (wQ P e) (P.bytesOf e) ps px) st=some (u,st1)) (hk:wn N w G a st1 u vs ops j o next):o.wp P a w next Q:=by
 obtain⟨i,d,hi,gA,fD,hd⟩:=yt hn
 obtain⟨i2,zv,dK,ja,_,lC,gB,_⟩:=BG (N:=N) (w:=w) (fix:=G.fix) (hp:=G.heap) hz
 have:i2=i:=by rw[hi] at dK; simpa using dK.symm
 subst this
 subst gA
 have ge:zv.cells.size=i2.size:=by have:=gB.1; simp at this; omega
 have fY:P.bytesOf e=i2.bytes:=by simp[Program.bytesOf,hi]
 have gC:∀v w',(Builtin.append_ #[ts,tx] o.type #[a.eval s,a.eval x]).run P w = .ok v w'→(execOp a.eval o).run P w = .ok (.value v) w':=by
  intro v w' hr
  simp[execOp,cL,resolve,invoke,builtin,hr]
 have src:∀{xs:List PV},b1y st px=some xs→wL i2.size xs=true→∃news,ListR N w G.fix G.heap i2.size news xs∧Src P i2.size tx (a.eval x) xs.length news w:=by
  intro xs dT hh
  unfold b1y at dT
  split at dT
  ·rename_i n sz agg len iS
   split at dT
   ·rename_i mb
    simp only[af] at dT
    obtain⟨cs,hg,ji⟩:=dT
    have gg:=(wB hE hx hf iS).1
    generalize hv:a.eval x=v at gg
    cases gg with
    | rowp _ _ _ _ b cap hb cT dX =>
      obtain⟨eo,gq,cv,T,vM,hl,iy⟩:=Fj hf hg hb
      have fP:∀(k:Nat) (y:PV),cs[k]? = some y→y.flat=true:=λk y hy=>by
       have cO:k<cv.size:=by have:=(aj.1 hy).1; omega
       exact(iy k cv[k] y (by simp[cO]) hy).2.1
      obtain⟨e1,e2⟩:=b6m fP mb ji
      by_cases fv:xs=[]
      ·subst fv
       simp only[bO] at e1
       subst e1
       exact⟨[],⟨by simp,by simp,by simp,by simp⟩,Src.ofSlice w f0 ⟨b,0,none⟩ 0 cap [] (by simp) (by simp) (by simp)⟩
      ·have cQ:sz=i2.size:=by
        cases xs with
        | nil=>exact absurd rfl fv
        | cons y ys =>
          have h1:=(e2 0 y rfl).2.1
          simp[wL] at hh
          omega
       subst cQ
       have dI:0<xs.length:=bQ.2 fv
       have j6:=(e2 (xs.length - 1) (xs[xs.length - 1]'(by omega)) (aq (by omega))).1
       have eV:xs.length*i2.size≤cs.length:=by
        have:xs.length=(xs.length - 1)+1:=by omega
        rw[this,aO,Nat.one_mul]; exact j6
       let news:=cv.toList.take (xs.length*i2.size)
       have jE:news.length=xs.length*i2.size:=by simp only[news,bB,aV]; omega
       have pE:∀(k:Nat) (u:Value),news[k]? = some u→cv[k]? = some u:=by
        intro k u hu
        simp only[news,aP] at hu
        split at hu
        ·simpa using hu
        ·simp at hu
       have hL:ListR N w G.fix G.heap i2.size news xs:=by
        refine⟨jE,?_,?_,?_⟩
        ·intro e he
         obtain⟨i,hi⟩:=bb.1 he
         exact(e2 i e hi).2.1
        ·intro e he y hy
         obtain⟨i,hi⟩:=bb.1 he
         obtain⟨j,hj⟩:=bb.1 hy
         obtain⟨z,hz,rfl,_⟩:=(e2 i e hi).2.2 j y hj
         rw[CB]; exact fP _ z hz
        ·intro i e hi k c y hc hy
         obtain⟨z,hz,rfl,_⟩:=(e2 i e hi).2.2 k y hy
         exact(iy _ c z (pE _ _ hc) hz).1.dem
       refine⟨news,hL,?_⟩
       rw[← e1]
       exact Src.ofSlice w f0 ⟨b,0,none⟩ xs.length cap news jE (λj u hu=>by
        rw[zk]
        have:=pE j u hu
        simp only[World.cell?,vM,aR]
        simpa using this) (hL.one fD)
   ·simp at dT
  rotate_left
  ·simp at dT
  rename_i p0 _ iS
  have ko:=dT
  clear dT
  have gg:=(wB hE hx hf iS).1.row ko
  obtain⟨news,fg,si⟩:=Ki gg hh
  refine⟨news,fg,?_⟩
  rcases si with⟨h1,h2,h3⟩|⟨ad,cap,h1,h2,h3⟩|⟨b,off,cap,h1,h2,h3⟩
  ·rw[h1,h2,h3]; exact Src.ofNil w f0 0
  ·rw[h1,h2,h3]; exact Src.ofSlice w f0 ad 0 cap [] (by simp) (by simp) (by simp)
  ·rw[h1]
   exact Src.ofSlice w f0 ⟨b,off,none⟩ xs.length cap news fg.len (λj u hu=>by rw[zk]; exact(h3 j u hu).1) (fg.one fD)
 have grow:∀{heap1:List PObj} {xs oldps:List PV} {news olds:List Value} {base:Option Addr} {len cap:Nat},HR N w G heap1→heap1.length=st.heap.length→ListR N w G.fix G.heap i2.size news xs→Src P i2.size tx (a.eval x) xs.length news w→a.eval s = .slice base len cap →
   (Builtin.firstCells i2.size len (.slice base len cap)).run P w.drew = .ok olds.toArray w.drew→olds.length=len*i2.size→oldps.length=olds.length→(∀(k:Nat) (c:Value) (y:PV),olds[k]? = some c→oldps[k]? = some y→VR N w G.fix G.heap c y∧y.flat=true∧∀es,y≠.list true es) →
   cap<len+xs.length→len+xs.length≤2147483648→i2.bytes≤16384 →
   wn N w G a { st with heap:=heap1++[.cells (oldps++(xs.flatMap PV.cells).map dem)] } (.rowp st.heap.length i2.size (wQ P e) (len+xs.length)) vs ops j o next→o.wp P a w next Q:=by
  intro heap1 xs oldps news olds base len cap lk d8 fg dM hv gD lQ mO vN cT eH dB hk
  have et:(len+xs.length)*i2.bytes≤140737488355328:=aL (Nat.mul_le_mul eH dB) (by decide)
  have cM:=run_append_grow_src (P:=P) w ts tx o.type e i2 zv ej hi ja base len cap olds gD (a.eval x) xs.length news dM cT (by omega) (growslice_fits cT et)
  rw[← hv] at cM
  obtain⟨fP,so⟩:=fg.flats fD
  have fJ:=grownCap_ge w (len+xs.length) cap e
  refine Pn (v:=undef) (sz:=i2.size) (cap:=grownCap w (len+xs.length) cap e) nm ho hf lk d8 (gC _ _ cM) fJ ?_ ?_ ?_ hk
  ·simp only[bH,cr,size_zeroCells,ge,lQ,fg.len,ax]
   rw[Nat.sub_mul,aO]
   have:(len+xs.length)*i2.size≤grownCap w (len+xs.length) cap e*i2.size:=bi _ fJ
   rw[aO] at this
   omega
  ·simp only[bH,cr,ax,mO]
   omega
  ·intro k c y hc hy
   by_cases gn:k<olds.length
   ·rw[al (by omega)] at hy
    rw[bk (by simp; omega)] at hc
    simp only[bC] at hc
    rw[al gn] at hc
    exact vN k c y hc hy
   ·rw[ap (by omega)] at hy
    have cO:k - olds.length<news.length:=by
     rw[fP,← mO]; exact(aj.1 hy).1
    rw[bk (by simp; omega)] at hc
    simp only[bC] at hc
    rw[ap (by omega)] at hc
    rw[mO] at hy
    exact so _ c y hc hy
 simp only[vW] at hs
 rw[fY] at hs
 split at hs
 ·rename_i xs n sz ag len dT fk
  split at hs
  ·rename_i cs dz
   split at hs
   ·rename_i hc
    obtain⟨rfl,rfl,dS,gx,eH,dB⟩:=hc
    simp only[aa,ac] at hs
    obtain⟨rfl,rfl⟩:=hs
    obtain⟨news,fg,dM⟩:=src dT gx
    have lE:=((Bf hE iW hf fk).read (r := .rowp n i2.size (wQ P e) len) rfl).1
    generalize hv:a.eval s=v at lE
    cases lE with
    | rowp _ _ _ _ b cap hb cT dX =>
      obtain⟨T',m,pz,su⟩:=dX
      obtain⟨eo,gq,cv,T,hh,hl,iy⟩:=Fj hf (show wU st n=some cs by simp[wU,dz]) hb
      have hm:m=cv.size:=by simp only[World.shape?,hh,aa,ac] at pz; exact pz.2.symm
      subst hm
      have jv:=dS
      obtain⟨O,hO⟩:∃O,(cs.take (len*i2.size)).map dem=O:=⟨_,rfl⟩
      rw[hO] at hk
      have dS:O.length=len*i2.size:=by rw[← hO]; simp; omega
      have lR:∀(k:Nat) (c:Value) (y:PV),(cv.toList.take (len*i2.size))[k]? = some c→O[k]? = some y→VR N w G.fix G.heap c y∧y.flat=true∧∀es,y≠.list true es:=by
       intro k c y hc hy
       rw[← hO] at hy
       simp only[aA,ab] at hy
       obtain⟨y0,lc,rfl⟩:=hy
       have lc:cs[k]? = some y0:=by
        rw[aP] at lc
        split at lc
        ·exact lc
        ·simp at lc
       rw[aP] at hc
       split at hc
       ·have:=iy k c y0 (by simpa using hc) lc
        exact⟨this.1.dem,by rw[CB]; exact this.2.1,Pl y0⟩
       ·simp at hc
      have lQ:(cv.toList.take (len*i2.size)).length=len*i2.size:=by simp; omega
      have dh:∀(k:Nat) (u:Value),(cv.toList.take (len*i2.size))[k]? = some u→w.cell? ⟨b,0+k,none⟩=some u:=by
       intro k u hu
       rw[aP] at hu
       split at hu
       ·simp only[World.cell?,hh,aR]; simpa using hu
       ·simp at hu
      by_cases jb:cap<len+xs.length
      ·refine grow (heap1:=st.heap.set n .gone) ?_ (by simp) fg dM hv (olds:=cv.toList.take (len*i2.size)) ?_ lQ (by rw[dS,lQ]) lR jb eH dB hk
       ·exact hf.heap.keepBut (K:=λ_=>False) (Ext.refl _ _) ⟨λ_ _ h _=>⟨h,rfl,λ_ h=>h⟩,λ_ _ h=>h⟩ (λ_ _ _=>⟨λh=>h,λh=>h⟩) (λ_ => .inl rfl)
       ·exact run_firstCells_some w.drew _ _ _ _ _ _ lQ (λk u hu=>by rw[zk]; exact dh k u hu)
      ·
       have eg:len+xs.length≤cap:=by omega
       obtain⟨fP,so⟩:=fg.flats fD
       have gy:len*i2.size+news.length≤cv.size:=by
        rw[fg.len]
        have:(len+xs.length)*i2.size≤cap*i2.size:=bi _ eg
        rw[aO] at this; omega
       let NR:Array Value:=(cv.toList.take (len*i2.size)++news++cv.toList.drop (len*i2.size+news.length)).toArray
       have jz:NR.size=cv.size:=by simp only[NR,cr,ax,bB,cA,aV]; omega
       have cM:(Builtin.append_ #[ts,tx] o.type #[a.eval s,a.eval x]).run P w = .ok (.slice (some ⟨b,0,none⟩) (len+xs.length) cap) (w.setRow b NR):=by
        have dx:=Hc P b (len*i2.size) T (0,0) news 0 cv w hh (λo _ h=>by simp at h) (by simpa using gy) (fg.one fD)
        simp only[bo] at dx
        rw[hv]
        rcases dM.kind with⟨e'',dg⟩|dg <;>
         simp[Builtin.append_,run_underlying ej,run_underlying dg,Go.sizeOf,typeInfo,hi,dM.len,eg,dM.cells,zk,dx,NR]
       have eX:b<w.heap.size:=hf.owlt _ _ eo
       have cU:∀x,x≠b→(w.setRow b NR).heap[x]? = w.heap[x]? := λx hx=>setRow_other w b x _ hx
       let G':GS:={ G with heap:=λm=>if m=st.heap.length then some b else G.heap m,ow:=λx=>if x=b then some (.hobj st.heap.length) else G.ow x }
       have cJ:Ext w G (w.setRow b NR) G':=by
        refine⟨rfl,rfl,rfl,by simp[World.setRow],?_,?_,λ_ _ h => .inl h,?_,?_,Fh hh _ jz,rfl⟩
        ·intro y _ ju
         exact cU y (by rintro rfl; rw[eo] at ju; simp at ju)
        ·intro y o' fl
         have jc:y≠b:=by rintro rfl; exact gq _ fl
         exact⟨fl,by simp only[World.cell?,cU y jc]⟩
        ·intro y hy
         simp only[G'] at hy
         split at hy
         ·rename_i jc; exact .inr (by rw[jc,eo]; simp)
         ·exact .inr hy
        ·intro m y hy
         have:=hf.hdom _ _ hy
         simp only[G']
         rw[ae (by omega)]; exact hy
       have cN:xa (λk=>k = .hobj n) w G (w.setRow b NR) G':=by
        refine⟨?_,λ_ _ h=>h⟩
        intro y k hy gp
        have jc:y≠b:=by rintro rfl; rw[eo] at hy; simp at hy; exact gp hy.symm
        refine⟨?_,cU y jc,λ_ h=>h⟩
        simp only[G']; rw[ae jc]; exact hy
       have nN:n<st.heap.length:=(aj.1 dz).1
       have dQ:HR N (w.setRow b NR) G' (st.heap.set n .gone++[.cells (O++(xs.flatMap PV.cells).map dem)]):=by
        refine⟨?_,hf.heap.2.ext cJ⟩
        intro m ob hm
        by_cases tG:m<(st.heap.set n .gone).length
        ·rw[al tG,aI] at hm
         split at hm
         ·exact .inl (by simpa[nN] using hm.symm)
         ·rename_i c9
          rcases hf.heap.1 m ob hm with rfl|⟨y,h1,h2,h3⟩
          ·exact .inl rfl
          ·exact .inr ⟨y,cJ.heap _ _ h1,(cN.1 _ _ h2 (by simp; omega)).1,h3.keep h2 cJ cN (by simp; omega) (by simp)⟩
        ·rw[ap (by omega)] at hm
         simp only[bJ] at hm tG
         have mH:m - st.heap.length=0:=by
          cases hx:m - st.heap.length with
          | zero=>rfl
          | succ k=>rw[hx] at hm; simp at hm
         rw[mH] at hm
         simp at hm
         subst hm
         have ky:m=st.heap.length:=by omega
         subst ky
         refine .inr ⟨b,by simp[G'],by simp[G'],λo' h=>gq o' h,NR,T,setRow_heap w b cv NR T (0,0) hh,?_,?_⟩
         ·simp only[ax]
          rw[← fP,dS,jz]; exact gy
         ·intro k c y hc hy
          have dL:VR N w G.fix G.heap c y∧y.flat=true∧∀es,y≠.list true es:=by
           simp only[NR,bC,aJ] at hc
           by_cases gn:k<len*i2.size
           ·rw[al (by rw[dS]; exact gn)] at hy
            rw[al (by rw[lQ]; exact gn)] at hc
            exact lR k c y hc hy
           ·rw[ap (by rw[dS]; omega),dS] at hy
            have cO:k - len*i2.size<news.length:=by rw[fP]; exact(aj.1 hy).1
            rw[ap (by rw[lQ]; omega),lQ,al cO] at hc
            exact so _ c y hc hy
          refine⟨dL.1.ext cJ,dL.2.1,?_⟩
          split
          ·exact absurd rfl (dL.2.2 _)
          ·trivial
       unfold Oper.wp
       rw[gC _ _ cM]
       have db:FI N (w.setRow b NR) G' { st with heap:=st.heap.set n .gone++[.cells (O++(xs.flatMap PV.cells).map dem)] } a vs (vS vs ops):=by
        refine⟨hf.len,λi t u h1 h2=>(hf.var i t u h1 h2).keep cJ cN (by simp) (by simp),λj t u h1 h2=>(hf.loc j t u h1 h2).keep cJ cN (by simp) (by simp),hf.tv,hf.tl,hf.defers,hf.gen,?_,?_,dQ,?_⟩
        ·intro y k hy
         simp only[G'] at hy
         split at hy
         ·rename_i jc; simp[World.setRow,jc,eX]
         ·have:=hf.owlt _ _ hy; simpa[World.setRow] using this
        ·intro y o' h; have:=hf.fixlt _ _ h; simpa[World.setRow] using this
        ·intro m y hy
         simp only[G'] at hy
         split at hy
         ·simp; omega
         ·have:=hf.hdom _ _ hy; simp; omega
       refine hk _ _ G' (db.put nm (yI ho) (SR.of_pure (.rowp _ _ _ _ b cap (by simp[G']) eg ⟨T,cv.size,?_,su⟩) rfl)) cJ (yJ _ _ _)
       simp only[World.shape?,setRow_heap w b cv NR T (0,0) hh,jz]
   ·simp at hs
  ·simp at hs
 ·rename_i xs dT fk
  have pp:=Bf hE iW hf fk
  obtain⟨cR,dm⟩:VR N w G.fix G.heap (a.eval s) (.list true [])∧Room w G (yH ps) (a.eval s) []:=pp
  have dc:∃base,a.eval s = .slice base 0 0:=by
   generalize a.eval s=v at cR dm
   cases cR with
   | nils=>exact⟨none,rfl⟩
   | void _ ad cap =>
     rcases dm with h|⟨_,_,_,_,_,_,_,h,_⟩
     ·subst h; exact⟨_,rfl⟩
     ·simp at h
   | list _ b off len cap sz _ cv cK cT _ _ _ _ =>
     simp at cK; subst cK
     rcases dm with h|⟨_,_,_,_,_,_,_,h,_⟩
     ·subst h; exact⟨_,rfl⟩
     ·simp at h
  obtain⟨base,hv⟩:=dc
  split at hs
  ·rename_i fv
   subst fv
   simp only[aa,ac] at hs
   obtain⟨rfl,rfl⟩:=hs
   obtain⟨news,fg,dM⟩:=src dT rfl
   have eF:news=[]:=br.1 (by rw[fg.len]; simp)
   subst eF
   refine wD nm ho hf (gC _ _ (Pm hv dM ej hi rfl)) ?_ hk
   cases base with
   | none=>exact⟨.nils true,True.intro⟩
   | some ad=>exact⟨.void true ad 0,.inl rfl⟩
  ·rename_i fv
   split at hs
   ·rename_i hc
    obtain⟨gx,eH,dB⟩:=hc
    simp only[aa,ac] at hs
    obtain⟨rfl,rfl⟩:=hs
    obtain⟨news,fg,dM⟩:=src dT gx
    have dI:0<xs.length:=bQ.2 fv
    have gD:(Builtin.firstCells i2.size 0 (.slice base 0 0)).run P w.drew = .ok ([]:List Value).toArray w.drew:=by
     cases base with
     | none=>exact run_firstCells_none w.drew _ _ _ _
     | some ad=>exact run_firstCells_some w.drew _ _ _ _ _ [] (by simp) (by simp)
    refine grow (heap1:=st.heap) (oldps:=[]) hf.heap rfl fg dM hv gD (by simp) rfl (by simp) (by omega) (by omega) dB ?_
    simpa using hk
   ·simp at hs
 ·rename_i xs dT fk
  have cR:VR N w G.fix G.heap (a.eval s) .nils:=((Bf hE iW hf fk).read (r := .nils) rfl).1
  have hv:a.eval s = .slice none 0 0:=by
   generalize a.eval s=v at cR
   cases cR with
   | nils'=>rfl
  split at hs
  ·rename_i fv
   subst fv
   simp only[aa,ac] at hs
   obtain⟨rfl,rfl⟩:=hs
   obtain⟨news,fg,dM⟩:=src dT rfl
   have eF:news=[]:=br.1 (by rw[fg.len]; simp)
   subst eF
   exact wD nm ho hf (gC _ _ (Pm hv dM ej hi rfl)) (SR.of_pure .nils' rfl) hk
  ·rename_i fv
   split at hs
   ·rename_i hc
    obtain⟨gx,eH,dB⟩:=hc
    simp only[aa,ac] at hs
    obtain⟨rfl,rfl⟩:=hs
    obtain⟨news,fg,dM⟩:=src dT gx
    have dI:0<xs.length:=bQ.2 fv
    refine grow (heap1:=st.heap) (oldps:=[]) hf.heap rfl fg dM hv (run_firstCells_none w.drew _ _ _ _) (by simp) rfl (by simp) (by omega) (by omega) dB ?_
    simpa using hk
   ·simp at hs
 ·simp at hs
theorem b1k (w:World) (ts tx ty e:TypeId) (i:TypeInfo) (zv:Value) {k0:IntKind} (ej:P.underlying ts=some (.slice e)) (f0:P.underlying tx=some (.int k0)) (hi:P.info? e=some i) (hz:i.zero=some zv) (k:IntKind) (n:Nat)
  (h0:0<n) (hn:n≤2147483648) (hb:i.bytes≤16384):
  (Builtin.append_ #[ts,tx] ty #[.slice none 0 0,.int k n]).run P w = .ok (.slice (some ⟨w.heap.size,0,none⟩) n (grownCap w n 0 e))
   (w.drew.alloc (.cells ((if n*i.size=0 then #[] else Builtin.zeroCells zv.cells n)++Builtin.zeroCells zv.cells (grownCap w n 0 e - n)) e)):=by
 have et:n*i.bytes≤140737488355328:=aL (Nat.mul_le_mul hn hb) (by decide)
 have gy:=growslice_fits (need:=n) (old:=0) (bytes:=i.bytes) h0 et
 have lS:¬(281474976710656<Builtin.nextslicecap n 0*i.bytes):=by omega
 have hw:IntKind.i64.wrap (n:Int)=n:=by
  show (if (true&&decide ((n:Int) % 18446744073709551616≥9223372036854775808))=true then(n:Int) % 18446744073709551616 - 18446744073709551616 else(n:Int) % 18446744073709551616)=_
  simp only[cn,an]
  split<;>omega
 have h1:¬((n:Int)<0):=by omega
 have h2:¬((281474976710656:Int)<(n:Int)*(i.bytes:Int)):=by
  have:((n*i.bytes:Nat):Int)≤140737488355328:=Int.ofNat_le.2 et
  rw[Int.natCast_mul] at this
  omega
 have h3:¬((9223372036854775807:Int)<(n:Int)):=by omega
 have h4:¬(n=0):=by omega
 by_cases cQ:n*i.size=0
 ·simp[Builtin.append_,run_underlying ej,run_underlying f0,Go.sizeOf,typeInfo,zeroValue,hi,hz,asInt,asIntOf,hw,h1,h2,h3,h4,lS,Question.forced,newRow,grownCap,Builtin.firstCells,cQ]
 ·simp[Builtin.append_,run_underlying ej,run_underlying f0,Go.sizeOf,typeInfo,zeroValue,hi,hz,asInt,asIntOf,hw,h1,h2,h3,h4,lS,Question.forced,newRow,grownCap,Builtin.firstCells,cQ]
theorem b7t (hE:EnvOk E N) (nm:Names vs (vS vs ops)) (ho:ops[j]? = some o) (hf:FI N w G st a vs (vS vs ops)) {ts tx e:TypeId} {k0:IntKind} {size:Nat} {z:List PV} {s x:Operand} {ps px:PX}
  (cL:o.op = .call { callee := .builtin .append,args := #[s,x],argTypes := #[ts,tx] }) (ej:P.underlying ts=some (.slice e)) (f0:P.underlying tx=some (.int k0)) (hn:wx P e=some size) (hz:xN P e=some z)
  (iW:cx E vs ops s=some ps) (hx:cx E vs ops x=some px) {cf:vZ} (hs:vW cf (.happz size (wQ P e) (P.bytesOf e) z ps px) st=some (u,st1)) (hk:wn N w G a st1 u vs ops j o next):o.wp P a w next Q:=by
 obtain⟨i,d,hi,gA,fD,hd⟩:=yt hn
 obtain⟨i2,zv,dK,ja,_,lC,gB,_⟩:=BG (N:=N) (w:=w) (fix:=G.fix) (hp:=G.heap) hz
 have:i2=i:=by rw[hi] at dK; simpa using dK.symm
 subst this
 subst gA
 have ge:zv.cells.size=i2.size:=by have:=gB.1; simp at this; omega
 have gh:z.length=i2.size:=by have:=gB.1; simp at this; omega
 have fY:P.bytesOf e=i2.bytes:=by simp[Program.bytesOf,hi]
 simp only[vW] at hs
 rw[fY] at hs
 split at hs
 ·rename_i n eF mV
  split at hs
  ·rename_i hc
   obtain⟨h0,h1,hb⟩:=hc
   simp only[aa,ac] at hs
   obtain⟨rfl,rfl⟩:=hs
   obtain⟨k,hl⟩:=Bg hE hx hf eF
   have hv:a.eval s = .slice none 0 0:=by
    have:=(wB hE iW hf mV).1
    generalize a.eval s=v at this
    cases this
    rfl
   obtain⟨m,rfl⟩:∃m:Nat,n=m:=⟨n.toNat,by omega⟩
   have cM:=b1k (P:=P) w ts tx o.type e i2 zv ej f0 hi ja k m (by omega) (by omega) hb
   rw[← hv,← hl] at cM
   have jd:(execOp a.eval o).run P w = .ok (.value (.slice (some ⟨w.heap.size,0,none⟩) m (grownCap w m 0 e))) (w.drew.alloc (.cells ((if m*i2.size=0 then #[] else Builtin.zeroCells zv.cells m)++Builtin.zeroCells zv.cells (grownCap w m 0 e - m)) e)):=by
    simp[execOp,cL,resolve,invoke,builtin,cM]
   have dI:¬m*i2.size=0:=by
    intro h
    rcases Nat.mul_eq_zero.1 h with h|h<;>omega
   rw[ae dI] at jd
   have fJ:=grownCap_ge w m 0 e
   refine Pn (v:=undef) (sz:=i2.size) (cap:=grownCap w m 0 e) nm ho hf hf.heap rfl jd fJ ?_ ?_ ?_ hk
   ·simp only[bH,size_zeroCells,ge]
    rw[Nat.sub_mul]
    have:m*i2.size≤grownCap w m 0 e*i2.size:=bi _ fJ
    omega
   ·simp[List.length_flatten,gh,size_zeroCells,ge]
   ·intro k c y hc hy
    simp only[Int.toNat_natCast] at hy
    rw[Kr,aS,gh] at hy
    split at hy
    ·rename_i cO
     rw[bk (by rw[size_zeroCells,ge]; exact cO)] at hc
     have iG:k % i2.size<i2.size:=bW _ (by omega)
     have kR:c=zv.cells[k % i2.size]! := by
      simp only[Builtin.zeroCells,bK,ab] at hc
      obtain⟨a',ha,rfl⟩:=hc
      have:a'=k:=by
       obtain⟨h1,h2⟩:=aX.1 ha
       simpa using h2.symm
      rw[this,ge]
     have lJ:zv.cells[k % i2.size]? = some c:=by
      rw[kR]
      have:k % i2.size<zv.cells.size:=by omega
      simp[this]
     simp only[aA,ab] at hy
     obtain⟨y0,hy,rfl⟩:=hy
     exact⟨(gB.2.2 _ c y0 (by simpa using lJ) hy).dem,by rw[CB]; exact gB.2.1 y0 (av hy),Pl y0⟩
    ·simp at hy
  ·simp at hs
 ·simp at hs
theorem b7u (hE:EnvOk E N) (nm:Names vs (vS vs ops)) (ho:ops[j]? = some o) (hf:FI N w G st a vs (vS vs ops)) {t e:TypeId} {rest:List TypeId} {size:Nat} {z:List PV} {x:Operand} {px:PX} (dU:o.dst=none)
  (cL:o.op = .call { callee := .builtin .clear,args := #[x],argTypes:=⟨t::rest⟩ }) (hu:P.underlying t=some (.slice e)) (hn:wx P e=some size) (hz:xN P e=some z)
  (hx:cx E vs ops x=some px) {cf:vZ} (hs:vW cf (.clear size px) st=some (u,st1)) (hk:wn N w G a st1 u vs ops j o next):o.wp P a w next Q:=by
 obtain⟨i,d,hi,gA,fD,hd⟩:=yt hn
 obtain⟨i2,zv,dK,ja,_,lC,gB,_⟩:=BG (N:=N) (w:=w) (fix:=G.fix) (hp:=G.heap) hz
 have:i2=i:=by rw[hi] at dK; simpa using dK.symm
 subst this
 subst gA
 have ge:zv.cells.size=i2.size:=by have:=gB.1; simp at this; omega
 simp only[vW] at hs
 split at hs
 ·rename_i n sz off vO
  split at hs
  ·rename_i cs dz
   split at hs
   ·rename_i hc
    obtain⟨rfl,fA⟩:=hc
    simp only[aa,ac] at hs
    obtain⟨rfl,rfl⟩:=hs
    obtain⟨agg,len,gg⟩:∃agg len,VR N w G.fix G.heap (a.eval x) (.rows n i2.size agg off len):=by
     obtain⟨p,hr,hp⟩:=af.1 vO
     have gg:=(wB hE hx hf hr).1
     cases p<;>simp only[D2,aa,ac,reduceCtorEq] at hp
     ·rename_i n' sz' ag ln
      obtain⟨rfl,rfl,rfl⟩:=hp
      generalize a.eval x=v at gg ⊢
      cases gg with
      | rowp _ _ _ _ b cap h cT dX =>
        obtain⟨T,m,h1,h2⟩:=dX
        exact⟨ag,ln,.rows _ _ _ 0 _ b 0 cap m T h cT (.inr (by simp)) h1 (by rw[aR]; exact aL (bi _ cT) h2)⟩
     ·obtain⟨rfl,rfl,rfl⟩:=hp
      exact⟨_,_,gg⟩
    generalize hv:a.eval x=v at gg
    cases gg with
    | rows _ _ _ _ _ b o' cap m T hb cT vP dX hm =>
      obtain⟨eo,gq,cv,T',hh,hl,iy⟩:=Fj hf (show wU st n=some cs by simp[wU,dz]) hb
      have mN:m=cv.size:=by simp only[World.shape?,hh,aa,ac] at dX; exact dX.2.symm
      subst mN
      have eX:b<w.heap.size:=hf.owlt _ _ eo
      obtain⟨NR,vQ,vR,cM⟩:∃NR:Array Value,NR.size=cv.size∧(∀k,k<off*i2.size→NR[k]? = cv[k]?)∧(execOp a.eval o).run P w = .ok (.value (.tuple #[])) (w.setRow b NR):=by
       cases len with
       | zero =>
         refine⟨cv,rfl,λ_ _=>rfl,?_⟩
         have hw:w.setRow b cv=w:=by
          have h2:(w.setRow b cv).heap=w.heap:=by
           apply Array.ext_getElem?
           intro k
           by_cases tI:k=b
           ·subst tI; rw[setRow_heap w k cv cv T' (0,0) hh,hh]
           ·exact setRow_other w b k _ tI
          exact aD (λh=>{ w with heap:=h }) h2
         rw[hw]
         simp[execOp,cL,hv,resolve,invoke,builtin,Builtin.clear_,run_underlying hu]
       | succ len =>
         have ho:o'=off*i2.size:=by rcases vP with h|h; exact absurd h (by omega); exact h
         subst ho
         let zs:List Value:=(Builtin.zeroCells zv.cells (len+1)).toList
         have pA:zs.length=(len+1)*i2.size:=by simp only[zs,aV,size_zeroCells,ge]
         have dx:=Hc P b (off*i2.size) T' (0,0) zs 0 cv w hh (λo _ h=>by simp at h) (by rw[aO] at hm; simp only[pA]; omega) (by
          intro u hu
          simp only[zs,Builtin.zeroCells,Array.toList_map,aM] at hu
          obtain⟨a',_,rfl⟩:=hu
          have iG:a' % zv.cells.size<zv.cells.size:=bW _ (by omega)
          have lJ:zv.cells[a' % zv.cells.size]? = some zv.cells[a' % zv.cells.size]! := by simp[iG]
          have pB:a' % zv.cells.size<z.length:=by have:=gB.1; simp at this; omega
          have h1:=(gB.2.2 _ _ z[a' % zv.cells.size] (by simpa using lJ) (aq pB)).oneCell (gB.2.1 _ (ai pB))
          generalize zv.cells[a' % zv.cells.size]! = c at h1
          cases c<;>first|rfl|simp[oneCell] at h1)
         refine⟨(cv.toList.take (off*i2.size)++zs++cv.toList.drop (off*i2.size+zs.length)).toArray,?_,?_,?_⟩
         ·rw[aO] at hm
          simp only[cr,ax,bB,cA,aV,pA]; omega
         ·intro k hk
          rw[aO] at hm
          simp only[bC,aJ]
          rw[al (by simp; omega),aP,ah hk]
          simp
         ·simp only[zs] at dx
          simp[execOp,cL,hv,resolve,invoke,builtin,Builtin.clear_,run_underlying hu,zeroValue,typeInfo,hi,ja,dx,zs]
      have cU:∀x,x≠b→(w.setRow b NR).heap[x]? = w.heap[x]? := λx hx=>setRow_other w b x _ hx
      have cJ:Ext w G (w.setRow b NR) G:=by
       refine⟨rfl,rfl,rfl,by simp[World.setRow],?_,?_,λ_ _ h => .inl h,λ_ h => .inr h,λ_ _ h=>h,Fh hh _ vQ,rfl⟩
       ·intro x _ iV
        exact cU x (by rintro rfl; rw[eo] at iV; simp at iV)
       ·intro x o' fl
        refine⟨fl,?_⟩
        have gc:x≠b:=by rintro rfl; exact gq _ fl
        simp only[World.cell?,cU x gc]
      have cN:xa (λk=>k = .hobj n) w G (w.setRow b NR) G:=by
       refine⟨?_,λ_ _ h=>h⟩
       intro x k gz gp
       refine⟨gz,cU x ?_,λ_ h=>h⟩
       rintro rfl
       rw[eo] at gz
       simp at gz
       exact gp gz.symm
      have jw:FI N (w.setRow b NR) G { st with heap:=st.heap.set n (.cells (cs.take (off*i2.size))) } a vs (vS vs ops):=by
       refine⟨hf.len,λi t' u' h1 h2=>(hf.var i t' u' h1 h2).keep cJ cN (by simp) (by simp),λi t' u' h1 h2=>(hf.loc i t' u' h1 h2).keep cJ cN (by simp) (by simp),hf.tv,hf.tl,hf.defers,hf.gen,?_,?_,?_,?_⟩
       ·intro x k hx; simpa[World.setRow] using hf.owlt x k hx
       ·intro x o' hx; simpa[World.setRow] using hf.fixlt x o' hx
       ·refine hf.heap.keepBut cJ cN (λn k c9=>⟨by simp; omega,by simp⟩) (λ_ =>?_)
        refine .inr ⟨b,hb,eo,gq,NR,T',setRow_heap w b cv NR T' (0,0) hh,?_,?_⟩
        ·simp; omega
        ·intro k c y hc hy
         rw[aP] at hy
         split at hy
         ·rename_i ez
          rw[vR k ez] at hc
          exact(iy k c y hc hy).keep cJ cN (by simp)
         ·simp at hy
       ·simp only[bJ]; exact hf.hdom
      unfold Oper.wp
      rw[cM]
      have fL:a.put o.dst (.tuple #[])=a:=by simp[dU,Act.put]
      have hd:wv vs o.dst = .n:=by simp[dU,wv]
      show next (a.put o.dst (.tuple #[])) _
      rw[fL]
      refine hk _ _ G ?_ cJ rfl
      rw[hd]
      exact jw
   ·simp at hs
  ·simp at hs
 ·simp at hs
end
end PI
set_option linter.unusedSimpArgs false
set_option linter.unusedVariables false
namespace PI
open Go Go.RowKit
theorem BH:∀{ps:List PV},wu ps=true→∀p∈ps,wr p=true
 | [],_,p,hp=>by simp at hp
 | x :: xs, h, p, hp => by
   simp only[wu,am] at h
   rcases az.1 hp with rfl|hp
   ·exact h.1
   ·exact BH h.2 p hp
theorem b4u {p:PV} (h:wr p=true):∀x∈p.cells,wr x=true:=by
 intro x hx
 cases p<;>simp only[PV.cells,bg] at hx<;>first|(subst hx; exact h)|(simp at hx; done)|skip
 exact BH (by simpa[wr] using h) x hx
theorem VR.free {N:Nm} {w:World} {fix:Nat→Nat→Prop} {hp ek:Nat→Option Nat} {v:Value} {p:PV} (h:VR N w fix hp v p) (hr:wr p=true):VR N w fix ek v p:=by
 induction h with
 | bool b=>exact .bool b
 | int k n=>exact .int k n
 | str s=>exact .str s
 | nils own=>exact .nils own
 | void own a cap=>exact .void own a cap
 | nils'=>exact .nils'
 | void' a cap=>exact .void' a cap
 | list own b off len cap sz es cv cK cT cQ cS hcell _ ih =>
   refine .list own b off len cap sz es cv cK cT cQ cS hcell (λi e he j x hx=>ih i e he j x hx ?_)
   have:=BH (by simpa[wr] using hr) e (av he)
   exact b4u this x (av hx)
 | agg cs ps cK cS eK _ ih=>exact .agg cs ps cK cS eK (λi c p hc hp=>ih i c p hc hp (BH (by simpa[wr] using hr) p (av hp)))
 | tuple cs ps cK _ ih=>exact .tuple cs ps cK (λi c p hc hp=>ih i c p hc hp (BH (by simpa[wr] using hr) p (av hp)))
 | nilptr=>exact .nilptr
 | cptr b off ps cv cS hcell _ ih=>exact .cptr b off ps cv cS hcell (λk x hx=>ih k x hx (BH (by simpa[wr] using hr) x (av hx)))
 | ptr n off b h=>simp[wr] at hr
 | rowp n sz agg len b cap h cT dX=>simp[wr] at hr
 | rows n sz agg off len b o cap m T h cT ho dX hm=>simp[wr] at hr
 | mapn=>exact .mapn
 | map n b h=>simp[wr] at hr
 | yield k n l y tmps caps h0 hl mV cK _ _ _=>simp[wr,wu] at hr
 | func k fs cs pf pc h0 h1 h2 _ _ ihf ihc =>
   simp only[wr,am] at hr
   exact .func k fs cs pf pc h0 h1 h2 (λi c p hc hp=>ihf i c p hc hp (BH hr.1 p (av hp))) (λi c p hc hp=>ihc i c p hc hp (BH hr.2 p (av hp)))
 | nilfunc=>exact .nilfunc
 | iface t v p _ ih=>exact .iface t v p (ih (by simpa[wr] using hr))
 | nilIface=>exact .nilIface
theorem VR.cp_dem {N:Nm} {w:World} {fix:Nat→Nat→Prop} {hp:Nat→Option Nat} {v:Value} {p:PV} (h:VR N w fix hp v p):cp (PI.dem p)=some (PI.dem p):=by
 cases h<;>rfl
structure HeapOnly (G:GS):Prop where
 ow:∀b k,G.ow b=some k→k.isH=true
 box:∀g,G.box g=none
structure Between (N:Nm) (w:World) (G:GS) (h:List PObj):Prop where
 only:HeapOnly G
 fixlt:∀b o,G.fix b o→b<w.heap.size
 owlt:∀b k,G.ow b=some k→b<w.heap.size
 heap:HR N w G h
 hdom:∀n b,G.heap n=some b→n<h.length
def CD (w0:World) (G0:GS) (w:World) (G:GS) (v:Value) (es:List PV):Prop:=
 match v with
 | .slice (some a) len cap => cap = len ∨
   ((w0.heap.size ≤ a.block ∨ G0.ow a.block ≠ none) ∧ ∃ sz cs T, (∀ e ∈ es, e.cells.length = sz) ∧ Live w a.block cs T ∧ a.off + cap * sz ≤ cs.size ∧
     0<len∧∀o,a.off+len*sz≤o→¬G.fix a.block o)
 | _=>True
structure OwnIn (N:Nm) (w:World) (G:GS) (own:Option Nat) (args:List PV) (vals:Array Value):Prop where
 ow:∀b k,G.ow b=some k→∃i,own=some i∧k = .var i
 box:∀g,G.box g=none
 heap:∀n,G.heap n=none
 fixlt:∀b o,G.fix b o→b<w.heap.size
 owlt:∀b k,G.ow b=some k→b<w.heap.size
 tab:Tab N w G.fix
 size:vals.size=args.length
 vr:∀(i:Nat) (v:Value) (p:PV),vals[i]? = some v→args[i]? = some p→VR N w G.fix G.heap v p
 room:∀(i:Nat) (v:Value) (es:List PV),own=some i→vals[i]? = some v→args[i]? = some (.list true es)→Room w G (.var i) v es
def d2u (N:Nm) (P:Program) (cf:vZ):Prop:=
 ∀ (k : Nat) (own : Option Nat) (args : List PV) (r : PV) (h' : List PObj), cf k (AV own args) [] = some (r, h') → N.yl k = none ∧ ∀ (w : World) (G : GS) (vals : Array Value), OwnIn N w G own args vals →
   Calls P (N.fn k) vals w λe w'=>∃v G',e = .returned v∧VR N w' G'.fix G'.heap v r∧Ext w G w' G'∧(∀b o,G'.fix b o→b<w'.heap.size)∧∀es,r = .list true es→CD w G w' G' v es
def c5K (N:Nm) (P:Program) (cf:vZ):Prop:=
 ∀ (k : Nat) (args : List PV) (r : PV) (h h' : List PObj), cf k args h = some (r, h') → N.yl k = none ∧ ∀ (w : World) (G : GS) (vals : Array Value), Between N w G h → vals.size = args.length →
   (∀(i:Nat) (v:Value) (p:PV),vals[i]? = some v→args[i]? = some p→VR N w G.fix G.heap v p) →
   Calls P (N.fn k) vals w λe w'=>∃v G',e = .returned v∧VR N w' G'.fix G'.heap v r∧Ext w G w' G'∧Between N w' G' h'
structure CallOK (N:Nm) (P:Program) (cf:vZ):Prop where
 plain:c5K N P cf
 own:d2u N P cf
theorem Room.sub {w:World} {G G':GS} {key:Key} {v:Value} {es:List PV} (h:Room w G key v es) (hf:G'.fix=G.fix) (ho:∀b,G.ow b=some key→G'.ow b=some key):Room w G' key v es:=by
 unfold Room at *
 split at h
 ·rename_i a len cap
  rcases h with h|⟨h1,sz,cs,T,h2,h3,h4,h5,h6⟩
  ·exact .inl h
  ·exact .inr ⟨ho _ h1,sz,cs,T,h2,h3,h4,h5,by rw[hf]; exact h6⟩
 ·trivial
theorem HR.sub {N:Nm} {w:World} {G G':GS} {heap:List PObj} (h:HR N w G heap) (hf:G'.fix=G.fix) (hh:G'.heap=G.heap) (ho:∀b k,k.isH=true→G.ow b=some k→G'.ow b=some k):HR N w G' heap:=by
 refine⟨?_,by rw[hf]; exact h.2⟩
 intro n ob dz
 rcases h.1 n ob dz with rfl|⟨b,h1,h2,h3⟩
 ·exact .inl rfl
 refine .inr ⟨b,by rw[hh]; exact h1,ho _ _ rfl h2,?_⟩
 cases ob with
 | cells cs =>
   obtain⟨f,cv,T,a1,a2,a3⟩:=h3
   refine⟨by rw[hf]; exact f,cv,T,a1,a2,?_⟩
   intro k c x hc hx
   obtain⟨b1,b2,b3⟩:=a3 k c x hc hx
   refine⟨by rw[hf,hh]; exact b1,b2,?_⟩
   split at b3
   ·exact b3.sub hf (λb=>ho b _ rfl)
   ·trivial
 | map es =>
   obtain⟨mes,clock,a1,a2,a3,a4,a5⟩:=h3
   refine⟨mes,clock,a1,a2,a3,a4,?_⟩
   intro i e p hi hp
   obtain⟨b1,b2,b3⟩:=a5 i e p hi hp
   refine⟨by rw[hf,hh]; exact b1,by rw[hf,hh]; exact b2,?_⟩
   split at b3
   ·exact b3.sub hf (λb=>ho b _ rfl)
   ·trivial
 | bld bs =>
   obtain⟨f,p,v,a1,a2,a3⟩:=h3
   refine⟨by rw[hf]; exact f,p,v,a1,a2,?_⟩
   rcases a3 with a3|⟨g,cap,cur,b1,b2,b3,b4⟩
   ·exact .inl a3
   ·exact .inr ⟨g,cap,cur,b1,ho _ _ rfl b2,by rw[hf]; exact b3,b4⟩
 | siter s pos =>
   obtain⟨f,s',a1,a2⟩:=h3
   exact⟨by rw[hf]; exact f,s',a1,a2⟩
 | gone=>trivial
 | loop ready =>
   obtain⟨f,r,a1,a2⟩:=h3
   exact⟨by rw[hf]; exact f,r,a1,a2⟩
 | over id =>
   obtain⟨f,r,a1,a2⟩:=h3
   exact⟨by rw[hf]; exact f,r,a1,a2⟩
def yC (ow:Nat→Option Key) (b:Nat):Option Key:=
 match ow b with
 | some k=>if k.isH then some k else none
 | none=>none
theorem Dk {ow:Nat→Option Key} {b:Nat} {k:Key} (h:yC ow b=some k):ow b=some k∧k.isH=true:=by
 unfold yC at h
 split at h
 ·split at h
  ·simp at h; subst h; exact⟨by assumption,by assumption⟩
  ·simp at h
 ·simp at h
theorem HI {ow:Nat→Option Key} {b:Nat} {k:Key} (h:ow b=some k) (hk:k.isH=true):yC ow b=some k:=by
 simp[yC,h,hk]
def x7 (N:Nm) (P:Program) (L:Nat→Option PFunc):Prop:=
 ∀k f,L k=some f→∃fn,P.funcs[N.fn k]? = some fn∧fn.name ≠ "runtime.NumGoroutine" ∧ fn.body.isNone=false
section
variable {E:Env} {N:Nm} {w:World} {G:GS} {st:St} {a:Act} {vs:List Tmp} {ops:List Oper} {P:Program}
variable {o:Oper} {j:Nat} {next:Act→World→Prop} {Q:Exit→Act→World→Prop} {u:PV} {st1:St}
theorem BM {L:Nat→Option PFunc} (hF:x7 N P L) {k:Nat} {f:PFunc} (hL:L k=some f) (args:Array Value) (w:World):(callFunc (N.fn k) args).run P w = .ok (.enter (N.fn k) args) w:=by
 obtain⟨fn,h1,h2,h3⟩:=hF k f hL
 have fR:(fn.name == "runtime.NumGoroutine")=false:=by simpa using h2
 simp only[callFunc,Sem.run_bind,run_program,Result.andThen_ok,h1,fR,h3,aH,if_false,Sem.run_pure]
theorem O4 (nm:Names vs (vS vs ops)) (ho:ops[j]? = some o) (hf:FI N w G st a vs (vS vs ops)) {cf:vZ} (dH:CallOK N P cf) {k:Nat} {args:List PV} {vals:Array Value} {r:PV} {h':List PObj}
  (cQ:vals.size=args.length) (hv:∀(i:Nat) (v:Value) (p:PV),vals[i]? = some v→args[i]? = some p→VR N w G.fix G.heap v p) (dV:wu args=true) (hc:cf k args []=some (r,h')) (hr:wr r=true)
  (cM:(execOp a.eval o).run P w = .ok (.enter (N.fn k) vals) w) (hk:wn N w G a st (dem r) vs ops j o next):o.wp P a w next Q:=by
 unfold Oper.wp
 rw[cM]
 let Gc:GS:={ fix:=G.fix,heap:=λ_=>none,box:=λ_=>none,ow:=λ_=>none }
 have dZ:Between N w Gc []:=⟨⟨by intro b k h; simp[Gc] at h,λ_=>rfl⟩,hf.fixlt,by intro b k h; simp[Gc] at h,⟨by intro n ob h; simp at h,hf.heap.2⟩,by intro n b h; simp[Gc] at h⟩
 refine((dH.plain k args r [] h' hc).2 w Gc vals dZ cQ (λi v p h1 h2=>(hv i v p h1 h2).free (BH dV p (av h2)))).mono ?_
 rintro e w' ⟨v,G2,rfl,cR,he,dB⟩
 let G':GS:={ G with fix:=G2.fix }
 have kq:∀b,b<w.heap.size→w'.heap[b]? = w.heap[b]? := λb hb=>he.same b hb rfl
 have fc:∀b o,G2.fix b o→G.fix b o∨w.heap.size≤b:=by
  intro b o h
  rcases he.newfix b o h with h|h|h
  ·exact .inl h
  ·exact .inr h
  ·exact absurd rfl h
 have cJ:Ext w G w' G':=by
  refine⟨he.os,he.tape,he.output,he.size,λb cO _=>kq b cO,λb o h=>he.fix b o h,?_,λ_ h => .inr h,λ_ _ h=>h,he.shape,rfl⟩
  intro b o h
  rcases fc b o h with h|h
  ·exact .inl h
  ·exact .inr (.inl h)
 have cN:xa (λ_=>False) w G w' G':=by
  refine⟨?_,λ_ _ h=>h⟩
  intro b key cX _
  have fB:=hf.owlt _ _ cX
  refine⟨cX,kq b fB,?_⟩
  intro o h
  rcases fc b o h with h|h
  ·exact h
  ·omega
 have db:=hf.ext (G':=G') cJ cN hf.gen (λb key h=>aN (hf.owlt b key h) he.size) dB.fixlt
 have ga:VR N w' G'.fix G'.heap v (dem r):=(cR.free hr).dem
 exact hk _ _ G' (db.put nm (yI ho) (SR.of_pure ga cR.cp_dem)) cJ (yJ _ _ _)
theorem O5 (nm:Names vs (vS vs ops)) (ho:ops[j]? = some o) (hf:FI N w G st a vs (vS vs ops)) {cf:vZ} (dH:CallOK N P cf) {k:Nat} {args:List PV} {vals:Array Value} {r:PV} {h':List PObj}
  (cQ:vals.size=args.length) (hv:∀(i:Nat) (v:Value) (p:PV),vals[i]? = some v→args[i]? = some p→VR N w G.fix G.heap v p) (hc:cf k args st.heap=some (r,h'))
  (cM:(execOp a.eval o).run P w = .ok (.enter (N.fn k) vals) w) (hk:wn N w G a { st with heap:=h' } (dem r) vs ops j o next):o.wp P a w next Q:=by
 unfold Oper.wp
 rw[cM]
 let Gc:GS:={ fix:=G.fix,heap:=G.heap,box:=λ_=>none,ow:=yC G.ow }
 have dZ:Between N w Gc st.heap:=⟨⟨λb k h=>(Dk h).2,λ_=>rfl⟩,hf.fixlt,λb k h=>hf.owlt b k (Dk h).1,hf.heap.sub rfl rfl (λb k hk h=>HI h hk),hf.hdom⟩
 refine((dH.plain k args r st.heap h' hc).2 w Gc vals dZ cQ hv).mono ?_
 rintro e w' ⟨v,G2,rfl,cR,he,dB⟩
 let G':GS:={ fix:=G2.fix,heap:=G2.heap,box:=G.box,ow:=λb=>match G.ow b with | some k=>if k.isH then G2.ow b else some k | none=>G2.ow b,df:=G.df }
 have cJ:Ext w G w' G':=by
  refine⟨he.os,he.tape,he.output,he.size,λb cO h=>he.same b cO (by simp[Gc,yC,h]),λb o h=>he.fix b o h,?_,?_,he.heap,he.shape,rfl⟩
  ·intro b o h
   rcases he.newfix b o h with h|h|h
   ·exact .inl h
   ·exact .inr (.inl h)
   ·refine .inr (.inr ?_)
    intro e
    apply h
    simp[Gc,yC,e]
  ·intro b h
   cases hb:G.ow b with
   | some k=>exact .inr (by simp)
   | none =>
     simp only[G',hb] at h
     rcases he.own b h with h|h
     ·exact .inl h
     ·exact absurd (by simp[Gc,yC,hb]) h
 have cN:xa (λk=>k.isH=true) w G w' G':=by
  refine⟨?_,λ_ _ h=>h⟩
  intro b key cX hn
  have fB:=hf.owlt _ _ cX
  have ed:Gc.ow b=none:=by simp[Gc,yC,cX,hn]
  refine⟨by simp[G',cX,hn],he.same b fB ed,?_⟩
  intro o h
  rcases he.newfix b o h with h|h|h
  ·exact h
  ·omega
  ·exact absurd ed h
 have dQ:HR N w' G' h':=by
  refine dB.heap.sub rfl rfl ?_
  intro b k vF h
  cases hb:G.ow b with
  | none=>simp only[G',hb]; exact h
  | some k0 =>
    by_cases lw:k0.isH=true
    ·simp only[G',hb,lw,if_true]; exact h
    ·have ed:Gc.ow b=none:=by simp[Gc,yC,hb,lw]
     have cO:=hf.owlt _ _ hb
     rcases he.own b (by rw[h]; simp) with h2|h2
     ·omega
     ·exact absurd ed h2
 have db:FI N w' G' { st with heap:=h' } a vs (vS vs ops):=by
  refine⟨hf.len,λi t u h1 h2=>(hf.var i t u h1 h2).keep cJ cN (by simp[Key.isH]) (by simp[Key.isH]),λj t u h1 h2=>(hf.loc j t u h1 h2).keep cJ cN (by simp[Key.isH]) (by simp[Key.isH]),hf.tv,hf.tl,(hf.defers.trans cJ.df.symm),hf.gen,?_,dB.fixlt,dQ,dB.hdom⟩
  intro b k h
  cases hb:G.ow b with
  | some k0=>exact aN (hf.owlt _ _ hb) he.size
  | none =>
    simp only[G',hb] at h
    exact dB.owlt _ _ h
 exact hk _ _ G' (db.put nm (yI ho) (SR.of_pure cR.dem cR.cp_dem)) cJ (yJ _ _ _)
theorem Cv {xs:Array Operand} {us:List PV} (h1:xs.toList.length=us.length) (h2:∀(i:Nat) (x:Operand) (u:PV),xs.toList[i]? = some x→us[i]? = some u→VR N w G.fix G.heap (a.eval x) u∧cp u=some u):
  (xs.map a.eval).size=us.length∧∀(i:Nat) (v:Value) (p:PV),(xs.map a.eval)[i]? = some v→us[i]? = some p→VR N w G.fix G.heap v p:=by
 refine⟨by simpa using h1,?_⟩
 intro i v p hv hp
 simp only[bK,ab] at hv
 obtain⟨x,hx,rfl⟩:=hv
 exact(h2 i x p (by simpa using hx) hp).1
theorem b7j {L:Nat→Option PFunc} (hF:x7 N P L) (hE:EnvOk E N) (nm:Names vs (vS vs ops)) (ho:ops[j]? = some o) (hf:FI N w G st a vs (vS vs ops)) {cf:vZ} (dH:CallOK N P cf) (ef:∀k args h r,cf k args h=some r→∃f,L k=some f)
  {f:FuncId} {k:Nat} {xs:Array Operand} {ts:Array TypeId} {pxs:List PX} (cL:o.op = .call { callee := .value (.func f),args:=xs,argTypes:=ts }) (dg:E.inv f=some k) (hx:cxs E vs ops xs.toList=some pxs)
  (hs:opv cf (.pcall k pxs) st=some (u,st1)) (hk:wn N w G a st1 u vs ops j o next):o.wp P a w next Q:=by
 simp only[opv] at hs
 split at hs
 ·rename_i us eL
  split at hs
  ·rename_i dV
   split at hs
   ·rename_i r h' hc
    split at hs
    ·rename_i hr
     simp only[aa,ac] at hs
     obtain⟨rfl,rfl⟩:=hs
     obtain⟨h1,h2⟩:=AD hE hf hx eL
     obtain⟨g1,g2⟩:=Cv (w:=w) (G:=G) h1 h2
     obtain⟨pf,hL⟩:=ef _ _ _ _ hc
     have ev:=hE.fn _ _ dg
     refine O4 nm ho hf dH g1 g2 dV hc hr ?_ hk
     have:=BM hF hL (xs.map a.eval) w
     rw[ev] at this
     rw[ev]
     simp[execOp,cL,resolve,Act.eval,Deferred.ofValue,invoke]
     exact this
    ·simp at hs
   ·simp at hs
  ·simp at hs
 ·simp at hs
theorem VR.cp_or {N:Nm} {w:World} {fix:Nat→Nat→Prop} {hp:Nat→Option Nat} {v:Value} {p:PV} (h:VR N w fix hp v p):cp p=some p∨∃es,p = .list true es:=by
 cases h with
 | nils o=>cases o<;>simp[cp]
 | void o _ _=>cases o<;>simp[cp]
 | list o _ _ _ _ _ _ _ _ _ _ _ _ _=>cases o<;>simp[cp]
 | _=>exact .inl rfl
theorem O6 {E:Env} {vs:List Tmp} {ops:List Oper}:∀{xs:List Operand} {ps:List PX} {i:Nat} {p:PX},cxs E vs ops xs=some ps→ps[i]? = some p→∃x,xs[i]? = some x∧cx E vs ops x=some p
 | [],ps,i,p,h,hp=>by simp[cxs] at h; subst h; simp at hp
 | x :: xs, ps, i, p, h, hp => by
   simp only[cxs,af,ab] at h
   obtain⟨q,h1,qs,h2,rfl⟩:=h
   cases i with
   | zero=>simp at hp; subst hp; exact⟨x,rfl,h1⟩
   | succ i =>
     have:=O6 (i:=i) h2 (by simpa using hp)
     simpa using this
def Kj:Value→Option Nat
 | .slice (some a) _ _=>some a.block
 | _=>none
theorem O7 (nm:Names vs (vS vs ops)) (ho:ops[j]? = some o) (hd:wv vs o.dst≠.n) {G0:GS} (m7:Ext w G0 w G) (hf:FI N w G st a vs (vS vs ops)) {cf:vZ} (dH:CallOK N P cf) {k:Nat} {own:Option Nat} {args:List PV} {vals:Array Value} {r:PV} {h':List PObj}
  (cQ:vals.size=args.length) (hv:∀(i:Nat) (v:Value) (p:PV),vals[i]? = some v→args[i]? = some p→VR N w G.fix G.heap v p) (dV:wu args=true)
  (dm:∀(i:Nat) (v:Value) (es:List PV),own=some i→vals[i]? = some v→args[i]? = some (.list true es)→Room w G (xJ (wv vs o.dst) j) v es)
  (hc:cf k (AV own args) []=some (r,h')) (hr:wr r=true)
  (cM:(execOp a.eval o).run P w = .ok (.enter (N.fn k) vals) w) (hk:wn N w G0 a st r vs ops j o next):o.wp P a w next Q:=by
 classical
 unfold Oper.wp
 rw[cM]
 let key:=xJ (wv vs o.dst) j
 let Gc:GS:={ fix:=G.fix,heap:=λ_=>none,box:=λ_=>none,ow:=λb=>own.bind λi=>if vals[i]?.bind Kj=some b∧G.ow b=some key then some (.var i) else none }
 have pY:∀b k,Gc.ow b=some k→G.ow b=some key∧∃i,own=some i∧k = .var i:=by
  intro b k h
  simp only[Gc,af] at h
  obtain⟨i,hi,h⟩:=h
  split at h
  ·rename_i hb
   simp only[aa] at h
   exact⟨hb.2,i,hi,h.symm⟩
  ·simp at h
 have dn:OwnIn N w Gc own args vals:=by
  refine⟨λb k h=>(pY b k h).2,λ_=>rfl,λ_=>rfl,hf.fixlt,λb k h=>hf.owlt _ _ (pY b k h).1,hf.heap.2,cQ,λi v p h1 h2=>(hv i v p h1 h2).free (BH dV p (av h2)),?_⟩
  intro i v es hi pX fE
  have h:=dm i v es hi pX fE
  unfold Room at *
  split at h
  ·rename_i a' len cap
   rcases h with h|⟨h1,h2⟩
   ·exact .inl h
   ·refine .inr ⟨?_,h2⟩
    simp only[Gc,hi,pX,ar,Kj,true_and]
    rw[ah (show G.ow a'.block=some key from h1)]
  ·trivial
 refine((dH.own k own args r h' hc).2 w Gc vals dn).mono ?_
 rintro e w' ⟨v,G2,rfl,cR,he,fl,gj⟩
 let G':GS:={ G with fix:=G2.fix,ow:=λb=>if (∃es,r = .list true es)∧Kj v=some b∧(w.heap.size≤b∨Gc.ow b≠none)∧b<w'.heap.size then some key else G.ow b }
 have ed:∀b k,G.ow b=some k→k≠key→Gc.ow b=none:=by
  intro b k h hn
  cases hx:Gc.ow b with
  | none=>rfl
  | some k' =>
    have:=(pY b k' hx).1
    rw[h] at this
    simp only[aa] at this
    exact absurd this hn
 have iL:∀b,G.ow b=none→Gc.ow b=none:=by
  intro b h
  cases hx:Gc.ow b with
  | none=>rfl
  | some k'=>have:=(pY b k' hx).1; rw[h] at this; simp at this
 have cJ:Ext w G w' G':=by
  refine⟨he.os,he.tape,he.output,he.size,λb cO h=>he.same b cO (iL b h),λb o h=>he.fix b o h,?_,?_,λ_ _ h=>h,he.shape,rfl⟩
  ·intro b o h
   rcases he.newfix b o h with h|h|h
   ·exact .inl h
   ·exact .inr (.inl h)
   ·exact .inr (.inr λe=>h (iL b e))
  ·intro b h
   simp only[G'] at h
   split at h
   ·rename_i hb
    rcases hb.2.2.1 with h1|h1
    ·exact .inl h1
    ·exact .inr λe=>h1 (iL b e)
   ·exact .inr h
 have cN:xa (λk=>k=key) w G w' G':=by
  refine⟨?_,λ_ _ h=>h⟩
  intro b k cX hn
  have fB:=hf.owlt _ _ cX
  have h0:=ed b k cX hn
  refine⟨?_,he.same b fB h0,?_⟩
  ·simp only[G']
   rw[ae]
   ·exact cX
   ·rintro⟨_,_,h1|h1,_⟩
    ·omega
    ·exact h1 h0
  ·intro o h
   rcases he.newfix b o h with h|h|h
   ·exact h
   ·omega
   ·exact absurd h0 h
 have how:∀b k,G'.ow b=some k→b<w'.heap.size:=by
  intro b k h
  simp only[G'] at h
  split at h
  ·rename_i hb; exact hb.2.2.2
  ·exact aN (hf.owlt _ _ h) he.size
 have ga:VR N w' G'.fix G'.heap v r:=cR.free hr
 have pp:SR N w' G' key v r:=by
  rcases ga.cp_or with h|⟨es,rfl⟩
  ·exact SR.of_pure ga h
  ·refine⟨ga,?_⟩
   have h:=gj es rfl
   unfold Room
   unfold CD at h
   split at h
   ·rename_i a' len cap
    rcases h with h|⟨h1,sz,cs,T,h2,h3,h4⟩
    ·exact .inl h
    ·refine .inr ⟨?_,sz,cs,T,h2,h3,h4⟩
     simp only[G']
     rw[ah]
     exact⟨⟨es,rfl⟩,rfl,h1,let ⟨fz,h5,_⟩:=h3; (aX.1 h5).1⟩
   ·rename_i hx
    split
    ·rename_i a' len cap; exact absurd rfl (hx _ _ _)
    ·trivial
 exact hk _ _ G' (hf.extDst nm (yI ho) hd cJ cN (λg b h=>hf.gen g b h) how fl rfl pp) (m7.trans cJ) (yJ _ _ _)
theorem b6c {L:Nat→Option PFunc} (hF:x7 N P L) (hE:EnvOk E N) (nm:Names vs (vS vs ops)) (ho:ops[j]? = some o) (hd:wv vs o.dst≠.n) (hf:FI N w G st a vs (vS vs ops)) {cf:vZ} (dH:CallOK N P cf) (ef:∀k args h r,cf k args h=some r→∃f,L k=some f)
  {f:FuncId} {k:Nat} {xs:Array Operand} {ts:Array TypeId} {pxs:List PX} {own:Option Nat} (cL:o.op = .call { callee := .value (.func f),args:=xs,argTypes:=ts }) (dg:E.inv f=some k) (hx:cxs E vs ops xs.toList=some pxs)
  (hs:opv cf (.pcallx k pxs own) st=some (u,st1)) (hk:wn N w G a st1 u vs ops j o next):o.wp P a w next Q:=by
 have cM:∀{args:List PV} {h:List PObj} {r},cf k args h=some r→(execOp a.eval o).run P w = .ok (.enter (N.fn k) (xs.map a.eval)) w:=by
  intro args h r hc
  obtain⟨pf,hL⟩:=ef _ _ _ _ hc
  have ev:=hE.fn _ _ dg
  have:=BM hF hL (xs.map a.eval) w
  rw[ev] at this
  rw[ev]
  simp[execOp,cL,resolve,Act.eval,Deferred.ofValue,invoke]
  exact this
 simp only[opv] at hs
 split at hs
 ·split at hs
  ·rename_i us eL
   split at hs
   ·rename_i dV
    split at hs
    ·rename_i r h' hc
     split at hs
     ·rename_i hr
      simp only[aa,ac] at hs
      obtain⟨rfl,rfl⟩:=hs
      obtain⟨h1,h2⟩:=AD hE hf hx eL
      obtain⟨g1,g2⟩:=Cv (w:=w) (G:=G) h1 h2
      exact O7 nm ho hd (Ext.refl _ _) hf dH g1 g2 dV (by intro i v es h; simp at h) hc hr (cM hc) hk
     ·simp at hs
    ·simp at hs
   ·simp at hs
  ·simp at hs
 ·rename_i i
  split at hs
  ·rename_i v0 st2 us ht eL
   split at hs
   ·rename_i dV
    split at hs
    ·rename_i r h' hc
     split at hs
     ·rename_i hr
      simp only[aa,ac] at hs
      obtain⟨rfl,rfl⟩:=hs
      simp only[af] at ht
      obtain⟨px,fu,ht⟩:=ht
      obtain⟨h1,h2⟩:=AD hE hf hx eL
      obtain⟨g1,g2⟩:=Cv (w:=w) (G:=G) h1 h2
      obtain⟨x,kA,gb⟩:=O6 hx fu
      obtain⟨G',k1,k2,k3,k4,k5,k6,k7,_⟩:=DV hE gb hf ht (xJ (wv vs o.dst) j)
      refine O7 nm ho hd k2 k1 dH (by rw[bJ]; exact g1) ?_ dV.1 ?_ hc hr (cM hc) hk
      ·intro i' v p hv hp
       rw[k4,k5]
       rw[aI] at hp
       split at hp
       ·rename_i he
        subst he
        split at hp
        ·simp only[aa] at hp
         subst hp
         simp only[bK,ab] at hv
         obtain⟨x',ei,rfl⟩:=hv
         have:x'=x:=by rw[← bN,kA] at ei; simpa using ei.symm
         subst this
         exact k6
        ·simp at hp
       ·exact g2 i' v p hv hp
      ·intro i' v es hi hv fE
       simp only[aa] at hi
       subst hi
       rw[aI] at fE
       simp only[if_true,dV.2,aa] at fE
       subst fE
       simp only[bK,ab] at hv
       obtain⟨x',ei,rfl⟩:=hv
       have:x'=x:=by rw[← bN,kA] at ei; simpa using ei.symm
       subst this
       exact k7
     ·simp at hs
    ·simp at hs
   ·simp at hs
  ·simp at hs
theorem b7l {L:Nat→Option PFunc} (hF:x7 N P L) (hE:EnvOk E N) (nm:Names vs (vS vs ops)) (ho:ops[j]? = some o) (hf:FI N w G st a vs (vS vs ops)) {cf:vZ} (dH:CallOK N P cf) (ef:∀k args h r,cf k args h=some r→∃f,L k=some f)
  {t:Tmp} {px:PX} {xs:Array Operand} {ts:Array TypeId} {pxs:List PX} (cL:o.op = .call { callee := .value (.tmp t),args:=xs,argTypes:=ts }) (fu:cx E vs ops (.tmp t)=some px) (hx:cxs E vs ops xs.toList=some pxs)
  (hs:opv cf (.callv px pxs) st=some (u,st1)) (hk:wn N w G a st1 u vs ops j o next):o.wp P a w next Q:=by
 simp only[opv] at hs
 split at hs
 ·rename_i k first captured us lO eL
  split at hs
  ·rename_i dV
   split at hs
   ·rename_i r h' hc
    split at hs
    ·rename_i hr
     simp only[aa,ac] at hs
     obtain⟨rfl,rfl⟩:=hs
     obtain⟨h1,h2⟩:=AD hE hf hx eL
     obtain⟨g1,g2⟩:=Cv (w:=w) (G:=G) h1 h2
     obtain⟨pf,hL⟩:=ef _ _ _ _ hc
     have ij:=(wB hE fu hf lO).1
     generalize hv:a.eval (.tmp t)=v at ij
     cases ij with
     | yield _ _ _ _ _ _ hy=>rw[(dH.plain _ _ _ _ _ hc).1] at hy; simp at hy
     | func _ fs cs _ _ _ e1 e2 kM dY =>
       refine O4 (vals:=fs++xs.map a.eval++cs) nm ho hf dH (by simp[e1,e2]; simpa using h1) ?_ dV hc hr ?_ hk
       ·intro i v p dJ hp
        by_cases hi:i<fs.size
        ·rw[bU,bk hi] at dJ
         rw[aJ,al (by omega)] at hp
         exact kM i v p dJ hp
        ·rw[bU,bV (by omega)] at dJ
         rw[aJ,ap (by omega),← e1] at hp
         by_cases dK:i - fs.size<(xs.map a.eval).size
         ·rw[bk dK] at dJ
          rw[al (by omega)] at hp
          exact g2 _ v p dJ hp
         ·rw[bV (by omega)] at dJ
          rw[ap (by omega),← g1] at hp
          exact dY _ v p dJ hp
       ·have:=BM hF hL (fs++xs.map a.eval++cs) w
        simp only[execOp,cL,resolve,Sem.run_bind,hv,Deferred.ofValue,Sem.run_pure,Result.andThen_ok,invoke]
        exact this
    ·simp at hs
   ·simp at hs
  ·simp at hs
 ·simp at hs
theorem O8 {L:Nat→Option PFunc} (hF:x7 N P L) (hE:EnvOk E N) (nm:Names vs (vS vs ops)) (ho:ops[j]? = some o) (hf:FI N w G st a vs (vS vs ops)) {cf:vZ} (dH:CallOK N P cf) (ef:∀k args h r,cf k args h=some r→∃f,L k=some f)
  {f:FuncId} {k:Nat} {xs:Array Operand} {ts:Array TypeId} {pxs:List PX} (cL:o.op = .call { callee := .value (.func f),args:=xs,argTypes:=ts }) (dg:E.inv f=some k) (hx:cxs E vs ops xs.toList=some pxs)
  (hs:vW cf (.call k pxs) st=some (u,st1)) (hk:wn N w G a st1 u vs ops j o next):o.wp P a w next Q:=by
 simp only[vW,af,ab,ac] at hs
 obtain⟨us,eL,⟨r,h'⟩,hc,rfl,rfl⟩:=hs
 obtain⟨h1,h2⟩:=AD hE hf hx eL
 obtain⟨g1,g2⟩:=Cv (w:=w) (G:=G) h1 h2
 obtain⟨pf,hL⟩:=ef _ _ _ _ hc
 have ev:=hE.fn _ _ dg
 refine O5 nm ho hf dH g1 g2 hc ?_ hk
 have:=BM hF hL (xs.map a.eval) w
 rw[ev] at this
 rw[ev]
 simp[execOp,cL,resolve,Act.eval,Deferred.ofValue,invoke]
 exact this
theorem b6d {L:Nat→Option PFunc} (hF:x7 N P L) (hE:EnvOk E N) (nm:Names vs (vS vs ops)) (ho:ops[j]? = some o) (hf:FI N w G st a vs (vS vs ops)) {cf:vZ} (dH:CallOK N P cf) (ef:∀k args h r,cf k args h=some r→∃f,L k=some f)
  {t:Tmp} {px:PX} {xs:Array Operand} {ts:Array TypeId} {pxs:List PX} (cL:o.op = .call { callee := .value (.tmp t),args:=xs,argTypes:=ts }) (fu:cx E vs ops (.tmp t)=some px) (hx:cxs E vs ops xs.toList=some pxs)
  (hs:vW cf (.callv px pxs) st=some (u,st1)) (hk:wn N w G a st1 u vs ops j o next):o.wp P a w next Q:=by
 simp only[vW] at hs
 split at hs
 ·rename_i k first captured us lO eL
  simp only[ab,ac] at hs
  obtain⟨⟨r,h'⟩,hc,rfl,rfl⟩:=hs
  obtain⟨h1,h2⟩:=AD hE hf hx eL
  obtain⟨g1,g2⟩:=Cv (w:=w) (G:=G) h1 h2
  obtain⟨pf,hL⟩:=ef _ _ _ _ hc
  have ij:=(wB hE fu hf lO).1
  generalize hv:a.eval (.tmp t)=v at ij
  cases ij with
  | yield _ _ _ _ _ _ hy=>rw[(dH.plain _ _ _ _ _ hc).1] at hy; simp at hy
  | func _ fs cs _ _ _ e1 e2 kM dY =>
    refine O5 (vals:=fs++xs.map a.eval++cs) nm ho hf dH (by simp[e1,e2]; simpa using h1) ?_ hc ?_ hk
    ·intro i v p dJ hp
     by_cases hi:i<fs.size
     ·rw[bU,bk hi] at dJ
      rw[aJ,al (by omega)] at hp
      exact kM i v p dJ hp
     ·rw[bU,bV (by omega)] at dJ
      rw[aJ,ap (by omega),← e1] at hp
      by_cases dK:i - fs.size<(xs.map a.eval).size
      ·rw[bk dK] at dJ
       rw[al (by omega)] at hp
       exact g2 _ v p dJ hp
      ·rw[bV (by omega)] at dJ
       rw[ap (by omega),← g1] at hp
       exact dY _ v p dJ hp
    ·have:=BM hF hL (fs++xs.map a.eval++cs) w
     simp only[execOp,cL,resolve,Sem.run_bind,hv,Deferred.ofValue,Sem.run_pure,Result.andThen_ok,invoke]
     exact this
 ·simp at hs
theorem c0R {L:Nat→Option PFunc} (hF:x7 N P L) (hE:EnvOk E N) (hP:E.P=P) (nm:Names vs (vS vs ops)) (ho:ops[j]? = some o) (hf:FI N w G st a vs (vS vs ops)) {cf:vZ} (dH:CallOK N P cf)
  (ef:∀k args h r,cf k args h=some r→∃f,L k=some f) {po:HOp} (hc:HC E vs ops o=some po) (hs:vW cf po st=some (u,st1)) (hk:wn N w G a st1 u vs ops j o next):o.wp P a w next Q:=by
 subst hP
 unfold HC at hc
 split at hc
 ·rename_i t cL
  split at hc
  ·simp at hc
  ·split at hc
   ·rename_i hb
    simp only[aa] at hc
    subst hc
    exact b6l hE rfl nm ho hf cL hb hs hk
   ·simp only[ab] at hc
    obtain⟨z,hz,rfl⟩:=hc
    exact b6e nm ho hf cL hz hs hk
 ·rename_i t x cL
  split at hc
  ·simp at hc
  ·simp only[af,ab] at hc
   obtain⟨n,hn,p,hp,rfl⟩:=hc
   exact b6f hE nm ho hf cL hn hp hs hk
 ·rename_i t x cL
  split at hc
  ·simp only[af,ab] at hc
   obtain⟨n,hn,p,hp,rfl⟩:=hc
   exact b7o hE nm ho hf cL hn hp hs hk
  ·split at hc
   ·simp only[af,ab] at hc
    obtain⟨n,hn,p,hp,rfl⟩:=hc
    exact b7q hE nm ho hf cL hn hp hs hk
   ·simp at hc
 ·rename_i t x y cL
  split at hc
  ·rename_i hd
   simp only[af,ab] at hc
   obtain⟨n,hn,p,hp,q,hq,hc⟩:=hc
   split at hc
   ·subst hc
    exact b4x hE nm ho hf cL hd.1 hn hp hq hs hk
   ·subst hc
    exact O9 hE nm ho hf cL hd.1 hn hp hq hs hk
  ·simp at hc
 ·rename_i t x i cL
  split at hc
  ·rename_i len e hu
   split at hc
   ·simp only[af,ab] at hc
    obtain⟨n,hn,p,hp,q,hq,rfl⟩:=hc
    exact b6g hE nm ho hf cL hu hn hp hq hs hk
   ·simp at hc
  ·simp at hc
 ·rename_i t cL
  split at hc
  ·simp at hc
  ·simp only[aa] at hc
   subst hc
   exact b7n nm ho hf cL hs hk
 ·rename_i t m k ok cL
  split at hc
  ·rename_i kt e hu
   simp only[af,ab] at hc
   obtain⟨kk,eO,z,hz,p,hp,q,hq,rfl⟩:=hc
   exact b6i hE nm ho hf cL hu eO hz hp hq hs hk
  ·simp at hc
 ·rename_i t m k v cL
  split at hc
  ·rename_i kt e hu
   split at hc
   ·rename_i hd
    simp only[af,ab] at hc
    obtain⟨kk,eO,p,hp,q,hq,r,hr,rfl⟩:=hc
    exact Pa hE nm ho hf (.inl cL) hd hu eO hp hq hr hs hk
   ·simp at hc
  ·simp at hc
 ·rename_i t m k v cL
  split at hc
  ·rename_i kt e hu
   split at hc
   ·rename_i hd
    simp only[af,ab] at hc
    obtain⟨kk,eO,p,hp,q,hq,r,hr,rfl⟩:=hc
    exact Pa hE nm ho hf (.inr cL) hd hu eO hp hq hr hs hk
   ·simp at hc
  ·simp at hc
 ·rename_i op t x y t' cL
  split at hc
  ·rename_i cP
   simp only[af,ab] at hc
   obtain⟨kd,vG,p,hp,rfl⟩:=hc
   exact b7p hE nm ho hf cL cP vG hp hs hk
  ·simp at hc
 ·rename_i x cL
  simp only[ab] at hc
  obtain⟨p,hp,rfl⟩:=hc
  exact b6k hE nm ho hf cL hp hs hk
 ·rename_i t l c' cL
  split at hc
  ·rename_i e hu
   split at hc
   ·rename_i size z hn hz
    split at hc
    ·simp at hc
    ·rename_i cP
     simp only[bu,not_or,Bool.not_eq_true,Bool.not_eq_false'] at cP
     simp only[ab] at hc
     obtain⟨p,hp,rfl⟩:=hc
     exact b7r hE nm ho hf cL hu hn hz cP.2 hp hs hk
   ·simp at hc
  ·simp at hc
 ·rename_i t x cL
  split at hc
  ·rename_i hu
   split at hc
   ·simp at hc
   ·simp only[ab] at hc
    obtain⟨p,hp,rfl⟩:=hc
    exact b7s hE nm ho hf cL hu hp hs hk
  ·simp at hc
 ·rename_i x cL
  split at hc
  ·simp at hc
  ·simp only[ab] at hc
   obtain⟨p,hp,rfl⟩:=hc
   exact b9l hE nm ho hf cL hp hs hk
 ·rename_i t parts cL
  split at hc
  ·rename_i n e hu
   split at hc
   ·rename_i size z hn hz
    simp only[ab] at hc
    obtain⟨ps,d4,rfl⟩:=hc
    exact b9i hE nm ho hf cL hu hn hz d4 hs hk
   ·simp at hc
  ·simp at hc
 ·rename_i t x i cL
  split at hc
  ·rename_i len e hu
   simp only[af,ab] at hc
   obtain⟨n,hn,p,hp,q,hq,rfl⟩:=hc
   exact b9j hE nm ho hf cL hu hn hp hq hs hk
  ·simp at hc
 ·rename_i fn xs ys cL
  split at hc
  ·simp at hc
  ·simp only[af,ab] at hc
   obtain⟨f,ev,k,dg,ps,d4,qs,jC,rfl⟩:=hc
   have:fn = .func f:=by
    unfold KM at ev
    split at ev
    ·simp at ev; subst ev; rfl
    ·simp at ev
   subst this
   exact b6j hE nm ho hf cL dg d4 jC hs hk
 ·rename_i args ts cL
  obtain⟨args⟩:=args
  obtain⟨ts⟩:=ts
  split at hc
  ·rename_i s x t1 t2 dE ej
   simp only at dE ej
   subst dE ej
   split at hc
   ·split at hc
    ·rename_i e e' hu eM
     split at hc
     ·rename_i size z hn hz
      simp only[af,ab] at hc
      obtain⟨p,hp,q,hq,rfl⟩:=hc
      exact b9m hE nm ho hf cL hu eM hn hz hp hq hs hk
     ·simp at hc
    ·rename_i e k0 hu eM
     split at hc
     ·rename_i size z hn hz
      simp only[af,ab] at hc
      obtain⟨p,hp,q,hq,rfl⟩:=hc
      exact b7t hE nm ho hf cL hu eM hn hz hp hq hs hk
     ·simp at hc
    ·simp at hc
   ·simp at hc
  ·simp at hc
 ·rename_i args ts cL
  obtain⟨args⟩:=args
  obtain⟨ts⟩:=ts
  split at hc
  ·rename_i x t rest dE ej
   simp only at dE ej
   subst dE ej
   split at hc
   ·rename_i e hu
    split at hc
    ·rename_i eF
     simp only[af,ab] at hc
     obtain⟨size,hn,z,hz,p,hp,rfl⟩:=hc
     have dU:o.dst=none:=by
      unfold isN wv at eF
      split at eF
      ·rename_i hd
       split at hd
       ·assumption
       ·split at hd<;>simp at hd
      ·simp at eF
     exact b7u hE nm ho hf dU cL hu hn hz hp hs hk
    ·simp at hc
   ·simp at hc
  ·simp at hc
 ·rename_i args ts cL
  obtain⟨args⟩:=args
  obtain⟨ts⟩:=ts
  split at hc
  ·rename_i x t rest dE ej
   simp only at dE ej
   subst dE ej
   split at hc
   ·rename_i kt e hu
    split at hc
    ·simp at hc
    ·simp only[ab] at hc
     obtain⟨p,hp,rfl⟩:=hc
     exact b9g hE nm ho hf cL rfl hu hp hs hk
   ·simp at hc
  ·simp at hc
 ·rename_i f args ts cL
  split at hc
  ·simp only[af,ab] at hc
   obtain⟨k,dg,ps,d4,rfl⟩:=hc
   split at hs
   ·refine O8 hF hE nm ho hf dH ef cL dg d4 ?_ hk
    simp only[vW,af,same] at hs ⊢
    obtain⟨us,h1,r,h2,h3⟩:=hs
    split at h3
    ·rename_i he
     simp only[aa,ac] at h3
     obtain⟨rfl,rfl⟩:=h3
     exact⟨us,h1,by rw[h2,ay,he]⟩
    ·simp at h3
   ·exact O8 hF hE nm ho hf dH ef cL dg d4 hs hk
  ·simp at hc
 ·rename_i t args ts cL
  split at hc
  ·simp only[af,ab] at hc
   obtain⟨p,hp,ps,d4,rfl⟩:=hc
   exact b6d hF hE nm ho hf dH ef cL hp d4 hs hk
  ·simp at hc
 ·simp at hc
theorem c2K {L:Nat→Option PFunc} (hF:x7 N P L) (hE:EnvOk E N) (hP:E.P=P) (nm:Names vs (vS vs ops)) (ho:ops[j]? = some o) (hf:FI N w G st a vs (vS vs ops)) {cf:vZ} (dH:CallOK N P cf)
  (ef:∀k args h r,cf k args h=some r→∃f,L k=some f) {po:POp} (hc:cOp E vs ops o=some po) (hs:opv cf po st=some (u,st1)) (hk:wn N w G a st1 u vs ops j o next):o.wp P a w next Q:=by
 unfold cOp at hc
 simp only at hc
 split at hc
 ·rename_i h qE
  simp only[aa] at hc
  subst hc
  exact c0R hF hE hP nm ho hf dH ef qE (by simpa[opv] using hs) hk
 rename_i ed
 subst hP
 split at hc
 ·
  rename_i x cL
  simp only[ab] at hc
  obtain⟨p,hp,rfl⟩:=hc
  split at hs
  ·exact OX hE nm ho hf (by simp[execOp,cL]) hp (by simpa[opv] using hs) hk
  ·exact c0L hE nm ho hf (by simp[execOp,cL]) hp (by simpa[opv] using hs) hk
 ·rename_i x cL
  simp only[ab] at hc
  obtain⟨p,hp,rfl⟩:=hc
  exact OX hE nm ho hf (by simp[execOp,cL]) hp (by simpa[opv] using hs) hk
 ·rename_i x y z cL
  simp only[af,ab] at hc
  obtain⟨px,fu,pa,nC,pb,vH,rfl⟩:=hc
  exact b88 hE nm ho hf cL fu nC vH hs hk
 ·rename_i t cL
  split at hc
  ·rename_i hv
   simp only[ab] at hc
   obtain⟨z,hz,rfl⟩:=hc
   exact b56 nm ho hf cL hz hv hs hk
  ·simp at hc
 ·rename_i t x cL
  split at hc
  ·rename_i hv
   simp only[af,ab] at hc
   obtain⟨n,hn,p,hp,rfl⟩:=hc
   exact b57 hE nm ho hf cL hn hp hv hs hk
  ·simp at hc
 ·rename_i t parts cL
  split at hc
  ·rename_i fs z hu hz
   split at hc
   ·rename_i places fN
    simp only[ab] at hc
    obtain⟨ps,d4,rfl⟩:=hc
    exact b7f hE nm ho hf cL hu hz fN d4 hs hk
   ·simp at hc
  ·simp at hc
 ·rename_i t len parts cL
  split at hc
  ·rename_i e hu
   split at hc
   ·rename_i size z hn hz
    split at hc
    ·rename_i cK
     simp only[ab] at hc
     obtain⟨ps,d4,rfl⟩:=hc
     exact b4r hE nm ho hf cL hu hn hz cK d4 hs hk
    ·simp at hc
   ·simp at hc
  ·simp at hc
 ·rename_i t x cL
  simp only[af,ab] at hc
  obtain⟨n,hn,p,hp,rfl⟩:=hc
  split at hs
  ·refine O1 (tk:=false) (cf:=cf) hE nm ho hf cL hn hp ?_ hk
   simp only[opv] at hs ⊢
   split at hs
   ·rename_i s' g off dA
    split at hs
    ·rename_i g' cs hv
     split at hs
     ·rename_i hc
      obtain⟨rfl,rfl⟩:=hc
      simp only[dA,hv,if_true,bI]
      exact hs
     ·simp at hs
    ·simp at hs
   ·simp at hs
  ·exact O1 hE nm ho hf cL hn hp hs hk
 ·rename_i t x y cL
  split at hc
  ·rename_i hd
   simp only[af,ab] at hc
   obtain⟨n,hn,p,hp,q,hq,rfl⟩:=hc
   exact b7g hE nm ho hf cL hd hn hp hq hs hk
  ·simp at hc
 ·rename_i s x f cL
  split at hc
  ·rename_i fs hu
   split at hc
   ·rename_i fd fF
    simp only[af,ab] at hc
    obtain⟨n,hn,p,hp,rfl⟩:=hc
    exact b7d hE nm ho hf cL hu fF hn hp hs hk
   ·simp at hc
  ·simp at hc
 ·rename_i t x i cL
  split at hc
  ·rename_i e hu
   simp only[af,ab] at hc
   obtain⟨n,hn,p,hp,q,hq,rfl⟩:=hc
   exact b5W hE nm ho hf cL hu hn hp hq hs hk
  ·rename_i len e hu
   simp only[af,ab] at hc
   obtain⟨n,hn,p,hp,q,hq,rfl⟩:=hc
   exact b5X hE nm ho hf cL hu hn hp hq hs hk
  ·simp at hc
 ·rename_i t x f cL
  split at hc
  ·rename_i fs hu
   split at hc
   ·rename_i fd fF
    simp only[af,ab] at hc
    obtain⟨n,hn,p,hp,rfl⟩:=hc
    exact b7e hE nm ho hf cL hu fF hn hp hs hk
   ·simp at hc
  ·simp at hc
 ·rename_i t x i cL
  split at hc
  ·rename_i hu
   simp only[af,ab] at hc
   obtain⟨p,hp,q,hq,rfl⟩:=hc
   exact b27 hE nm ho hf cL hu hp hq hs hk
  ·simp at hc
 ·rename_i t x lo hi cL
  split at hc
  ·rename_i hu
   simp only[af,ab] at hc
   obtain⟨p,hp,pl,hl,ph,hh,rfl⟩:=hc
   exact b53 hE nm ho hf cL hu hp hl hh hs hk
  ·rename_i e hu
   simp only[af,ab] at hc
   obtain⟨n,hn,p,hp,pl,hl,ph,hh,rfl⟩:=hc
   exact b54 hE nm ho hf cL hu hn hp hl hh hs hk
  ·rename_i n e hu
   split at hc
   ·have hn:wx E.P e=some 1:=by assumption
    simp only[ab] at hc
    obtain⟨p,hp,rfl⟩:=hc
    exact b28 hE nm ho hf cL hu hn hp hs hk
   ·simp at hc
  ·simp at hc
 ·rename_i op t x y t' cL
  split at hc
  ·rename_i fM
   split at hc
   ·rename_i agg ks ht
    simp only[af,ab] at hc
    obtain⟨p,hp,q,hq,rfl⟩:=hc
    exact c2H hE rfl nm ho hf cL fM ht hp hq hs hk
   ·simp only[af,ab] at hc
    obtain⟨p,hp,q,hq,rfl⟩:=hc
    exact OR hE nm ho hf cL hp hq hs hk
   ·simp at hc
  ·simp only[af,ab] at hc
   obtain⟨p,hp,q,hq,rfl⟩:=hc
   exact OR hE nm ho hf cL hp hq hs hk
 ·rename_i op t x cL
  simp only[ab] at hc
  obtain⟨p,hp,rfl⟩:=hc
  exact c2I hE nm ho hf cL hp hs hk
 ·rename_i s t x cL
  split at hc
  ·rename_i k' k hu eM
   simp only[ab] at hc
   obtain⟨p,hp,rfl⟩:=hc
   exact b4o hE nm ho hf cL hu eM hp hs hk
  ·rename_i hu eM
   simp only[ab] at hc
   obtain⟨p,hp,rfl⟩:=hc
   exact b9a hE nm ho hf cL hu eM hp hs hk
  ·rename_i e hu eM
   split at hc
   ·rename_i he
    split at hc
    ·simp at hc
    ·rename_i dj
     have gt:wv vs o.dst≠.n:=by intro e; rw[e] at dj; simp[isN] at dj
     simp only[ab] at hc
     obtain⟨p,hp,rfl⟩:=hc
     exact c0W hE nm ho hf cL gt hu eM he hp hs hk
   ·simp at hc
  ·rename_i e hu eM
   split at hc
   ·rename_i he
    simp only[ab] at hc
    obtain⟨p,hp,rfl⟩:=hc
    exact c0P hE nm ho hf cL hu he eM hp hs hk
   ·simp at hc
  ·simp at hc
 ·rename_i x i cL
  simp only[ab] at hc
  obtain⟨p,hp,rfl⟩:=hc
  exact b4p hE nm ho hf cL hp hs hk
 ·rename_i b args ts cL
  split at hc
  ·simp at hc
  ·rename_i dj
   have gt:wv vs o.dst≠.n:=by intro e; rw[e] at dj; simp[isN] at dj
   obtain⟨args⟩:=args
   obtain⟨ts⟩:=ts
   unfold KL at hc
   split at hc
   ·rename_i x t rest hb dE ej
    simp only at dE ej
    subst dE ej
    split at hc
    ·rename_i hu
     simp only[ab] at hc
     obtain⟨p,hp,rfl⟩:=hc
     exact OT hE nm ho hf cL rfl (str:=true) (by simpa using hu) hp hs hk
    ·rename_i e hu
     simp only[ab] at hc
     obtain⟨p,hp,rfl⟩:=hc
     exact OT hE nm ho hf cL rfl (str:=false) (by simpa using⟨e,hu⟩) hp hs hk
    ·simp at hc
   ·simp only[ab] at hc
    obtain⟨p,hp,rfl⟩:=hc
    exact OW (mx:=false) hE nm ho hf cL hp hs hk
   ·simp only[ab] at hc
    obtain⟨p,hp,rfl⟩:=hc
    exact OW (mx:=true) hE nm ho hf cL hp hs hk
   ·rename_i x t rest hb dE ej
    simp only at dE ej
    subst dE ej
    split at hc
    ·rename_i e hu
     simp only[ab] at hc
     obtain⟨p,hp,rfl⟩:=hc
     exact c0M hE nm ho hf cL rfl hu hp hs hk
    ·simp at hc
   ·rename_i s x t1 t2 hb dE ej
    simp only at dE ej
    subst dE ej
    split at hc
    ·rename_i e e' hu eM
     split at hc
     ·rename_i size z hn hz
      simp only[af,ab] at hc
      obtain⟨p,hp,q,hq,rfl⟩:=hc
      exact b59 hE nm ho hf cL gt hu eM hn hz hp hq hs hk
     ·simp at hc
    ·rename_i e hu eM
     split at hc
     ·rename_i z he hn hz eH
      simp only[af,ab] at hc
      obtain⟨p,hp,q,hq,rfl⟩:=hc
      exact b6b hE nm ho hf cL gt hu eM hn hz eH hp hq hs hk
     ·simp at hc
    ·simp at hc
   ·simp at hc
 ·rename_i f args ts cL
  simp only[af,ab] at hc
  obtain⟨k,dg,ps,d4,rfl⟩:=hc
  split at hs
  ·split at hs
   ·simp[BN,opv,rd,raw,cp] at hs
   ·rename_i dj
    exact b6c hF hE nm ho (by intro e; rw[e] at dj; simp[isN] at dj) hf dH ef cL dg d4 hs hk
  ·exact b7j hF hE nm ho hf dH ef cL dg d4 hs hk
 ·rename_i t args ts cL
  simp only[af,ab] at hc
  obtain⟨p,hp,ps,d4,rfl⟩:=hc
  exact b7l hF hE nm ho hf dH ef cL hp d4 hs hk
 ·simp at hc
end
section
variable {E:Env} {N:Nm} {w:World} {G:GS} {st:St} {a:Act} {vs:List Tmp} {P:Program} {ops:Array Oper}
variable {o:Oper} {j:Nat} {Q:Exit→Act→World→Prop} {st1:St}
abbrev Next1 (N:Nm) (w:World) (G:GS) (a:Act) (st1:St) (vs:List Tmp) (ops:List Oper) (K:Act→World→Prop):Prop:=
 ∀a' w' G',FI N w' G' st1 a' vs (vS vs ops)→Ext w G w' G'→a'.tmps.size=a.tmps.size→K a' w'
theorem FC {L:Nat→Option PFunc} (hF:x7 N P L) (hE:EnvOk E N) (hP:E.P=P) (nm:Names vs (vS vs ops.toList)) (ho:ops[j]? = some o) (hf:FI N w G st a vs (vS vs ops.toList)) {cf:vZ} (dH:CallOK N P cf)
  (ef:∀k args h r,cf k args h=some r→∃f,L k=some f) {po:PO} (hc:Cx E vs ops.toList o=some po) (hs:xn cf j po st=some st1) {K:Act→World→Prop} (hk:Next1 N w G a st1 vs ops.toList K):wpOp P ops Q j K a w:=by
 have eE:ops.toList[j]? = some o:=by simpa using ho
 simp only[Cx,ab] at hc
 obtain⟨g,hg,rfl⟩:=hc
 generalize ng:(cOp E vs ops.toList o).getD BN=p at hs
 unfold wpOp
 simp only[ho]
 have run:∀{st1},(opv cf p st).map (λr=>put r.2 j (wv vs o.dst) r.1)=some st1→Next1 N w G a st1 vs ops.toList K→o.wp P a w K Q:=by
  intro st1 h hk
  simp only[ab] at h
  obtain⟨⟨u,st2⟩,h1,rfl⟩:=h
  cases ft:cOp E vs ops.toList o with
  | none =>
    rw[ft] at ng
    simp only[Option.getD_none] at ng
    subst ng
    simp[BN,opv,rd,raw,cp] at h1
  | some p' =>
    rw[ft] at ng
    simp only[bL] at ng
    subst ng
    exact c2K hF hE hP nm eE hf dH ef ft h1 hk
 unfold KN at hg
 split at hg
 ·rename_i rW
  simp at hg; subst hg
  simp only[xn] at hs
  rw[ah (by simp[Region.wanted,rW])]
  exact .inl (run hs hk)
 ·rename_i jj want tz
  split at hg
  ·rename_i og tB
   split at hg
   ·rename_i t ht
    simp only[ab] at hg
    obtain⟨px,fu,rfl⟩:=hg
    simp only[xn] at hs
    split at hs
    ·rename_i b hb
     have eu:=(wB hE fu hf hb).1
     have eJ:a.eval (.tmp t) = .bool b:=by generalize a.eval (.tmp t)=z at eu; cases eu; rfl
     have hy:yielded ops a.tmps jj=some b:=by
      have h1:ops[jj]? = some og:=by simpa using tB
      have h2:a.tmps[t]? = some (.bool b):=by
       simp only[Act.eval,aK] at eJ
       cases h:a.tmps[t]? with
       | none=>rw[h] at eJ; simp[undef] at eJ
       | some z=>rw[h] at eJ; simpa using eJ
      simp[yielded,h1,ht,h2]
     have hw:Region.wanted o (yielded ops a.tmps)=(b==want):=by
      simp[Region.wanted,tz,hy]
     rw[hw]
     split at hs
     ·rename_i mi
      rw[ah (by simpa using mi)]
      exact .inl (run hs hk)
     ·rename_i mi
      rw[ae (by simpa using mi)]
      simp at hs; subst hs
      exact hk _ _ G (hf.put nm (yI eE) (.tuple #[] [] rfl (by intro i c p h _; simp at h))) (Ext.refl _ _) (yJ _ _ _)
    ·rename_i hb
     have eu:=(wB hE fu hf hb).1
     have eJ:a.eval (.tmp t) = .tuple #[]:=by
      generalize a.eval (.tmp t)=z at eu
      cases eu with
      | tuple cs _ cK _=>simp at cK; rw[cK]
     have hy:yielded ops a.tmps jj=none:=by
      have h1:ops[jj]? = some og:=by simpa using tB
      simp only[Act.eval,aK] at eJ
      cases h:a.tmps[t]? with
      | none=>simp[yielded,h1,ht,h]
      | some z=>rw[h] at eJ; simp at eJ; subst eJ; simp[yielded,h1,ht,h]
     have hw:Region.wanted o (yielded ops a.tmps)=false:=by
      simp[Region.wanted,tz,hy]
     rw[hw]
     simp at hs; subst hs
     exact hk _ _ G (hf.put nm (yI eE) (.tuple #[] [] rfl (by intro i c p h _; simp at h))) (Ext.refl _ _) (yJ _ _ _)
    ·simp at hs
   ·simp at hg
  ·simp at hg
theorem Next1.trans {w':World} {G':GS} {a':Act} {K:Act→World→Prop} {vs':List Tmp} {ops':List Oper} (h:Next1 N w G a st1 vs' ops' K) (e:Ext w G w' G') (hs:a'.tmps.size=a.tmps.size):Next1 N w' G' a' st1 vs' ops' K:=
 λa2 w2 G2 h1 h2 h3=>h a2 w2 G2 h1 (e.trans h2) (h3.trans hs)
theorem B8:∀{os:List Oper} {pos:List PO} {ops:List Oper},BK E vs ops os=some pos→os.length=pos.length∧∀(i:Nat) (o:Oper),os[i]? = some o→∃p,pos[i]? = some p∧Cx E vs ops o=some p
 | [],pos,ops,h=>by simp[BK] at h; subst h; simp
 | o :: os, pos, ops, h => by
   simp only[BK,af,ab] at h
   obtain⟨p,hp,ps,d4,rfl⟩:=h
   obtain⟨h1,h2⟩:=B8 d4
   refine⟨by simp[h1],?_⟩
   intro i o' eE
   cases i with
   | zero=>simp at eE; subst eE; exact⟨p,rfl,hp⟩
   | succ i=>simpa using h2 i o' (by simpa using eE)
noncomputable def xM (cf:vZ) (pos:List PO):List Nat→St→Option St
 | [],st=>some st
 | i :: l, st =>
   match pos[i]? with
   | some p=>(xn cf i p st).bind (xM cf pos l)
   | none=>none
theorem Fz {cf:vZ} {all:List PO}:∀{pos:List PO} {j:Nat} {st:St},all.drop j=pos→yc cf j pos st=xM cf all (List.range' j pos.length) st
 | [],j,st,_=>by simp[yc,xM]
 | p :: pos, j, st, h => by
   have h1:all[j]? = some p:=by
    have:=aD List.head? h; simpa[List.head?_drop] using this
   have h2:all.drop (j+1)=pos:=by have:=aD List.tail h; simpa[List.tail_drop] using this
   simp only[yc,bc,List.range'_succ,xM,h1]
   congr 1
   funext st'
   exact Fz h2
theorem Hs {L:Nat→Option PFunc} (hF:x7 N P L) (hE:EnvOk E N) (hP:E.P=P) (nm:Names vs (vS vs ops.toList)) {cf:vZ} (dH:CallOK N P cf)
  (ef:∀k args h r,cf k args h=some r→∃f,L k=some f) {pos:List PO} (hc:BK E vs ops.toList ops.toList=some pos):
  ∀{l:List Nat} {st st':St} {w:World} {G:GS} {a:Act},xM cf pos l st=some st'→FI N w G st a vs (vS vs ops.toList)→Next1 N w G a st' vs ops.toList (Q .normal)→wpOps P ops Q l a w
 | [], st, st', w, G, a, h, hf, hk => by
   simp[xM] at h; subst h
   exact hk _ _ G hf (Ext.refl _ _) rfl
 | i :: l, st, st', w, G, a, h, hf, hk => by
   simp only[xM] at h
   split at h
   ·rename_i p hp
    simp only[af] at h
    obtain⟨st1,h1,h2⟩:=h
    have cO:i<ops.toList.length:=by rw[(B8 hc).1]; exact(aj.1 hp).1
    obtain⟨p',ek,ft⟩:=(B8 hc).2 i ops.toList[i] (aq cO)
    have:p'=p:=by rw[hp] at ek; simpa using ek.symm
    subst this
    rw[wpOps_cons]
    refine FC hF hE hP nm (o:=ops.toList[i]) (by simp) hf dH ef ft h1 ?_
    intro a' w' G' iQ he hs
    exact Hs hF hE hP nm dH ef hc h2 iQ (hk.trans he hs)
   ·simp at h
end
theorem Hu {t:Tmp} {vs:List Tmp} {i:Nat} (h:vs[i]? = some t):∀n,(xH t vs n).isSome=true:=by
 induction vs generalizing i with
 | nil=>simp at h
 | cons x xs ih =>
   intro n
   simp only[xH]
   split
   ·rfl
   ·rename_i c9
    cases i with
    | zero=>simp at h; exact absurd h c9
    | succ i=>exact ih (by simpa using h) (n+1)
theorem OP {vs:List Tmp}:∀{ops:List Oper},B5 vs ops=true→∀(j j':Nat) (o o':Oper) (t:Tmp),ops[j]? = some o→ops[j']? = some o'→o.dst=some t→o'.dst=some t→(xH t vs 0).isSome=false→j=j'
 | [],_,j,_,_,_,_,h,_,_,_,_=>by simp at h
 | x :: xs, h, j, j', o, o', t, h1, h2, h3, h4, h5 => by
   simp only[B5,am] at h
   obtain⟨ha,hb⟩:=h
   have key:∀(m:Nat) (p:Oper),xs[m]? = some p→x.dst=some t→p.dst≠some t:=by
    intro m p hm hx
    rw[hx] at ha
    simp only[h5,Bool.false_or,aG,bne_iff_ne,ne_eq] at ha
    exact ha p (av hm)
   cases j with
   | zero =>
     simp at h1; subst h1
     cases j' with
     | zero=>rfl
     | succ m=>exact absurd h4 (key m o' (by simpa using h2) h3)
   | succ m =>
     cases j' with
     | zero=>simp at h2; subst h2; exact absurd h3 (key m o (by simpa using h1) h4)
     | succ m'=>rw[OP hb m m' o o' t (by simpa using h1) (by simpa using h2) h3 h4 h5]
theorem Fy {vs:List Tmp} {ops:List Oper} (hn:vs.Nodup) (ho:B5 vs ops=true):Names vs (vS vs ops):=by
 have sp:∀j t,vS vs ops j=some t→∃o,ops[j]? = some o∧o.dst=some t∧(xH t vs 0).isSome=false:=by
  intro j t h
  unfold vS at h
  split at h
  ·rename_i o ho
   split at h
   ·rename_i t' jf
    split at h
    ·simp at h
    ·rename_i hi
     simp at h; subst h
     exact⟨o,ho,jf,by simpa using hi⟩
   ·simp at h
  ·simp at h
 refine⟨?_,?_,?_⟩
 ·intro i i' t h1 h2
  obtain⟨hi,e1⟩:=aj.1 h1
  obtain⟨il,e2⟩:=aj.1 h2
  exact(List.getElem_inj hn).1 (e1.trans e2.symm)
 ·intro j t i h1 h2
  obtain⟨o,_,_,h3⟩:=sp j t h1
  have:=Hu h2 0
  rw[h3] at this; simp at this
 ·intro j j' t h1 h2
  obtain⟨o,a1,a2,a3⟩:=sp j t h1
  obtain⟨o',b1,b2,_⟩:=sp j' t h2
  exact OP ho j j' o o' t a1 b1 a2 b2 a3
end PI
