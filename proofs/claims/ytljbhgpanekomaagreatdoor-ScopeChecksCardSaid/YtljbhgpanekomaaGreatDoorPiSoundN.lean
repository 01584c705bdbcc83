import Derived.Test.YtljbhgpanekomaaGreatDoorPiSound8
import Derived.Laws.MakeOwn
import Derived.Laws.RangeString
import Derived.Orders
import Derived.LoopN
set_option maxRecDepth 100000
set_option linter.unusedSimpArgs false
set_option linter.unusedVariables false
set_option linter.unusedSectionVars false
namespace PI
open Go
section
variable {E:Env} {N:Nm} {w:World} {G:GS} {st:St} {a:Act} {vs:List Tmp} {ops:List Oper} {P:Program}
variable {o:Oper} {j:Nat} {next:Act→World→Prop} {Q:Exit→Act→World→Prop} {u:PV} {st1:St}
theorem LX {α:Type} (l:List α):∀(n k:Nat),(List.replicate n l).flatten[k]? = if k<n*l.length then l[k % l.length]? else none
 | 0,k=>by simp
 | n + 1, k => by
   have ih:=LX l n (k - l.length)
   have e:(n+1)*l.length=n*l.length+l.length:=Nat.succ_mul _ _
   rw[List.replicate_succ,List.flatten_cons,List.getElem?_append,ih,e]
   by_cases hk:k<l.length
   ·have:k<n*l.length+l.length:=by omega
    simp only[hk,this,Nat.mod_eq_of_lt hk,if_true]
   ·have hm:(k - l.length) % l.length=k % l.length:=(Nat.mod_eq_sub_mod (by omega)).symm
    by_cases h2:k - l.length<n*l.length
    ·have:k<n*l.length+l.length:=by omega
     simp only[hk,h2,this,if_true,if_false,hm]
    ·have:¬k<n*l.length+l.length:=by omega
     simp only[hk,h2,this,if_false]
theorem c1s {x y:Operand} (h:GD x y=true) {k:IntKind} {n:Int} (hx:a.eval x = .int k n):∃k',a.eval y = .int k' n:=by
 unfold GD at h
 split at h
 ·simp at h; subst h; exact⟨k,hx⟩
 ·simp at h; subst h
  simp only[Act.eval] at hx ⊢
  cases hx
  exact⟨_,rfl⟩
 ·simp at h
theorem b9t (hE:EnvOk E N) (nm:Names vs (wq vs ops)) (ho:ops[j]? = some o) (hf:FI N w G st a vs (wq vs ops)) {t e:TypeId} {l c:Operand} {px:PX} {size:Nat} {z:List PV} (cK:o.op = .makeSlice t l c)
  (hu:P.underlying t=some (.slice e)) (hn:wT P e=some size) (hz:yE P e=some z) (ee:GD l c=true) (hx:cx E vs ops l=some px) {cf:wE} (hs:wx cf (.mkarr size (xu P e) (P.bytesOf e) z px) st=some (u,st1)) (hk:wN N w G a st1 u vs ops j o next):o.wp P a w next Q:=by
 simp only[wx] at hs
 split at hs
 ·rename_i n eP
  split at hs
  ·rename_i hc
   obtain⟨h0,hb,hm⟩:=hc
   simp only[aa,ac] at hs
   obtain⟨rfl,rfl⟩:=hs
   obtain⟨k,hl⟩:=B0 hE hx hf eP
   obtain⟨k',qJ⟩:=c1s ee hl
   obtain⟨i,d,hi,gV,fE,hd⟩:=zu hn
   obtain⟨i2,zv,dS,jE,_,j5,gW,_⟩:=Ct (N:=N) (w:=w) (fix:=G.fix) (hp:=G.heap) hz
   have:i2=i:=by rw[hi] at dS; simpa using dS.symm
   subst this
   subst gV
   have gB:zv.cells.size=i2.size:=by have:=gW.1; simp at this; omega
   have ik:P.bytesOf e=i2.bytes:=by simp[Program.bytesOf,hi]
   rw[ik] at hb
   have cL:=run_make (P:=P) w t e i2 zv hu hi jE k k' n n h0 (Int.le_refl _) hb hm
   refine EL (mob := .cells (madeCells zv.cells (n.toNat*i2.size)) e) (v := .slice (some ⟨w.heap.size,0,none⟩) n.toNat n.toNat) nm ho hf ?_ ?_ (λG' hG cH=>LR hf ?_ ?_ hG cH) hk
   ·simp[execOp,cK,hl,qJ,cL]
   ·rintro G' rfl
    refine .rowp _ _ _ _ w.heap.size _ (by simp[GS.more]) (aq _) ⟨e,n.toNat*i2.size,?_,aq _⟩
    simp only[World.shape?,Bg,size_madeCells]
   ·intro k c x hc hx
    rw[LX] at hx
    have gF:z.length=i2.size:=by have:=gW.1; simp at this; omega
    rw[gF] at hx
    split at hx
    ·rename_i cO
     have jg:k % i2.size<i2.size:=bZ _ (by omega)
     have iR:c=zv.cells[k % i2.size]! := by
      simp only[madeCells,bN,ab] at hc
      obtain⟨a',ha,rfl⟩:=hc
      have:a'=k:=by
       obtain⟨h1,h2⟩:=aX.1 ha
       simpa using h2.symm
      rw[this,gB]
     have nQ:zv.cells[k % i2.size]? = some c:=by
      rw[iR]
      have:k % i2.size<zv.cells.size:=by omega
      simp[this]
     refine⟨gW.2.2 _ c x (by simpa using nQ) hx,gW.2.1 x (aw hx),?_⟩
     rintro es rfl
     have iD:=hz
     unfold yE at iD
     simp only[hi,jE,ai] at iD
     obtain⟨cs',ea,iD⟩:=iD
     split at iD
     ·simp at iD; subst iD
      exact EH ea _ c es (by simpa using nQ) hx
     ·simp at iD
    ·simp at hx
   ·have gF:z.length=i2.size:=by have:=gW.1; simp at this; omega
    rw[size_madeCells]
    simp[List.length_flatten,gF]
  ·simp at hs
 ·simp at hs
theorem b8t (hE:EnvOk E N) (hP:E.P=P) (nm:Names vs (wq vs ops)) (ho:ops[j]? = some o) (hf:FI N w G st a vs (wq vs ops)) {t:TypeId} (cK:o.op = .alloc t) (hb:E.bT=some t) {cf:wE}
  (hs:wx cf .newbld st=some (u,st1)) (hk:wN N w G a st1 u vs ops j o next):o.wp P a w next Q:=by
 simp only[wx,aa,ac] at hs
 obtain⟨rfl,rfl⟩:=hs
 obtain⟨h1,i,h2,h3⟩:=hE.bt t hb
 rw[hP] at h2
 refine EL (mob := .cells #[.pointer none,.slice none 0 0] t) (v := .pointer (some ⟨w.heap.size,0,none⟩)) nm ho hf ?_ ?_ (λG' hG cH =>?_) hk
 ·simp[execOp,cK,Instr.alloc,zeroValue,typeInfo,h2,h3,newVar,newRow,Value.cells]
 ·rintro G' rfl
  exact .ptr _ _ w.heap.size (by simp[GS.more])
 ·subst hG
  refine⟨?_,.pointer none,.slice none 0 0,by rw[h1]; exact Bg,.inl rfl,.inl ⟨rfl,rfl⟩⟩
  intro o h
  have:=hf.fixlt _ _ h
  omega
theorem b9u (hE:EnvOk E N) (nm:Names vs (wq vs ops)) (ho:ops[j]? = some o) (hf:FI N w G st a vs (wq vs ops)) {t:TypeId} {x:Operand} {px:PX} (cK:o.op = .range t x)
  (hu:P.underlying t=some .string) (hx:cx E vs ops x=some px) {cf:wE} (hs:wx cf (.range px) st=some (u,st1)) (hk:wN N w G a st1 u vs ops j o next):o.wp P a w next Q:=by
 simp only[wx] at hs
 split at hs
 ·rename_i s hp
  simp only[aa,ac] at hs
  obtain⟨rfl,rfl⟩:=hs
  have h:=(wW hE hx hf hp).1
  generalize hv:a.eval x=v at h
  cases h with
  | str s =>
    refine EL (mob := .stringIter s 0) (v := .pointer (some ⟨w.heap.size,0,none⟩)) nm ho hf ?_ ?_ (λG' hG cH =>?_) hk
    ·have:=run_range_string (P:=P) w t s hu
     simp only[execOp,cK,hv,Sem.run_bind,Sem.run_map,this,Result.andThen_ok,Sem.run_pure]
     rfl
    ·rintro G' rfl
     exact .ptr _ _ w.heap.size (by simp[GS.more])
    ·subst hG
     refine⟨?_,s,Bg,rfl⟩
     intro o h
     have:=hf.fixlt _ _ h
     omega
 ·simp at hs
theorem c4V (nm:Names vs (wq vs ops)) (ho:ops[j]? = some o) (hf:FI N w G st a vs (wq vs ops)) {n b:Nat} {ob ob':PObj} {mob:Obj} {v:Value} (dF:st.heap[n]? = some ob) (hb:G.heap n=some b) (how:G.ow b=some (.hobj n))
  (ig:∀o,¬G.fix b o) (cL:(execOp a.eval o).run P w = .ok (.value v) { w with heap:=w.heap.setIfInBounds b mob }) (gp:w.shape? b=none∧zk w b=none)
  (hR:ObjR N { w with heap:=w.heap.setIfInBounds b mob } G n b ob')
  (hv:SR N { w with heap:=w.heap.setIfInBounds b mob } G (yA (wS vs o.dst) j) v u)
  (hk:wN N w G a (wV st n ob') u vs ops j o next):o.wp P a w next Q:=by
 unfold Oper.wp
 rw[cL]
 let w':World:={ w with heap:=w.heap.setIfInBounds b mob }
 have fp:b<w.heap.size:=hf.owlt _ _ how
 have cV:∀x,x≠b→w'.heap[x]? = w.heap[x]? := λx hx=>by
  simp only[w',aY]; rw[af (by omega)]
 have cH:Ext w G w' G:=by
  refine⟨rfl,rfl,rfl,by simp[w'],λx _ jA=>cV x (by rintro rfl; rw[how] at jA; simp at jA),?_,λ_ _ h => .inl h,λ_ h => .inr h,λ_ _ h=>h,.one b (λk _ hk=>cV k hk) (λs hx=>by rw[gp.1] at hx; simp at hx) (λs hx=>by rw[gp.2] at hx; simp at hx),rfl⟩
  intro x o' fC
  have gA:x≠b:=by rintro rfl; exact ig _ fC
  refine⟨fC,?_⟩
  simp only[World.cell?,cV x gA]
 have cM:xO (λk=>k = .hobj n) w G w' G:=by
  refine⟨?_,λ_ _ h=>h⟩
  intro x k hx gJ
  have gA:x≠b:=by rintro rfl; rw[how] at hx; simp at hx; exact gJ hx.symm
  exact⟨hx,cV x gA,λ_ h=>h⟩
 have de:FI N w' G (wV st n ob') a vs (wq vs ops):=by
  refine⟨hf.len,λi t' u' h1 h2=>(hf.var i t' u' h1 h2).keep cH cM (by simp) (by simp),λi t' u' h1 h2=>(hf.loc i t' u' h1 h2).keep cH cM (by simp) (by simp),hf.tv,hf.tl,hf.defers,hf.gen,?_,?_,?_,?_⟩
  ·intro b' k cW; simpa[w'] using hf.owlt _ _ cW
  ·intro b' k cW; simpa[w'] using hf.fixlt _ _ cW
  ·exact hf.heap.keepBut cH cM (λm k c9=>⟨by simp; omega,by simp⟩) (λ_ => .inr ⟨b,hb,how,hR⟩)
  ·intro m b' h; have:=hf.hdom _ _ h; simpa[wV] using this
 exact hk _ w' G (de.put nm (zK ho) hv) cH (zL _ _ _)
theorem c1t (hE:EnvOk E N) (nm:Names vs (wq vs ops)) (ho:ops[j]? = some o) (hf:FI N w G st a vs (wq vs ops)) {x:Operand} {px:PX} (cK:o.op = .next x true)
  (hx:cx E vs ops x=some px) {cf:wE} (hs:wx cf (.next px) st=some (u,st1)) (hk:wN N w G a st1 u vs ops j o next):o.wp P a w next Q:=by
 simp only[wx] at hs
 split at hs
 ·rename_i n hp
  have h:=(wW hE hx hf hp).1
  split at hs
  ·rename_i s pos dF
   generalize hv:a.eval x=v at h
   cases h with
   | ptr _ _ b hb =>
     rcases hf.heap.1 n _ dF with e|⟨b',h1,h2,h3,s',h4,h5⟩
     ·simp at e
     have:b'=b:=by rw[hb] at h1; simpa using h1.symm
     subst this
     subst h5
     have cQ:s'.data.toList.length=s'.size:=aV
     have jC:(⟨s'.data.toList.toArray⟩:ByteArray)=s':=by cases s'; simp
     rw[cQ,jC] at hs
     have fp:b'<w.heap.size:=hf.owlt _ _ h2
     split at hs
     ·rename_i cO
      simp only[aa,ac] at hs
      obtain⟨rfl,rfl⟩:=hs
      refine c4V (ob' := .siter s'.data.toList (pos+(Utf8.decode s' pos).2)) (mob := .stringIter s' (pos+(Utf8.decode s' pos).2)) (v := .tuple #[.bool true,goInt pos,.int .i32 (Utf8.decode s' pos).1]) nm ho hf dF hb h2 h3 ?_ (by simp[World.shape?,zk,h4]) ⟨h3,s',?_,rfl⟩ (SR.of_pure ?_ rfl) hk
      ·simp[execOp,cK,hv,Instr.next,getObj,setObj,Sem.run,Result.andThen,h4,cO,goInt]
      ·simp[fp]
      ·refine .tuple _ _ rfl ?_
       intro i c p hc hp
       match i with
       | 0=>simp at hc hp; subst hc hp; exact .bool _
       | 1=>simp at hc hp; subst hc hp; exact .int _ _
       | 2=>simp at hc hp; subst hc hp; exact .int _ _
       | n+3=>simp at hc
     ·rename_i cO
      simp only[aa,ac] at hs
      obtain⟨rfl,rfl⟩:=hs
      refine wZ (v := .tuple #[.bool false]) nm ho hf ?_ (SR.of_pure ?_ rfl) hk
      ·simp[execOp,cK,hv,Instr.next,getObj,Sem.run,Result.andThen,h4,cO]
      ·refine .tuple _ _ rfl ?_
       intro i c p hc hp
       match i with
       | 0=>simp at hc hp; subst hc hp; exact .bool _
       | n+1=>simp at hc
  ·simp at hs
 ·simp at hs
theorem c3h (hE:EnvOk E N) (nm:Names vs (wq vs ops)) (ho:ops[j]? = some o) (hf:FI N w G st a vs (wq vs ops)) {src dst e:TypeId} {x:Operand} {px:PX} (cK:o.op = .convert src dst x) (dZ:wS vs o.dst≠.n)
  (d4:P.underlying src=some .string) (hd:P.underlying dst=some (.slice e)) (he:P.underlying e=some (.int .u8)) (hx:cx E vs ops x=some px) {cf:wE} (hs:opv cf (.s2b px) st=some (u,st1)) (hk:wN N w G a st1 u vs ops j o next):o.wp P a w next Q:=by
 simp only[opv] at hs
 split at hs
 ·rename_i s hp
  split at hs
  ·rename_i cI
   simp only[aa,ac] at hs
   obtain⟨rfl,rfl⟩:=hs
   have h:=(wW hE hx hf hp).1
   generalize hv:a.eval x=v at h
   cases h with
   | str s =>
     have cQ:s.data.toList.length=s.size:=aV
     have cL:=Lib.run_convert_string_bytes (P:=P) w src dst e s d4 hd he
     unfold Oper.wp
     have jH:(execOp a.eval o).run P w = .ok (.value (.slice (some ⟨w.heap.size,0,none⟩) s.size (grownCap w s.size 0 e))) (Lib.bytesWorld w e s):=by
      simp[execOp,cK,hv,cL]
     rw[jH]
     have gp:s.size≤grownCap w s.size 0 e:=grownCap_ge w s.size 0 e
     let G':GS:={ G with fix:=λb o=>G.fix b o∨(b=w.heap.size∧o<s.size),ow:=λb=>if b=w.heap.size then some (yA (wS vs o.dst) j) else G.ow b }
     have eX:=Lib.bytesWorld_size w e s
     have cH:Ext w G (Lib.bytesWorld w e s) G':=by
      refine⟨?_,?_,?_,by omega,λb hb _=>Lib.bytesWorld_at_old w e s b hb,λb o h=>⟨.inl h,Lib.bytesWorld_old w e s ⟨b,o,none⟩ (hf.fixlt _ _ h)⟩,?_,?_,λ_ _ h=>h,.same λk hk=>Lib.bytesWorld_at_old w e s k hk,rfl⟩
      ·simp[Lib.bytesWorld,World.freeze,World.alloc,World.drew,-World.alloc_eq,-World.drew_eq]
      ·simp[Lib.bytesWorld,World.freeze,World.alloc,World.drew,-World.alloc_eq,-World.drew_eq]
      ·simp[Lib.bytesWorld,World.freeze,World.alloc,World.drew,-World.alloc_eq,-World.drew_eq]
      ·rintro b o (h|h)
       ·exact .inl h
       ·exact .inr (.inl (by omega))
      ·intro b hb
       simp only[G'] at hb
       split at hb
       ·exact .inl (by omega)
       ·exact .inr hb
     have cM:xO (λk=>k=yA (wS vs o.dst) j) w G (Lib.bytesWorld w e s) G':=by
      refine⟨?_,λ_ _ h=>h⟩
      intro b k hb _
      have cO:=hf.owlt _ _ hb
      refine⟨?_,Lib.bytesWorld_at_old w e s b cO,?_⟩
      ·simp only[G']; rw[af (by omega)]; exact hb
      ·rintro o (h|h)
       ·exact h
       ·omega
     have hR:=QN (N:=N) (w:=Lib.bytesWorld w e s) G'.fix G'.heap s
     have hl:(AN s.data.toList).length=s.size:=by rw[b9j]; exact cQ
     have sV:∀b k,G'.ow b=some k→b<(Lib.bytesWorld w e s).heap.size:=by
      intro b k hb
      simp only[G'] at hb
      split at hb
      ·omega
      ·have:=hf.owlt _ _ hb; omega
     have sW:∀b o,G'.fix b o→b<(Lib.bytesWorld w e s).heap.size:=by
      rintro b o (h|h)
      ·have:=hf.fixlt _ _ h; omega
      ·omega
     have cR:∀own,VR N (Lib.bytesWorld w e s) G'.fix G'.heap (.slice (some ⟨w.heap.size,0,none⟩) s.size (grownCap w s.size 0 e)) (.list own (AN s.data.toList)):=by
      intro own
      have hm:=Im (own:=own) (b:=w.heap.size) (off:=0) (cap:=grownCap w s.size 0 e) hR (by rw[hl]; exact gp) ?_
      ·rw[hl] at hm; exact hm
      ·intro k u' hu
       have hk:k<s.size:=by have:=(aj.1 hu).1; rw[byteCells_length] at this; exact this
       rw[aK]
       refine⟨?_,.inr ⟨rfl,hk⟩⟩
       rw[Lib.bytesWorld_cell w e s k hk]
       simp only[byteCells,aB,ab] at hu
       obtain⟨b,hb,rfl⟩:=hu
       simp[List.getD,hb]
     refine hk _ _ G' (hf.extDst nm (zK ho) dZ cH cM (λg b h=>hf.gen g b h) sV sW rfl ?_) cH (zL _ _ _)
     cases qy:s.data.toList.isEmpty with
     | true=>exact SR.of_pure (cR false) rfl
     | false =>
       refine⟨cR true,?_⟩
       have h0:0<s.size:=by
        rw[← cQ]
        cases hx:s.data.toList with
        | nil=>rw[hx] at qy; simp at qy
        | cons=>simp
       refine .inr ⟨by simp[G'],1,Lib.bytesCells w e s,e,hR.sz,⟨_,Lib.bytesWorld_at_new w e s,λo ho h=>by simp at h; omega⟩,?_,h0,?_⟩
       ·have:s.data.size=s.size:=rfl
        simp only[Lib.bytesCells,bL,Array.size_map,cw]
        omega
       ·rintro o' eN (h|h)
        ·have:=hf.fixlt _ _ h; simp at this
        ·simp at eN; omega
  ·simp at hs
 ·simp at hs
theorem Q4 {size:Nat}:∀{xs:List PV},(∀e∈xs,e.cells.length=size)→(xs.flatMap PV.cells).length=xs.length*size∧∀(i:Nat) (e:PV),xs[i]? = some e→∀k,k<size→(xs.flatMap PV.cells)[i*size+k]? = e.cells[k]?
 | [],_=>by simp
 | x :: xs, h => by
   obtain⟨h1,h2⟩:=Q4 (xs:=xs) (λe he=>h e (bD _ he))
   have hx:=h x (bV ..)
   refine⟨by simp only[bh,av,h1,hx,bi,aP,Nat.one_mul]; omega,?_⟩
   intro i e he k hk
   rw[bh]
   cases i with
   | zero =>
     simp at he; subst he
     rw[Nat.zero_mul,aK,am (by omega)]
   | succ i =>
     rw[aP,Nat.one_mul,ap (by omega),hx]
     have:=h2 i e (by simpa using he) k hk
     rw[show i*size+size+k - size=i*size+k by omega]
     exact this
theorem ListR.flats {fix:Nat→Nat→Prop} {hp:Nat→Option Nat} {size:Nat} {news:List Value} {xs:List PV} (h:ListR N w fix hp size news xs) (hs:size≠0):
  news.length=((xs.flatMap PV.cells).map dem).length∧∀(k:Nat) (c:Value) (x:PV),news[k]? = some c→((xs.flatMap PV.cells).map dem)[k]? = some x→VR N w fix hp c x∧x.flat=true∧∀es,x≠.list true es:=by
 obtain⟨h1,h2⟩:=Q4 h.sz
 refine⟨by rw[aS,h1,h.len],?_⟩
 intro k c x hc hx
 simp only[aB,ab] at hx
 obtain⟨y,hy,rfl⟩:=hx
 have hk:k<xs.length*size:=by rw[← h1]; exact(aj.1 hy).1
 have hi:k / size<xs.length:=by rw[Nat.div_lt_iff_lt_mul (by omega)]; exact hk
 have hm:k % size<size:=bZ _ (by omega)
 have he:k / size*size+k % size=k:=by rw[Nat.mul_comm]; exact Nat.div_add_mod k size
 have h3:=h2 (k / size) xs[k / size] (an hi) (k % size) hm
 rw[he,hy] at h3
 refine⟨(h.vr (k / size) _ (an hi) (k % size) c y (by rw[he]; exact hc) h3.symm).dem,?_,?_⟩
 ·rw[Di]
  exact h.flat _ (ae hi) y (aw h3.symm)
 ·intro es e; cases y<;>simp[dem] at e
theorem Q5 (y:PV) (es:List PV):dem y≠.list true es:=by intro e; cases y<;>simp[dem] at e
theorem GE {sz:Nat} {agg:Bool} {cs:List PV}:∀{n off:Nat} {es:List PV},zM sz agg cs n off=some es→es.length=n∧∀(i:Nat) (e:PV),es[i]? = some e→wD sz agg cs (off+i*sz)=some e
 | 0,off,es,h=>by simp[zM] at h; subst h; simp
 | n + 1, off, es, h => by
   simp only[zM,ai,ab] at h
   obtain⟨e,h1,es',h2,rfl⟩:=h
   obtain⟨k1,k2⟩:=GE h2
   refine⟨by simp[k1],?_⟩
   intro i x hx
   cases i with
   | zero=>simp at hx; subst hx; simpa using h1
   | succ i =>
     have:=k2 i x (by simpa using hx)
     rw[aP]
     simpa[b8,Nat.add_comm,Nat.add_left_comm] using this
theorem b8u {sz len:Nat} {agg:Bool} {cs es:List PV} (fW:∀(k:Nat) (y:PV),cs[k]? = some y→y.flat=true) (cQ:agg=true∨sz=1) (he:zM sz agg cs len 0=some es):
  es.length=len∧∀(i:Nat) (e:PV),es[i]? = some e→i*sz+sz≤cs.length∧e.cells.length=sz∧∀(j:Nat) (x:PV),e.cells[j]? = some x→∃y,cs[i*sz+j]? = some y∧x=dem y∧j<sz:=by
 obtain⟨e1,e2⟩:=GE he
 refine⟨e1,?_⟩
 intro i e hi
 have:=e2 i e hi
 rw[aK] at this
 unfold wD at this
 split at this
 ·split at this
  ·rename_i el
   simp only[aa] at this; subst this
   refine⟨el,by simp[PV.cells]; omega,?_⟩
   intro j x hx
   simp only[PV.cells,aB,ab] at hx
   obtain⟨y,hy,rfl⟩:=hx
   rw[aQ] at hy
   split at hy
   ·rw[aU] at hy
    exact⟨y,hy,rfl,by assumption⟩
   ·simp at hy
  ·simp at this
 ·rename_i gG
  have h1:sz=1:=by rcases cQ with h|h; exact absurd h (by simpa using gG); exact h
  subst h1
  split at this
  ·rename_i y hy
   have cO:i*1<cs.length:=(aj.1 hy).1
   have fW:=fW _ y hy
   have fK:e=dem y∧y.cells=[y]:=by
    cases y<;>simp_all [cp,dem,PV.cells,PV.flat]
   obtain⟨rfl,_⟩:=fK
   have gg:(dem y).cells=[dem y]:=by cases y<;>simp_all [dem,PV.cells,PV.flat]
   refine⟨by omega,by rw[gg]; rfl,?_⟩
   intro j x hx
   rw[gg] at hx
   cases j with
   | zero=>simp at hx; subst hx; exact⟨y,hy,rfl,by omega⟩
   | succ j=>simp at hx
  ·simp at this
theorem Q6 {ts tx e ty:TypeId} {size:Nat} {s x:Operand} {base:Option Addr} (hv:a.eval s = .slice base 0 0) (dR:Src P size tx (a.eval x) 0 [] w) (eo:P.underlying ts=some (.slice e)) {i:TypeInfo} (hi:P.info? e=some i) (cQ:i.size=size):
  (Builtin.append_ #[ts,tx] ty #[a.eval s,a.eval x]).run P w = .ok (.slice base 0 0) w:=by
 subst cQ
 rw[hv]
 rcases dR.kind with⟨e'',dh⟩|dh<;>cases base <;>
  simp[Builtin.append_,run_underlying eo,run_underlying dh,Go.sizeOf,typeInfo,hi,dR.len,dR.cells,storeCells]
theorem Q7 (nm:Names vs (wq vs ops)) (ho:ops[j]? = some o) (hf:FI N w G st a vs (wq vs ops)) {heap1:List PObj} (lN:HR N w G heap1) (kU:heap1.length=st.heap.length) {v:Value} {CS:Array Value} {e:TypeId} {ps:List PV} {sz len cap:Nat} {agg:Bool}
  (cL:(execOp a.eval o).run P w = .ok (.value (.slice (some ⟨w.heap.size,0,none⟩) len cap)) (w.drew.alloc (.cells CS e))) (cT:len≤cap) (sM:CS.size=cap*sz) (d9:ps.length≤CS.size)
  (hR:∀(k:Nat) (c:Value) (x:PV),CS[k]? = some c→ps[k]? = some x→VR N w G.fix G.heap c x∧x.flat=true∧∀es,x≠.list true es)
  (hk:wN N w G a { st with heap:=heap1++[.cells ps] } (.rowp st.heap.length sz agg len) vs ops j o next):o.wp P a w next Q:=by
 unfold Oper.wp
 rw[cL]
 let w':World:=w.drew.alloc (.cells CS e)
 let G':GS:=G.more w.heap.size st.heap.length
 have cH:Ext w G w' G':=by
  refine⟨rfl,rfl,rfl,by simp[w'],λb hb _=>zt (w:=w.drew) hb,λb o h=>⟨h,Dl (w:=w.drew) (hf.fixlt _ _ h)⟩,λ_ _ h => .inl h,?_,?_,.same λk hk=>zt (w:=w.drew) hk,rfl⟩
  ·intro b hb
   by_cases cO:b<w.heap.size
   ·refine .inr ?_
    simp only[G',GS.more] at hb
    rw[af (by omega)] at hb
    exact hb
   ·exact .inl (by omega)
  ·intro n b h
   have:=hf.hdom _ _ h
   simp only[G',GS.more]
   rw[af (by omega)]; exact h
 have cM:xO (λ_=>False) w G w' G':=by
  refine⟨?_,λ_ _ h=>h⟩
  intro b k hb _
  have cO:=hf.owlt _ _ hb
  refine⟨?_,zt (w:=w.drew) cO,λ_ h=>h⟩
  simp only[G',GS.more]
  rw[af (by omega)]; exact hb
 have hobj:ObjR N w' G' st.heap.length w.heap.size (.cells ps):=by
  refine⟨λo h=>by have:=hf.fixlt _ _ h; omega,CS,e,Bg (w:=w.drew),d9,?_⟩
  intro k c x hc hx
  obtain⟨h1,h2,h3⟩:=hR k c x hc hx
  refine⟨h1.ext cH,h2,?_⟩
  split
  ·exact absurd rfl (h3 _)
  ·trivial
 have de:FI N w' G' { st with heap:=heap1++[.cells ps] } a vs (wq vs ops):=by
  refine⟨hf.len,λi t u h1 h2=>(hf.var i t u h1 h2).keep cH cM (λh=>h) (λ_ _ _ h=>h),λj t u h1 h2=>(hf.loc j t u h1 h2).keep cH cM (λh=>h) (λ_ _ _ h=>h),hf.tv,hf.tl,(hf.defers.trans cH.df.symm),hf.gen,?_,?_,?_,?_⟩
  ·intro b k hb
   simp only[G',GS.more] at hb
   split at hb
   ·simp[w']; omega
   ·have:=hf.owlt _ _ hb; simp[w']; omega
  ·intro b o h
   have:=hf.fixlt _ _ h; simp[w']; omega
  ·exact lN.push cH cM (λ_ _ _=>⟨λh=>h,λh=>h⟩) (.inr ⟨w.heap.size,by simp[G',GS.more,kU],by simp[G',GS.more,kU],by rw[kU]; exact hobj⟩)
  ·intro n b h
   simp only[G',GS.more] at h
   split at h
   ·simp; omega
   ·have:=hf.hdom _ _ h; simp; omega
 refine hk _ w' G' (de.put nm (zK ho) (SR.of_pure (.rowp _ _ _ _ w.heap.size cap (by simp[G',GS.more]) cT ⟨e,cap*sz,?_,aq _⟩) rfl)) cH (zL _ _ _)
 have h1:w'.heap[w.heap.size]? = some (.cells CS e):=Bg (w:=w.drew)
 simp only[World.shape?,h1,sM]
theorem c1u (hE:EnvOk E N) (nm:Names vs (wq vs ops)) (ho:ops[j]? = some o) (hf:FI N w G st a vs (wq vs ops)) {ts tx e e':TypeId} {size:Nat} {z:List PV} {s x:Operand} {ps px:PX}
  (cK:o.op = .call { callee := .builtin .append,args := #[s,x],argTypes := #[ts,tx] }) (eo:P.underlying ts=some (.slice e)) (gy:P.underlying tx=some (.slice e')) (hn:wT P e=some size) (hz:yE P e=some z)
  (jC:cx E vs ops s=some ps) (hx:cx E vs ops x=some px) {cf:wE} (hs:wx cf (.happ size (xu P e) (P.bytesOf e) ps px) st=some (u,st1)) (hk:wN N w G a st1 u vs ops j o next):o.wp P a w next Q:=by
 obtain⟨i,d,hi,gV,fE,hd⟩:=zu hn
 obtain⟨i2,zv,dS,jE,_,j5,gW,_⟩:=Ct (N:=N) (w:=w) (fix:=G.fix) (hp:=G.heap) hz
 have:i2=i:=by rw[hi] at dS; simpa using dS.symm
 subst this
 subst gV
 have gB:zv.cells.size=i2.size:=by have:=gW.1; simp at this; omega
 have ik:P.bytesOf e=i2.bytes:=by simp[Program.bytesOf,hi]
 have gX:∀v w',(Builtin.append_ #[ts,tx] o.type #[a.eval s,a.eval x]).run P w = .ok v w'→(execOp a.eval o).run P w = .ok (.value v) w':=by
  intro v w' hr
  simp[execOp,cK,resolve,invoke,builtin,hr]
 have src:∀{xs:List PV},b3t st px=some xs→xq i2.size xs=true→∃news,ListR N w G.fix G.heap i2.size news xs∧Src P i2.size tx (a.eval x) xs.length news w:=by
  intro xs dY hh
  unfold b3t at dY
  split at dY
  ·rename_i n sz agg len jw
   split at dY
   ·rename_i mF
    simp only[ai] at dY
    obtain⟨cs,hg,jM⟩:=dY
    have gE:=(wW hE hx hf jw).1
    generalize hv:a.eval x=v at gE
    cases gE with
    | rowp _ _ _ _ b cap hb cT dV =>
      obtain⟨ev,gL,cv,T,pG,hl,i8⟩:=Gi hf hg hb
      have fW:∀(k:Nat) (y:PV),cs[k]? = some y→y.flat=true:=λk y hy=>by
       have cO:k<cv.size:=by have:=(aj.1 hy).1; omega
       exact(i8 k cv[k] y (by simp[cO]) hy).2.1
      obtain⟨e1,e2⟩:=b8u fW mF jM
      by_cases fV:xs=[]
      ·subst fV
       simp only[cj] at e1
       subst e1
       exact⟨[],⟨by simp,by simp,by simp,by simp⟩,Src.ofSlice w gy ⟨b,0,none⟩ 0 cap [] (by simp) (by simp) (by simp)⟩
      ·have cQ:sz=i2.size:=by
        cases xs with
        | nil=>exact absurd rfl fV
        | cons y ys =>
          have h1:=(e2 0 y rfl).2.1
          simp[xq] at hh
          omega
       subst cQ
       have dU:0<xs.length:=bC.2 fV
       have pS:=(e2 (xs.length - 1) (xs[xs.length - 1]'(by omega)) (an (by omega))).1
       have fm:xs.length*i2.size≤cs.length:=by
        have:xs.length=(xs.length - 1)+1:=by omega
        rw[this,aP,Nat.one_mul]; exact pS
       let news:=cv.toList.take (xs.length*i2.size)
       have iP:news.length=xs.length*i2.size:=by simp only[news,bG,aV]; omega
       have pY:∀(k:Nat) (u:Value),news[k]? = some u→cv[k]? = some u:=by
        intro k u hu
        simp only[news,aQ] at hu
        split at hu
        ·simpa using hu
        ·simp at hu
       have hL:ListR N w G.fix G.heap i2.size news xs:=by
        refine⟨iP,?_,?_,?_⟩
        ·intro e he
         obtain⟨i,hi⟩:=be.1 he
         exact(e2 i e hi).2.1
        ·intro e he y hy
         obtain⟨i,hi⟩:=be.1 he
         obtain⟨j,hj⟩:=be.1 hy
         obtain⟨z,hz,rfl,_⟩:=(e2 i e hi).2.2 j y hj
         rw[Di]; exact fW _ z hz
        ·intro i e hi k c y hc hy
         obtain⟨z,hz,rfl,_⟩:=(e2 i e hi).2.2 k y hy
         exact(i8 _ c z (pY _ _ hc) hz).1.dem
       refine⟨news,hL,?_⟩
       rw[← e1]
       exact Src.ofSlice w gy ⟨b,0,none⟩ xs.length cap news iP (λj u hu=>by
        rw[Ai]
        have:=pY j u hu
        simp only[World.cell?,pG,aK]
        simpa using this) (hL.one fE)
   ·simp at dY
  rotate_left
  ·simp at dY
  rename_i p0 _ jw
  have kS:=dY
  clear dY
  have gE:=(wW hE hx hf jw).1.row kS
  obtain⟨news,fx,sS⟩:=LO gE hh
  refine⟨news,fx,?_⟩
  rcases sS with⟨h1,h2,h3⟩|⟨ad,cap,h1,h2,h3⟩|⟨b,off,cap,h1,h2,h3⟩
  ·rw[h1,h2,h3]; exact Src.ofNil w gy 0
  ·rw[h1,h2,h3]; exact Src.ofSlice w gy ad 0 cap [] (by simp) (by simp) (by simp)
  ·rw[h1]
   exact Src.ofSlice w gy ⟨b,off,none⟩ xs.length cap news fx.len (λj u hu=>by rw[Ai]; exact(h3 j u hu).1) (fx.one fE)
 have grow:∀{heap1:List PObj} {xs oldps:List PV} {news olds:List Value} {base:Option Addr} {len cap:Nat},HR N w G heap1→heap1.length=st.heap.length→ListR N w G.fix G.heap i2.size news xs→Src P i2.size tx (a.eval x) xs.length news w→a.eval s = .slice base len cap →
   (Builtin.firstCells i2.size len (.slice base len cap)).run P w.drew = .ok olds.toArray w.drew→olds.length=len*i2.size→oldps.length=olds.length→(∀(k:Nat) (c:Value) (y:PV),olds[k]? = some c→oldps[k]? = some y→VR N w G.fix G.heap c y∧y.flat=true∧∀es,y≠.list true es) →
   cap<len+xs.length→len+xs.length≤2147483648→i2.bytes≤16384 →
   wN N w G a { st with heap:=heap1++[.cells (oldps++(xs.flatMap PV.cells).map dem)] } (.rowp st.heap.length i2.size (xu P e) (len+xs.length)) vs ops j o next→o.wp P a w next Q:=by
  intro heap1 xs oldps news olds base len cap lN eb fx dR hv gY mr nj wk cT eJ dI hk
  have ez:(len+xs.length)*i2.bytes≤140737488355328:=aR (Nat.mul_le_mul eJ dI) (by decide)
  have cL:=run_append_grow_src (P:=P) w ts tx o.type e i2 zv eo hi jE base len cap olds gY (a.eval x) xs.length news dR cT (by omega) (growslice_fits cT ez)
  rw[← hv] at cL
  obtain⟨fW,sX⟩:=fx.flats fE
  have gp:=grownCap_ge w (len+xs.length) cap e
  refine Q7 (v:=undef) (sz:=i2.size) (cap:=grownCap w (len+xs.length) cap e) nm ho hf lN eb (gX _ _ cL) gp ?_ ?_ ?_ hk
  ·simp only[bL,cq,size_zeroCells,gB,mr,fx.len,av]
   rw[Nat.sub_mul,aP]
   have:(len+xs.length)*i2.size≤grownCap w (len+xs.length) cap e*i2.size:=bm _ gp
   rw[aP] at this
   omega
  ·simp only[bL,cq,av,nj]
   omega
  ·intro k c y hc hy
   by_cases ic:k<olds.length
   ·rw[am (by omega)] at hy
    rw[bo (by simp; omega)] at hc
    simp only[bI] at hc
    rw[am ic] at hc
    exact wk k c y hc hy
   ·rw[ap (by omega)] at hy
    have cO:k - olds.length<news.length:=by
     rw[fW,← nj]; exact(aj.1 hy).1
    rw[bo (by simp; omega)] at hc
    simp only[bI] at hc
    rw[ap (by omega)] at hc
    rw[nj] at hy
    exact sX _ c y hc hy
 simp only[wx] at hs
 rw[ik] at hs
 split at hs
 ·rename_i xs n sz ag len dY fB
  split at hs
  ·rename_i cs dF
   split at hs
   ·rename_i hc
    obtain⟨rfl,rfl,dm,fQ,eJ,dI⟩:=hc
    simp only[aa,ac] at hs
    obtain⟨rfl,rfl⟩:=hs
    obtain⟨news,fx,dR⟩:=src dY fQ
    have lX:=((BZ hE jC hf fB).read (r := .rowp n i2.size (xu P e) len) rfl).1
    generalize hv:a.eval s=v at lX
    cases lX with
    | rowp _ _ _ _ b cap hb cT dV =>
      obtain⟨T',m,pT,sY⟩:=dV
      obtain⟨ev,gL,cv,T,hh,hl,i8⟩:=Gi hf (show xF st n=some cs by simp[xF,dF]) hb
      have hm:m=cv.size:=by simp only[World.shape?,hh,aa,ac] at pT; exact pT.2.symm
      subst hm
      have jQ:=dm
      obtain⟨O,hO⟩:∃O,(cs.take (len*i2.size)).map dem=O:=⟨_,rfl⟩
      rw[hO] at hk
      have dm:O.length=len*i2.size:=by rw[← hO]; simp; omega
      have mt:∀(k:Nat) (c:Value) (y:PV),(cv.toList.take (len*i2.size))[k]? = some c→O[k]? = some y→VR N w G.fix G.heap c y∧y.flat=true∧∀es,y≠.list true es:=by
       intro k c y hc hy
       rw[← hO] at hy
       simp only[aB,ab] at hy
       obtain⟨y0,lC,rfl⟩:=hy
       have lC:cs[k]? = some y0:=by
        rw[aQ] at lC
        split at lC
        ·exact lC
        ·simp at lC
       rw[aQ] at hc
       split at hc
       ·have:=i8 k c y0 (by simpa using hc) lC
        exact⟨this.1.dem,by rw[Di]; exact this.2.1,Q5 y0⟩
       ·simp at hc
      have mr:(cv.toList.take (len*i2.size)).length=len*i2.size:=by simp; omega
      have dj:∀(k:Nat) (u:Value),(cv.toList.take (len*i2.size))[k]? = some u→w.cell? ⟨b,0+k,none⟩=some u:=by
       intro k u hu
       rw[aQ] at hu
       split at hu
       ·simp only[World.cell?,hh,aK]; simpa using hu
       ·simp at hu
      by_cases jF:cap<len+xs.length
      ·refine grow (heap1:=st.heap.set n .gone) ?_ (by simp) fx dR hv (olds:=cv.toList.take (len*i2.size)) ?_ mr (by rw[dm,mr]) mt jF eJ dI hk
       ·exact hf.heap.keepBut (K:=λ_=>False) (Ext.refl _ _) ⟨λ_ _ h _=>⟨h,rfl,λ_ h=>h⟩,λ_ _ h=>h⟩ (λ_ _ _=>⟨λh=>h,λh=>h⟩) (λ_ => .inl rfl)
       ·exact run_firstCells_some w.drew _ _ _ _ _ _ mr (λk u hu=>by rw[Ai]; exact dj k u hu)
      ·
       have el:len+xs.length≤cap:=by omega
       obtain⟨fW,sX⟩:=fx.flats fE
       have gT:len*i2.size+news.length≤cv.size:=by
        rw[fx.len]
        have:(len+xs.length)*i2.size≤cap*i2.size:=bm _ el
        rw[aP] at this; omega
       let NR:Array Value:=(cv.toList.take (len*i2.size)++news++cv.toList.drop (len*i2.size+news.length)).toArray
       have jT:NR.size=cv.size:=by simp only[NR,cq,av,bG,cz,aV]; omega
       have cL:(Builtin.append_ #[ts,tx] o.type #[a.eval s,a.eval x]).run P w = .ok (.slice (some ⟨b,0,none⟩) (len+xs.length) cap) (w.setRow b NR):=by
        have dz:=Io P b (len*i2.size) T (0,0) news 0 cv w hh (λo _ h=>by simp at h) (by simpa using gT) (fx.one fE)
        simp only[br] at dz
        rw[hv]
        rcases dR.kind with⟨e'',dh⟩|dh <;>
         simp[Builtin.append_,run_underlying eo,run_underlying dh,Go.sizeOf,typeInfo,hi,dR.len,el,dR.cells,Ai,dz,NR]
       have fp:b<w.heap.size:=hf.owlt _ _ ev
       have cV:∀x,x≠b→(w.setRow b NR).heap[x]? = w.heap[x]? := λx hx=>setRow_other w b x _ hx
       let G':GS:={ G with heap:=λm=>if m=st.heap.length then some b else G.heap m,ow:=λx=>if x=b then some (.hobj st.heap.length) else G.ow x }
       have cH:Ext w G (w.setRow b NR) G':=by
        refine⟨rfl,rfl,rfl,by simp[World.setRow],?_,?_,λ_ _ h => .inl h,?_,?_,Gg hh _ jT,rfl⟩
        ·intro y _ jP
         exact cV y (by rintro rfl; rw[ev] at jP; simp at jP)
        ·intro y o' fC
         have jG:y≠b:=by rintro rfl; exact gL _ fC
         exact⟨fC,by simp only[World.cell?,cV y jG]⟩
        ·intro y hy
         simp only[G'] at hy
         split at hy
         ·rename_i jG; exact .inr (by rw[jG,ev]; simp)
         ·exact .inr hy
        ·intro m y hy
         have:=hf.hdom _ _ hy
         simp only[G']
         rw[af (by omega)]; exact hy
       have cM:xO (λk=>k = .hobj n) w G (w.setRow b NR) G':=by
        refine⟨?_,λ_ _ h=>h⟩
        intro y k hy gJ
        have jG:y≠b:=by rintro rfl; rw[ev] at hy; simp at hy; exact gJ hy.symm
        refine⟨?_,cV y jG,λ_ h=>h⟩
        simp only[G']; rw[af jG]; exact hy
       have ov:n<st.heap.length:=(aj.1 dF).1
       have dX:HR N (w.setRow b NR) G' (st.heap.set n .gone++[.cells (O++(xs.flatMap PV.cells).map dem)]):=by
        refine⟨?_,hf.heap.2.ext cH⟩
        intro m ob hm
        by_cases uf:m<(st.heap.set n .gone).length
        ·rw[am uf,aJ] at hm
         split at hm
         ·exact .inl (by simpa[ov] using hm.symm)
         ·rename_i c9
          rcases hf.heap.1 m ob hm with rfl|⟨y,h1,h2,h3⟩
          ·exact .inl rfl
          ·exact .inr ⟨y,cH.heap _ _ h1,(cM.1 _ _ h2 (by simp; omega)).1,h3.keep h2 cH cM (by simp; omega) (by simp)⟩
        ·rw[ap (by omega)] at hm
         simp only[bM] at hm uf
         have nb:m - st.heap.length=0:=by
          cases hx:m - st.heap.length with
          | zero=>rfl
          | succ k=>rw[hx] at hm; simp at hm
         rw[nb] at hm
         simp at hm
         subst hm
         have kW:m=st.heap.length:=by omega
         subst kW
         refine .inr ⟨b,by simp[G'],by simp[G'],λo' h=>gL o' h,NR,T,setRow_heap w b cv NR T (0,0) hh,?_,?_⟩
         ·simp only[av]
          rw[← fW,dm,jT]; exact gT
         ·intro k c y hc hy
          have dQ:VR N w G.fix G.heap c y∧y.flat=true∧∀es,y≠.list true es:=by
           simp only[NR,bI,aC] at hc
           by_cases ic:k<len*i2.size
           ·rw[am (by rw[dm]; exact ic)] at hy
            rw[am (by rw[mr]; exact ic)] at hc
            exact mt k c y hc hy
           ·rw[ap (by rw[dm]; omega),dm] at hy
            have cO:k - len*i2.size<news.length:=by rw[fW]; exact(aj.1 hy).1
            rw[ap (by rw[mr]; omega),mr,am cO] at hc
            exact sX _ c y hc hy
          refine⟨dQ.1.ext cH,dQ.2.1,?_⟩
          split
          ·exact absurd rfl (dQ.2.2 _)
          ·trivial
       unfold Oper.wp
       rw[gX _ _ cL]
       have de:FI N (w.setRow b NR) G' { st with heap:=st.heap.set n .gone++[.cells (O++(xs.flatMap PV.cells).map dem)] } a vs (wq vs ops):=by
        refine⟨hf.len,λi t u h1 h2=>(hf.var i t u h1 h2).keep cH cM (by simp) (by simp),λj t u h1 h2=>(hf.loc j t u h1 h2).keep cH cM (by simp) (by simp),hf.tv,hf.tl,hf.defers,hf.gen,?_,?_,dX,?_⟩
        ·intro y k hy
         simp only[G'] at hy
         split at hy
         ·rename_i jG; simp[World.setRow,jG,fp]
         ·have:=hf.owlt _ _ hy; simpa[World.setRow] using this
        ·intro y o' h; have:=hf.fixlt _ _ h; simpa[World.setRow] using this
        ·intro m y hy
         simp only[G'] at hy
         split at hy
         ·simp; omega
         ·have:=hf.hdom _ _ hy; simp; omega
       refine hk _ _ G' (de.put nm (zK ho) (SR.of_pure (.rowp _ _ _ _ b cap (by simp[G']) el ⟨T,cv.size,?_,sY⟩) rfl)) cH (zL _ _ _)
       simp only[World.shape?,setRow_heap w b cv NR T (0,0) hh,jT]
   ·simp at hs
  ·simp at hs
 ·rename_i xs dY fB
  have pQ:=BZ hE jC hf fB
  obtain⟨cR,dA⟩:VR N w G.fix G.heap (a.eval s) (.list true [])∧Room w G (zJ ps) (a.eval s) []:=pQ
  have dg:∃base,a.eval s = .slice base 0 0:=by
   generalize a.eval s=v at cR dA
   cases cR with
   | nils=>exact⟨none,rfl⟩
   | void _ ad cap =>
     rcases dA with h|⟨_,_,_,_,_,_,_,h,_⟩
     ·subst h; exact⟨_,rfl⟩
     ·simp at h
   | list _ b off len cap sz _ cv cI cT _ _ _ _ =>
     simp at cI; subst cI
     rcases dA with h|⟨_,_,_,_,_,_,_,h,_⟩
     ·subst h; exact⟨_,rfl⟩
     ·simp at h
  obtain⟨base,hv⟩:=dg
  split at hs
  ·rename_i fV
   subst fV
   simp only[aa,ac] at hs
   obtain⟨rfl,rfl⟩:=hs
   obtain⟨news,fx,dR⟩:=src dY rfl
   have eP:news=[]:=bb.1 (by rw[fx.len]; simp)
   subst eP
   refine wZ nm ho hf (gX _ _ (Q6 hv dR eo hi rfl)) ?_ hk
   cases base with
   | none=>exact⟨.nils true,True.intro⟩
   | some ad=>exact⟨.void true ad 0,.inl rfl⟩
  ·rename_i fV
   split at hs
   ·rename_i hc
    obtain⟨fQ,eJ,dI⟩:=hc
    simp only[aa,ac] at hs
    obtain⟨rfl,rfl⟩:=hs
    obtain⟨news,fx,dR⟩:=src dY fQ
    have dU:0<xs.length:=bC.2 fV
    have gY:(Builtin.firstCells i2.size 0 (.slice base 0 0)).run P w.drew = .ok ([]:List Value).toArray w.drew:=by
     cases base with
     | none=>exact run_firstCells_none w.drew _ _ _ _
     | some ad=>exact run_firstCells_some w.drew _ _ _ _ _ [] (by simp) (by simp)
    refine grow (heap1:=st.heap) (oldps:=[]) hf.heap rfl fx dR hv gY (by simp) rfl (by simp) (by omega) (by omega) dI ?_
    simpa using hk
   ·simp at hs
 ·rename_i xs dY fB
  have cR:VR N w G.fix G.heap (a.eval s) .nils:=((BZ hE jC hf fB).read (r := .nils) rfl).1
  have hv:a.eval s = .slice none 0 0:=by
   generalize a.eval s=v at cR
   cases cR with
   | nils'=>rfl
  split at hs
  ·rename_i fV
   subst fV
   simp only[aa,ac] at hs
   obtain⟨rfl,rfl⟩:=hs
   obtain⟨news,fx,dR⟩:=src dY rfl
   have eP:news=[]:=bb.1 (by rw[fx.len]; simp)
   subst eP
   exact wZ nm ho hf (gX _ _ (Q6 hv dR eo hi rfl)) (SR.of_pure .nils' rfl) hk
  ·rename_i fV
   split at hs
   ·rename_i hc
    obtain⟨fQ,eJ,dI⟩:=hc
    simp only[aa,ac] at hs
    obtain⟨rfl,rfl⟩:=hs
    obtain⟨news,fx,dR⟩:=src dY fQ
    have dU:0<xs.length:=bC.2 fV
    refine grow (heap1:=st.heap) (oldps:=[]) hf.heap rfl fx dR hv (run_firstCells_none w.drew _ _ _ _) (by simp) rfl (by simp) (by omega) (by omega) dI ?_
    simpa using hk
   ·simp at hs
 ·simp at hs
theorem b3d (w:World) (ts tx ty e:TypeId) (i:TypeInfo) (zv:Value) {k0:IntKind} (eo:P.underlying ts=some (.slice e)) (gy:P.underlying tx=some (.int k0)) (hi:P.info? e=some i) (hz:i.zero=some zv) (k:IntKind) (n:Nat)
  (h0:0<n) (hn:n≤2147483648) (hb:i.bytes≤16384):
  (Builtin.append_ #[ts,tx] ty #[.slice none 0 0,.int k n]).run P w = .ok (.slice (some ⟨w.heap.size,0,none⟩) n (grownCap w n 0 e))
   (w.drew.alloc (.cells ((if n*i.size=0 then #[] else Builtin.zeroCells zv.cells n)++Builtin.zeroCells zv.cells (grownCap w n 0 e - n)) e)):=by
 have ez:n*i.bytes≤140737488355328:=aR (Nat.mul_le_mul hn hb) (by decide)
 have gT:=growslice_fits (need:=n) (old:=0) (bytes:=i.bytes) h0 ez
 have mu:¬(281474976710656<Builtin.nextslicecap n 0*i.bytes):=by omega
 have hw:IntKind.i64.wrap (n:Int)=n:=by
  show (if (true&&decide ((n:Int) % 18446744073709551616≥9223372036854775808))=true then(n:Int) % 18446744073709551616 - 18446744073709551616 else(n:Int) % 18446744073709551616)=_
  simp only[ck,ak]
  split<;>omega
 have h1:¬((n:Int)<0):=by omega
 have h2:¬((281474976710656:Int)<(n:Int)*(i.bytes:Int)):=by
  have:((n*i.bytes:Nat):Int)≤140737488355328:=Int.ofNat_le.2 ez
  rw[Int.natCast_mul] at this
  omega
 have h3:¬((9223372036854775807:Int)<(n:Int)):=by omega
 have h4:¬(n=0):=by omega
 by_cases cQ:n*i.size=0
 ·simp[Builtin.append_,run_underlying eo,run_underlying gy,Go.sizeOf,typeInfo,zeroValue,hi,hz,asInt,asIntOf,hw,h1,h2,h3,h4,mu,Question.forced,newRow,grownCap,Builtin.firstCells,cQ]
 ·simp[Builtin.append_,run_underlying eo,run_underlying gy,Go.sizeOf,typeInfo,zeroValue,hi,hz,asInt,asIntOf,hw,h1,h2,h3,h4,mu,Question.forced,newRow,grownCap,Builtin.firstCells,cQ]
theorem b9v (hE:EnvOk E N) (nm:Names vs (wq vs ops)) (ho:ops[j]? = some o) (hf:FI N w G st a vs (wq vs ops)) {ts tx e:TypeId} {k0:IntKind} {size:Nat} {z:List PV} {s x:Operand} {ps px:PX}
  (cK:o.op = .call { callee := .builtin .append,args := #[s,x],argTypes := #[ts,tx] }) (eo:P.underlying ts=some (.slice e)) (gy:P.underlying tx=some (.int k0)) (hn:wT P e=some size) (hz:yE P e=some z)
  (jC:cx E vs ops s=some ps) (hx:cx E vs ops x=some px) {cf:wE} (hs:wx cf (.happz size (xu P e) (P.bytesOf e) z ps px) st=some (u,st1)) (hk:wN N w G a st1 u vs ops j o next):o.wp P a w next Q:=by
 obtain⟨i,d,hi,gV,fE,hd⟩:=zu hn
 obtain⟨i2,zv,dS,jE,_,j5,gW,_⟩:=Ct (N:=N) (w:=w) (fix:=G.fix) (hp:=G.heap) hz
 have:i2=i:=by rw[hi] at dS; simpa using dS.symm
 subst this
 subst gV
 have gB:zv.cells.size=i2.size:=by have:=gW.1; simp at this; omega
 have gF:z.length=i2.size:=by have:=gW.1; simp at this; omega
 have ik:P.bytesOf e=i2.bytes:=by simp[Program.bytesOf,hi]
 simp only[wx] at hs
 rw[ik] at hs
 split at hs
 ·rename_i n eP p6
  split at hs
  ·rename_i hc
   obtain⟨h0,h1,hb⟩:=hc
   simp only[aa,ac] at hs
   obtain⟨rfl,rfl⟩:=hs
   obtain⟨k,hl⟩:=B0 hE hx hf eP
   have hv:a.eval s = .slice none 0 0:=by
    have:=(wW hE jC hf p6).1
    generalize a.eval s=v at this
    cases this
    rfl
   obtain⟨m,rfl⟩:∃m:Nat,n=m:=⟨n.toNat,by omega⟩
   have cL:=b3d (P:=P) w ts tx o.type e i2 zv eo gy hi jE k m (by omega) (by omega) hb
   rw[← hv,← hl] at cL
   have jH:(execOp a.eval o).run P w = .ok (.value (.slice (some ⟨w.heap.size,0,none⟩) m (grownCap w m 0 e))) (w.drew.alloc (.cells ((if m*i2.size=0 then #[] else Builtin.zeroCells zv.cells m)++Builtin.zeroCells zv.cells (grownCap w m 0 e - m)) e)):=by
    simp[execOp,cK,resolve,invoke,builtin,cL]
   have dU:¬m*i2.size=0:=by
    intro h
    rcases Nat.mul_eq_zero.1 h with h|h<;>omega
   rw[af dU] at jH
   have gp:=grownCap_ge w m 0 e
   refine Q7 (v:=undef) (sz:=i2.size) (cap:=grownCap w m 0 e) nm ho hf hf.heap rfl jH gp ?_ ?_ ?_ hk
   ·simp only[bL,size_zeroCells,gB]
    rw[Nat.sub_mul]
    have:m*i2.size≤grownCap w m 0 e*i2.size:=bm _ gp
    omega
   ·simp[List.length_flatten,gF,size_zeroCells,gB]
   ·intro k c y hc hy
    simp only[Int.toNat_natCast] at hy
    rw[LX,aS,gF] at hy
    split at hy
    ·rename_i cO
     rw[bo (by rw[size_zeroCells,gB]; exact cO)] at hc
     have jg:k % i2.size<i2.size:=bZ _ (by omega)
     have iR:c=zv.cells[k % i2.size]! := by
      simp only[Builtin.zeroCells,bN,ab] at hc
      obtain⟨a',ha,rfl⟩:=hc
      have:a'=k:=by
       obtain⟨h1,h2⟩:=aX.1 ha
       simpa using h2.symm
      rw[this,gB]
     have nQ:zv.cells[k % i2.size]? = some c:=by
      rw[iR]
      have:k % i2.size<zv.cells.size:=by omega
      simp[this]
     simp only[aB,ab] at hy
     obtain⟨y0,hy,rfl⟩:=hy
     exact⟨(gW.2.2 _ c y0 (by simpa using nQ) hy).dem,by rw[Di]; exact gW.2.1 y0 (aw hy),Q5 y0⟩
    ·simp at hy
  ·simp at hs
 ·simp at hs
theorem b9w (hE:EnvOk E N) (nm:Names vs (wq vs ops)) (ho:ops[j]? = some o) (hf:FI N w G st a vs (wq vs ops)) {t e:TypeId} {rest:List TypeId} {size:Nat} {z:List PV} {x:Operand} {px:PX} (dZ:o.dst=none)
  (cK:o.op = .call { callee := .builtin .clear,args := #[x],argTypes:=⟨t::rest⟩ }) (hu:P.underlying t=some (.slice e)) (hn:wT P e=some size) (hz:yE P e=some z)
  (hx:cx E vs ops x=some px) {cf:wE} (hs:wx cf (.clear size px) st=some (u,st1)) (hk:wN N w G a st1 u vs ops j o next):o.wp P a w next Q:=by
 obtain⟨i,d,hi,gV,fE,hd⟩:=zu hn
 obtain⟨i2,zv,dS,jE,_,j5,gW,_⟩:=Ct (N:=N) (w:=w) (fix:=G.fix) (hp:=G.heap) hz
 have:i2=i:=by rw[hi] at dS; simpa using dS.symm
 subst this
 subst gV
 have gB:zv.cells.size=i2.size:=by have:=gW.1; simp at this; omega
 simp only[wx] at hs
 split at hs
 ·rename_i n sz off wl
  split at hs
  ·rename_i cs dF
   split at hs
   ·rename_i hc
    obtain⟨rfl,fP⟩:=hc
    simp only[aa,ac] at hs
    obtain⟨rfl,rfl⟩:=hs
    obtain⟨agg,len,gE⟩:∃agg len,VR N w G.fix G.heap (a.eval x) (.rows n i2.size agg off len):=by
     obtain⟨p,hr,hp⟩:=ai.1 wl
     have gE:=(wW hE hx hf hr).1
     cases p<;>simp only[ER,aa,ac,reduceCtorEq] at hp
     ·rename_i n' sz' ag ln
      obtain⟨rfl,rfl,rfl⟩:=hp
      generalize a.eval x=v at gE ⊢
      cases gE with
      | rowp _ _ _ _ b cap h cT dV =>
        obtain⟨T,m,h1,h2⟩:=dV
        exact⟨ag,ln,.rows _ _ _ 0 _ b 0 cap m T h cT (.inr (by simp)) h1 (by rw[aK]; exact aR (bm _ cT) h2)⟩
     ·obtain⟨rfl,rfl,rfl⟩:=hp
      exact⟨_,_,gE⟩
    generalize hv:a.eval x=v at gE
    cases gE with
    | rows _ _ _ _ _ b o' cap m T hb cT wm dV hm =>
      obtain⟨ev,gL,cv,T',hh,hl,i8⟩:=Gi hf (show xF st n=some cs by simp[xF,dF]) hb
      have ni:m=cv.size:=by simp only[World.shape?,hh,aa,ac] at dV; exact dV.2.symm
      subst ni
      have fp:b<w.heap.size:=hf.owlt _ _ ev
      obtain⟨NR,wn,wo,cL⟩:∃NR:Array Value,NR.size=cv.size∧(∀k,k<off*i2.size→NR[k]? = cv[k]?)∧(execOp a.eval o).run P w = .ok (.value (.tuple #[])) (w.setRow b NR):=by
       cases len with
       | zero =>
         refine⟨cv,rfl,λ_ _=>rfl,?_⟩
         have hw:w.setRow b cv=w:=by
          have h2:(w.setRow b cv).heap=w.heap:=by
           apply Array.ext_getElem?
           intro k
           by_cases ug:k=b
           ·subst ug; rw[setRow_heap w k cv cv T' (0,0) hh,hh]
           ·exact setRow_other w b k _ ug
          exact aH (λh=>{ w with heap:=h }) h2
         rw[hw]
         simp[execOp,cK,hv,resolve,invoke,builtin,Builtin.clear_,run_underlying hu]
       | succ len =>
         have ho:o'=off*i2.size:=by rcases wm with h|h; exact absurd h (by omega); exact h
         subst ho
         let zs:List Value:=(Builtin.zeroCells zv.cells (len+1)).toList
         have pU:zs.length=(len+1)*i2.size:=by simp only[zs,aV,size_zeroCells,gB]
         have dz:=Io P b (off*i2.size) T' (0,0) zs 0 cv w hh (λo _ h=>by simp at h) (by rw[aP] at hm; simp only[pU]; omega) (by
          intro u hu
          simp only[zs,Builtin.zeroCells,Array.toList_map,a8] at hu
          obtain⟨a',_,rfl⟩:=hu
          have jg:a' % zv.cells.size<zv.cells.size:=bZ _ (by omega)
          have nQ:zv.cells[a' % zv.cells.size]? = some zv.cells[a' % zv.cells.size]! := by simp[jg]
          have pV:a' % zv.cells.size<z.length:=by have:=gW.1; simp at this; omega
          have h1:=(gW.2.2 _ _ z[a' % zv.cells.size] (by simpa using nQ) (an pV)).oneCell (gW.2.1 _ (ae pV))
          generalize zv.cells[a' % zv.cells.size]! = c at h1
          cases c<;>first|rfl|simp[oneCell] at h1)
         refine⟨(cv.toList.take (off*i2.size)++zs++cv.toList.drop (off*i2.size+zs.length)).toArray,?_,?_,?_⟩
         ·rw[aP] at hm
          simp only[cq,av,bG,cz,aV,pU]; omega
         ·intro k hk
          rw[aP] at hm
          simp only[bI,aC]
          rw[am (by simp; omega),aQ,ah hk]
          simp
         ·simp only[zs] at dz
          simp[execOp,cK,hv,resolve,invoke,builtin,Builtin.clear_,run_underlying hu,zeroValue,typeInfo,hi,jE,dz,zs]
      have cV:∀x,x≠b→(w.setRow b NR).heap[x]? = w.heap[x]? := λx hx=>setRow_other w b x _ hx
      have cH:Ext w G (w.setRow b NR) G:=by
       refine⟨rfl,rfl,rfl,by simp[World.setRow],?_,?_,λ_ _ h => .inl h,λ_ h => .inr h,λ_ _ h=>h,Gg hh _ wn,rfl⟩
       ·intro x _ jA
        exact cV x (by rintro rfl; rw[ev] at jA; simp at jA)
       ·intro x o' fC
        refine⟨fC,?_⟩
        have gA:x≠b:=by rintro rfl; exact gL _ fC
        simp only[World.cell?,cV x gA]
      have cM:xO (λk=>k = .hobj n) w G (w.setRow b NR) G:=by
       refine⟨?_,λ_ _ h=>h⟩
       intro x k gU gJ
       refine⟨gU,cV x ?_,λ_ h=>h⟩
       rintro rfl
       rw[ev] at gU
       simp at gU
       exact gJ gU.symm
      have gO:FI N (w.setRow b NR) G { st with heap:=st.heap.set n (.cells (cs.take (off*i2.size))) } a vs (wq vs ops):=by
       refine⟨hf.len,λi t' u' h1 h2=>(hf.var i t' u' h1 h2).keep cH cM (by simp) (by simp),λi t' u' h1 h2=>(hf.loc i t' u' h1 h2).keep cH cM (by simp) (by simp),hf.tv,hf.tl,hf.defers,hf.gen,?_,?_,?_,?_⟩
       ·intro x k hx; simpa[World.setRow] using hf.owlt x k hx
       ·intro x o' hx; simpa[World.setRow] using hf.fixlt x o' hx
       ·refine hf.heap.keepBut cH cM (λn k c9=>⟨by simp; omega,by simp⟩) (λ_ =>?_)
        refine .inr ⟨b,hb,ev,gL,NR,T',setRow_heap w b cv NR T' (0,0) hh,?_,?_⟩
        ·simp; omega
        ·intro k c y hc hy
         rw[aQ] at hy
         split at hy
         ·rename_i eD
          rw[wo k eD] at hc
          exact(i8 k c y hc hy).keep cH cM (by simp)
         ·simp at hy
       ·simp only[bM]; exact hf.hdom
      unfold Oper.wp
      rw[cL]
      have gc:a.put o.dst (.tuple #[])=a:=by simp[dZ,Act.put]
      have hd:wS vs o.dst = .n:=by simp[dZ,wS]
      show next (a.put o.dst (.tuple #[])) _
      rw[gc]
      refine hk _ _ G ?_ cH rfl
      rw[hd]
      exact gO
   ·simp at hs
  ·simp at hs
 ·simp at hs
end
end PI
set_option linter.unusedSimpArgs false
set_option linter.unusedVariables false
namespace PI
open Go Go.RowKit
theorem Cu:∀{ps:List PV},wP ps=true→∀p∈ps,wR p=true
 | [],_,p,hp=>by simp at hp
 | x :: xs, h, p, hp => by
   simp only[wP,al] at h
   rcases aA.1 hp with rfl|hp
   ·exact h.1
   ·exact Cu h.2 p hp
theorem b6A {p:PV} (h:wR p=true):∀x∈p.cells,wR x=true:=by
 intro x hx
 cases p<;>simp only[PV.cells,bH] at hx<;>first|(subst hx; exact h)|(simp at hx; done)|skip
 exact Cu (by simpa[wR] using h) x hx
theorem VR.free {N:Nm} {w:World} {fix:Nat→Nat→Prop} {hp fk:Nat→Option Nat} {v:Value} {p:PV} (h:VR N w fix hp v p) (hr:wR p=true):VR N w fix fk v p:=by
 induction h with
 | bool b=>exact .bool b
 | int k n=>exact .int k n
 | str s=>exact .str s
 | nils own=>exact .nils own
 | void own a cap=>exact .void own a cap
 | nils'=>exact .nils'
 | void' a cap=>exact .void' a cap
 | list own b off len cap sz es cv cI cT cQ cS hcell _ ih =>
   refine .list own b off len cap sz es cv cI cT cQ cS hcell (λi e he j x hx=>ih i e he j x hx ?_)
   have:=Cu (by simpa[wR] using hr) e (aw he)
   exact b6A this x (aw hx)
 | agg cs ps cI cS eS _ ih=>exact .agg cs ps cI cS eS (λi c p hc hp=>ih i c p hc hp (Cu (by simpa[wR] using hr) p (aw hp)))
 | tuple cs ps cI _ ih=>exact .tuple cs ps cI (λi c p hc hp=>ih i c p hc hp (Cu (by simpa[wR] using hr) p (aw hp)))
 | nilptr=>exact .nilptr
 | cptr b off ps cv cS hcell _ ih=>exact .cptr b off ps cv cS hcell (λk x hx=>ih k x hx (Cu (by simpa[wR] using hr) x (aw hx)))
 | ptr n off b h=>simp[wR] at hr
 | rowp n sz agg len b cap h cT dV=>simp[wR] at hr
 | rows n sz agg off len b o cap m T h cT ho dV hm=>simp[wR] at hr
 | mapn=>exact .mapn
 | map n b h=>simp[wR] at hr
 | yield k n l y tmps caps h0 hl p6 cI _ _ _=>simp[wR,wP] at hr
 | func k fs cs pf pc h0 h1 h2 _ _ ihf ihc =>
   simp only[wR,al] at hr
   exact .func k fs cs pf pc h0 h1 h2 (λi c p hc hp=>ihf i c p hc hp (Cu hr.1 p (aw hp))) (λi c p hc hp=>ihc i c p hc hp (Cu hr.2 p (aw hp)))
 | nilfunc=>exact .nilfunc
 | iface t v p _ ih=>exact .iface t v p (ih (by simpa[wR] using hr))
 | nilIface=>exact .nilIface
theorem VR.cp_dem {N:Nm} {w:World} {fix:Nat→Nat→Prop} {hp:Nat→Option Nat} {v:Value} {p:PV} (h:VR N w fix hp v p):cp (PI.dem p)=some (PI.dem p):=by
 cases h<;>rfl
structure HeapOnly (G:GS):Prop where
 ow:∀b k,G.ow b=some k→k.isH=true
 box:∀g,G.box g=none
structure Between (N:Nm) (w:World) (G:GS) (h:List PObj):Prop where
 only:HeapOnly G
 fixlt:∀b o,G.fix b o→b<w.heap.size
 owlt:∀b k,G.ow b=some k→b<w.heap.size
 heap:HR N w G h
 hdom:∀n b,G.heap n=some b→n<h.length
def Dk (w0:World) (G0:GS) (w:World) (G:GS) (v:Value) (es:List PV):Prop:=
 match v with
 | .slice (some a) len cap => cap = len ∨
   ((w0.heap.size ≤ a.block ∨ G0.ow a.block ≠ none) ∧ ∃ sz cs T, (∀ e ∈ es, e.cells.length = sz) ∧ Live w a.block cs T ∧ a.off + cap * sz ≤ cs.size ∧
     0<len∧∀o,a.off+len*sz≤o→¬G.fix a.block o)
 | _=>True
structure OwnIn (N:Nm) (w:World) (G:GS) (own:Option Nat) (args:List PV) (vals:Array Value):Prop where
 ow:∀b k,G.ow b=some k→∃i,own=some i∧k = .var i
 box:∀g,G.box g=none
 heap:∀n,G.heap n=none
 fixlt:∀b o,G.fix b o→b<w.heap.size
 owlt:∀b k,G.ow b=some k→b<w.heap.size
 tab:Tab N w G.fix
 size:vals.size=args.length
 vr:∀(i:Nat) (v:Value) (p:PV),vals[i]? = some v→args[i]? = some p→VR N w G.fix G.heap v p
 room:∀(i:Nat) (v:Value) (es:List PV),own=some i→vals[i]? = some v→args[i]? = some (.list true es)→Room w G (.var i) v es
def d4n (N:Nm) (P:Program) (cf:wE):Prop:=
 ∀ (k : Nat) (own : Option Nat) (args : List PV) (r : PV) (h' : List PObj), cf k (Ar own args) [] = some (r, h') → N.yl k = none ∧ ∀ (w : World) (G : GS) (vals : Array Value), OwnIn N w G own args vals →
   Calls P (N.fn k) vals w λe w'=>∃v G',e = .returned v∧VR N w' G'.fix G'.heap v r∧Ext w G w' G'∧(∀b o,G'.fix b o→b<w'.heap.size)∧∀es,r = .list true es→Dk w G w' G' v es
def c7L (N:Nm) (P:Program) (cf:wE):Prop:=
 ∀ (k : Nat) (args : List PV) (r : PV) (h h' : List PObj), cf k args h = some (r, h') → N.yl k = none ∧ ∀ (w : World) (G : GS) (vals : Array Value), Between N w G h → vals.size = args.length →
   (∀(i:Nat) (v:Value) (p:PV),vals[i]? = some v→args[i]? = some p→VR N w G.fix G.heap v p) →
   Calls P (N.fn k) vals w λe w'=>∃v G',e = .returned v∧VR N w' G'.fix G'.heap v r∧Ext w G w' G'∧Between N w' G' h'
structure CallOK (N:Nm) (P:Program) (cf:wE):Prop where
 plain:c7L N P cf
 own:d4n N P cf
theorem Room.sub {w:World} {G G':GS} {key:Key} {v:Value} {es:List PV} (h:Room w G key v es) (hf:G'.fix=G.fix) (ho:∀b,G.ow b=some key→G'.ow b=some key):Room w G' key v es:=by
 unfold Room at *
 split at h
 ·rename_i a len cap
  rcases h with h|⟨h1,sz,cs,T,h2,h3,h4,h5,h6⟩
  ·exact .inl h
  ·exact .inr ⟨ho _ h1,sz,cs,T,h2,h3,h4,h5,by rw[hf]; exact h6⟩
 ·trivial
theorem HR.sub {N:Nm} {w:World} {G G':GS} {heap:List PObj} (h:HR N w G heap) (hf:G'.fix=G.fix) (hh:G'.heap=G.heap) (ho:∀b k,k.isH=true→G.ow b=some k→G'.ow b=some k):HR N w G' heap:=by
 refine⟨?_,by rw[hf]; exact h.2⟩
 intro n ob dF
 rcases h.1 n ob dF with rfl|⟨b,h1,h2,h3⟩
 ·exact .inl rfl
 refine .inr ⟨b,by rw[hh]; exact h1,ho _ _ rfl h2,?_⟩
 cases ob with
 | cells cs =>
   obtain⟨f,cv,T,a1,a2,a3⟩:=h3
   refine⟨by rw[hf]; exact f,cv,T,a1,a2,?_⟩
   intro k c x hc hx
   obtain⟨b1,b2,b3⟩:=a3 k c x hc hx
   refine⟨by rw[hf,hh]; exact b1,b2,?_⟩
   split at b3
   ·exact b3.sub hf (λb=>ho b _ rfl)
   ·trivial
 | map es =>
   obtain⟨mes,clock,a1,a2,a3,a4,a5⟩:=h3
   refine⟨mes,clock,a1,a2,a3,a4,?_⟩
   intro i e p hi hp
   obtain⟨b1,b2,b3⟩:=a5 i e p hi hp
   refine⟨by rw[hf,hh]; exact b1,by rw[hf,hh]; exact b2,?_⟩
   split at b3
   ·exact b3.sub hf (λb=>ho b _ rfl)
   ·trivial
 | bld bs =>
   obtain⟨f,p,v,a1,a2,a3⟩:=h3
   refine⟨by rw[hf]; exact f,p,v,a1,a2,?_⟩
   rcases a3 with a3|⟨g,cap,cur,b1,b2,b3,b4⟩
   ·exact .inl a3
   ·exact .inr ⟨g,cap,cur,b1,ho _ _ rfl b2,by rw[hf]; exact b3,b4⟩
 | siter s pos =>
   obtain⟨f,s',a1,a2⟩:=h3
   exact⟨by rw[hf]; exact f,s',a1,a2⟩
 | gone=>trivial
 | loop ready =>
   obtain⟨f,r,a1,a2⟩:=h3
   exact⟨by rw[hf]; exact f,r,a1,a2⟩
 | over id =>
   obtain⟨f,r,a1,a2⟩:=h3
   exact⟨by rw[hf]; exact f,r,a1,a2⟩
def zC (ow:Nat→Option Key) (b:Nat):Option Key:=
 match ow b with
 | some k=>if k.isH then some k else none
 | none=>none
theorem D6 {ow:Nat→Option Key} {b:Nat} {k:Key} (h:zC ow b=some k):ow b=some k∧k.isH=true:=by
 unfold zC at h
 split at h
 ·split at h
  ·simp at h; subst h; exact⟨by assumption,by assumption⟩
  ·simp at h
 ·simp at h
theorem IU {ow:Nat→Option Key} {b:Nat} {k:Key} (h:ow b=some k) (hk:k.isH=true):zC ow b=some k:=by
 simp[zC,h,hk]
def ze (N:Nm) (P:Program) (L:Nat→Option PFunc):Prop:=
 ∀k f,L k=some f→∃fn,P.funcs[N.fn k]? = some fn∧fn.name ≠ "runtime.NumGoroutine" ∧ fn.body.isNone=false
section
variable {E:Env} {N:Nm} {w:World} {G:GS} {st:St} {a:Act} {vs:List Tmp} {ops:List Oper} {P:Program}
variable {o:Oper} {j:Nat} {next:Act→World→Prop} {Q:Exit→Act→World→Prop} {u:PV} {st1:St}
theorem Cy {L:Nat→Option PFunc} (hF:ze N P L) {k:Nat} {f:PFunc} (hL:L k=some f) (args:Array Value) (w:World):(callFunc (N.fn k) args).run P w = .ok (.enter (N.fn k) args) w:=by
 obtain⟨fn,h1,h2,h3⟩:=hF k f hL
 have fM:(fn.name == "runtime.NumGoroutine")=false:=by simpa using h2
 simp only[callFunc,Sem.run_bind,run_program,Result.andThen_ok,h1,fM,h3,ay,if_false,Sem.run_pure]
theorem QO (nm:Names vs (wq vs ops)) (ho:ops[j]? = some o) (hf:FI N w G st a vs (wq vs ops)) {cf:wE} (dP:CallOK N P cf) {k:Nat} {args:List PV} {vals:Array Value} {r:PV} {h':List PObj}
  (cQ:vals.size=args.length) (hv:∀(i:Nat) (v:Value) (p:PV),vals[i]? = some v→args[i]? = some p→VR N w G.fix G.heap v p) (d3:wP args=true) (hc:cf k args []=some (r,h')) (hr:wR r=true)
  (cL:(execOp a.eval o).run P w = .ok (.enter (N.fn k) vals) w) (hk:wN N w G a st (dem r) vs ops j o next):o.wp P a w next Q:=by
 unfold Oper.wp
 rw[cL]
 let Gc:GS:={ fix:=G.fix,heap:=λ_=>none,box:=λ_=>none,ow:=λ_=>none }
 have d7:Between N w Gc []:=⟨⟨by intro b k h; simp[Gc] at h,λ_=>rfl⟩,hf.fixlt,by intro b k h; simp[Gc] at h,⟨by intro n ob h; simp at h,hf.heap.2⟩,by intro n b h; simp[Gc] at h⟩
 refine((dP.plain k args r [] h' hc).2 w Gc vals d7 cQ (λi v p h1 h2=>(hv i v p h1 h2).free (Cu d3 p (aw h2)))).mono ?_
 rintro e w' ⟨v,G2,rfl,cR,he,dI⟩
 let G':GS:={ G with fix:=G2.fix }
 have kT:∀b,b<w.heap.size→w'.heap[b]? = w.heap[b]? := λb hb=>he.same b hb rfl
 have ft:∀b o,G2.fix b o→G.fix b o∨w.heap.size≤b:=by
  intro b o h
  rcases he.newfix b o h with h|h|h
  ·exact .inl h
  ·exact .inr h
  ·exact absurd rfl h
 have cH:Ext w G w' G':=by
  refine⟨he.os,he.tape,he.output,he.size,λb cO _=>kT b cO,λb o h=>he.fix b o h,?_,λ_ h => .inr h,λ_ _ h=>h,he.shape,rfl⟩
  intro b o h
  rcases ft b o h with h|h
  ·exact .inl h
  ·exact .inr (.inl h)
 have cM:xO (λ_=>False) w G w' G':=by
  refine⟨?_,λ_ _ h=>h⟩
  intro b key cW _
  have fT:=hf.owlt _ _ cW
  refine⟨cW,kT b fT,?_⟩
  intro o h
  rcases ft b o h with h|h
  ·exact h
  ·omega
 have de:=hf.ext (G':=G') cH cM hf.gen (λb key h=>aO (hf.owlt b key h) he.size) dI.fixlt
 have gz:VR N w' G'.fix G'.heap v (dem r):=(cR.free hr).dem
 exact hk _ _ G' (de.put nm (zK ho) (SR.of_pure gz cR.cp_dem)) cH (zL _ _ _)
theorem QP (nm:Names vs (wq vs ops)) (ho:ops[j]? = some o) (hf:FI N w G st a vs (wq vs ops)) {cf:wE} (dP:CallOK N P cf) {k:Nat} {args:List PV} {vals:Array Value} {r:PV} {h':List PObj}
  (cQ:vals.size=args.length) (hv:∀(i:Nat) (v:Value) (p:PV),vals[i]? = some v→args[i]? = some p→VR N w G.fix G.heap v p) (hc:cf k args st.heap=some (r,h'))
  (cL:(execOp a.eval o).run P w = .ok (.enter (N.fn k) vals) w) (hk:wN N w G a { st with heap:=h' } (dem r) vs ops j o next):o.wp P a w next Q:=by
 unfold Oper.wp
 rw[cL]
 let Gc:GS:={ fix:=G.fix,heap:=G.heap,box:=λ_=>none,ow:=zC G.ow }
 have d7:Between N w Gc st.heap:=⟨⟨λb k h=>(D6 h).2,λ_=>rfl⟩,hf.fixlt,λb k h=>hf.owlt b k (D6 h).1,hf.heap.sub rfl rfl (λb k hk h=>IU h hk),hf.hdom⟩
 refine((dP.plain k args r st.heap h' hc).2 w Gc vals d7 cQ hv).mono ?_
 rintro e w' ⟨v,G2,rfl,cR,he,dI⟩
 let G':GS:={ fix:=G2.fix,heap:=G2.heap,box:=G.box,ow:=λb=>match G.ow b with | some k=>if k.isH then G2.ow b else some k | none=>G2.ow b,df:=G.df }
 have cH:Ext w G w' G':=by
  refine⟨he.os,he.tape,he.output,he.size,λb cO h=>he.same b cO (by simp[Gc,zC,h]),λb o h=>he.fix b o h,?_,?_,he.heap,he.shape,rfl⟩
  ·intro b o h
   rcases he.newfix b o h with h|h|h
   ·exact .inl h
   ·exact .inr (.inl h)
   ·refine .inr (.inr ?_)
    intro e
    apply h
    simp[Gc,zC,e]
  ·intro b h
   cases hb:G.ow b with
   | some k=>exact .inr (by simp)
   | none =>
     simp only[G',hb] at h
     rcases he.own b h with h|h
     ·exact .inl h
     ·exact absurd (by simp[Gc,zC,hb]) h
 have cM:xO (λk=>k.isH=true) w G w' G':=by
  refine⟨?_,λ_ _ h=>h⟩
  intro b key cW hn
  have fT:=hf.owlt _ _ cW
  have eg:Gc.ow b=none:=by simp[Gc,zC,cW,hn]
  refine⟨by simp[G',cW,hn],he.same b fT eg,?_⟩
  intro o h
  rcases he.newfix b o h with h|h|h
  ·exact h
  ·omega
  ·exact absurd eg h
 have dX:HR N w' G' h':=by
  refine dI.heap.sub rfl rfl ?_
  intro b k wc h
  cases hb:G.ow b with
  | none=>simp only[G',hb]; exact h
  | some k0 =>
    by_cases lR:k0.isH=true
    ·simp only[G',hb,lR,if_true]; exact h
    ·have eg:Gc.ow b=none:=by simp[Gc,zC,hb,lR]
     have cO:=hf.owlt _ _ hb
     rcases he.own b (by rw[h]; simp) with h2|h2
     ·omega
     ·exact absurd eg h2
 have de:FI N w' G' { st with heap:=h' } a vs (wq vs ops):=by
  refine⟨hf.len,λi t u h1 h2=>(hf.var i t u h1 h2).keep cH cM (by simp[Key.isH]) (by simp[Key.isH]),λj t u h1 h2=>(hf.loc j t u h1 h2).keep cH cM (by simp[Key.isH]) (by simp[Key.isH]),hf.tv,hf.tl,(hf.defers.trans cH.df.symm),hf.gen,?_,dI.fixlt,dX,dI.hdom⟩
  intro b k h
  cases hb:G.ow b with
  | some k0=>exact aO (hf.owlt _ _ hb) he.size
  | none =>
    simp only[G',hb] at h
    exact dI.owlt _ _ h
 exact hk _ _ G' (de.put nm (zK ho) (SR.of_pure cR.dem cR.cp_dem)) cH (zL _ _ _)
theorem Dc {xs:Array Operand} {us:List PV} (h1:xs.toList.length=us.length) (h2:∀(i:Nat) (x:Operand) (u:PV),xs.toList[i]? = some x→us[i]? = some u→VR N w G.fix G.heap (a.eval x) u∧cp u=some u):
  (xs.map a.eval).size=us.length∧∀(i:Nat) (v:Value) (p:PV),(xs.map a.eval)[i]? = some v→us[i]? = some p→VR N w G.fix G.heap v p:=by
 refine⟨by simpa using h1,?_⟩
 intro i v p hv hp
 simp only[bN,ab] at hv
 obtain⟨x,hx,rfl⟩:=hv
 exact(h2 i x p (by simpa using hx) hp).1
theorem b9l {L:Nat→Option PFunc} (hF:ze N P L) (hE:EnvOk E N) (nm:Names vs (wq vs ops)) (ho:ops[j]? = some o) (hf:FI N w G st a vs (wq vs ops)) {cf:wE} (dP:CallOK N P cf) (ej:∀k args h r,cf k args h=some r→∃f,L k=some f)
  {f:FuncId} {k:Nat} {xs:Array Operand} {ts:Array TypeId} {pxs:List PX} (cK:o.op = .call { callee := .value (.func f),args:=xs,argTypes:=ts }) (dh:E.inv f=some k) (hx:cxs E vs ops xs.toList=some pxs)
  (hs:opv cf (.pcall k pxs) st=some (u,st1)) (hk:wN N w G a st1 u vs ops j o next):o.wp P a w next Q:=by
 simp only[opv] at hs
 split at hs
 ·rename_i us eT
  split at hs
  ·rename_i d3
   split at hs
   ·rename_i r h' hc
    split at hs
    ·rename_i hr
     simp only[aa,ac] at hs
     obtain⟨rfl,rfl⟩:=hs
     obtain⟨h1,h2⟩:=Bf hE hf hx eT
     obtain⟨g1,g2⟩:=Dc (w:=w) (G:=G) h1 h2
     obtain⟨pf,hL⟩:=ej _ _ _ _ hc
     have eB:=hE.fn _ _ dh
     refine QO nm ho hf dP g1 g2 d3 hc hr ?_ hk
     have:=Cy hF hL (xs.map a.eval) w
     rw[eB] at this
     rw[eB]
     simp[execOp,cK,resolve,Act.eval,Deferred.ofValue,invoke]
     exact this
    ·simp at hs
   ·simp at hs
  ·simp at hs
 ·simp at hs
theorem VR.cp_or {N:Nm} {w:World} {fix:Nat→Nat→Prop} {hp:Nat→Option Nat} {v:Value} {p:PV} (h:VR N w fix hp v p):cp p=some p∨∃es,p = .list true es:=by
 cases h with
 | nils o=>cases o<;>simp[cp]
 | void o _ _=>cases o<;>simp[cp]
 | list o _ _ _ _ _ _ _ _ _ _ _ _ _=>cases o<;>simp[cp]
 | _=>exact .inl rfl
theorem QQ {E:Env} {vs:List Tmp} {ops:List Oper}:∀{xs:List Operand} {ps:List PX} {i:Nat} {p:PX},cxs E vs ops xs=some ps→ps[i]? = some p→∃x,xs[i]? = some x∧cx E vs ops x=some p
 | [],ps,i,p,h,hp=>by simp[cxs] at h; subst h; simp at hp
 | x :: xs, ps, i, p, h, hp => by
   simp only[cxs,ai,ab] at h
   obtain⟨q,h1,qs,h2,rfl⟩:=h
   cases i with
   | zero=>simp at hp; subst hp; exact⟨x,rfl,h1⟩
   | succ i =>
     have:=QQ (i:=i) h2 (by simpa using hp)
     simpa using this
def LP:Value→Option Nat
 | .slice (some a) _ _=>some a.block
 | _=>none
theorem QR (nm:Names vs (wq vs ops)) (ho:ops[j]? = some o) (hd:wS vs o.dst≠.n) {G0:GS} (qy:Ext w G0 w G) (hf:FI N w G st a vs (wq vs ops)) {cf:wE} (dP:CallOK N P cf) {k:Nat} {own:Option Nat} {args:List PV} {vals:Array Value} {r:PV} {h':List PObj}
  (cQ:vals.size=args.length) (hv:∀(i:Nat) (v:Value) (p:PV),vals[i]? = some v→args[i]? = some p→VR N w G.fix G.heap v p) (d3:wP args=true)
  (dA:∀(i:Nat) (v:Value) (es:List PV),own=some i→vals[i]? = some v→args[i]? = some (.list true es)→Room w G (yA (wS vs o.dst) j) v es)
  (hc:cf k (Ar own args) []=some (r,h')) (hr:wR r=true)
  (cL:(execOp a.eval o).run P w = .ok (.enter (N.fn k) vals) w) (hk:wN N w G0 a st r vs ops j o next):o.wp P a w next Q:=by
 classical
 unfold Oper.wp
 rw[cL]
 let key:=yA (wS vs o.dst) j
 let Gc:GS:={ fix:=G.fix,heap:=λ_=>none,box:=λ_=>none,ow:=λb=>own.bind λi=>if vals[i]?.bind LP=some b∧G.ow b=some key then some (.var i) else none }
 have qz:∀b k,Gc.ow b=some k→G.ow b=some key∧∃i,own=some i∧k = .var i:=by
  intro b k h
  simp only[Gc,ai] at h
  obtain⟨i,hi,h⟩:=h
  split at h
  ·rename_i hb
   simp only[aa] at h
   exact⟨hb.2,i,hi,h.symm⟩
  ·simp at h
 have dO:OwnIn N w Gc own args vals:=by
  refine⟨λb k h=>(qz b k h).2,λ_=>rfl,λ_=>rfl,hf.fixlt,λb k h=>hf.owlt _ _ (qz b k h).1,hf.heap.2,cQ,λi v p h1 h2=>(hv i v p h1 h2).free (Cu d3 p (aw h2)),?_⟩
  intro i v es hi qx fX
  have h:=dA i v es hi qx fX
  unfold Room at *
  split at h
  ·rename_i a' len cap
   rcases h with h|⟨h1,h2⟩
   ·exact .inl h
   ·refine .inr ⟨?_,h2⟩
    simp only[Gc,hi,qx,ar,LP,true_and]
    rw[ah (show G.ow a'.block=some key from h1)]
  ·trivial
 refine((dP.own k own args r h' hc).2 w Gc vals dO).mono ?_
 rintro e w' ⟨v,G2,rfl,cR,he,fC,fw⟩
 let G':GS:={ G with fix:=G2.fix,ow:=λb=>if (∃es,r = .list true es)∧LP v=some b∧(w.heap.size≤b∨Gc.ow b≠none)∧b<w'.heap.size then some key else G.ow b }
 have eg:∀b k,G.ow b=some k→k≠key→Gc.ow b=none:=by
  intro b k h hn
  cases hx:Gc.ow b with
  | none=>rfl
  | some k' =>
    have:=(qz b k' hx).1
    rw[h] at this
    simp only[aa] at this
    exact absurd this hn
 have jn:∀b,G.ow b=none→Gc.ow b=none:=by
  intro b h
  cases hx:Gc.ow b with
  | none=>rfl
  | some k'=>have:=(qz b k' hx).1; rw[h] at this; simp at this
 have cH:Ext w G w' G':=by
  refine⟨he.os,he.tape,he.output,he.size,λb cO h=>he.same b cO (jn b h),λb o h=>he.fix b o h,?_,?_,λ_ _ h=>h,he.shape,rfl⟩
  ·intro b o h
   rcases he.newfix b o h with h|h|h
   ·exact .inl h
   ·exact .inr (.inl h)
   ·exact .inr (.inr λe=>h (jn b e))
  ·intro b h
   simp only[G'] at h
   split at h
   ·rename_i hb
    rcases hb.2.2.1 with h1|h1
    ·exact .inl h1
    ·exact .inr λe=>h1 (jn b e)
   ·exact .inr h
 have cM:xO (λk=>k=key) w G w' G':=by
  refine⟨?_,λ_ _ h=>h⟩
  intro b k cW hn
  have fT:=hf.owlt _ _ cW
  have h0:=eg b k cW hn
  refine⟨?_,he.same b fT h0,?_⟩
  ·simp only[G']
   rw[af]
   ·exact cW
   ·rintro⟨_,_,h1|h1,_⟩
    ·omega
    ·exact h1 h0
  ·intro o h
   rcases he.newfix b o h with h|h|h
   ·exact h
   ·omega
   ·exact absurd h0 h
 have how:∀b k,G'.ow b=some k→b<w'.heap.size:=by
  intro b k h
  simp only[G'] at h
  split at h
  ·rename_i hb; exact hb.2.2.2
  ·exact aO (hf.owlt _ _ h) he.size
 have gz:VR N w' G'.fix G'.heap v r:=cR.free hr
 have pQ:SR N w' G' key v r:=by
  rcases gz.cp_or with h|⟨es,rfl⟩
  ·exact SR.of_pure gz h
  ·refine⟨gz,?_⟩
   have h:=fw es rfl
   unfold Room
   unfold Dk at h
   split at h
   ·rename_i a' len cap
    rcases h with h|⟨h1,sz,cs,T,h2,h3,h4⟩
    ·exact .inl h
    ·refine .inr ⟨?_,sz,cs,T,h2,h3,h4⟩
     simp only[G']
     rw[ah]
     exact⟨⟨es,rfl⟩,rfl,h1,let ⟨fz,h5,_⟩:=h3; (aX.1 h5).1⟩
   ·rename_i hx
    split
    ·rename_i a' len cap; exact absurd rfl (hx _ _ _)
    ·trivial
 exact hk _ _ G' (hf.extDst nm (zK ho) hd cH cM (λg b h=>hf.gen g b h) how fC rfl pQ) (qy.trans cH) (zL _ _ _)
theorem b8k {L:Nat→Option PFunc} (hF:ze N P L) (hE:EnvOk E N) (nm:Names vs (wq vs ops)) (ho:ops[j]? = some o) (hd:wS vs o.dst≠.n) (hf:FI N w G st a vs (wq vs ops)) {cf:wE} (dP:CallOK N P cf) (ej:∀k args h r,cf k args h=some r→∃f,L k=some f)
  {f:FuncId} {k:Nat} {xs:Array Operand} {ts:Array TypeId} {pxs:List PX} {own:Option Nat} (cK:o.op = .call { callee := .value (.func f),args:=xs,argTypes:=ts }) (dh:E.inv f=some k) (hx:cxs E vs ops xs.toList=some pxs)
  (hs:opv cf (.pcallx k pxs own) st=some (u,st1)) (hk:wN N w G a st1 u vs ops j o next):o.wp P a w next Q:=by
 have cL:∀{args:List PV} {h:List PObj} {r},cf k args h=some r→(execOp a.eval o).run P w = .ok (.enter (N.fn k) (xs.map a.eval)) w:=by
  intro args h r hc
  obtain⟨pf,hL⟩:=ej _ _ _ _ hc
  have eB:=hE.fn _ _ dh
  have:=Cy hF hL (xs.map a.eval) w
  rw[eB] at this
  rw[eB]
  simp[execOp,cK,resolve,Act.eval,Deferred.ofValue,invoke]
  exact this
 simp only[opv] at hs
 split at hs
 ·split at hs
  ·rename_i us eT
   split at hs
   ·rename_i d3
    split at hs
    ·rename_i r h' hc
     split at hs
     ·rename_i hr
      simp only[aa,ac] at hs
      obtain⟨rfl,rfl⟩:=hs
      obtain⟨h1,h2⟩:=Bf hE hf hx eT
      obtain⟨g1,g2⟩:=Dc (w:=w) (G:=G) h1 h2
      exact QR nm ho hd (Ext.refl _ _) hf dP g1 g2 d3 (by intro i v es h; simp at h) hc hr (cL hc) hk
     ·simp at hs
    ·simp at hs
   ·simp at hs
  ·simp at hs
 ·rename_i i
  split at hs
  ·rename_i v0 st2 us ht eT
   split at hs
   ·rename_i d3
    split at hs
    ·rename_i r h' hc
     split at hs
     ·rename_i hr
      simp only[aa,ac] at hs
      obtain⟨rfl,rfl⟩:=hs
      simp only[ai] at ht
      obtain⟨px,fL,ht⟩:=ht
      obtain⟨h1,h2⟩:=Bf hE hf hx eT
      obtain⟨g1,g2⟩:=Dc (w:=w) (G:=G) h1 h2
      obtain⟨x,lS,gZ⟩:=QQ hx fL
      obtain⟨G',k1,k2,k3,k4,k5,k6,k7,_⟩:=EJ hE gZ hf ht (yA (wS vs o.dst) j)
      refine QR nm ho hd k2 k1 dP (by rw[bM]; exact g1) ?_ d3.1 ?_ hc hr (cL hc) hk
      ·intro i' v p hv hp
       rw[k4,k5]
       rw[aJ] at hp
       split at hp
       ·rename_i he
        subst he
        split at hp
        ·simp only[aa] at hp
         subst hp
         simp only[bN,ab] at hv
         obtain⟨x',eA,rfl⟩:=hv
         have:x'=x:=by rw[← bP,lS] at eA; simpa using eA.symm
         subst this
         exact k6
        ·simp at hp
       ·exact g2 i' v p hv hp
      ·intro i' v es hi hv fX
       simp only[aa] at hi
       subst hi
       rw[aJ] at fX
       simp only[if_true,d3.2,aa] at fX
       subst fX
       simp only[bN,ab] at hv
       obtain⟨x',eA,rfl⟩:=hv
       have:x'=x:=by rw[← bP,lS] at eA; simpa using eA.symm
       subst this
       exact k7
     ·simp at hs
    ·simp at hs
   ·simp at hs
  ·simp at hs
theorem b9n {L:Nat→Option PFunc} (hF:ze N P L) (hE:EnvOk E N) (nm:Names vs (wq vs ops)) (ho:ops[j]? = some o) (hf:FI N w G st a vs (wq vs ops)) {cf:wE} (dP:CallOK N P cf) (ej:∀k args h r,cf k args h=some r→∃f,L k=some f)
  {t:Tmp} {px:PX} {xs:Array Operand} {ts:Array TypeId} {pxs:List PX} (cK:o.op = .call { callee := .value (.tmp t),args:=xs,argTypes:=ts }) (fL:cx E vs ops (.tmp t)=some px) (hx:cxs E vs ops xs.toList=some pxs)
  (hs:opv cf (.callv px pxs) st=some (u,st1)) (hk:wN N w G a st1 u vs ops j o next):o.wp P a w next Q:=by
 simp only[opv] at hs
 split at hs
 ·rename_i k first captured us mn eT
  split at hs
  ·rename_i d3
   split at hs
   ·rename_i r h' hc
    split at hs
    ·rename_i hr
     simp only[aa,ac] at hs
     obtain⟨rfl,rfl⟩:=hs
     obtain⟨h1,h2⟩:=Bf hE hf hx eT
     obtain⟨g1,g2⟩:=Dc (w:=w) (G:=G) h1 h2
     obtain⟨pf,hL⟩:=ej _ _ _ _ hc
     have iM:=(wW hE fL hf mn).1
     generalize hv:a.eval (.tmp t)=v at iM
     cases iM with
     | yield _ _ _ _ _ _ hy=>rw[(dP.plain _ _ _ _ _ hc).1] at hy; simp at hy
     | func _ fs cs _ _ _ e1 e2 lr ea =>
       refine QO (vals:=fs++xs.map a.eval++cs) nm ho hf dP (by simp[e1,e2]; simpa using h1) ?_ d3 hc hr ?_ hk
       ·intro i v p dN hp
        by_cases hi:i<fs.size
        ·rw[bX,bo hi] at dN
         rw[aC,am (by omega)] at hp
         exact lr i v p dN hp
        ·rw[bX,bY (by omega)] at dN
         rw[aC,ap (by omega),← e1] at hp
         by_cases dS:i - fs.size<(xs.map a.eval).size
         ·rw[bo dS] at dN
          rw[am (by omega)] at hp
          exact g2 _ v p dN hp
         ·rw[bY (by omega)] at dN
          rw[ap (by omega),← g1] at hp
          exact ea _ v p dN hp
       ·have:=Cy hF hL (fs++xs.map a.eval++cs) w
        simp only[execOp,cK,resolve,Sem.run_bind,hv,Deferred.ofValue,Sem.run_pure,Result.andThen_ok,invoke]
        exact this
    ·simp at hs
   ·simp at hs
  ·simp at hs
 ·simp at hs
theorem QS {L:Nat→Option PFunc} (hF:ze N P L) (hE:EnvOk E N) (nm:Names vs (wq vs ops)) (ho:ops[j]? = some o) (hf:FI N w G st a vs (wq vs ops)) {cf:wE} (dP:CallOK N P cf) (ej:∀k args h r,cf k args h=some r→∃f,L k=some f)
  {f:FuncId} {k:Nat} {xs:Array Operand} {ts:Array TypeId} {pxs:List PX} (cK:o.op = .call { callee := .value (.func f),args:=xs,argTypes:=ts }) (dh:E.inv f=some k) (hx:cxs E vs ops xs.toList=some pxs)
  (hs:wx cf (.call k pxs) st=some (u,st1)) (hk:wN N w G a st1 u vs ops j o next):o.wp P a w next Q:=by
 simp only[wx,ai,ab,ac] at hs
 obtain⟨us,eT,⟨r,h'⟩,hc,rfl,rfl⟩:=hs
 obtain⟨h1,h2⟩:=Bf hE hf hx eT
 obtain⟨g1,g2⟩:=Dc (w:=w) (G:=G) h1 h2
 obtain⟨pf,hL⟩:=ej _ _ _ _ hc
 have eB:=hE.fn _ _ dh
 refine QP nm ho hf dP g1 g2 hc ?_ hk
 have:=Cy hF hL (xs.map a.eval) w
 rw[eB] at this
 rw[eB]
 simp[execOp,cK,resolve,Act.eval,Deferred.ofValue,invoke]
 exact this
theorem b8l {L:Nat→Option PFunc} (hF:ze N P L) (hE:EnvOk E N) (nm:Names vs (wq vs ops)) (ho:ops[j]? = some o) (hf:FI N w G st a vs (wq vs ops)) {cf:wE} (dP:CallOK N P cf) (ej:∀k args h r,cf k args h=some r→∃f,L k=some f)
  {t:Tmp} {px:PX} {xs:Array Operand} {ts:Array TypeId} {pxs:List PX} (cK:o.op = .call { callee := .value (.tmp t),args:=xs,argTypes:=ts }) (fL:cx E vs ops (.tmp t)=some px) (hx:cxs E vs ops xs.toList=some pxs)
  (hs:wx cf (.callv px pxs) st=some (u,st1)) (hk:wN N w G a st1 u vs ops j o next):o.wp P a w next Q:=by
 simp only[wx] at hs
 split at hs
 ·rename_i k first captured us mn eT
  simp only[ab,ac] at hs
  obtain⟨⟨r,h'⟩,hc,rfl,rfl⟩:=hs
  obtain⟨h1,h2⟩:=Bf hE hf hx eT
  obtain⟨g1,g2⟩:=Dc (w:=w) (G:=G) h1 h2
  obtain⟨pf,hL⟩:=ej _ _ _ _ hc
  have iM:=(wW hE fL hf mn).1
  generalize hv:a.eval (.tmp t)=v at iM
  cases iM with
  | yield _ _ _ _ _ _ hy=>rw[(dP.plain _ _ _ _ _ hc).1] at hy; simp at hy
  | func _ fs cs _ _ _ e1 e2 lr ea =>
    refine QP (vals:=fs++xs.map a.eval++cs) nm ho hf dP (by simp[e1,e2]; simpa using h1) ?_ hc ?_ hk
    ·intro i v p dN hp
     by_cases hi:i<fs.size
     ·rw[bX,bo hi] at dN
      rw[aC,am (by omega)] at hp
      exact lr i v p dN hp
     ·rw[bX,bY (by omega)] at dN
      rw[aC,ap (by omega),← e1] at hp
      by_cases dS:i - fs.size<(xs.map a.eval).size
      ·rw[bo dS] at dN
       rw[am (by omega)] at hp
       exact g2 _ v p dN hp
      ·rw[bY (by omega)] at dN
       rw[ap (by omega),← g1] at hp
       exact ea _ v p dN hp
    ·have:=Cy hF hL (fs++xs.map a.eval++cs) w
     simp only[execOp,cK,resolve,Sem.run_bind,hv,Deferred.ofValue,Sem.run_pure,Result.andThen_ok,invoke]
     exact this
 ·simp at hs
theorem c3c {L:Nat→Option PFunc} (hF:ze N P L) (hE:EnvOk E N) (hP:E.P=P) (nm:Names vs (wq vs ops)) (ho:ops[j]? = some o) (hf:FI N w G st a vs (wq vs ops)) {cf:wE} (dP:CallOK N P cf)
  (ej:∀k args h r,cf k args h=some r→∃f,L k=some f) {po:HOp} (hc:IM E vs ops o=some po) (hs:wx cf po st=some (u,st1)) (hk:wN N w G a st1 u vs ops j o next):o.wp P a w next Q:=by
 subst hP
 unfold IM at hc
 split at hc
 ·rename_i t cK
  split at hc
  ·simp at hc
  ·split at hc
   ·rename_i hb
    simp only[aa] at hc
    subst hc
    exact b8t hE rfl nm ho hf cK hb hs hk
   ·simp only[ab] at hc
    obtain⟨z,hz,rfl⟩:=hc
    exact b8m nm ho hf cK hz hs hk
 ·rename_i t x cK
  split at hc
  ·simp at hc
  ·simp only[ai,ab] at hc
   obtain⟨n,hn,p,hp,rfl⟩:=hc
   exact b8n hE nm ho hf cK hn hp hs hk
 ·rename_i t x cK
  split at hc
  ·simp only[ai,ab] at hc
   obtain⟨n,hn,p,hp,rfl⟩:=hc
   exact b9q hE nm ho hf cK hn hp hs hk
  ·split at hc
   ·simp only[ai,ab] at hc
    obtain⟨n,hn,p,hp,rfl⟩:=hc
    exact b9s hE nm ho hf cK hn hp hs hk
   ·simp at hc
 ·rename_i t x y cK
  split at hc
  ·rename_i hd
   simp only[ai,ab] at hc
   obtain⟨n,hn,p,hp,q,hq,hc⟩:=hc
   split at hc
   ·subst hc
    exact b6D hE nm ho hf cK hd.1 hn hp hq hs hk
   ·subst hc
    exact QT hE nm ho hf cK hd.1 hn hp hq hs hk
  ·simp at hc
 ·rename_i t x i cK
  split at hc
  ·rename_i len e hu
   split at hc
   ·simp only[ai,ab] at hc
    obtain⟨n,hn,p,hp,q,hq,rfl⟩:=hc
    exact b8o hE nm ho hf cK hu hn hp hq hs hk
   ·simp at hc
  ·simp at hc
 ·rename_i t cK
  split at hc
  ·simp at hc
  ·simp only[aa] at hc
   subst hc
   exact b9p nm ho hf cK hs hk
 ·rename_i t m k ok cK
  split at hc
  ·rename_i kt e hu
   simp only[ai,ab] at hc
   obtain⟨kk,eW,z,hz,p,hp,q,hq,rfl⟩:=hc
   exact b8q hE nm ho hf cK hu eW hz hp hq hs hk
  ·simp at hc
 ·rename_i t m k v cK
  split at hc
  ·rename_i kt e hu
   split at hc
   ·rename_i hd
    simp only[ai,ab] at hc
    obtain⟨kk,eW,p,hp,q,hq,r,hr,rfl⟩:=hc
    exact QU hE nm ho hf (.inl cK) hd hu eW hp hq hr hs hk
   ·simp at hc
  ·simp at hc
 ·rename_i t m k v cK
  split at hc
  ·rename_i kt e hu
   split at hc
   ·rename_i hd
    simp only[ai,ab] at hc
    obtain⟨kk,eW,p,hp,q,hq,r,hr,rfl⟩:=hc
    exact QU hE nm ho hf (.inr cK) hd hu eW hp hq hr hs hk
   ·simp at hc
  ·simp at hc
 ·rename_i op t x y t' cK
  split at hc
  ·rename_i cP
   simp only[ai,ab] at hc
   obtain⟨kd,wd,p,hp,rfl⟩:=hc
   exact b9r hE nm ho hf cK cP wd hp hs hk
  ·simp at hc
 ·rename_i x cK
  simp only[ab] at hc
  obtain⟨p,hp,rfl⟩:=hc
  exact b8s hE nm ho hf cK hp hs hk
 ·rename_i t l c' cK
  split at hc
  ·rename_i e hu
   split at hc
   ·rename_i size z hn hz
    split at hc
    ·simp at hc
    ·rename_i cP
     simp only[bF,not_or,cn,bQ] at cP
     simp only[ab] at hc
     obtain⟨p,hp,rfl⟩:=hc
     exact b9t hE nm ho hf cK hu hn hz cP.2 hp hs hk
   ·simp at hc
  ·simp at hc
 ·rename_i t x cK
  split at hc
  ·rename_i hu
   split at hc
   ·simp at hc
   ·simp only[ab] at hc
    obtain⟨p,hp,rfl⟩:=hc
    exact b9u hE nm ho hf cK hu hp hs hk
  ·simp at hc
 ·rename_i x cK
  split at hc
  ·simp at hc
  ·simp only[ab] at hc
   obtain⟨p,hp,rfl⟩:=hc
   exact c1t hE nm ho hf cK hp hs hk
 ·rename_i t parts cK
  split at hc
  ·rename_i n e hu
   split at hc
   ·rename_i size z hn hz
    simp only[ab] at hc
    obtain⟨ps,d9,rfl⟩:=hc
    exact c1q hE nm ho hf cK hu hn hz d9 hs hk
   ·simp at hc
  ·simp at hc
 ·rename_i t x i cK
  split at hc
  ·rename_i len e hu
   simp only[ai,ab] at hc
   obtain⟨n,hn,p,hp,q,hq,rfl⟩:=hc
   exact c1r hE nm ho hf cK hu hn hp hq hs hk
  ·simp at hc
 ·rename_i fn xs ys cK
  split at hc
  ·simp at hc
  ·simp only[ai,ab] at hc
   obtain⟨f,eB,k,dh,ps,d9,qs,jW,rfl⟩:=hc
   have:fn = .func f:=by
    unfold Mj at eB
    split at eB
    ·simp at eB; subst eB; rfl
    ·simp at eB
   subst this
   exact b8r hE nm ho hf cK dh d9 jW hs hk
 ·rename_i args ts cK
  obtain⟨args⟩:=args
  obtain⟨ts⟩:=ts
  split at hc
  ·rename_i s x t1 t2 cN eo
   simp only at cN eo
   subst cN eo
   split at hc
   ·split at hc
    ·rename_i e e' hu eU
     split at hc
     ·rename_i size z hn hz
      simp only[ai,ab] at hc
      obtain⟨p,hp,q,hq,rfl⟩:=hc
      exact c1u hE nm ho hf cK hu eU hn hz hp hq hs hk
     ·simp at hc
    ·rename_i e k0 hu eU
     split at hc
     ·rename_i size z hn hz
      simp only[ai,ab] at hc
      obtain⟨p,hp,q,hq,rfl⟩:=hc
      exact b9v hE nm ho hf cK hu eU hn hz hp hq hs hk
     ·simp at hc
    ·simp at hc
   ·simp at hc
  ·simp at hc
 ·rename_i args ts cK
  obtain⟨args⟩:=args
  obtain⟨ts⟩:=ts
  split at hc
  ·rename_i x t rest cN eo
   simp only at cN eo
   subst cN eo
   split at hc
   ·rename_i e hu
    split at hc
    ·rename_i eP
     simp only[ai,ab] at hc
     obtain⟨size,hn,z,hz,p,hp,rfl⟩:=hc
     have dZ:o.dst=none:=by
      unfold isN wS at eP
      split at eP
      ·rename_i hd
       split at hd
       ·assumption
       ·split at hd<;>simp at hd
      ·simp at eP
     exact b9w hE nm ho hf dZ cK hu hn hz hp hs hk
    ·simp at hc
   ·simp at hc
  ·simp at hc
 ·rename_i args ts cK
  obtain⟨args⟩:=args
  obtain⟨ts⟩:=ts
  split at hc
  ·rename_i x t rest cN eo
   simp only at cN eo
   subst cN eo
   split at hc
   ·rename_i kt e hu
    split at hc
    ·simp at hc
    ·simp only[ab] at hc
     obtain⟨p,hp,rfl⟩:=hc
     exact c1o hE nm ho hf cK rfl hu hp hs hk
   ·simp at hc
  ·simp at hc
 ·rename_i f args ts cK
  split at hc
  ·simp only[ai,ab] at hc
   obtain⟨k,dh,ps,d9,rfl⟩:=hc
   split at hs
   ·refine QS hF hE nm ho hf dP ej cK dh d9 ?_ hk
    simp only[wx,ai,same] at hs ⊢
    obtain⟨us,h1,r,h2,h3⟩:=hs
    split at h3
    ·rename_i he
     simp only[aa,ac] at h3
     obtain⟨rfl,rfl⟩:=h3
     exact⟨us,h1,by rw[h2,az,he]⟩
    ·simp at h3
   ·exact QS hF hE nm ho hf dP ej cK dh d9 hs hk
  ·simp at hc
 ·rename_i t args ts cK
  split at hc
  ·simp only[ai,ab] at hc
   obtain⟨p,hp,ps,d9,rfl⟩:=hc
   exact b8l hF hE nm ho hf dP ej cK hp d9 hs hk
  ·simp at hc
 ·simp at hc
theorem c4T {L:Nat→Option PFunc} (hF:ze N P L) (hE:EnvOk E N) (hP:E.P=P) (nm:Names vs (wq vs ops)) (ho:ops[j]? = some o) (hf:FI N w G st a vs (wq vs ops)) {cf:wE} (dP:CallOK N P cf)
  (ej:∀k args h r,cf k args h=some r→∃f,L k=some f) {po:POp} (hc:cOp E vs ops o=some po) (hs:opv cf po st=some (u,st1)) (hk:wN N w G a st1 u vs ops j o next):o.wp P a w next Q:=by
 unfold cOp at hc
 simp only at hc
 split at hc
 ·rename_i h q9
  simp only[aa] at hc
  subst hc
  exact c3c hF hE hP nm ho hf dP ej q9 (by simpa[opv] using hs) hk
 rename_i eg
 subst hP
 split at hc
 ·
  rename_i x cK
  simp only[ab] at hc
  obtain⟨p,hp,rfl⟩:=hc
  split at hs
  ·exact QH hE nm ho hf (by simp[execOp,cK]) hp (by simpa[opv] using hs) hk
  ·exact c26 hE nm ho hf (by simp[execOp,cK]) hp (by simpa[opv] using hs) hk
 ·rename_i x cK
  simp only[ab] at hc
  obtain⟨p,hp,rfl⟩:=hc
  exact QH hE nm ho hf (by simp[execOp,cK]) hp (by simpa[opv] using hs) hk
 ·rename_i x y z cK
  simp only[ai,ab] at hc
  obtain⟨px,fL,pa,p7,pb,we,rfl⟩:=hc
  exact c1f hE nm ho hf cK fL p7 we hs hk
 ·rename_i t cK
  split at hc
  ·rename_i hv
   simp only[ab] at hc
   obtain⟨z,hz,rfl⟩:=hc
   exact b8e nm ho hf cK hz hv hs hk
  ·simp at hc
 ·rename_i t x cK
  split at hc
  ·rename_i hv
   simp only[ai,ab] at hc
   obtain⟨n,hn,p,hp,rfl⟩:=hc
   exact b8f hE nm ho hf cK hn hp hv hs hk
  ·simp at hc
 ·rename_i t parts cK
  split at hc
  ·rename_i fs z hu hz
   split at hc
   ·rename_i places gl
    simp only[ab] at hc
    obtain⟨ps,d9,rfl⟩:=hc
    exact b9h hE nm ho hf cK hu hz gl d9 hs hk
   ·simp at hc
  ·simp at hc
 ·rename_i t len parts cK
  split at hc
  ·rename_i e hu
   split at hc
   ·rename_i size z hn hz
    split at hc
    ·rename_i cI
     simp only[ab] at hc
     obtain⟨ps,d9,rfl⟩:=hc
     exact b6x hE nm ho hf cK hu hn hz cI d9 hs hk
    ·simp at hc
   ·simp at hc
  ·simp at hc
 ·rename_i t x cK
  simp only[ai,ab] at hc
  obtain⟨n,hn,p,hp,rfl⟩:=hc
  split at hs
  ·refine QL (tk:=false) (cf:=cf) hE nm ho hf cK hn hp ?_ hk
   simp only[opv] at hs ⊢
   split at hs
   ·rename_i s' g off dH
    split at hs
    ·rename_i g' cs hv
     split at hs
     ·rename_i hc
      obtain⟨rfl,rfl⟩:=hc
      simp only[dH,hv,if_true,bK]
      exact hs
     ·simp at hs
    ·simp at hs
   ·simp at hs
  ·exact QL hE nm ho hf cK hn hp hs hk
 ·rename_i t x y cK
  split at hc
  ·rename_i hd
   simp only[ai,ab] at hc
   obtain⟨n,hn,p,hp,q,hq,rfl⟩:=hc
   exact b9i hE nm ho hf cK hd hn hp hq hs hk
  ·simp at hc
 ·rename_i s x f cK
  split at hc
  ·rename_i fs hu
   split at hc
   ·rename_i fd iW
    simp only[ai,ab] at hc
    obtain⟨n,hn,p,hp,rfl⟩:=hc
    exact b9f hE nm ho hf cK hu iW hn hp hs hk
   ·simp at hc
  ·simp at hc
 ·rename_i t x i cK
  split at hc
  ·rename_i e hu
   simp only[ai,ab] at hc
   obtain⟨n,hn,p,hp,q,hq,rfl⟩:=hc
   exact b74 hE nm ho hf cK hu hn hp hq hs hk
  ·rename_i len e hu
   simp only[ai,ab] at hc
   obtain⟨n,hn,p,hp,q,hq,rfl⟩:=hc
   exact b75 hE nm ho hf cK hu hn hp hq hs hk
  ·simp at hc
 ·rename_i t x f cK
  split at hc
  ·rename_i fs hu
   split at hc
   ·rename_i fd iW
    simp only[ai,ab] at hc
    obtain⟨n,hn,p,hp,rfl⟩:=hc
    exact b9g hE nm ho hf cK hu iW hn hp hs hk
   ·simp at hc
  ·simp at hc
 ·rename_i t x i cK
  split at hc
  ·rename_i hu
   simp only[ai,ab] at hc
   obtain⟨p,hp,q,hq,rfl⟩:=hc
   exact b5a hE nm ho hf cK hu hp hq hs hk
  ·simp at hc
 ·rename_i t x lo hi cK
  split at hc
  ·rename_i hu
   simp only[ai,ab] at hc
   obtain⟨p,hp,pl,hl,ph,hh,rfl⟩:=hc
   exact b8b hE nm ho hf cK hu hp hl hh hs hk
  ·rename_i e hu
   simp only[ai,ab] at hc
   obtain⟨n,hn,p,hp,pl,hl,ph,hh,rfl⟩:=hc
   exact b8c hE nm ho hf cK hu hn hp hl hh hs hk
  ·rename_i n e hu
   split at hc
   ·have hn:wT E.P e=some 1:=by assumption
    simp only[ab] at hc
    obtain⟨p,hp,rfl⟩:=hc
    exact b5b hE nm ho hf cK hu hn hp hs hk
   ·simp at hc
  ·simp at hc
 ·rename_i op t x y t' cK
  split at hc
  ·rename_i ge
   split at hc
   ·rename_i agg ks ht
    simp only[ai,ab] at hc
    obtain⟨p,hp,q,hq,rfl⟩:=hc
    exact c4Q hE rfl nm ho hf cK ge ht hp hq hs hk
   ·simp only[ai,ab] at hc
    obtain⟨p,hp,q,hq,rfl⟩:=hc
    exact QA hE nm ho hf cK hp hq hs hk
   ·simp at hc
  ·simp only[ai,ab] at hc
   obtain⟨p,hp,q,hq,rfl⟩:=hc
   exact QA hE nm ho hf cK hp hq hs hk
 ·rename_i op t x cK
  simp only[ab] at hc
  obtain⟨p,hp,rfl⟩:=hc
  exact c4R hE nm ho hf cK hp hs hk
 ·rename_i s t x cK
  split at hc
  ·rename_i k' k hu eU
   simp only[ab] at hc
   obtain⟨p,hp,rfl⟩:=hc
   exact b6u hE nm ho hf cK hu eU hp hs hk
  ·rename_i hu eU
   simp only[ab] at hc
   obtain⟨p,hp,rfl⟩:=hc
   exact c1h hE nm ho hf cK hu eU hp hs hk
  ·rename_i e hu eU
   split at hc
   ·rename_i he
    split at hc
    ·simp at hc
    ·rename_i dk
     have gM:wS vs o.dst≠.n:=by intro e; rw[e] at dk; simp[isN] at dk
     simp only[ab] at hc
     obtain⟨p,hp,rfl⟩:=hc
     exact c3h hE nm ho hf cK gM hu eU he hp hs hk
   ·simp at hc
  ·rename_i e hu eU
   split at hc
   ·rename_i he
    simp only[ab] at hc
    obtain⟨p,hp,rfl⟩:=hc
    exact c3a hE nm ho hf cK hu he eU hp hs hk
   ·simp at hc
  ·simp at hc
 ·rename_i x i cK
  simp only[ab] at hc
  obtain⟨p,hp,rfl⟩:=hc
  exact b6v hE nm ho hf cK hp hs hk
 ·rename_i b args ts cK
  split at hc
  ·simp at hc
  ·rename_i dk
   have gM:wS vs o.dst≠.n:=by intro e; rw[e] at dk; simp[isN] at dk
   obtain⟨args⟩:=args
   obtain⟨ts⟩:=ts
   unfold Mi at hc
   split at hc
   ·rename_i x t rest hb cN eo
    simp only at cN eo
    subst cN eo
    split at hc
    ·rename_i hu
     simp only[ab] at hc
     obtain⟨p,hp,rfl⟩:=hc
     exact QC hE nm ho hf cK rfl (str:=true) (by simpa using hu) hp hs hk
    ·rename_i e hu
     simp only[ab] at hc
     obtain⟨p,hp,rfl⟩:=hc
     exact QC hE nm ho hf cK rfl (str:=false) (by simpa using⟨e,hu⟩) hp hs hk
    ·simp at hc
   ·simp only[ab] at hc
    obtain⟨p,hp,rfl⟩:=hc
    exact QG (mx:=false) hE nm ho hf cK hp hs hk
   ·simp only[ab] at hc
    obtain⟨p,hp,rfl⟩:=hc
    exact QG (mx:=true) hE nm ho hf cK hp hs hk
   ·rename_i x t rest hb cN eo
    simp only at cN eo
    subst cN eo
    split at hc
    ·rename_i e hu
     simp only[ab] at hc
     obtain⟨p,hp,rfl⟩:=hc
     exact c27 hE nm ho hf cK rfl hu hp hs hk
    ·simp at hc
   ·rename_i s x t1 t2 hb cN eo
    simp only at cN eo
    subst cN eo
    split at hc
    ·rename_i e e' hu eU
     split at hc
     ·rename_i size z hn hz
      simp only[ai,ab] at hc
      obtain⟨p,hp,q,hq,rfl⟩:=hc
      exact b8h hE nm ho hf cK gM hu eU hn hz hp hq hs hk
     ·simp at hc
    ·rename_i e hu eU
     split at hc
     ·rename_i z he hn hz eJ
      simp only[ai,ab] at hc
      obtain⟨p,hp,q,hq,rfl⟩:=hc
      exact b8j hE nm ho hf cK gM hu eU hn hz eJ hp hq hs hk
     ·simp at hc
    ·simp at hc
   ·simp at hc
 ·rename_i f args ts cK
  simp only[ai,ab] at hc
  obtain⟨k,dh,ps,d9,rfl⟩:=hc
  split at hs
  ·split at hs
   ·simp[Cz,opv,rd,raw,cp] at hs
   ·rename_i dk
    exact b8k hF hE nm ho (by intro e; rw[e] at dk; simp[isN] at dk) hf dP ej cK dh d9 hs hk
  ·exact b9l hF hE nm ho hf dP ej cK dh d9 hs hk
 ·rename_i t args ts cK
  simp only[ai,ab] at hc
  obtain⟨p,hp,ps,d9,rfl⟩:=hc
  exact b9n hF hE nm ho hf dP ej cK hp d9 hs hk
 ·simp at hc
end
section
variable {E:Env} {N:Nm} {w:World} {G:GS} {st:St} {a:Act} {vs:List Tmp} {P:Program} {ops:Array Oper}
variable {o:Oper} {j:Nat} {Q:Exit→Act→World→Prop} {st1:St}
abbrev Next1 (N:Nm) (w:World) (G:GS) (a:Act) (st1:St) (vs:List Tmp) (ops:List Oper) (K:Act→World→Prop):Prop:=
 ∀a' w' G',FI N w' G' st1 a' vs (wq vs ops)→Ext w G w' G'→a'.tmps.size=a.tmps.size→K a' w'
theorem GA {L:Nat→Option PFunc} (hF:ze N P L) (hE:EnvOk E N) (hP:E.P=P) (nm:Names vs (wq vs ops.toList)) (ho:ops[j]? = some o) (hf:FI N w G st a vs (wq vs ops.toList)) {cf:wE} (dP:CallOK N P cf)
  (ej:∀k args h r,cf k args h=some r→∃f,L k=some f) {po:PO} (hc:De E vs ops.toList o=some po) (hs:xX cf j po st=some st1) {K:Act→World→Prop} (hk:Next1 N w G a st1 vs ops.toList K):wpOp P ops Q j K a w:=by
 have eN:ops.toList[j]? = some o:=by simpa using ho
 simp only[De,ab] at hc
 obtain⟨g,hg,rfl⟩:=hc
 generalize nN:(cOp E vs ops.toList o).getD Cz=p at hs
 unfold wpOp
 simp only[ho]
 have run:∀{st1},(opv cf p st).map (λr=>put r.2 j (wS vs o.dst) r.1)=some st1→Next1 N w G a st1 vs ops.toList K→o.wp P a w K Q:=by
  intro st1 h hk
  simp only[ab] at h
  obtain⟨⟨u,st2⟩,h1,rfl⟩:=h
  cases fK:cOp E vs ops.toList o with
  | none =>
    rw[fK] at nN
    simp only[Option.getD_none] at nN
    subst nN
    simp[Cz,opv,rd,raw,cp] at h1
  | some p' =>
    rw[fK] at nN
    simp only[bJ] at nN
    subst nN
    exact c4T hF hE hP nm eN hf dP ej fK h1 hk
 unfold Mk at hg
 split at hg
 ·rename_i sB
  simp at hg; subst hg
  simp only[xX] at hs
  rw[ah (by simp[Region.wanted,sB])]
  exact .inl (run hs hk)
 ·rename_i jj want tY
  split at hg
  ·rename_i og tZ
   split at hg
   ·rename_i t ht
    simp only[ab] at hg
    obtain⟨px,fL,rfl⟩:=hg
    simp only[xX] at hs
    split at hs
    ·rename_i b hb
     have eO:=(wW hE fL hf hb).1
     have eR:a.eval (.tmp t) = .bool b:=by generalize a.eval (.tmp t)=z at eO; cases eO; rfl
     have hy:yielded ops a.tmps jj=some b:=by
      have h1:ops[jj]? = some og:=by simpa using tZ
      have h2:a.tmps[t]? = some (.bool b):=by
       simp only[Act.eval,aM] at eR
       cases h:a.tmps[t]? with
       | none=>rw[h] at eR; simp[undef] at eR
       | some z=>rw[h] at eR; simpa using eR
      simp[yielded,h1,ht,h2]
     have hw:Region.wanted o (yielded ops a.tmps)=(b==want):=by
      simp[Region.wanted,tY,hy]
     rw[hw]
     split at hs
     ·rename_i mN
      rw[ah (by simpa using mN)]
      exact .inl (run hs hk)
     ·rename_i mN
      rw[af (by simpa using mN)]
      simp at hs; subst hs
      exact hk _ _ G (hf.put nm (zK eN) (.tuple #[] [] rfl (by intro i c p h _; simp at h))) (Ext.refl _ _) (zL _ _ _)
    ·rename_i hb
     have eO:=(wW hE fL hf hb).1
     have eR:a.eval (.tmp t) = .tuple #[]:=by
      generalize a.eval (.tmp t)=z at eO
      cases eO with
      | tuple cs _ cI _=>simp at cI; rw[cI]
     have hy:yielded ops a.tmps jj=none:=by
      have h1:ops[jj]? = some og:=by simpa using tZ
      simp only[Act.eval,aM] at eR
      cases h:a.tmps[t]? with
      | none=>simp[yielded,h1,ht,h]
      | some z=>rw[h] at eR; simp at eR; subst eR; simp[yielded,h1,ht,h]
     have hw:Region.wanted o (yielded ops a.tmps)=false:=by
      simp[Region.wanted,tY,hy]
     rw[hw]
     simp at hs; subst hs
     exact hk _ _ G (hf.put nm (zK eN) (.tuple #[] [] rfl (by intro i c p h _; simp at h))) (Ext.refl _ _) (zL _ _ _)
    ·simp at hs
   ·simp at hg
  ·simp at hg
theorem Next1.trans {w':World} {G':GS} {a':Act} {K:Act→World→Prop} {vs':List Tmp} {ops':List Oper} (h:Next1 N w G a st1 vs' ops' K) (e:Ext w G w' G') (hs:a'.tmps.size=a.tmps.size):Next1 N w' G' a' st1 vs' ops' K:=
 λa2 w2 G2 h1 h2 h3=>h a2 w2 G2 h1 (e.trans h2) (h3.trans hs)
theorem CT:∀{os:List Oper} {pos:List PO} {ops:List Oper},Cw E vs ops os=some pos→os.length=pos.length∧∀(i:Nat) (o:Oper),os[i]? = some o→∃p,pos[i]? = some p∧De E vs ops o=some p
 | [],pos,ops,h=>by simp[Cw] at h; subst h; simp
 | o :: os, pos, ops, h => by
   simp only[Cw,ai,ab] at h
   obtain⟨p,hp,ps,d9,rfl⟩:=h
   obtain⟨h1,h2⟩:=CT d9
   refine⟨by simp[h1],?_⟩
   intro i o' eN
   cases i with
   | zero=>simp at eN; subst eN; exact⟨p,rfl,hp⟩
   | succ i=>simpa using h2 i o' (by simpa using eN)
noncomputable def yD (cf:wE) (pos:List PO):List Nat→St→Option St
 | [],st=>some st
 | i :: l, st =>
   match pos[i]? with
   | some p=>(xX cf i p st).bind (yD cf pos l)
   | none=>none
theorem Gx {cf:wE} {all:List PO}:∀{pos:List PO} {j:Nat} {st:St},all.drop j=pos→zj cf j pos st=yD cf all (List.range' j pos.length) st
 | [],j,st,_=>by simp[zj,yD]
 | p :: pos, j, st, h => by
   have h1:all[j]? = some p:=by
    have:=aH List.head? h; simpa[List.head?_drop] using this
   have h2:all.drop (j+1)=pos:=by have:=aH List.tail h; simpa[List.tail_drop] using this
   simp only[zj,bi,List.range'_succ,yD,h1]
   congr 1
   funext st'
   exact Gx h2
theorem IC {L:Nat→Option PFunc} (hF:ze N P L) (hE:EnvOk E N) (hP:E.P=P) (nm:Names vs (wq vs ops.toList)) {cf:wE} (dP:CallOK N P cf)
  (ej:∀k args h r,cf k args h=some r→∃f,L k=some f) {pos:List PO} (hc:Cw E vs ops.toList ops.toList=some pos):
  ∀{l:List Nat} {st st':St} {w:World} {G:GS} {a:Act},yD cf pos l st=some st'→FI N w G st a vs (wq vs ops.toList)→Next1 N w G a st' vs ops.toList (Q .normal)→wpOps P ops Q l a w
 | [], st, st', w, G, a, h, hf, hk => by
   simp[yD] at h; subst h
   exact hk _ _ G hf (Ext.refl _ _) rfl
 | i :: l, st, st', w, G, a, h, hf, hk => by
   simp only[yD] at h
   split at h
   ·rename_i p hp
    simp only[ai] at h
    obtain⟨st1,h1,h2⟩:=h
    have cO:i<ops.toList.length:=by rw[(CT hc).1]; exact(aj.1 hp).1
    obtain⟨p',fk,fK⟩:=(CT hc).2 i ops.toList[i] (an cO)
    have:p'=p:=by rw[hp] at fk; simpa using fk.symm
    subst this
    rw[wpOps_cons]
    refine GA hF hE hP nm (o:=ops.toList[i]) (by simp) hf dP ej fK h1 ?_
    intro a' w' G' ju he hs
    exact IC hF hE hP nm dP ej hc h2 ju (hk.trans he hs)
   ·simp at h
end
theorem IE {t:Tmp} {vs:List Tmp} {i:Nat} (h:vs[i]? = some t):∀n,(yt t vs n).isSome=true:=by
 induction vs generalizing i with
 | nil=>simp at h
 | cons x xs ih =>
   intro n
   simp only[yt]
   split
   ·rfl
   ·rename_i c9
    cases i with
    | zero=>simp at h; exact absurd h c9
    | succ i=>exact ih (by simpa using h) (n+1)
theorem Qy {vs:List Tmp}:∀{ops:List Oper},CO vs ops=true→∀(j j':Nat) (o o':Oper) (t:Tmp),ops[j]? = some o→ops[j']? = some o'→o.dst=some t→o'.dst=some t→(yt t vs 0).isSome=false→j=j'
 | [],_,j,_,_,_,_,h,_,_,_,_=>by simp at h
 | x :: xs, h, j, j', o, o', t, h1, h2, h3, h4, h5 => by
   simp only[CO,al] at h
   obtain⟨ha,hb⟩:=h
   have key:∀(m:Nat) (p:Oper),xs[m]? = some p→x.dst=some t→p.dst≠some t:=by
    intro m p hm hx
    rw[hx] at ha
    simp only[h5,Bool.false_or,aD,bne_iff_ne,ne_eq] at ha
    exact ha p (aw hm)
   cases j with
   | zero =>
     simp at h1; subst h1
     cases j' with
     | zero=>rfl
     | succ m=>exact absurd h4 (key m o' (by simpa using h2) h3)
   | succ m =>
     cases j' with
     | zero=>simp at h2; subst h2; exact absurd h3 (key m o (by simpa using h1) h4)
     | succ m'=>rw[Qy hb m m' o o' t (by simpa using h1) (by simpa using h2) h3 h4 h5]
theorem Gw {vs:List Tmp} {ops:List Oper} (hn:vs.Nodup) (ho:CO vs ops=true):Names vs (wq vs ops):=by
 have sp:∀j t,wq vs ops j=some t→∃o,ops[j]? = some o∧o.dst=some t∧(yt t vs 0).isSome=false:=by
  intro j t h
  unfold wq at h
  split at h
  ·rename_i o ho
   split at h
   ·rename_i t' jJ
    split at h
    ·simp at h
    ·rename_i hi
     simp at h; subst h
     exact⟨o,ho,jJ,by simpa using hi⟩
   ·simp at h
  ·simp at h
 refine⟨?_,?_,?_⟩
 ·intro i i' t h1 h2
  obtain⟨hi,e1⟩:=aj.1 h1
  obtain⟨jZ,e2⟩:=aj.1 h2
  exact(List.getElem_inj hn).1 (e1.trans e2.symm)
 ·intro j t i h1 h2
  obtain⟨o,_,_,h3⟩:=sp j t h1
  have:=IE h2 0
  rw[h3] at this; simp at this
 ·intro j j' t h1 h2
  obtain⟨o,a1,a2,a3⟩:=sp j t h1
  obtain⟨o',b1,b2,_⟩:=sp j' t h2
  exact Qy ho j j' o o' t a1 b1 a2 b2 a3
end PI
