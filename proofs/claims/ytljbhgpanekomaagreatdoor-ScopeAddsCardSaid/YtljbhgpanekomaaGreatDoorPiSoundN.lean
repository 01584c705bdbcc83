import Derived.Test.YtljbhgpanekomaaGreatDoorPiSound8
import Derived.Laws.MakeOwn
import Derived.Laws.RangeString
import Derived.Orders
import Derived.LoopN
set_option maxRecDepth 100000
set_option linter.unusedSimpArgs false
set_option linter.unusedVariables false
set_option linter.unusedSectionVars false
namespace PI
open Go
section
variable {E:Env} {N:Nm} {w:World} {G:GS} {st:St} {a:Act} {vs:List Tmp} {ops:List Oper} {P:Program}
variable {o:Oper} {j:Nat} {next:Act→World→Prop} {Q:Exit→Act→World→Prop} {u:PV} {st1:St}
theorem K1 {α:Type} (l:List α):∀(n k:Nat),(List.replicate n l).flatten[k]? = if k<n*l.length then l[k % l.length]? else none
 | 0,k=>by simp
 | n + 1, k => by
   have ih:=K1 l n (k - l.length)
   have e:(n+1)*l.length=n*l.length+l.length:=Nat.succ_mul _ _
   rw[List.replicate_succ,List.flatten_cons,List.getElem?_append,ih,e]
   by_cases hk:k<l.length
   ·have:k<n*l.length+l.length:=by omega
    simp only[hk,this,Nat.mod_eq_of_lt hk,if_true]
   ·have hm:(k - l.length) % l.length=k % l.length:=(Nat.mod_eq_sub_mod (by omega)).symm
    by_cases h2:k - l.length<n*l.length
    ·have:k<n*l.length+l.length:=by omega
     simp only[hk,h2,this,if_true,if_false,hm]
    ·have:¬k<n*l.length+l.length:=by omega
     simp only[hk,h2,this,if_false]
theorem b9N {x y:Operand} (h:F7 x y=true) {k:IntKind} {n:Int} (hx:a.eval x = .int k n):∃k',a.eval y = .int k' n:=by
 unfold F7 at h
 split at h
 ·simp at h; subst h; exact⟨k,hx⟩
 ·simp at h; subst h
  simp only[Act.eval] at hx ⊢
  cases hx
  exact⟨_,rfl⟩
 ·simp at h
theorem b7U (hE:EnvOk E N) (nm:Names vs (wk vs ops)) (ho:ops[j]? = some o) (hf:FI N w G st a vs (wk vs ops)) {t e:TypeId} {l c:Operand} {px:PX} {size:Nat} {z:List PV} (cN:o.op = .makeSlice t l c)
  (hu:P.underlying t=some (.slice e)) (hn:wP P e=some size) (hz:yf P e=some z) (ee:F7 l c=true) (hx:cx E vs ops l=some px) {cf:wu} (hs:wo cf (.mkarr size (xi P e) (P.bytesOf e) z px) st=some (u,st1)) (hk:wG N w G a st1 u vs ops j o next):o.wp P a w next Q:=by
 simp only[wo] at hs
 split at hs
 ·rename_i n eN
  split at hs
  ·rename_i hc
   obtain⟨h0,hb,hm⟩:=hc
   simp only[aa,ac] at hs
   obtain⟨rfl,rfl⟩:=hs
   obtain⟨k,hl⟩:=BC hE hx hf eN
   obtain⟨k',qK⟩:=b9N ee hl
   obtain⟨i,d,hi,gG,fx,hd⟩:=yO hn
   obtain⟨i2,zv,dM,jl,_,lO,gH,_⟩:=B7 (N:=N) (w:=w) (fix:=G.fix) (hp:=G.heap) hz
   have:i2=i:=by rw[hi] at dM; simpa using dM.symm
   subst this
   subst gG
   have gm:zv.cells.size=i2.size:=by have:=gH.1; simp at this; omega
   have gh:P.bytesOf e=i2.bytes:=by simp[Program.bytesOf,hi]
   rw[gh] at hb
   have cO:=run_make (P:=P) w t e i2 zv hu hi jl k k' n n h0 (Int.le_refl _) hb hm
   refine Er (mob := .cells (madeCells zv.cells (n.toNat*i2.size)) e) (v := .slice (some ⟨w.heap.size,0,none⟩) n.toNat n.toNat) nm ho hf ?_ ?_ (λG' hG cL=>KW hf ?_ ?_ hG cL) hk
   ·simp[execOp,cN,hl,qK,cO]
   ·rintro G' rfl
    refine .rowp _ _ _ _ w.heap.size _ (by simp[GS.more]) (ao _) ⟨e,n.toNat*i2.size,?_,ao _⟩
    simp only[World.shape?,AU,size_madeCells]
   ·intro k c x hc hx
    rw[K1] at hx
    have gq:z.length=i2.size:=by have:=gH.1; simp at this; omega
    rw[gq] at hx
    split at hx
    ·rename_i cQ
     have iO:k % i2.size<i2.size:=cd _ (by omega)
     have iM:c=zv.cells[k % i2.size]! := by
      simp only[madeCells,bQ,ab] at hc
      obtain⟨a',ha,rfl⟩:=hc
      have:a'=k:=by
       obtain⟨h1,h2⟩:=ba.1 ha
       simpa using h2.symm
      rw[this,gm]
     have nM:zv.cells[k % i2.size]? = some c:=by
      rw[iM]
      have:k % i2.size<zv.cells.size:=by omega
      simp[this]
     refine⟨gH.2.2 _ c x (by simpa using nM) hx,gH.2.1 x (ax hx),?_⟩
     rintro es rfl
     have hZ:=hz
     unfold yf at hZ
     simp only[hi,jl,ae] at hZ
     obtain⟨cs',d9,hZ⟩:=hZ
     split at hZ
     ·simp at hZ; subst hZ
      exact Eo d9 _ c es (by simpa using nM) hx
     ·simp at hZ
    ·simp at hx
   ·have gq:z.length=i2.size:=by have:=gH.1; simp at this; omega
    rw[size_madeCells]
    simp[List.length_flatten,gq]
  ·simp at hs
 ·simp at hs
theorem b6O (hE:EnvOk E N) (hP:E.P=P) (nm:Names vs (wk vs ops)) (ho:ops[j]? = some o) (hf:FI N w G st a vs (wk vs ops)) {t:TypeId} (cN:o.op = .alloc t) (hb:E.bT=some t) {cf:wu}
  (hs:wo cf .newbld st=some (u,st1)) (hk:wG N w G a st1 u vs ops j o next):o.wp P a w next Q:=by
 simp only[wo,aa,ac] at hs
 obtain⟨rfl,rfl⟩:=hs
 obtain⟨h1,i,h2,h3⟩:=hE.bt t hb
 rw[hP] at h2
 refine Er (mob := .cells #[.pointer none,.slice none 0 0] t) (v := .pointer (some ⟨w.heap.size,0,none⟩)) nm ho hf ?_ ?_ (λG' hG cL =>?_) hk
 ·simp[execOp,cN,Instr.alloc,zeroValue,typeInfo,h2,h3,newVar,newRow,Value.cells]
 ·rintro G' rfl
  exact .ptr _ _ w.heap.size (by simp[GS.more])
 ·subst hG
  refine⟨?_,.pointer none,.slice none 0 0,by rw[h1]; exact AU,.inl rfl,.inl ⟨rfl,rfl⟩⟩
  intro o h
  have:=hf.fixlt _ _ h
  omega
theorem b7V (hE:EnvOk E N) (nm:Names vs (wk vs ops)) (ho:ops[j]? = some o) (hf:FI N w G st a vs (wk vs ops)) {t:TypeId} {x:Operand} {px:PX} (cN:o.op = .range t x)
  (hu:P.underlying t=some .string) (hx:cx E vs ops x=some px) {cf:wu} (hs:wo cf (.range px) st=some (u,st1)) (hk:wG N w G a st1 u vs ops j o next):o.wp P a w next Q:=by
 simp only[wo] at hs
 split at hs
 ·rename_i s hp
  simp only[aa,ac] at hs
  obtain⟨rfl,rfl⟩:=hs
  have h:=(wU hE hx hf hp).1
  generalize hv:a.eval x=v at h
  cases h with
  | str s =>
    refine Er (mob := .stringIter s 0) (v := .pointer (some ⟨w.heap.size,0,none⟩)) nm ho hf ?_ ?_ (λG' hG cL =>?_) hk
    ·have:=run_range_string (P:=P) w t s hu
     simp only[execOp,cN,hv,Sem.run_bind,Sem.run_map,this,Result.andThen_ok,Sem.run_pure]
     rfl
    ·rintro G' rfl
     exact .ptr _ _ w.heap.size (by simp[GS.more])
    ·subst hG
     refine⟨?_,s,AU,rfl⟩
     intro o h
     have:=hf.fixlt _ _ h
     omega
 ·simp at hs
theorem c3k (nm:Names vs (wk vs ops)) (ho:ops[j]? = some o) (hf:FI N w G st a vs (wk vs ops)) {n b:Nat} {ob ob':PObj} {mob:Obj} {v:Value} (dB:st.heap[n]? = some ob) (hb:G.heap n=some b) (how:G.ow b=some (.hobj n))
  (gR:∀o,¬G.fix b o) (cO:(execOp a.eval o).run P w = .ok (.value v) { w with heap:=w.heap.setIfInBounds b mob }) (gc:w.shape? b=none∧yC w b=none)
  (hR:ObjR N { w with heap:=w.heap.setIfInBounds b mob } G n b ob')
  (hv:SR N { w with heap:=w.heap.setIfInBounds b mob } G (x9 (wO vs o.dst) j) v u)
  (hk:wG N w G a (wT st n ob') u vs ops j o next):o.wp P a w next Q:=by
 unfold Oper.wp
 rw[cO]
 let w':World:={ w with heap:=w.heap.setIfInBounds b mob }
 have fe:b<w.heap.size:=hf.owlt _ _ how
 have cW:∀x,x≠b→w'.heap[x]? = w.heap[x]? := λx hx=>by
  simp only[w',bb]; rw[af (by omega)]
 have cL:Ext w G w' G:=by
  refine⟨rfl,rfl,rfl,by simp[w'],λx _ jb=>cW x (by rintro rfl; rw[how] at jb; simp at jb),?_,λ_ _ h => .inl h,λ_ h => .inr h,λ_ _ h=>h,.one b (λk _ hk=>cW k hk) (λs hx=>by rw[gc.1] at hx; simp at hx) (λs hx=>by rw[gc.2] at hx; simp at hx),rfl⟩
  intro x o' fo
  have gl:x≠b:=by rintro rfl; exact gR _ fo
  refine⟨fo,?_⟩
  simp only[World.cell?,cW x gl]
 have cP:xq (λk=>k = .hobj n) w G w' G:=by
  refine⟨?_,λ_ _ h=>h⟩
  intro x k hx gw
  have gl:x≠b:=by rintro rfl; rw[how] at hx; simp at hx; exact gw hx.symm
  exact⟨hx,cW x gl,λ_ h=>h⟩
 have de:FI N w' G (wT st n ob') a vs (wk vs ops):=by
  refine⟨hf.len,λi t' u' h1 h2=>(hf.var i t' u' h1 h2).keep cL cP (by simp) (by simp),λi t' u' h1 h2=>(hf.loc i t' u' h1 h2).keep cL cP (by simp) (by simp),hf.tv,hf.tl,hf.defers,hf.gen,?_,?_,?_,?_⟩
  ·intro b' k cX; simpa[w'] using hf.owlt _ _ cX
  ·intro b' k cX; simpa[w'] using hf.fixlt _ _ cX
  ·exact hf.heap.keepBut cL cP (λm k da=>⟨by simp; omega,by simp⟩) (λ_ => .inr ⟨b,hb,how,hR⟩)
  ·intro m b' h; have:=hf.hdom _ _ h; simpa[wT] using this
 exact hk _ w' G (de.put nm (yV ho) hv) cL (yW _ _ _)
theorem b9O (hE:EnvOk E N) (nm:Names vs (wk vs ops)) (ho:ops[j]? = some o) (hf:FI N w G st a vs (wk vs ops)) {x:Operand} {px:PX} (cN:o.op = .next x true)
  (hx:cx E vs ops x=some px) {cf:wu} (hs:wo cf (.next px) st=some (u,st1)) (hk:wG N w G a st1 u vs ops j o next):o.wp P a w next Q:=by
 simp only[wo] at hs
 split at hs
 ·rename_i n hp
  have h:=(wU hE hx hf hp).1
  split at hs
  ·rename_i s pos dB
   generalize hv:a.eval x=v at h
   cases h with
   | ptr _ _ b hb =>
     rcases hf.heap.1 n _ dB with e|⟨b',h1,h2,h3,s',h4,h5⟩
     ·simp at e
     have:b'=b:=by rw[hb] at h1; simpa using h1.symm
     subst this
     subst h5
     have cS:s'.data.toList.length=s'.size:=aX
     have jf:(⟨s'.data.toList.toArray⟩:ByteArray)=s':=by cases s'; simp
     rw[cS,jf] at hs
     have fe:b'<w.heap.size:=hf.owlt _ _ h2
     split at hs
     ·rename_i cQ
      simp only[aa,ac] at hs
      obtain⟨rfl,rfl⟩:=hs
      refine c3k (ob' := .siter s'.data.toList (pos+(Utf8.decode s' pos).2)) (mob := .stringIter s' (pos+(Utf8.decode s' pos).2)) (v := .tuple #[.bool true,goInt pos,.int .i32 (Utf8.decode s' pos).1]) nm ho hf dB hb h2 h3 ?_ (by simp[World.shape?,yC,h4]) ⟨h3,s',?_,rfl⟩ (SR.of_pure ?_ rfl) hk
      ·simp[execOp,cN,hv,Instr.next,getObj,setObj,Sem.run,Result.andThen,h4,cQ,goInt]
      ·simp[fe]
      ·refine .tuple _ _ rfl ?_
       intro i c p hc hp
       match i with
       | 0=>simp at hc hp; subst hc hp; exact .bool _
       | 1=>simp at hc hp; subst hc hp; exact .int _ _
       | 2=>simp at hc hp; subst hc hp; exact .int _ _
       | n+3=>simp at hc
     ·rename_i cQ
      simp only[aa,ac] at hs
      obtain⟨rfl,rfl⟩:=hs
      refine wW (v := .tuple #[.bool false]) nm ho hf ?_ (SR.of_pure ?_ rfl) hk
      ·simp[execOp,cN,hv,Instr.next,getObj,Sem.run,Result.andThen,h4,cQ]
      ·refine .tuple _ _ rfl ?_
       intro i c p hc hp
       match i with
       | 0=>simp at hc hp; subst hc hp; exact .bool _
       | n+1=>simp at hc
  ·simp at hs
 ·simp at hs
theorem c1r (hE:EnvOk E N) (nm:Names vs (wk vs ops)) (ho:ops[j]? = some o) (hf:FI N w G st a vs (wk vs ops)) {src dst e:TypeId} {x:Operand} {px:PX} (cN:o.op = .convert src dst x) (dZ:wO vs o.dst≠.n)
  (eb:P.underlying src=some .string) (hd:P.underlying dst=some (.slice e)) (he:P.underlying e=some (.int .u8)) (hx:cx E vs ops x=some px) {cf:wu} (hs:opv cf (.s2b px) st=some (u,st1)) (hk:wG N w G a st1 u vs ops j o next):o.wp P a w next Q:=by
 simp only[opv] at hs
 split at hs
 ·rename_i s hp
  split at hs
  ·rename_i cM
   simp only[aa,ac] at hs
   obtain⟨rfl,rfl⟩:=hs
   have h:=(wU hE hx hf hp).1
   generalize hv:a.eval x=v at h
   cases h with
   | str s =>
     have cS:s.data.toList.length=s.size:=aX
     have cO:=Lib.run_convert_string_bytes (P:=P) w src dst e s eb hd he
     unfold Oper.wp
     have jo:(execOp a.eval o).run P w = .ok (.value (.slice (some ⟨w.heap.size,0,none⟩) s.size (grownCap w s.size 0 e))) (Lib.bytesWorld w e s):=by
      simp[execOp,cN,hv,cO]
     rw[jo]
     have gc:s.size≤grownCap w s.size 0 e:=grownCap_ge w s.size 0 e
     let G':GS:={ G with fix:=λb o=>G.fix b o∨(b=w.heap.size∧o<s.size),ow:=λb=>if b=w.heap.size then some (x9 (wO vs o.dst) j) else G.ow b }
     have eU:=Lib.bytesWorld_size w e s
     have cL:Ext w G (Lib.bytesWorld w e s) G':=by
      refine⟨?_,?_,?_,by omega,λb hb _=>Lib.bytesWorld_at_old w e s b hb,λb o h=>⟨.inl h,Lib.bytesWorld_old w e s ⟨b,o,none⟩ (hf.fixlt _ _ h)⟩,?_,?_,λ_ _ h=>h,.same λk hk=>Lib.bytesWorld_at_old w e s k hk,rfl⟩
      ·simp[Lib.bytesWorld,World.freeze,World.alloc,World.drew,-World.alloc_eq,-World.drew_eq]
      ·simp[Lib.bytesWorld,World.freeze,World.alloc,World.drew,-World.alloc_eq,-World.drew_eq]
      ·simp[Lib.bytesWorld,World.freeze,World.alloc,World.drew,-World.alloc_eq,-World.drew_eq]
      ·rintro b o (h|h)
       ·exact .inl h
       ·exact .inr (.inl (by omega))
      ·intro b hb
       simp only[G'] at hb
       split at hb
       ·exact .inl (by omega)
       ·exact .inr hb
     have cP:xq (λk=>k=x9 (wO vs o.dst) j) w G (Lib.bytesWorld w e s) G':=by
      refine⟨?_,λ_ _ h=>h⟩
      intro b k hb _
      have cQ:=hf.owlt _ _ hb
      refine⟨?_,Lib.bytesWorld_at_old w e s b cQ,?_⟩
      ·simp only[G']; rw[af (by omega)]; exact hb
      ·rintro o (h|h)
       ·exact h
       ·omega
     have hR:=PR (N:=N) (w:=Lib.bytesWorld w e s) G'.fix G'.heap s
     have hl:(Ar s.data.toList).length=s.size:=by rw[b7I]; exact cS
     have sR:∀b k,G'.ow b=some k→b<(Lib.bytesWorld w e s).heap.size:=by
      intro b k hb
      simp only[G'] at hb
      split at hb
      ·omega
      ·have:=hf.owlt _ _ hb; omega
     have sS:∀b o,G'.fix b o→b<(Lib.bytesWorld w e s).heap.size:=by
      rintro b o (h|h)
      ·have:=hf.fixlt _ _ h; omega
      ·omega
     have cT:∀own,VR N (Lib.bytesWorld w e s) G'.fix G'.heap (.slice (some ⟨w.heap.size,0,none⟩) s.size (grownCap w s.size 0 e)) (.list own (Ar s.data.toList)):=by
      intro own
      have hm:=HM (own:=own) (b:=w.heap.size) (off:=0) (cap:=grownCap w s.size 0 e) hR (by rw[hl]; exact gc) ?_
      ·rw[hl] at hm; exact hm
      ·intro k u' hu
       have hk:k<s.size:=by have:=(aj.1 hu).1; rw[byteCells_length] at this; exact this
       rw[aR]
       refine⟨?_,.inr ⟨rfl,hk⟩⟩
       rw[Lib.bytesWorld_cell w e s k hk]
       simp only[byteCells,aF,ab] at hu
       obtain⟨b,hb,rfl⟩:=hu
       simp[List.getD,hb]
     refine hk _ _ G' (hf.extDst nm (yV ho) dZ cL cP (λg b h=>hf.gen g b h) sR sS rfl ?_) cL (yW _ _ _)
     cases qz:s.data.toList.isEmpty with
     | true=>exact SR.of_pure (cT false) rfl
     | false =>
       refine⟨cT true,?_⟩
       have h0:0<s.size:=by
        rw[← cS]
        cases hx:s.data.toList with
        | nil=>rw[hx] at qz; simp at qz
        | cons=>simp
       refine .inr ⟨by simp[G'],1,Lib.bytesCells w e s,e,hR.sz,⟨_,Lib.bytesWorld_at_new w e s,λo ho h=>by simp at h; omega⟩,?_,h0,?_⟩
       ·have:s.data.size=s.size:=rfl
        simp only[Lib.bytesCells,bH,Array.size_map,cy]
        omega
       ·rintro o' eL (h|h)
        ·have:=hf.fixlt _ _ h; simp at this
        ·simp at eL; omega
  ·simp at hs
 ·simp at hs
theorem Qc {size:Nat}:∀{xs:List PV},(∀e∈xs,e.cells.length=size)→(xs.flatMap PV.cells).length=xs.length*size∧∀(i:Nat) (e:PV),xs[i]? = some e→∀k,k<size→(xs.flatMap PV.cells)[i*size+k]? = e.cells[k]?
 | [],_=>by simp
 | x :: xs, h => by
   obtain⟨h1,h2⟩:=Qc (xs:=xs) (λe he=>h e (bC _ he))
   have hx:=h x (bW ..)
   refine⟨by simp only[bc,ap,h1,hx,aP,aQ,Nat.one_mul]; omega,?_⟩
   intro i e he k hk
   rw[bc]
   cases i with
   | zero =>
     simp at he; subst he
     rw[Nat.zero_mul,aR,am (by omega)]
   | succ i =>
     rw[aQ,Nat.one_mul,ar (by omega),hx]
     have:=h2 i e (by simpa using he) k hk
     rw[show i*size+size+k - size=i*size+k by omega]
     exact this
theorem ListR.flats {fix:Nat→Nat→Prop} {hp:Nat→Option Nat} {size:Nat} {news:List Value} {xs:List PV} (h:ListR N w fix hp size news xs) (hs:size≠0):
  news.length=((xs.flatMap PV.cells).map dem).length∧∀(k:Nat) (c:Value) (x:PV),news[k]? = some c→((xs.flatMap PV.cells).map dem)[k]? = some x→VR N w fix hp c x∧x.flat=true∧∀es,x≠.list true es:=by
 obtain⟨h1,h2⟩:=Qc h.sz
 refine⟨by rw[aN,h1,h.len],?_⟩
 intro k c x hc hx
 simp only[aF,ab] at hx
 obtain⟨y,hy,rfl⟩:=hx
 have hk:k<xs.length*size:=by rw[← h1]; exact(aj.1 hy).1
 have hi:k / size<xs.length:=by rw[Nat.div_lt_iff_lt_mul (by omega)]; exact hk
 have hm:k % size<size:=cd _ (by omega)
 have he:k / size*size+k % size=k:=by rw[Nat.mul_comm]; exact Nat.div_add_mod k size
 have h3:=h2 (k / size) xs[k / size] (av hi) (k % size) hm
 rw[he,hy] at h3
 refine⟨(h.vr (k / size) _ (av hi) (k % size) c y (by rw[he]; exact hc) h3.symm).dem,?_,?_⟩
 ·rw[C8]
  exact h.flat _ (ai hi) y (ax h3.symm)
 ·intro es e; cases y<;>simp[dem] at e
theorem Qd (y:PV) (es:List PV):dem y≠.list true es:=by intro e; cases y<;>simp[dem] at e
theorem Hr {sz:Nat} {agg:Bool} {cs:List PV}:∀{n off:Nat} {es:List PV},zj sz agg cs n off=some es→es.length=n∧∀(i:Nat) (e:PV),es[i]? = some e→wz sz agg cs (off+i*sz)=some e
 | 0,off,es,h=>by simp[zj] at h; subst h; simp
 | n + 1, off, es, h => by
   simp only[zj,ae,ab] at h
   obtain⟨e,h1,es',h2,rfl⟩:=h
   obtain⟨k1,k2⟩:=Hr h2
   refine⟨by simp[k1],?_⟩
   intro i x hx
   cases i with
   | zero=>simp at hx; subst hx; simpa using h1
   | succ i =>
     have:=k2 i x (by simpa using hx)
     rw[aQ]
     simpa[b9,Nat.add_comm,Nat.add_left_comm] using this
theorem b6P {sz len:Nat} {agg:Bool} {cs es:List PV} (fS:∀(k:Nat) (y:PV),cs[k]? = some y→y.flat=true) (cS:agg=true∨sz=1) (he:zj sz agg cs len 0=some es):
  es.length=len∧∀(i:Nat) (e:PV),es[i]? = some e→i*sz+sz≤cs.length∧e.cells.length=sz∧∀(j:Nat) (x:PV),e.cells[j]? = some x→∃y,cs[i*sz+j]? = some y∧x=dem y∧j<sz:=by
 obtain⟨e1,e2⟩:=Hr he
 refine⟨e1,?_⟩
 intro i e hi
 have:=e2 i e hi
 rw[aR] at this
 unfold wz at this
 split at this
 ·split at this
  ·rename_i em
   simp only[aa] at this; subst this
   refine⟨em,by simp[PV.cells]; omega,?_⟩
   intro j x hx
   simp only[PV.cells,aF,ab] at hx
   obtain⟨y,hy,rfl⟩:=hx
   rw[aS] at hy
   split at hy
   ·rw[aW] at hy
    exact⟨y,hy,rfl,by assumption⟩
   ·simp at hy
  ·simp at this
 ·rename_i gD
  have h1:sz=1:=by rcases cS with h|h; exact absurd h (by simpa using gD); exact h
  subst h1
  split at this
  ·rename_i y hy
   have cQ:i*1<cs.length:=(aj.1 hy).1
   have fS:=fS _ y hy
   have fu:e=dem y∧y.cells=[y]:=by
    cases y<;>simp_all [cp,dem,PV.cells,PV.flat]
   obtain⟨rfl,_⟩:=fu
   have gA:(dem y).cells=[dem y]:=by cases y<;>simp_all [dem,PV.cells,PV.flat]
   refine⟨by omega,by rw[gA]; rfl,?_⟩
   intro j x hx
   rw[gA] at hx
   cases j with
   | zero=>simp at hx; subst hx; exact⟨y,hy,rfl,by omega⟩
   | succ j=>simp at hx
  ·simp at this
theorem Qe {ts tx e ty:TypeId} {size:Nat} {s x:Operand} {base:Option Addr} (hv:a.eval s = .slice base 0 0) (dP:Src P size tx (a.eval x) 0 [] w) (eo:P.underlying ts=some (.slice e)) {i:TypeInfo} (hi:P.info? e=some i) (cS:i.size=size):
  (Builtin.append_ #[ts,tx] ty #[a.eval s,a.eval x]).run P w = .ok (.slice base 0 0) w:=by
 subst cS
 rw[hv]
 rcases dP.kind with⟨e'',dh⟩|dh<;>cases base <;>
  simp[Builtin.append_,run_underlying eo,run_underlying dh,Go.sizeOf,typeInfo,hi,dP.len,dP.cells,storeCells]
theorem Qf (nm:Names vs (wk vs ops)) (ho:ops[j]? = some o) (hf:FI N w G st a vs (wk vs ops)) {heap1:List PObj} (lC:HR N w G heap1) (kK:heap1.length=st.heap.length) {v:Value} {CS:Array Value} {e:TypeId} {ps:List PV} {sz len cap:Nat} {agg:Bool}
  (cO:(execOp a.eval o).run P w = .ok (.value (.slice (some ⟨w.heap.size,0,none⟩) len cap)) (w.drew.alloc (.cells CS e))) (cV:len≤cap) (sI:CS.size=cap*sz) (ea:ps.length≤CS.size)
  (hR:∀(k:Nat) (c:Value) (x:PV),CS[k]? = some c→ps[k]? = some x→VR N w G.fix G.heap c x∧x.flat=true∧∀es,x≠.list true es)
  (hk:wG N w G a { st with heap:=heap1++[.cells ps] } (.rowp st.heap.length sz agg len) vs ops j o next):o.wp P a w next Q:=by
 unfold Oper.wp
 rw[cO]
 let w':World:=w.drew.alloc (.cells CS e)
 let G':GS:=G.more w.heap.size st.heap.length
 have cL:Ext w G w' G':=by
  refine⟨rfl,rfl,rfl,by simp[w'],λb hb _=>yN (w:=w.drew) hb,λb o h=>⟨h,C5 (w:=w.drew) (hf.fixlt _ _ h)⟩,λ_ _ h => .inl h,?_,?_,.same λk hk=>yN (w:=w.drew) hk,rfl⟩
  ·intro b hb
   by_cases cQ:b<w.heap.size
   ·refine .inr ?_
    simp only[G',GS.more] at hb
    rw[af (by omega)] at hb
    exact hb
   ·exact .inl (by omega)
  ·intro n b h
   have:=hf.hdom _ _ h
   simp only[G',GS.more]
   rw[af (by omega)]; exact h
 have cP:xq (λ_=>False) w G w' G':=by
  refine⟨?_,λ_ _ h=>h⟩
  intro b k hb _
  have cQ:=hf.owlt _ _ hb
  refine⟨?_,yN (w:=w.drew) cQ,λ_ h=>h⟩
  simp only[G',GS.more]
  rw[af (by omega)]; exact hb
 have hobj:ObjR N w' G' st.heap.length w.heap.size (.cells ps):=by
  refine⟨λo h=>by have:=hf.fixlt _ _ h; omega,CS,e,AU (w:=w.drew),ea,?_⟩
  intro k c x hc hx
  obtain⟨h1,h2,h3⟩:=hR k c x hc hx
  refine⟨h1.ext cL,h2,?_⟩
  split
  ·exact absurd rfl (h3 _)
  ·trivial
 have de:FI N w' G' { st with heap:=heap1++[.cells ps] } a vs (wk vs ops):=by
  refine⟨hf.len,λi t u h1 h2=>(hf.var i t u h1 h2).keep cL cP (λh=>h) (λ_ _ _ h=>h),λj t u h1 h2=>(hf.loc j t u h1 h2).keep cL cP (λh=>h) (λ_ _ _ h=>h),hf.tv,hf.tl,(hf.defers.trans cL.df.symm),hf.gen,?_,?_,?_,?_⟩
  ·intro b k hb
   simp only[G',GS.more] at hb
   split at hb
   ·simp[w']; omega
   ·have:=hf.owlt _ _ hb; simp[w']; omega
  ·intro b o h
   have:=hf.fixlt _ _ h; simp[w']; omega
  ·exact lC.push cL cP (λ_ _ _=>⟨λh=>h,λh=>h⟩) (.inr ⟨w.heap.size,by simp[G',GS.more,kK],by simp[G',GS.more,kK],by rw[kK]; exact hobj⟩)
  ·intro n b h
   simp only[G',GS.more] at h
   split at h
   ·simp; omega
   ·have:=hf.hdom _ _ h; simp; omega
 refine hk _ w' G' (de.put nm (yV ho) (SR.of_pure (.rowp _ _ _ _ w.heap.size cap (by simp[G',GS.more]) cV ⟨e,cap*sz,?_,ao _⟩) rfl)) cL (yW _ _ _)
 have h1:w'.heap[w.heap.size]? = some (.cells CS e):=AU (w:=w.drew)
 simp only[World.shape?,h1,sI]
theorem b9P (hE:EnvOk E N) (nm:Names vs (wk vs ops)) (ho:ops[j]? = some o) (hf:FI N w G st a vs (wk vs ops)) {ts tx e e':TypeId} {size:Nat} {z:List PV} {s x:Operand} {ps px:PX}
  (cN:o.op = .call { callee := .builtin .append,args := #[s,x],argTypes := #[ts,tx] }) (eo:P.underlying ts=some (.slice e)) (gk:P.underlying tx=some (.slice e')) (hn:wP P e=some size) (hz:yf P e=some z)
  (jf:cx E vs ops s=some ps) (hx:cx E vs ops x=some px) {cf:wu} (hs:wo cf (.happ size (xi P e) (P.bytesOf e) ps px) st=some (u,st1)) (hk:wG N w G a st1 u vs ops j o next):o.wp P a w next Q:=by
 obtain⟨i,d,hi,gG,fx,hd⟩:=yO hn
 obtain⟨i2,zv,dM,jl,_,lO,gH,_⟩:=B7 (N:=N) (w:=w) (fix:=G.fix) (hp:=G.heap) hz
 have:i2=i:=by rw[hi] at dM; simpa using dM.symm
 subst this
 subst gG
 have gm:zv.cells.size=i2.size:=by have:=gH.1; simp at this; omega
 have gh:P.bytesOf e=i2.bytes:=by simp[Program.bytesOf,hi]
 have gI:∀v w',(Builtin.append_ #[ts,tx] o.type #[a.eval s,a.eval x]).run P w = .ok v w'→(execOp a.eval o).run P w = .ok (.value v) w':=by
  intro v w' hr
  simp[execOp,cN,resolve,invoke,builtin,hr]
 have src:∀{xs:List PV},b1Q st px=some xs→xf i2.size xs=true→∃news,ListR N w G.fix G.heap i2.size news xs∧Src P i2.size tx (a.eval x) xs.length news w:=by
  intro xs dW hh
  unfold b1Q at dW
  split at dW
  ·rename_i n sz agg len iZ
   split at dW
   ·rename_i ml
    simp only[ae] at dW
    obtain⟨cs,hg,jH⟩:=dW
    have gp:=(wU hE hx hf iZ).1
    generalize hv:a.eval x=v at gp
    cases gp with
    | rowp _ _ _ _ b cap hb cV d8 =>
      obtain⟨eu,gy,cv,T,wd,hl,iH⟩:=FN hf hg hb
      have fS:∀(k:Nat) (y:PV),cs[k]? = some y→y.flat=true:=λk y hy=>by
       have cQ:k<cv.size:=by have:=(aj.1 hy).1; omega
       exact(iH k cv[k] y (by simp[cQ]) hy).2.1
      obtain⟨e1,e2⟩:=b6P fS ml jH
      by_cases fG:xs=[]
      ·subst fG
       simp only[bF] at e1
       subst e1
       exact⟨[],⟨by simp,by simp,by simp,by simp⟩,Src.ofSlice w gk ⟨b,0,none⟩ 0 cap [] (by simp) (by simp) (by simp)⟩
      ·have cS:sz=i2.size:=by
        cases xs with
        | nil=>exact absurd rfl fG
        | cons y ys =>
          have h1:=(e2 0 y rfl).2.1
          simp[xf] at hh
          omega
       subst cS
       have dQ:0<xs.length:=bU.2 fG
       have pR:=(e2 (xs.length - 1) (xs[xs.length - 1]'(by omega)) (av (by omega))).1
       have eZ:xs.length*i2.size≤cs.length:=by
        have:xs.length=(xs.length - 1)+1:=by omega
        rw[this,aQ,Nat.one_mul]; exact pR
       let news:=cv.toList.take (xs.length*i2.size)
       have jN:news.length=xs.length*i2.size:=by simp only[news,bP,aX]; omega
       have pX:∀(k:Nat) (u:Value),news[k]? = some u→cv[k]? = some u:=by
        intro k u hu
        simp only[news,aS] at hu
        split at hu
        ·simpa using hu
        ·simp at hu
       have hL:ListR N w G.fix G.heap i2.size news xs:=by
        refine⟨jN,?_,?_,?_⟩
        ·intro e he
         obtain⟨i,hi⟩:=bh.1 he
         exact(e2 i e hi).2.1
        ·intro e he y hy
         obtain⟨i,hi⟩:=bh.1 he
         obtain⟨j,hj⟩:=bh.1 hy
         obtain⟨z,hz,rfl,_⟩:=(e2 i e hi).2.2 j y hj
         rw[C8]; exact fS _ z hz
        ·intro i e hi k c y hc hy
         obtain⟨z,hz,rfl,_⟩:=(e2 i e hi).2.2 k y hy
         exact(iH _ c z (pX _ _ hc) hz).1.dem
       refine⟨news,hL,?_⟩
       rw[← e1]
       exact Src.ofSlice w gk ⟨b,0,none⟩ xs.length cap news jN (λj u hu=>by
        rw[zF]
        have:=pX j u hu
        simp only[World.cell?,wd,aR]
        simpa using this) (hL.one fx)
   ·simp at dW
  rotate_left
  ·simp at dW
  rename_i p0 _ iZ
  have kI:=dW
  clear dW
  have gp:=(wU hE hx hf iZ).1.row kI
  obtain⟨news,fk,sO⟩:=KR gp hh
  refine⟨news,fk,?_⟩
  rcases sO with⟨h1,h2,h3⟩|⟨ad,cap,h1,h2,h3⟩|⟨b,off,cap,h1,h2,h3⟩
  ·rw[h1,h2,h3]; exact Src.ofNil w gk 0
  ·rw[h1,h2,h3]; exact Src.ofSlice w gk ad 0 cap [] (by simp) (by simp) (by simp)
  ·rw[h1]
   exact Src.ofSlice w gk ⟨b,off,none⟩ xs.length cap news fk.len (λj u hu=>by rw[zF]; exact(h3 j u hu).1) (fk.one fx)
 have grow:∀{heap1:List PObj} {xs oldps:List PV} {news olds:List Value} {base:Option Addr} {len cap:Nat},HR N w G heap1→heap1.length=st.heap.length→ListR N w G.fix G.heap i2.size news xs→Src P i2.size tx (a.eval x) xs.length news w→a.eval s = .slice base len cap →
   (Builtin.firstCells i2.size len (.slice base len cap)).run P w.drew = .ok olds.toArray w.drew→olds.length=len*i2.size→oldps.length=olds.length→(∀(k:Nat) (c:Value) (y:PV),olds[k]? = some c→oldps[k]? = some y→VR N w G.fix G.heap c y∧y.flat=true∧∀es,y≠.list true es) →
   cap<len+xs.length→len+xs.length≤2147483648→i2.bytes≤16384 →
   wG N w G a { st with heap:=heap1++[.cells (oldps++(xs.flatMap PV.cells).map dem)] } (.rowp st.heap.length i2.size (xi P e) (len+xs.length)) vs ops j o next→o.wp P a w next Q:=by
  intro heap1 xs oldps news olds base len cap lC dS fk dP hv gJ mc ne we cV eC dy hk
  have ez:(len+xs.length)*i2.bytes≤140737488355328:=aT (Nat.mul_le_mul eC dy) (by decide)
  have cO:=run_append_grow_src (P:=P) w ts tx o.type e i2 zv eo hi jl base len cap olds gJ (a.eval x) xs.length news dP cV (by omega) (growslice_fits cV ez)
  rw[← hv] at cO
  obtain⟨fS,sT⟩:=fk.flats fx
  have gc:=grownCap_ge w (len+xs.length) cap e
  refine Qf (v:=undef) (sz:=i2.size) (cap:=grownCap w (len+xs.length) cap e) nm ho hf lC dS (gI _ _ cO) gc ?_ ?_ ?_ hk
  ·simp only[bH,cr,size_zeroCells,gm,mc,fk.len,ap]
   rw[Nat.sub_mul,aQ]
   have:(len+xs.length)*i2.size≤grownCap w (len+xs.length) cap e*i2.size:=bk _ gc
   rw[aQ] at this
   omega
  ·simp only[bH,cr,ap,ne]
   omega
  ·intro k c y hc hy
   by_cases gQ:k<olds.length
   ·rw[am (by omega)] at hy
    rw[bm (by simp; omega)] at hc
    simp only[bD] at hc
    rw[am gQ] at hc
    exact we k c y hc hy
   ·rw[ar (by omega)] at hy
    have cQ:k - olds.length<news.length:=by
     rw[fS,← ne]; exact(aj.1 hy).1
    rw[bm (by simp; omega)] at hc
    simp only[bD] at hc
    rw[ar (by omega)] at hc
    rw[ne] at hy
    exact sT _ c y hc hy
 simp only[wo] at hs
 rw[gh] at hs
 split at hs
 ·rename_i xs n sz ag len dW fm
  split at hs
  ·rename_i cs dB
   split at hs
   ·rename_i hc
    obtain⟨rfl,rfl,dN,gC,eC,dy⟩:=hc
    simp only[aa,ac] at hs
    obtain⟨rfl,rfl⟩:=hs
    obtain⟨news,fk,dP⟩:=src dW gC
    have lQ:=((BB hE jf hf fm).read (r := .rowp n i2.size (xi P e) len) rfl).1
    generalize hv:a.eval s=v at lQ
    cases lQ with
    | rowp _ _ _ _ b cap hb cV d8 =>
      obtain⟨T',m,pS,sU⟩:=d8
      obtain⟨eu,gy,cv,T,hh,hl,iH⟩:=FN hf (show xh st n=some cs by simp[xh,dB]) hb
      have hm:m=cv.size:=by simp only[World.shape?,hh,aa,ac] at pS; exact pS.2.symm
      subst hm
      have jD:=dN
      obtain⟨O,hO⟩:∃O,(cs.take (len*i2.size)).map dem=O:=⟨_,rfl⟩
      rw[hO] at hk
      have dN:O.length=len*i2.size:=by rw[← hO]; simp; omega
      have md:∀(k:Nat) (c:Value) (y:PV),(cv.toList.take (len*i2.size))[k]? = some c→O[k]? = some y→VR N w G.fix G.heap c y∧y.flat=true∧∀es,y≠.list true es:=by
       intro k c y hc hy
       rw[← hO] at hy
       simp only[aF,ab] at hy
       obtain⟨y0,lw,rfl⟩:=hy
       have lw:cs[k]? = some y0:=by
        rw[aS] at lw
        split at lw
        ·exact lw
        ·simp at lw
       rw[aS] at hc
       split at hc
       ·have:=iH k c y0 (by simpa using hc) lw
        exact⟨this.1.dem,by rw[C8]; exact this.2.1,Qd y0⟩
       ·simp at hc
      have mc:(cv.toList.take (len*i2.size)).length=len*i2.size:=by simp; omega
      have dj:∀(k:Nat) (u:Value),(cv.toList.take (len*i2.size))[k]? = some u→w.cell? ⟨b,0+k,none⟩=some u:=by
       intro k u hu
       rw[aS] at hu
       split at hu
       ·simp only[World.cell?,hh,aR]; simpa using hu
       ·simp at hu
      by_cases jm:cap<len+xs.length
      ·refine grow (heap1:=st.heap.set n .gone) ?_ (by simp) fk dP hv (olds:=cv.toList.take (len*i2.size)) ?_ mc (by rw[dN,mc]) md jm eC dy hk
       ·exact hf.heap.keepBut (K:=λ_=>False) (Ext.refl _ _) ⟨λ_ _ h _=>⟨h,rfl,λ_ h=>h⟩,λ_ _ h=>h⟩ (λ_ _ _=>⟨λh=>h,λh=>h⟩) (λ_ => .inl rfl)
       ·exact run_firstCells_some w.drew _ _ _ _ _ _ mc (λk u hu=>by rw[zF]; exact dj k u hu)
      ·
       have em:len+xs.length≤cap:=by omega
       obtain⟨fS,sT⟩:=fk.flats fx
       have gE:len*i2.size+news.length≤cv.size:=by
        rw[fk.len]
        have:(len+xs.length)*i2.size≤cap*i2.size:=bk _ em
        rw[aQ] at this; omega
       let NR:Array Value:=(cv.toList.take (len*i2.size)++news++cv.toList.drop (len*i2.size+news.length)).toArray
       have jG:NR.size=cv.size:=by simp only[NR,cr,ap,bP,cB,aX]; omega
       have cO:(Builtin.append_ #[ts,tx] o.type #[a.eval s,a.eval x]).run P w = .ok (.slice (some ⟨b,0,none⟩) (len+xs.length) cap) (w.setRow b NR):=by
        have du:=HN P b (len*i2.size) T (0,0) news 0 cv w hh (λo _ h=>by simp at h) (by simpa using gE) (fk.one fx)
        simp only[bp] at du
        rw[hv]
        rcases dP.kind with⟨e'',dh⟩|dh <;>
         simp[Builtin.append_,run_underlying eo,run_underlying dh,Go.sizeOf,typeInfo,hi,dP.len,em,dP.cells,zF,du,NR]
       have fe:b<w.heap.size:=hf.owlt _ _ eu
       have cW:∀x,x≠b→(w.setRow b NR).heap[x]? = w.heap[x]? := λx hx=>setRow_other w b x _ hx
       let G':GS:={ G with heap:=λm=>if m=st.heap.length then some b else G.heap m,ow:=λx=>if x=b then some (.hobj st.heap.length) else G.ow x }
       have cL:Ext w G (w.setRow b NR) G':=by
        refine⟨rfl,rfl,rfl,by simp[World.setRow],?_,?_,λ_ _ h => .inl h,?_,?_,FL hh _ jG,rfl⟩
        ·intro y _ jC
         exact cW y (by rintro rfl; rw[eu] at jC; simp at jC)
        ·intro y o' fo
         have jn:y≠b:=by rintro rfl; exact gy _ fo
         exact⟨fo,by simp only[World.cell?,cW y jn]⟩
        ·intro y hy
         simp only[G'] at hy
         split at hy
         ·rename_i jn; exact .inr (by rw[jn,eu]; simp)
         ·exact .inr hy
        ·intro m y hy
         have:=hf.hdom _ _ hy
         simp only[G']
         rw[af (by omega)]; exact hy
       have cP:xq (λk=>k = .hobj n) w G (w.setRow b NR) G':=by
        refine⟨?_,λ_ _ h=>h⟩
        intro y k hy gw
        have jn:y≠b:=by rintro rfl; rw[eu] at hy; simp at hy; exact gw hy.symm
        refine⟨?_,cW y jn,λ_ h=>h⟩
        simp only[G']; rw[af jn]; exact hy
       have om:n<st.heap.length:=(aj.1 dB).1
       have dU:HR N (w.setRow b NR) G' (st.heap.set n .gone++[.cells (O++(xs.flatMap PV.cells).map dem)]):=by
        refine⟨?_,hf.heap.2.ext cL⟩
        intro m ob hm
        by_cases ub:m<(st.heap.set n .gone).length
        ·rw[am ub,aL] at hm
         split at hm
         ·exact .inl (by simpa[om] using hm.symm)
         ·rename_i da
          rcases hf.heap.1 m ob hm with rfl|⟨y,h1,h2,h3⟩
          ·exact .inl rfl
          ·exact .inr ⟨y,cL.heap _ _ h1,(cP.1 _ _ h2 (by simp; omega)).1,h3.keep h2 cL cP (by simp; omega) (by simp)⟩
        ·rw[ar (by omega)] at hm
         simp only[bM] at hm ub
         have mZ:m - st.heap.length=0:=by
          cases hx:m - st.heap.length with
          | zero=>rfl
          | succ k=>rw[hx] at hm; simp at hm
         rw[mZ] at hm
         simp at hm
         subst hm
         have kM:m=st.heap.length:=by omega
         subst kM
         refine .inr ⟨b,by simp[G'],by simp[G'],λo' h=>gy o' h,NR,T,setRow_heap w b cv NR T (0,0) hh,?_,?_⟩
         ·simp only[ap]
          rw[← fS,dN,jG]; exact gE
         ·intro k c y hc hy
          have dO:VR N w G.fix G.heap c y∧y.flat=true∧∀es,y≠.list true es:=by
           simp only[NR,bD,az] at hc
           by_cases gQ:k<len*i2.size
           ·rw[am (by rw[dN]; exact gQ)] at hy
            rw[am (by rw[mc]; exact gQ)] at hc
            exact md k c y hc hy
           ·rw[ar (by rw[dN]; omega),dN] at hy
            have cQ:k - len*i2.size<news.length:=by rw[fS]; exact(aj.1 hy).1
            rw[ar (by rw[mc]; omega),mc,am cQ] at hc
            exact sT _ c y hc hy
          refine⟨dO.1.ext cL,dO.2.1,?_⟩
          split
          ·exact absurd rfl (dO.2.2 _)
          ·trivial
       unfold Oper.wp
       rw[gI _ _ cO]
       have de:FI N (w.setRow b NR) G' { st with heap:=st.heap.set n .gone++[.cells (O++(xs.flatMap PV.cells).map dem)] } a vs (wk vs ops):=by
        refine⟨hf.len,λi t u h1 h2=>(hf.var i t u h1 h2).keep cL cP (by simp) (by simp),λj t u h1 h2=>(hf.loc j t u h1 h2).keep cL cP (by simp) (by simp),hf.tv,hf.tl,hf.defers,hf.gen,?_,?_,dU,?_⟩
        ·intro y k hy
         simp only[G'] at hy
         split at hy
         ·rename_i jn; simp[World.setRow,jn,fe]
         ·have:=hf.owlt _ _ hy; simpa[World.setRow] using this
        ·intro y o' h; have:=hf.fixlt _ _ h; simpa[World.setRow] using this
        ·intro m y hy
         simp only[G'] at hy
         split at hy
         ·simp; omega
         ·have:=hf.hdom _ _ hy; simp; omega
       refine hk _ _ G' (de.put nm (yV ho) (SR.of_pure (.rowp _ _ _ _ b cap (by simp[G']) em ⟨T,cv.size,?_,sU⟩) rfl)) cL (yW _ _ _)
       simp only[World.shape?,setRow_heap w b cv NR T (0,0) hh,jG]
   ·simp at hs
  ·simp at hs
 ·rename_i xs dW fm
  have pP:=BB hE jf hf fm
  obtain⟨cT,dr⟩:VR N w G.fix G.heap (a.eval s) (.list true [])∧Room w G (zi ps) (a.eval s) []:=pP
  have dg:∃base,a.eval s = .slice base 0 0:=by
   generalize a.eval s=v at cT dr
   cases cT with
   | nils=>exact⟨none,rfl⟩
   | void _ ad cap =>
     rcases dr with h|⟨_,_,_,_,_,_,_,h,_⟩
     ·subst h; exact⟨_,rfl⟩
     ·simp at h
   | list _ b off len cap sz _ cv cM cV _ _ _ _ =>
     simp at cM; subst cM
     rcases dr with h|⟨_,_,_,_,_,_,_,h,_⟩
     ·subst h; exact⟨_,rfl⟩
     ·simp at h
  obtain⟨base,hv⟩:=dg
  split at hs
  ·rename_i fG
   subst fG
   simp only[aa,ac] at hs
   obtain⟨rfl,rfl⟩:=hs
   obtain⟨news,fk,dP⟩:=src dW rfl
   have eN:news=[]:=bj.1 (by rw[fk.len]; simp)
   subst eN
   refine wW nm ho hf (gI _ _ (Qe hv dP eo hi rfl)) ?_ hk
   cases base with
   | none=>exact⟨.nils true,True.intro⟩
   | some ad=>exact⟨.void true ad 0,.inl rfl⟩
  ·rename_i fG
   split at hs
   ·rename_i hc
    obtain⟨gC,eC,dy⟩:=hc
    simp only[aa,ac] at hs
    obtain⟨rfl,rfl⟩:=hs
    obtain⟨news,fk,dP⟩:=src dW gC
    have dQ:0<xs.length:=bU.2 fG
    have gJ:(Builtin.firstCells i2.size 0 (.slice base 0 0)).run P w.drew = .ok ([]:List Value).toArray w.drew:=by
     cases base with
     | none=>exact run_firstCells_none w.drew _ _ _ _
     | some ad=>exact run_firstCells_some w.drew _ _ _ _ _ [] (by simp) (by simp)
    refine grow (heap1:=st.heap) (oldps:=[]) hf.heap rfl fk dP hv gJ (by simp) rfl (by simp) (by omega) (by omega) dy ?_
    simpa using hk
   ·simp at hs
 ·rename_i xs dW fm
  have cT:VR N w G.fix G.heap (a.eval s) .nils:=((BB hE jf hf fm).read (r := .nils) rfl).1
  have hv:a.eval s = .slice none 0 0:=by
   generalize a.eval s=v at cT
   cases cT with
   | nils'=>rfl
  split at hs
  ·rename_i fG
   subst fG
   simp only[aa,ac] at hs
   obtain⟨rfl,rfl⟩:=hs
   obtain⟨news,fk,dP⟩:=src dW rfl
   have eN:news=[]:=bj.1 (by rw[fk.len]; simp)
   subst eN
   exact wW nm ho hf (gI _ _ (Qe hv dP eo hi rfl)) (SR.of_pure .nils' rfl) hk
  ·rename_i fG
   split at hs
   ·rename_i hc
    obtain⟨gC,eC,dy⟩:=hc
    simp only[aa,ac] at hs
    obtain⟨rfl,rfl⟩:=hs
    obtain⟨news,fk,dP⟩:=src dW gC
    have dQ:0<xs.length:=bU.2 fG
    refine grow (heap1:=st.heap) (oldps:=[]) hf.heap rfl fk dP hv (run_firstCells_none w.drew _ _ _ _) (by simp) rfl (by simp) (by omega) (by omega) dy ?_
    simpa using hk
   ·simp at hs
 ·simp at hs
theorem b1D (w:World) (ts tx ty e:TypeId) (i:TypeInfo) (zv:Value) {k0:IntKind} (eo:P.underlying ts=some (.slice e)) (gk:P.underlying tx=some (.int k0)) (hi:P.info? e=some i) (hz:i.zero=some zv) (k:IntKind) (n:Nat)
  (h0:0<n) (hn:n≤2147483648) (hb:i.bytes≤16384):
  (Builtin.append_ #[ts,tx] ty #[.slice none 0 0,.int k n]).run P w = .ok (.slice (some ⟨w.heap.size,0,none⟩) n (grownCap w n 0 e))
   (w.drew.alloc (.cells ((if n*i.size=0 then #[] else Builtin.zeroCells zv.cells n)++Builtin.zeroCells zv.cells (grownCap w n 0 e - n)) e)):=by
 have ez:n*i.bytes≤140737488355328:=aT (Nat.mul_le_mul hn hb) (by decide)
 have gE:=growslice_fits (need:=n) (old:=0) (bytes:=i.bytes) h0 ez
 have me:¬(281474976710656<Builtin.nextslicecap n 0*i.bytes):=by omega
 have hw:IntKind.i64.wrap (n:Int)=n:=by
  show (if (true&&decide ((n:Int) % 18446744073709551616≥9223372036854775808))=true then(n:Int) % 18446744073709551616 - 18446744073709551616 else(n:Int) % 18446744073709551616)=_
  simp only[cn,aq]
  split<;>omega
 have h1:¬((n:Int)<0):=by omega
 have h2:¬((281474976710656:Int)<(n:Int)*(i.bytes:Int)):=by
  have:((n*i.bytes:Nat):Int)≤140737488355328:=Int.ofNat_le.2 ez
  rw[Int.natCast_mul] at this
  omega
 have h3:¬((9223372036854775807:Int)<(n:Int)):=by omega
 have h4:¬(n=0):=by omega
 by_cases cS:n*i.size=0
 ·simp[Builtin.append_,run_underlying eo,run_underlying gk,Go.sizeOf,typeInfo,zeroValue,hi,hz,asInt,asIntOf,hw,h1,h2,h3,h4,me,Question.forced,newRow,grownCap,Builtin.firstCells,cS]
 ·simp[Builtin.append_,run_underlying eo,run_underlying gk,Go.sizeOf,typeInfo,zeroValue,hi,hz,asInt,asIntOf,hw,h1,h2,h3,h4,me,Question.forced,newRow,grownCap,Builtin.firstCells,cS]
theorem b7W (hE:EnvOk E N) (nm:Names vs (wk vs ops)) (ho:ops[j]? = some o) (hf:FI N w G st a vs (wk vs ops)) {ts tx e:TypeId} {k0:IntKind} {size:Nat} {z:List PV} {s x:Operand} {ps px:PX}
  (cN:o.op = .call { callee := .builtin .append,args := #[s,x],argTypes := #[ts,tx] }) (eo:P.underlying ts=some (.slice e)) (gk:P.underlying tx=some (.int k0)) (hn:wP P e=some size) (hz:yf P e=some z)
  (jf:cx E vs ops s=some ps) (hx:cx E vs ops x=some px) {cf:wu} (hs:wo cf (.happz size (xi P e) (P.bytesOf e) z ps px) st=some (u,st1)) (hk:wG N w G a st1 u vs ops j o next):o.wp P a w next Q:=by
 obtain⟨i,d,hi,gG,fx,hd⟩:=yO hn
 obtain⟨i2,zv,dM,jl,_,lO,gH,_⟩:=B7 (N:=N) (w:=w) (fix:=G.fix) (hp:=G.heap) hz
 have:i2=i:=by rw[hi] at dM; simpa using dM.symm
 subst this
 subst gG
 have gm:zv.cells.size=i2.size:=by have:=gH.1; simp at this; omega
 have gq:z.length=i2.size:=by have:=gH.1; simp at this; omega
 have gh:P.bytesOf e=i2.bytes:=by simp[Program.bytesOf,hi]
 simp only[wo] at hs
 rw[gh] at hs
 split at hs
 ·rename_i n eN p5
  split at hs
  ·rename_i hc
   obtain⟨h0,h1,hb⟩:=hc
   simp only[aa,ac] at hs
   obtain⟨rfl,rfl⟩:=hs
   obtain⟨k,hl⟩:=BC hE hx hf eN
   have hv:a.eval s = .slice none 0 0:=by
    have:=(wU hE jf hf p5).1
    generalize a.eval s=v at this
    cases this
    rfl
   obtain⟨m,rfl⟩:∃m:Nat,n=m:=⟨n.toNat,by omega⟩
   have cO:=b1D (P:=P) w ts tx o.type e i2 zv eo gk hi jl k m (by omega) (by omega) hb
   rw[← hv,← hl] at cO
   have jo:(execOp a.eval o).run P w = .ok (.value (.slice (some ⟨w.heap.size,0,none⟩) m (grownCap w m 0 e))) (w.drew.alloc (.cells ((if m*i2.size=0 then #[] else Builtin.zeroCells zv.cells m)++Builtin.zeroCells zv.cells (grownCap w m 0 e - m)) e)):=by
    simp[execOp,cN,resolve,invoke,builtin,cO]
   have dQ:¬m*i2.size=0:=by
    intro h
    rcases Nat.mul_eq_zero.1 h with h|h<;>omega
   rw[af dQ] at jo
   have gc:=grownCap_ge w m 0 e
   refine Qf (v:=undef) (sz:=i2.size) (cap:=grownCap w m 0 e) nm ho hf hf.heap rfl jo gc ?_ ?_ ?_ hk
   ·simp only[bH,size_zeroCells,gm]
    rw[Nat.sub_mul]
    have:m*i2.size≤grownCap w m 0 e*i2.size:=bk _ gc
    omega
   ·simp[List.length_flatten,gq,size_zeroCells,gm]
   ·intro k c y hc hy
    simp only[Int.toNat_natCast] at hy
    rw[K1,aN,gq] at hy
    split at hy
    ·rename_i cQ
     rw[bm (by rw[size_zeroCells,gm]; exact cQ)] at hc
     have iO:k % i2.size<i2.size:=cd _ (by omega)
     have iM:c=zv.cells[k % i2.size]! := by
      simp only[Builtin.zeroCells,bQ,ab] at hc
      obtain⟨a',ha,rfl⟩:=hc
      have:a'=k:=by
       obtain⟨h1,h2⟩:=ba.1 ha
       simpa using h2.symm
      rw[this,gm]
     have nM:zv.cells[k % i2.size]? = some c:=by
      rw[iM]
      have:k % i2.size<zv.cells.size:=by omega
      simp[this]
     simp only[aF,ab] at hy
     obtain⟨y0,hy,rfl⟩:=hy
     exact⟨(gH.2.2 _ c y0 (by simpa using nM) hy).dem,by rw[C8]; exact gH.2.1 y0 (ax hy),Qd y0⟩
    ·simp at hy
  ·simp at hs
 ·simp at hs
theorem b7X (hE:EnvOk E N) (nm:Names vs (wk vs ops)) (ho:ops[j]? = some o) (hf:FI N w G st a vs (wk vs ops)) {t e:TypeId} {rest:List TypeId} {size:Nat} {z:List PV} {x:Operand} {px:PX} (dZ:o.dst=none)
  (cN:o.op = .call { callee := .builtin .clear,args := #[x],argTypes:=⟨t::rest⟩ }) (hu:P.underlying t=some (.slice e)) (hn:wP P e=some size) (hz:yf P e=some z)
  (hx:cx E vs ops x=some px) {cf:wu} (hs:wo cf (.clear size px) st=some (u,st1)) (hk:wG N w G a st1 u vs ops j o next):o.wp P a w next Q:=by
 obtain⟨i,d,hi,gG,fx,hd⟩:=yO hn
 obtain⟨i2,zv,dM,jl,_,lO,gH,_⟩:=B7 (N:=N) (w:=w) (fix:=G.fix) (hp:=G.heap) hz
 have:i2=i:=by rw[hi] at dM; simpa using dM.symm
 subst this
 subst gG
 have gm:zv.cells.size=i2.size:=by have:=gH.1; simp at this; omega
 simp only[wo] at hs
 split at hs
 ·rename_i n sz off wg
  split at hs
  ·rename_i cs dB
   split at hs
   ·rename_i hc
    obtain⟨rfl,fC⟩:=hc
    simp only[aa,ac] at hs
    obtain⟨rfl,rfl⟩:=hs
    obtain⟨agg,len,gp⟩:∃agg len,VR N w G.fix G.heap (a.eval x) (.rows n i2.size agg off len):=by
     obtain⟨p,hr,hp⟩:=ae.1 wg
     have gp:=(wU hE hx hf hr).1
     cases p<;>simp only[Ew,aa,ac,reduceCtorEq] at hp
     ·rename_i n' sz' ag ln
      obtain⟨rfl,rfl,rfl⟩:=hp
      generalize a.eval x=v at gp ⊢
      cases gp with
      | rowp _ _ _ _ b cap h cV d8 =>
        obtain⟨T,m,h1,h2⟩:=d8
        exact⟨ag,ln,.rows _ _ _ 0 _ b 0 cap m T h cV (.inr (by simp)) h1 (by rw[aR]; exact aT (bk _ cV) h2)⟩
     ·obtain⟨rfl,rfl,rfl⟩:=hp
      exact⟨_,_,gp⟩
    generalize hv:a.eval x=v at gp
    cases gp with
    | rows _ _ _ _ _ b o' cap m T hb cV wh d8 hm =>
      obtain⟨eu,gy,cv,T',hh,hl,iH⟩:=FN hf (show xh st n=some cs by simp[xh,dB]) hb
      have nb:m=cv.size:=by simp only[World.shape?,hh,aa,ac] at d8; exact d8.2.symm
      subst nb
      have fe:b<w.heap.size:=hf.owlt _ _ eu
      obtain⟨NR,wi,wj,cO⟩:∃NR:Array Value,NR.size=cv.size∧(∀k,k<off*i2.size→NR[k]? = cv[k]?)∧(execOp a.eval o).run P w = .ok (.value (.tuple #[])) (w.setRow b NR):=by
       cases len with
       | zero =>
         refine⟨cv,rfl,λ_ _=>rfl,?_⟩
         have hw:w.setRow b cv=w:=by
          have h2:(w.setRow b cv).heap=w.heap:=by
           apply Array.ext_getElem?
           intro k
           by_cases uc:k=b
           ·subst uc; rw[setRow_heap w k cv cv T' (0,0) hh,hh]
           ·exact setRow_other w b k _ uc
          exact aE (λh=>{ w with heap:=h }) h2
         rw[hw]
         simp[execOp,cN,hv,resolve,invoke,builtin,Builtin.clear_,run_underlying hu]
       | succ len =>
         have ho:o'=off*i2.size:=by rcases wh with h|h; exact absurd h (by omega); exact h
         subst ho
         let zs:List Value:=(Builtin.zeroCells zv.cells (len+1)).toList
         have pT:zs.length=(len+1)*i2.size:=by simp only[zs,aX,size_zeroCells,gm]
         have du:=HN P b (off*i2.size) T' (0,0) zs 0 cv w hh (λo _ h=>by simp at h) (by rw[aQ] at hm; simp only[pT]; omega) (by
          intro u hu
          simp only[zs,Builtin.zeroCells,Array.toList_map,bl] at hu
          obtain⟨a',_,rfl⟩:=hu
          have iO:a' % zv.cells.size<zv.cells.size:=cd _ (by omega)
          have nM:zv.cells[a' % zv.cells.size]? = some zv.cells[a' % zv.cells.size]! := by simp[iO]
          have pU:a' % zv.cells.size<z.length:=by have:=gH.1; simp at this; omega
          have h1:=(gH.2.2 _ _ z[a' % zv.cells.size] (by simpa using nM) (av pU)).oneCell (gH.2.1 _ (ai pU))
          generalize zv.cells[a' % zv.cells.size]! = c at h1
          cases c<;>first|rfl|simp[oneCell] at h1)
         refine⟨(cv.toList.take (off*i2.size)++zs++cv.toList.drop (off*i2.size+zs.length)).toArray,?_,?_,?_⟩
         ·rw[aQ] at hm
          simp only[cr,ap,bP,cB,aX,pT]; omega
         ·intro k hk
          rw[aQ] at hm
          simp only[bD,az]
          rw[am (by simp; omega),aS,ah hk]
          simp
         ·simp only[zs] at du
          simp[execOp,cN,hv,resolve,invoke,builtin,Builtin.clear_,run_underlying hu,zeroValue,typeInfo,hi,jl,du,zs]
      have cW:∀x,x≠b→(w.setRow b NR).heap[x]? = w.heap[x]? := λx hx=>setRow_other w b x _ hx
      have cL:Ext w G (w.setRow b NR) G:=by
       refine⟨rfl,rfl,rfl,by simp[World.setRow],?_,?_,λ_ _ h => .inl h,λ_ h => .inr h,λ_ _ h=>h,FL hh _ wi,rfl⟩
       ·intro x _ jb
        exact cW x (by rintro rfl; rw[eu] at jb; simp at jb)
       ·intro x o' fo
        refine⟨fo,?_⟩
        have gl:x≠b:=by rintro rfl; exact gy _ fo
        simp only[World.cell?,cW x gl]
      have cP:xq (λk=>k = .hobj n) w G (w.setRow b NR) G:=by
       refine⟨?_,λ_ _ h=>h⟩
       intro x k gF gw
       refine⟨gF,cW x ?_,λ_ h=>h⟩
       rintro rfl
       rw[eu] at gF
       simp at gF
       exact gw gF.symm
      have ix:FI N (w.setRow b NR) G { st with heap:=st.heap.set n (.cells (cs.take (off*i2.size))) } a vs (wk vs ops):=by
       refine⟨hf.len,λi t' u' h1 h2=>(hf.var i t' u' h1 h2).keep cL cP (by simp) (by simp),λi t' u' h1 h2=>(hf.loc i t' u' h1 h2).keep cL cP (by simp) (by simp),hf.tv,hf.tl,hf.defers,hf.gen,?_,?_,?_,?_⟩
       ·intro x k hx; simpa[World.setRow] using hf.owlt x k hx
       ·intro x o' hx; simpa[World.setRow] using hf.fixlt x o' hx
       ·refine hf.heap.keepBut cL cP (λn k da=>⟨by simp; omega,by simp⟩) (λ_ =>?_)
        refine .inr ⟨b,hb,eu,gy,NR,T',setRow_heap w b cv NR T' (0,0) hh,?_,?_⟩
        ·simp; omega
        ·intro k c y hc hy
         rw[aS] at hy
         split at hy
         ·rename_i dY
          rw[wj k dY] at hc
          exact(iH k c y hc hy).keep cL cP (by simp)
         ·simp at hy
       ·simp only[bM]; exact hf.hdom
      unfold Oper.wp
      rw[cO]
      have fP:a.put o.dst (.tuple #[])=a:=by simp[dZ,Act.put]
      have hd:wO vs o.dst = .n:=by simp[dZ,wO]
      show next (a.put o.dst (.tuple #[])) _
      rw[fP]
      refine hk _ _ G ?_ cL rfl
      rw[hd]
      exact ix
   ·simp at hs
  ·simp at hs
 ·simp at hs
end
end PI
set_option linter.unusedSimpArgs false
set_option linter.unusedVariables false
namespace PI
open Go Go.RowKit
theorem BD:∀{ps:List PV},wK ps=true→∀p∈ps,wN p=true
 | [],_,p,hp=>by simp at hp
 | x :: xs, h, p, hp => by
   simp only[wK,al] at h
   rcases ay.1 hp with rfl|hp
   ·exact h.1
   ·exact BD h.2 p hp
theorem b4T {p:PV} (h:wN p=true):∀x∈p.cells,wN x=true:=by
 intro x hx
 cases p<;>simp only[PV.cells,aO] at hx<;>first|(subst hx; exact h)|(simp at hx; done)|skip
 exact BD (by simpa[wN] using h) x hx
theorem VR.free {N:Nm} {w:World} {fix:Nat→Nat→Prop} {hp eQ:Nat→Option Nat} {v:Value} {p:PV} (h:VR N w fix hp v p) (hr:wN p=true):VR N w fix eQ v p:=by
 induction h with
 | bool b=>exact .bool b
 | int k n=>exact .int k n
 | str s=>exact .str s
 | nils own=>exact .nils own
 | void own a cap=>exact .void own a cap
 | nils'=>exact .nils'
 | void' a cap=>exact .void' a cap
 | list own b off len cap sz es cv cM cV cS cU hcell _ ih =>
   refine .list own b off len cap sz es cv cM cV cS cU hcell (λi e he j x hx=>ih i e he j x hx ?_)
   have:=BD (by simpa[wN] using hr) e (ax he)
   exact b4T this x (ax hx)
 | agg cs ps cM cU eE _ ih=>exact .agg cs ps cM cU eE (λi c p hc hp=>ih i c p hc hp (BD (by simpa[wN] using hr) p (ax hp)))
 | tuple cs ps cM _ ih=>exact .tuple cs ps cM (λi c p hc hp=>ih i c p hc hp (BD (by simpa[wN] using hr) p (ax hp)))
 | nilptr=>exact .nilptr
 | cptr b off ps cv cU hcell _ ih=>exact .cptr b off ps cv cU hcell (λk x hx=>ih k x hx (BD (by simpa[wN] using hr) x (ax hx)))
 | ptr n off b h=>simp[wN] at hr
 | rowp n sz agg len b cap h cV d8=>simp[wN] at hr
 | rows n sz agg off len b o cap m T h cV ho d8 hm=>simp[wN] at hr
 | mapn=>exact .mapn
 | map n b h=>simp[wN] at hr
 | yield k n l y tmps caps h0 hl p5 cM _ _ _=>simp[wN,wK] at hr
 | func k fs cs pf pc h0 h1 h2 _ _ ihf ihc =>
   simp only[wN,al] at hr
   exact .func k fs cs pf pc h0 h1 h2 (λi c p hc hp=>ihf i c p hc hp (BD hr.1 p (ax hp))) (λi c p hc hp=>ihc i c p hc hp (BD hr.2 p (ax hp)))
 | nilfunc=>exact .nilfunc
 | iface t v p _ ih=>exact .iface t v p (ih (by simpa[wN] using hr))
 | nilIface=>exact .nilIface
theorem VR.cp_dem {N:Nm} {w:World} {fix:Nat→Nat→Prop} {hp:Nat→Option Nat} {v:Value} {p:PV} (h:VR N w fix hp v p):cp (PI.dem p)=some (PI.dem p):=by
 cases h<;>rfl
theorem F8 {n sz len:Nat} {agg:Bool}:∀{ps:List PV},.rowp n sz agg len∈ps→n∈Bh ps
 | p :: ps, h => by
   simp only[Bh,ak]
   rcases ay.1 h with h|h
   ·subst h; exact .inl (by simp[xt])
   ·exact .inr (F8 h)
def GS.shut (G:GS) (ns:List Nat) (heap:List PObj):GS:=
 { G with fix:=λb o=>G.fix b o∨∃n∈ns,∃cs:List PV,G.heap n=some b∧heap[n]? = some (.cells cs)∧o<cs.length }
section
variable {N:Nm}
theorem VR.shut {w:World} {G:GS} {ns:List Nat} {heap:List PObj} {v:Value} {p:PV} (h:VR N w G.fix G.heap v p):VR N w (G.shut ns heap).fix (G.shut ns heap).heap v p:=
 h.mono (λ_ _ h=>⟨.inl h,rfl⟩) (λ_ _ h=>h) (ShapeLe.refl w)
theorem Lx {w:World} {G:GS} {heap:List PObj} (h:HR N w G heap) {ns:List Nat} {n sz len b cap:Nat} (cV:len≤cap) {agg:Bool} {cs es:List PV} (hn:n∈ns) (hb:G.heap n=some b) (hc:heap[n]? = some (.cells cs)) (cS:agg=true∨sz=1)
  (he:zj sz agg cs len 0=some es):VR N w (G.shut ns heap).fix (G.shut ns heap).heap (.slice (some ⟨b,0,none⟩) len cap) (.list false es):=by
 rcases h.1 n _ hc with hg|⟨b',k1,k2,f,cv,T,a1,a2,a3⟩
 ·simp at hg
 have:b'=b:=by rw[hb] at k1; cases k1; rfl
 subst this
 obtain⟨e1,e2⟩:=Hr he
 have jH:∀(i:Nat) (e:PV),es[i]? = some e→i*sz+sz≤cs.length∧e.cells.length=sz∧∀(j:Nat) (x:PV),e.cells[j]? = some x→∃y,cs[i*sz+j]? = some y∧x=dem y∧j<sz:=by
  intro i e hi
  have:=e2 i e hi
  rw[aR] at this
  unfold wz at this
  split at this
  ·split at this
   ·rename_i em
    simp only[aa] at this; subst this
    refine⟨em,by simp[PV.cells]; omega,?_⟩
    intro j x hx
    simp only[PV.cells,aF,ab] at hx
    obtain⟨y,hy,rfl⟩:=hx
    rw[aS] at hy
    split at hy
    ·rw[aW] at hy
     exact⟨y,hy,rfl,by assumption⟩
    ·simp at hy
   ·simp at this
  ·rename_i gD
   have h1:sz=1:=by rcases cS with h|h; exact absurd h (by simpa using gD); exact h
   subst h1
   split at this
   ·rename_i y hy
    have cQ:i*1<cs.length:=(aj.1 hy).1
    have fS:y.flat=true:=(a3 _ cv[i*1] y (by simp[a2,cQ]) hy).2.1
    have fu:e=dem y∧y.cells=[y]:=by
     cases y<;>simp_all [cp,dem,PV.cells,PV.flat]
    obtain⟨rfl,_⟩:=fu
    have gA:(dem y).cells=[dem y]:=by cases y<;>simp_all [dem,PV.cells,PV.flat]
    refine⟨by omega,by rw[gA]; rfl,?_⟩
    intro j x hx
    rw[gA] at hx
    cases j with
    | zero=>simp at hx; subst hx; exact⟨y,hy,rfl,by omega⟩
    | succ j=>simp at hx
   ·simp at this
 have m9:∀k,k<len*sz→k<cs.length:=by
  intro k hk
  have fx:0<sz:=by
   rcases Nat.eq_zero_or_pos sz with h|h
   ·subst h; simp at hk
   ·exact h
  have hi:k / sz<len:=by rw[Nat.div_lt_iff_lt_mul fx]; exact hk
  have:=(jH (k / sz) es[k / sz] (av (by omega))).1
  have h2:k / sz*sz+k % sz=k:=by rw[Nat.mul_comm]; exact Nat.div_add_mod k sz
  have h3:k % sz<sz:=cd _ fx
  omega
 refine .list false b' 0 len cap sz es (λk=>cv.getD k undef) e1 cV ?_ ?_ ?_ ?_
 ·intro e he
  obtain⟨i,hi⟩:=bh.1 he
  exact(jH i e hi).2.1
 ·intro e he x hx
  obtain⟨i,hi⟩:=bh.1 he
  obtain⟨j,hj⟩:=bh.1 hx
  obtain⟨y,hy,rfl,_⟩:=(jH i e hi).2.2 j x hj
  rw[C8]
  have cQ:i*sz+j<cs.length:=(aj.1 hy).1
  exact(a3 _ cv[i*sz+j] y (by simp[a2,cQ]) hy).2.1
 ·intro k hk
  have cQ:=m9 k hk
  refine⟨?_,.inr ⟨n,hn,cs,hb,hc,by omega⟩⟩
  have:k<cv.size:=by omega
  simp[World.cell?,a1,this]
 ·intro i e hi j x hx
  obtain⟨y,hy,rfl,_⟩:=(jH i e hi).2.2 j x hx
  have cQ:i*sz+j<cs.length:=(aj.1 hy).1
  have jT:i*sz+j<cv.size:=by omega
  have:=(a3 _ cv[i*sz+j] y (by simp[jT]) hy).1
  simp only[aM,Array.getElem?_eq_getElem jT,bI]
  exact this.dem.shut
theorem KS {w:World} {G:GS} {heap:List PObj} (h:HR N w G heap) {ns:List Nat} {v:Value} {p q:PV} (ja:∀m sz agg len,p = .rowp m sz agg len→m∈ns) (hv:VR N w G.fix G.heap v p) (hp:BF heap p=some q):
  VR N w (G.shut ns heap).fix (G.shut ns heap).heap v q∧(p.flat=true→q.flat=true)∧(∀es,q = .list true es→p = .list true es):=by
 by_cases hr:∃m sz agg len,p = .rowp m sz agg len
 ·obtain⟨m,sz,agg,len,rfl⟩:=hr
  simp only[BF] at hp
  split at hp
  ·rename_i cS
   split at hp
   ·rename_i cs hh
    simp only[ab] at hp
    obtain⟨es,fH,rfl⟩:=hp
    refine⟨?_,λ_=>rfl,λes e=>by simp at e⟩
    cases hv with
    | rowp _ _ _ _ b cap cX cV _=>exact Lx h cV (ja m sz agg len rfl) cX hh cS fH
   ·simp at hp
  ·simp at hp
 ·have:BF heap p=some p:=by cases p<;>first|rfl|exact absurd ⟨_,_,_,_,rfl⟩ hr
  rw[this] at hp
  simp only[aa] at hp
  subst hp
  exact⟨hv.shut,id,λes e=>e⟩
theorem PS {heap:List PObj}:∀{ps qs:List PV},Ad heap ps=some qs→qs.length=ps.length∧∀(i:Nat) (q:PV),qs[i]? = some q→∃p,ps[i]? = some p∧BF heap p=some q
 | [],qs,h=>by simp[Ad] at h; subst h; simp
 | p :: ps, qs, h => by
   simp only[Ad,ae,ab] at h
   obtain⟨q,h1,qs',h2,rfl⟩:=h
   obtain⟨k1,k2⟩:=PS h2
   refine⟨by simp[k1],?_⟩
   intro i x hx
   cases i with
   | zero=>simp at hx; subst hx; exact⟨p,rfl,h1⟩
   | succ i=>exact k2 i x (by simpa using hx)
theorem Ly {w:World} {G:GS} {heap:List PObj} (h:HR N w G heap) {ns:List Nat} {v:Value} {p q:PV} (ja:∀x∈p.cells,∀m sz agg len,x = .rowp m sz agg len→m∈ns) (hv:VR N w G.fix G.heap v p) (hp:xF heap p=some q):
  VR N w (G.shut ns heap).fix (G.shut ns heap).heap v q:=by
 by_cases ha:∃ps,p = .agg ps
 ·obtain⟨ps,rfl⟩:=ha
  simp only[xF,ab] at hp
  obtain⟨qs,jL,rfl⟩:=hp
  obtain⟨f1,f2⟩:=PS jL
  cases hv with
  | agg cs _ cM cU eE hcell =>
    refine .agg cs qs (by rw[f1]; exact cM) ?_ ?_ ?_
    ·intro y hy
     obtain⟨i,hi⟩:=bh.1 hy
     obtain⟨x,hx,mY⟩:=f2 i y hi
     have cQ:i<cs.size:=by have:=(aj.1 hx).1; omega
     exact(KS h (ja x (ax hx)) (hcell i cs[i] x (by simp[cQ]) hx) mY).2.1 (cU x (ax hx))
    ·intro i c es hc hy
     obtain⟨x,hx,mY⟩:=f2 i _ hy
     have:=(KS h (ja x (ax hx)) (hcell i c x hc hx) mY).2.2 es rfl
     subst this
     exact eE i c es hc hx
    ·intro i c y hc hy
     obtain⟨x,hx,mY⟩:=f2 i y hy
     exact(KS h (ja x (ax hx)) (hcell i c x hc hx) mY).1
 ·have:xF heap p=some p:=by cases p<;>first|rfl|exact absurd ⟨_,rfl⟩ ha
  rw[this] at hp
  simp only[aa] at hp
  subst hp
  exact hv.shut
end
structure HeapOnly (G:GS):Prop where
 ow:∀b k,G.ow b=some k→k.isH=true
 box:∀g,G.box g=none
structure Between (N:Nm) (w:World) (G:GS) (h:List PObj):Prop where
 only:HeapOnly G
 fixlt:∀b o,G.fix b o→b<w.heap.size
 owlt:∀b k,G.ow b=some k→b<w.heap.size
 heap:HR N w G h
 hdom:∀n b,G.heap n=some b→n<h.length
def C4 (w0:World) (G0:GS) (w:World) (G:GS) (v:Value) (es:List PV):Prop:=
 match v with
 | .slice (some a) len cap => cap = len ∨
   ((w0.heap.size ≤ a.block ∨ G0.ow a.block ≠ none) ∧ ∃ sz cs T, (∀ e ∈ es, e.cells.length = sz) ∧ Live w a.block cs T ∧ a.off + cap * sz ≤ cs.size ∧
     0<len∧∀o,a.off+len*sz≤o→¬G.fix a.block o)
 | _=>True
structure OwnIn (N:Nm) (w:World) (G:GS) (own:Option Nat) (args:List PV) (vals:Array Value):Prop where
 ow:∀b k,G.ow b=some k→∃i,own=some i∧k = .var i
 box:∀g,G.box g=none
 heap:∀n,G.heap n=none
 fixlt:∀b o,G.fix b o→b<w.heap.size
 owlt:∀b k,G.ow b=some k→b<w.heap.size
 tab:Tab N w G.fix
 size:vals.size=args.length
 vr:∀(i:Nat) (v:Value) (p:PV),vals[i]? = some v→args[i]? = some p→VR N w G.fix G.heap v p
 room:∀(i:Nat) (v:Value) (es:List PV),own=some i→vals[i]? = some v→args[i]? = some (.list true es)→Room w G (.var i) v es
def d20 (N:Nm) (P:Program) (cf:wu):Prop:=
 ∀ (k : Nat) (own : Option Nat) (args : List PV) (r : PV) (h' : List PObj), cf k (Bg own args) [] = some (r, h') → N.yl k = none ∧ ∀ (w : World) (G : GS) (vals : Array Value), OwnIn N w G own args vals →
   Calls P (N.fn k) vals w λe w'=>∃v G',e = .returned v∧VR N w' G'.fix G'.heap v r∧Ext w G w' G'∧(∀b o,G'.fix b o→b<w'.heap.size)∧∀es,r = .list true es→C4 w G w' G' v es
def c6g (N:Nm) (P:Program) (cf:wu):Prop:=
 ∀ (k : Nat) (args : List PV) (r : PV) (h h' : List PObj), cf k args h = some (r, h') → N.yl k = none ∧ ∀ (w : World) (G : GS) (vals : Array Value), Between N w G h → vals.size = args.length →
   (∀(i:Nat) (v:Value) (p:PV),vals[i]? = some v→args[i]? = some p→VR N w G.fix G.heap v p) →
   Calls P (N.fn k) vals w λe w'=>∃v G',e = .returned v∧VR N w' G'.fix G'.heap v r∧Ext w G w' G'∧Between N w' G' h'
structure CallOK (N:Nm) (P:Program) (cf:wu):Prop where
 plain:c6g N P cf
 own:d20 N P cf
theorem Room.sub {w:World} {G G':GS} {key:Key} {v:Value} {es:List PV} (h:Room w G key v es) (hf:G'.fix=G.fix) (ho:∀b,G.ow b=some key→G'.ow b=some key):Room w G' key v es:=by
 unfold Room at *
 split at h
 ·rename_i a len cap
  rcases h with h|⟨h1,sz,cs,T,h2,h3,h4,h5,h6⟩
  ·exact .inl h
  ·exact .inr ⟨ho _ h1,sz,cs,T,h2,h3,h4,h5,by rw[hf]; exact h6⟩
 ·trivial
theorem HR.sub {N:Nm} {w:World} {G G':GS} {heap:List PObj} (h:HR N w G heap) (hf:G'.fix=G.fix) (hh:G'.heap=G.heap) (ho:∀b k,k.isH=true→G.ow b=some k→G'.ow b=some k):HR N w G' heap:=by
 refine⟨?_,by rw[hf]; exact h.2⟩
 intro n ob dB
 rcases h.1 n ob dB with rfl|⟨b,h1,h2,h3⟩
 ·exact .inl rfl
 refine .inr ⟨b,by rw[hh]; exact h1,ho _ _ rfl h2,?_⟩
 cases ob with
 | cells cs =>
   obtain⟨f,cv,T,a1,a2,a3⟩:=h3
   refine⟨by rw[hf]; exact f,cv,T,a1,a2,?_⟩
   intro k c x hc hx
   obtain⟨b1,b2,b3⟩:=a3 k c x hc hx
   refine⟨by rw[hf,hh]; exact b1,b2,?_⟩
   split at b3
   ·exact b3.sub hf (λb=>ho b _ rfl)
   ·trivial
 | map es =>
   obtain⟨mes,clock,a1,a2,a3,a4,a5⟩:=h3
   refine⟨mes,clock,a1,a2,a3,a4,?_⟩
   intro i e p hi hp
   obtain⟨b1,b2,b3⟩:=a5 i e p hi hp
   refine⟨by rw[hf,hh]; exact b1,by rw[hf,hh]; exact b2,?_⟩
   split at b3
   ·exact b3.sub hf (λb=>ho b _ rfl)
   ·trivial
 | bld bs =>
   obtain⟨f,p,v,a1,a2,a3⟩:=h3
   refine⟨by rw[hf]; exact f,p,v,a1,a2,?_⟩
   rcases a3 with a3|⟨g,cap,cur,b1,b2,b3,b4⟩
   ·exact .inl a3
   ·exact .inr ⟨g,cap,cur,b1,ho _ _ rfl b2,by rw[hf]; exact b3,b4⟩
 | siter s pos =>
   obtain⟨f,s',a1,a2⟩:=h3
   exact⟨by rw[hf]; exact f,s',a1,a2⟩
 | gone=>trivial
 | loop ready =>
   obtain⟨f,r,a1,a2⟩:=h3
   exact⟨by rw[hf]; exact f,r,a1,a2⟩
 | over id =>
   obtain⟨f,r,a1,a2⟩:=h3
   exact⟨by rw[hf]; exact f,r,a1,a2⟩
def yZ (ow:Nat→Option Key) (b:Nat):Option Key:=
 match ow b with
 | some k=>if k.isH then some k else none
 | none=>none
theorem DK {ow:Nat→Option Key} {b:Nat} {k:Key} (h:yZ ow b=some k):ow b=some k∧k.isH=true:=by
 unfold yZ at h
 split at h
 ·split at h
  ·simp at h; subst h; exact⟨by assumption,by assumption⟩
  ·simp at h
 ·simp at h
theorem Iq {ow:Nat→Option Key} {b:Nat} {k:Key} (h:ow b=some k) (hk:k.isH=true):yZ ow b=some k:=by
 simp[yZ,h,hk]
def yr (N:Nm) (P:Program) (L:Nat→Option PFunc):Prop:=
 ∀k f,L k=some f→∃fn,P.funcs[N.fn k]? = some fn∧fn.name ≠ "runtime.NumGoroutine" ∧ fn.body.isNone=false
section
variable {E:Env} {N:Nm} {w:World} {G:GS} {st:St} {a:Act} {vs:List Tmp} {ops:List Oper} {P:Program}
variable {o:Oper} {j:Nat} {next:Act→World→Prop} {Q:Exit→Act→World→Prop} {u:PV} {st1:St}
theorem BK {L:Nat→Option PFunc} (hF:yr N P L) {k:Nat} {f:PFunc} (hL:L k=some f) (args:Array Value) (w:World):(callFunc (N.fn k) args).run P w = .ok (.enter (N.fn k) args) w:=by
 obtain⟨fn,h1,h2,h3⟩:=hF k f hL
 have fU:(fn.name == "runtime.NumGoroutine")=false:=by simpa using h2
 simp only[callFunc,Sem.run_bind,run_program,Result.andThen_ok,h1,fU,h3,aH,if_false,Sem.run_pure]
theorem PT (nm:Names vs (wk vs ops)) (ho:ops[j]? = some o) (hf:FI N w G st a vs (wk vs ops)) {cf:wu} (dE:CallOK N P cf) {k:Nat} {args:List PV} {vals:Array Value} {r:PV} {h':List PObj}
  (cS:vals.size=args.length) (hv:∀(i:Nat) (v:Value) (p:PV),vals[i]? = some v→args[i]? = some p→VR N w G.fix G.heap v p) (dK:wK args=true) (hc:cf k args []=some (r,h')) (hr:wN r=true)
  (cO:(execOp a.eval o).run P w = .ok (.enter (N.fn k) vals) w) (hk:wG N w G a st (dem r) vs ops j o next):o.wp P a w next Q:=by
 unfold Oper.wp
 rw[cO]
 let Gc:GS:={ fix:=G.fix,heap:=λ_=>none,box:=λ_=>none,ow:=λ_=>none }
 have d4:Between N w Gc []:=⟨⟨by intro b k h; simp[Gc] at h,λ_=>rfl⟩,hf.fixlt,by intro b k h; simp[Gc] at h,⟨by intro n ob h; simp at h,hf.heap.2⟩,by intro n b h; simp[Gc] at h⟩
 refine((dE.plain k args r [] h' hc).2 w Gc vals d4 cS (λi v p h1 h2=>(hv i v p h1 h2).free (BD dK p (ax h2)))).mono ?_
 rintro e w' ⟨v,G2,rfl,cT,he,dy⟩
 let G':GS:={ G with fix:=G2.fix }
 have kJ:∀b,b<w.heap.size→w'.heap[b]? = w.heap[b]? := λb hb=>he.same b hb rfl
 have ev:∀b o,G2.fix b o→G.fix b o∨w.heap.size≤b:=by
  intro b o h
  rcases he.newfix b o h with h|h|h
  ·exact .inl h
  ·exact .inr h
  ·exact absurd rfl h
 have cL:Ext w G w' G':=by
  refine⟨he.os,he.tape,he.output,he.size,λb cQ _=>kJ b cQ,λb o h=>he.fix b o h,?_,λ_ h => .inr h,λ_ _ h=>h,he.shape,rfl⟩
  intro b o h
  rcases ev b o h with h|h
  ·exact .inl h
  ·exact .inr (.inl h)
 have cP:xq (λ_=>False) w G w' G':=by
  refine⟨?_,λ_ _ h=>h⟩
  intro b key cX _
  have fD:=hf.owlt _ _ cX
  refine⟨cX,kJ b fD,?_⟩
  intro o h
  rcases ev b o h with h|h
  ·exact h
  ·omega
 have de:=hf.ext (G':=G') cL cP hf.gen (λb key h=>aK (hf.owlt b key h) he.size) dy.fixlt
 have fE:VR N w' G'.fix G'.heap v (dem r):=(cT.free hr).dem
 exact hk _ _ G' (de.put nm (yV ho) (SR.of_pure fE cT.cp_dem)) cL (yW _ _ _)
theorem KT:∀{ps:List PV},BG ps=true→∀p∈ps,Ae p=true
 | [],_,p,hp=>by simp at hp
 | x :: xs, h, p, hp => by
   simp only[BG,al] at h
   rcases ay.1 hp with rfl|hp
   ·exact h.1
   ·exact KT h.2 p hp
theorem VR.plain {N:Nm} {w w':World} {fix fix':Nat→Nat→Prop} {hp eQ:Nat→Option Nat} {v:Value} {p:PV} (h:VR N w fix hp v p) (hr:Ae p=true):VR N w' fix' eQ v p:=by
 induction h with
 | bool b=>exact .bool b
 | int k n=>exact .int k n
 | str s=>exact .str s
 | agg cs ps cM cU eE _ ih=>exact .agg cs ps cM cU eE (λi c p hc hp=>ih i c p hc hp (KT (by simpa[Ae] using hr) p (ax hp)))
 | tuple cs ps cM _ ih=>exact .tuple cs ps cM (λi c p hc hp=>ih i c p hc hp (KT (by simpa[Ae] using hr) p (ax hp)))
 | _=>simp[Ae] at hr
theorem PU {heap:List PObj}:∀{ps qs:List PV},AS heap ps=some qs→qs.length=ps.length∧∀(i:Nat) (q:PV),qs[i]? = some q→∃p,ps[i]? = some p∧xF heap p=some q
 | [],qs,h=>by simp[AS] at h; subst h; simp
 | p :: ps, qs, h => by
   simp only[AS,ae,ab] at h
   obtain⟨q,h1,qs',h2,rfl⟩:=h
   obtain⟨k1,k2⟩:=PU h2
   refine⟨by simp[k1],?_⟩
   intro i x hx
   cases i with
   | zero=>simp at hx; subst hx; exact⟨p,rfl,h1⟩
   | succ i=>exact k2 i x (by simpa using hx)
theorem b7K (nm:Names vs (wk vs ops)) (ho:ops[j]? = some o) (hf:FI N w G st a vs (wk vs ops)) {cf:wu} (dE:CallOK N P cf) {k:Nat} {args args':List PV} {vals:Array Value} {r:PV} {h':List PObj}
  (cS:vals.size=args.length) (hv:∀(i:Nat) (v:Value) (p:PV),vals[i]? = some v→args[i]? = some p→VR N w G.fix G.heap v p) (hl:AS st.heap args=some args') (dK:wK args'=true) (hc:cf k args' []=some (r,h')) (hr:Ae r=true)
  (cO:(execOp a.eval o).run P w = .ok (.enter (N.fn k) vals) w) (hk:wG N w G a st (dem r) vs ops j o next):o.wp P a w next Q:=by
 unfold Oper.wp
 rw[cO]
 let ns:=args.flatMap λp=>Bh p.cells
 let Gc:GS:={ fix:=(G.shut ns st.heap).fix,heap:=λ_=>none,box:=λ_=>none,ow:=λ_=>none }
 have cQ:∀b o,(G.shut ns st.heap).fix b o→b<w.heap.size:=by
  rintro b o (h|⟨n,_,cs,h1,h2,_⟩)
  ·exact hf.fixlt b o h
  ·rcases hf.heap.1 n _ h2 with h3|⟨b',k1,k2,_⟩
   ·simp at h3
   rw[h1] at k1; cases k1
   exact hf.owlt _ _ k2
 have d4:Between N w Gc []:=⟨⟨by intro b k h; simp[Gc] at h,λ_=>rfl⟩,cQ,by intro b k h; simp[Gc] at h,⟨by intro n ob h; simp at h,⟨λt ht=>⟨.inl (hf.heap.2.1 t ht).1,(hf.heap.2.1 t ht).2⟩,hf.heap.2.2⟩⟩,by intro n b h; simp[Gc] at h⟩
 obtain⟨l1,l2⟩:=PU hl
 refine((dE.plain k args' r [] h' hc).2 w Gc vals d4 (by rw[l1]; exact cS) ?_).mono ?_
 ·intro i v q h1 h2
  obtain⟨p,hp,hq⟩:=l2 i q h2
  refine VR.free (Ly hf.heap (ns:=ns) ?_ (hv i v p h1 hp) hq) (BD dK q (ax h2))
  intro x hx m sz agg len e
  subst e
  exact bJ.2 ⟨p,ax hp,F8 hx⟩
 rintro e w' ⟨v,G2,rfl,cT,he,dy⟩
 have cL:Ext w G w' G:=⟨he.os,he.tape,he.output,he.size,λb cQ _=>he.same b cQ rfl,λb o h=>⟨h,(he.fix b o (.inl h)).2⟩,λ_ _ h => .inl h,λ_ h => .inr h,λ_ _ h=>h,he.shape,rfl⟩
 have cP:xq (λ_=>False) w G w' G:=⟨λb key cX _=>⟨cX,he.same b (hf.owlt _ _ cX) rfl,λ_ h=>h⟩,λ_ _ h=>h⟩
 have de:=hf.ext (G':=G) cL cP hf.gen (λb key h=>aK (hf.owlt b key h) he.size) (λb o h=>aK (hf.fixlt b o h) he.size)
 have fE:VR N w' G.fix G.heap v (dem r):=(cT.plain hr).dem
 exact hk _ _ G (de.put nm (yV ho) (SR.of_pure fE cT.cp_dem)) cL (yW _ _ _)
theorem PY (nm:Names vs (wk vs ops)) (ho:ops[j]? = some o) (hf:FI N w G st a vs (wk vs ops)) {cf:wu} (dE:CallOK N P cf) {k:Nat} {args:List PV} {vals:Array Value} {r:PV} {h':List PObj}
  (cS:vals.size=args.length) (hv:∀(i:Nat) (v:Value) (p:PV),vals[i]? = some v→args[i]? = some p→VR N w G.fix G.heap v p) (hc:cf k args st.heap=some (r,h'))
  (cO:(execOp a.eval o).run P w = .ok (.enter (N.fn k) vals) w) (hk:wG N w G a { st with heap:=h' } (dem r) vs ops j o next):o.wp P a w next Q:=by
 unfold Oper.wp
 rw[cO]
 let Gc:GS:={ fix:=G.fix,heap:=G.heap,box:=λ_=>none,ow:=yZ G.ow }
 have d4:Between N w Gc st.heap:=⟨⟨λb k h=>(DK h).2,λ_=>rfl⟩,hf.fixlt,λb k h=>hf.owlt b k (DK h).1,hf.heap.sub rfl rfl (λb k hk h=>Iq h hk),hf.hdom⟩
 refine((dE.plain k args r st.heap h' hc).2 w Gc vals d4 cS hv).mono ?_
 rintro e w' ⟨v,G2,rfl,cT,he,dy⟩
 let G':GS:={ fix:=G2.fix,heap:=G2.heap,box:=G.box,ow:=λb=>match G.ow b with | some k=>if k.isH then G2.ow b else some k | none=>G2.ow b,df:=G.df }
 have cL:Ext w G w' G':=by
  refine⟨he.os,he.tape,he.output,he.size,λb cQ h=>he.same b cQ (by simp[Gc,yZ,h]),λb o h=>he.fix b o h,?_,?_,he.heap,he.shape,rfl⟩
  ·intro b o h
   rcases he.newfix b o h with h|h|h
   ·exact .inl h
   ·exact .inr (.inl h)
   ·refine .inr (.inr ?_)
    intro e
    apply h
    simp[Gc,yZ,e]
  ·intro b h
   cases hb:G.ow b with
   | some k=>exact .inr (by simp)
   | none =>
     simp only[G',hb] at h
     rcases he.own b h with h|h
     ·exact .inl h
     ·exact absurd (by simp[Gc,yZ,hb]) h
 have cP:xq (λk=>k.isH=true) w G w' G':=by
  refine⟨?_,λ_ _ h=>h⟩
  intro b key cX hn
  have fD:=hf.owlt _ _ cX
  have eg:Gc.ow b=none:=by simp[Gc,yZ,cX,hn]
  refine⟨by simp[G',cX,hn],he.same b fD eg,?_⟩
  intro o h
  rcases he.newfix b o h with h|h|h
  ·exact h
  ·omega
  ·exact absurd eg h
 have dU:HR N w' G' h':=by
  refine dy.heap.sub rfl rfl ?_
  intro b k vU h
  cases hb:G.ow b with
  | none=>simp only[G',hb]; exact h
  | some k0 =>
    by_cases lH:k0.isH=true
    ·simp only[G',hb,lH,if_true]; exact h
    ·have eg:Gc.ow b=none:=by simp[Gc,yZ,hb,lH]
     have cQ:=hf.owlt _ _ hb
     rcases he.own b (by rw[h]; simp) with h2|h2
     ·omega
     ·exact absurd eg h2
 have de:FI N w' G' { st with heap:=h' } a vs (wk vs ops):=by
  refine⟨hf.len,λi t u h1 h2=>(hf.var i t u h1 h2).keep cL cP (by simp[Key.isH]) (by simp[Key.isH]),λj t u h1 h2=>(hf.loc j t u h1 h2).keep cL cP (by simp[Key.isH]) (by simp[Key.isH]),hf.tv,hf.tl,(hf.defers.trans cL.df.symm),hf.gen,?_,dy.fixlt,dU,dy.hdom⟩
  intro b k h
  cases hb:G.ow b with
  | some k0=>exact aK (hf.owlt _ _ hb) he.size
  | none =>
    simp only[G',hb] at h
    exact dy.owlt _ _ h
 exact hk _ _ G' (de.put nm (yV ho) (SR.of_pure cT.dem cT.cp_dem)) cL (yW _ _ _)
theorem Cr {xs:Array Operand} {us:List PV} (h1:xs.toList.length=us.length) (h2:∀(i:Nat) (x:Operand) (u:PV),xs.toList[i]? = some x→us[i]? = some u→VR N w G.fix G.heap (a.eval x) u∧cp u=some u):
  (xs.map a.eval).size=us.length∧∀(i:Nat) (v:Value) (p:PV),(xs.map a.eval)[i]? = some v→us[i]? = some p→VR N w G.fix G.heap v p:=by
 refine⟨by simpa using h1,?_⟩
 intro i v p hv hp
 simp only[bQ,ab] at hv
 obtain⟨x,hx,rfl⟩:=hv
 exact(h2 i x p (by simpa using hx) hp).1
theorem b7L {L:Nat→Option PFunc} (hF:yr N P L) (hE:EnvOk E N) (nm:Names vs (wk vs ops)) (ho:ops[j]? = some o) (hf:FI N w G st a vs (wk vs ops)) {cf:wu} (dE:CallOK N P cf) (ec:∀k args h r,cf k args h=some r→∃f,L k=some f)
  {f:FuncId} {k:Nat} {xs:Array Operand} {ts:Array TypeId} {pxs:List PX} (cN:o.op = .call { callee := .value (.func f),args:=xs,argTypes:=ts }) (dh:E.inv f=some k) (hx:cxs E vs ops xs.toList=some pxs)
  (hs:opv cf (.pcall k pxs) st=some (u,st1)) (hk:wG N w G a st1 u vs ops j o next):o.wp P a w next Q:=by
 simp only[opv] at hs
 split at hs
 ·rename_i us eG
  split at hs
  ·rename_i dK
   split at hs
   ·rename_i r h' hc
    split at hs
    ·rename_i hr
     simp only[aa,ac] at hs
     obtain⟨rfl,rfl⟩:=hs
     obtain⟨h1,h2⟩:=AG hE hf hx eG
     obtain⟨g1,g2⟩:=Cr (w:=w) (G:=G) h1 h2
     obtain⟨pf,hL⟩:=ec _ _ _ _ hc
     have ei:=hE.fn _ _ dh
     refine PT nm ho hf dE g1 g2 dK hc hr ?_ hk
     have:=BK hF hL (xs.map a.eval) w
     rw[ei] at this
     rw[ei]
     simp[execOp,cN,resolve,Act.eval,Deferred.ofValue,invoke]
     exact this
    ·simp at hs
   ·simp at hs
  ·simp at hs
 ·simp at hs
theorem VR.cp_or {N:Nm} {w:World} {fix:Nat→Nat→Prop} {hp:Nat→Option Nat} {v:Value} {p:PV} (h:VR N w fix hp v p):cp p=some p∨∃es,p = .list true es:=by
 cases h with
 | nils o=>cases o<;>simp[cp]
 | void o _ _=>cases o<;>simp[cp]
 | list o _ _ _ _ _ _ _ _ _ _ _ _ _=>cases o<;>simp[cp]
 | _=>exact .inl rfl
theorem PZ {E:Env} {vs:List Tmp} {ops:List Oper}:∀{xs:List Operand} {ps:List PX} {i:Nat} {p:PX},cxs E vs ops xs=some ps→ps[i]? = some p→∃x,xs[i]? = some x∧cx E vs ops x=some p
 | [],ps,i,p,h,hp=>by simp[cxs] at h; subst h; simp at hp
 | x :: xs, ps, i, p, h, hp => by
   simp only[cxs,ae,ab] at h
   obtain⟨q,h1,qs,h2,rfl⟩:=h
   cases i with
   | zero=>simp at hp; subst hp; exact⟨x,rfl,h1⟩
   | succ i =>
     have:=PZ (i:=i) h2 (by simpa using hp)
     simpa using this
def KU:Value→Option Nat
 | .slice (some a) _ _=>some a.block
 | _=>none
theorem P0 (nm:Names vs (wk vs ops)) (ho:ops[j]? = some o) (hd:wO vs o.dst≠.n) {G0:GS} (qz:Ext w G0 w G) (hf:FI N w G st a vs (wk vs ops)) {cf:wu} (dE:CallOK N P cf) {k:Nat} {own:Option Nat} {args:List PV} {vals:Array Value} {r:PV} {h':List PObj}
  (cS:vals.size=args.length) (hv:∀(i:Nat) (v:Value) (p:PV),vals[i]? = some v→args[i]? = some p→VR N w G.fix G.heap v p) (dK:wK args=true)
  (dr:∀(i:Nat) (v:Value) (es:List PV),own=some i→vals[i]? = some v→args[i]? = some (.list true es)→Room w G (x9 (wO vs o.dst) j) v es)
  (hc:cf k (Bg own args) []=some (r,h')) (hr:wN r=true)
  (cO:(execOp a.eval o).run P w = .ok (.enter (N.fn k) vals) w) (hk:wG N w G0 a st r vs ops j o next):o.wp P a w next Q:=by
 classical
 unfold Oper.wp
 rw[cO]
 let key:=x9 (wO vs o.dst) j
 let Gc:GS:={ fix:=G.fix,heap:=λ_=>none,box:=λ_=>none,ow:=λb=>own.bind λi=>if vals[i]?.bind KU=some b∧G.ow b=some key then some (.var i) else none }
 have qA:∀b k,Gc.ow b=some k→G.ow b=some key∧∃i,own=some i∧k = .var i:=by
  intro b k h
  simp only[Gc,ae] at h
  obtain⟨i,hi,h⟩:=h
  split at h
  ·rename_i hb
   simp only[aa] at h
   exact⟨hb.2,i,hi,h.symm⟩
  ·simp at h
 have dC:OwnIn N w Gc own args vals:=by
  refine⟨λb k h=>(qA b k h).2,λ_=>rfl,λ_=>rfl,hf.fixlt,λb k h=>hf.owlt _ _ (qA b k h).1,hf.heap.2,cS,λi v p h1 h2=>(hv i v p h1 h2).free (BD dK p (ax h2)),?_⟩
  intro i v es hi qy fH
  have h:=dr i v es hi qy fH
  unfold Room at *
  split at h
  ·rename_i a' len cap
   rcases h with h|⟨h1,h2⟩
   ·exact .inl h
   ·refine .inr ⟨?_,h2⟩
    simp only[Gc,hi,qy,aw,KU,true_and]
    rw[ah (show G.ow a'.block=some key from h1)]
  ·trivial
 refine((dE.own k own args r h' hc).2 w Gc vals dC).mono ?_
 rintro e w' ⟨v,G2,rfl,cT,he,fo,gt⟩
 let G':GS:={ G with fix:=G2.fix,ow:=λb=>if (∃es,r = .list true es)∧KU v=some b∧(w.heap.size≤b∨Gc.ow b≠none)∧b<w'.heap.size then some key else G.ow b }
 have eg:∀b k,G.ow b=some k→k≠key→Gc.ow b=none:=by
  intro b k h hn
  cases hx:Gc.ow b with
  | none=>rfl
  | some k' =>
    have:=(qA b k' hx).1
    rw[h] at this
    simp only[aa] at this
    exact absurd this hn
 have iS:∀b,G.ow b=none→Gc.ow b=none:=by
  intro b h
  cases hx:Gc.ow b with
  | none=>rfl
  | some k'=>have:=(qA b k' hx).1; rw[h] at this; simp at this
 have cL:Ext w G w' G':=by
  refine⟨he.os,he.tape,he.output,he.size,λb cQ h=>he.same b cQ (iS b h),λb o h=>he.fix b o h,?_,?_,λ_ _ h=>h,he.shape,rfl⟩
  ·intro b o h
   rcases he.newfix b o h with h|h|h
   ·exact .inl h
   ·exact .inr (.inl h)
   ·exact .inr (.inr λe=>h (iS b e))
  ·intro b h
   simp only[G'] at h
   split at h
   ·rename_i hb
    rcases hb.2.2.1 with h1|h1
    ·exact .inl h1
    ·exact .inr λe=>h1 (iS b e)
   ·exact .inr h
 have cP:xq (λk=>k=key) w G w' G':=by
  refine⟨?_,λ_ _ h=>h⟩
  intro b k cX hn
  have fD:=hf.owlt _ _ cX
  have h0:=eg b k cX hn
  refine⟨?_,he.same b fD h0,?_⟩
  ·simp only[G']
   rw[af]
   ·exact cX
   ·rintro⟨_,_,h1|h1,_⟩
    ·omega
    ·exact h1 h0
  ·intro o h
   rcases he.newfix b o h with h|h|h
   ·exact h
   ·omega
   ·exact absurd h0 h
 have how:∀b k,G'.ow b=some k→b<w'.heap.size:=by
  intro b k h
  simp only[G'] at h
  split at h
  ·rename_i hb; exact hb.2.2.2
  ·exact aK (hf.owlt _ _ h) he.size
 have fE:VR N w' G'.fix G'.heap v r:=cT.free hr
 have pP:SR N w' G' key v r:=by
  rcases fE.cp_or with h|⟨es,rfl⟩
  ·exact SR.of_pure fE h
  ·refine⟨fE,?_⟩
   have h:=gt es rfl
   unfold Room
   unfold C4 at h
   split at h
   ·rename_i a' len cap
    rcases h with h|⟨h1,sz,cs,T,h2,h3,h4⟩
    ·exact .inl h
    ·refine .inr ⟨?_,sz,cs,T,h2,h3,h4⟩
     simp only[G']
     rw[ah]
     exact⟨⟨es,rfl⟩,rfl,h1,let ⟨fz,h5,_⟩:=h3; (ba.1 h5).1⟩
   ·rename_i hx
    split
    ·rename_i a' len cap; exact absurd rfl (hx _ _ _)
    ·trivial
 exact hk _ _ G' (hf.extDst nm (yV ho) hd cL cP (λg b h=>hf.gen g b h) how fo rfl pP) (qz.trans cL) (yW _ _ _)
theorem b6F {L:Nat→Option PFunc} (hF:yr N P L) (hE:EnvOk E N) (nm:Names vs (wk vs ops)) (ho:ops[j]? = some o) (hd:wO vs o.dst≠.n) (hf:FI N w G st a vs (wk vs ops)) {cf:wu} (dE:CallOK N P cf) (ec:∀k args h r,cf k args h=some r→∃f,L k=some f)
  {f:FuncId} {k:Nat} {xs:Array Operand} {ts:Array TypeId} {pxs:List PX} {own:Option Nat} (cN:o.op = .call { callee := .value (.func f),args:=xs,argTypes:=ts }) (dh:E.inv f=some k) (hx:cxs E vs ops xs.toList=some pxs)
  (hs:opv cf (.pcallx k pxs own) st=some (u,st1)) (hk:wG N w G a st1 u vs ops j o next):o.wp P a w next Q:=by
 have cO:∀{args:List PV} {h:List PObj} {r},cf k args h=some r→(execOp a.eval o).run P w = .ok (.enter (N.fn k) (xs.map a.eval)) w:=by
  intro args h r hc
  obtain⟨pf,hL⟩:=ec _ _ _ _ hc
  have ei:=hE.fn _ _ dh
  have:=BK hF hL (xs.map a.eval) w
  rw[ei] at this
  rw[ei]
  simp[execOp,cN,resolve,Act.eval,Deferred.ofValue,invoke]
  exact this
 simp only[opv] at hs
 split at hs
 ·split at hs
  ·rename_i us eG
   split at hs
   ·rename_i dK
    split at hs
    ·rename_i r h' hc
     split at hs
     ·rename_i hr
      simp only[aa,ac] at hs
      obtain⟨rfl,rfl⟩:=hs
      obtain⟨h1,h2⟩:=AG hE hf hx eG
      obtain⟨g1,g2⟩:=Cr (w:=w) (G:=G) h1 h2
      exact P0 nm ho hd (Ext.refl _ _) hf dE g1 g2 dK (by intro i v es h; simp at h) hc hr (cO hc) hk
     ·simp at hs
    ·simp at hs
   ·simp at hs
  ·simp at hs
 ·rename_i i
  split at hs
  ·rename_i v0 st2 us ht eG
   split at hs
   ·rename_i dK
    split at hs
    ·rename_i r h' hc
     split at hs
     ·rename_i hr
      simp only[aa,ac] at hs
      obtain⟨rfl,rfl⟩:=hs
      simp only[ae] at ht
      obtain⟨px,fv,ht⟩:=ht
      obtain⟨h1,h2⟩:=AG hE hf hx eG
      obtain⟨g1,g2⟩:=Cr (w:=w) (G:=G) h1 h2
      obtain⟨x,lJ,gK⟩:=PZ hx fv
      obtain⟨G',k1,k2,k3,k4,k5,k6,k7,_⟩:=Eq hE gK hf ht (x9 (wO vs o.dst) j)
      refine P0 nm ho hd k2 k1 dE (by rw[bM]; exact g1) ?_ dK.1 ?_ hc hr (cO hc) hk
      ·intro i' v p hv hp
       rw[k4,k5]
       rw[aL] at hp
       split at hp
       ·rename_i he
        subst he
        split at hp
        ·simp only[aa] at hp
         subst hp
         simp only[bQ,ab] at hv
         obtain⟨x',eA,rfl⟩:=hv
         have:x'=x:=by rw[← bR,lJ] at eA; simpa using eA.symm
         subst this
         exact k6
        ·simp at hp
       ·exact g2 i' v p hv hp
      ·intro i' v es hi hv fH
       simp only[aa] at hi
       subst hi
       rw[aL] at fH
       simp only[if_true,dK.2,aa] at fH
       subst fH
       simp only[bQ,ab] at hv
       obtain⟨x',eA,rfl⟩:=hv
       have:x'=x:=by rw[← bR,lJ] at eA; simpa using eA.symm
       subst this
       exact k7
     ·simp at hs
    ·simp at hs
   ·simp at hs
  ·simp at hs
theorem b7N {L:Nat→Option PFunc} (hF:yr N P L) (hE:EnvOk E N) (nm:Names vs (wk vs ops)) (ho:ops[j]? = some o) (hf:FI N w G st a vs (wk vs ops)) {cf:wu} (dE:CallOK N P cf) (ec:∀k args h r,cf k args h=some r→∃f,L k=some f)
  {t:Tmp} {px:PX} {xs:Array Operand} {ts:Array TypeId} {pxs:List PX} (cN:o.op = .call { callee := .value (.tmp t),args:=xs,argTypes:=ts }) (fv:cx E vs ops (.tmp t)=some px) (hx:cxs E vs ops xs.toList=some pxs)
  (hs:opv cf (.callv px pxs) st=some (u,st1)) (hk:wG N w G a st1 u vs ops j o next):o.wp P a w next Q:=by
 simp only[opv] at hs
 split at hs
 ·rename_i k first captured us ma eG
  split at hs
  ·rename_i dK
   split at hs
   ·rename_i r h' hc
    split at hs
    ·rename_i hr
     simp only[aa,ac] at hs
     obtain⟨rfl,rfl⟩:=hs
     obtain⟨h1,h2⟩:=AG hE hf hx eG
     obtain⟨g1,g2⟩:=Cr (w:=w) (G:=G) h1 h2
     obtain⟨pf,hL⟩:=ec _ _ _ _ hc
     have iq:=(wU hE fv hf ma).1
     generalize hv:a.eval (.tmp t)=v at iq
     cases iq with
     | yield _ _ _ _ _ _ hy=>rw[(dE.plain _ _ _ _ _ hc).1] at hy; simp at hy
     | func _ fs cs _ _ _ e1 e2 kX d9 =>
       refine PT (vals:=fs++xs.map a.eval++cs) nm ho hf dE (by simp[e1,e2]; simpa using h1) ?_ dK hc hr ?_ hk
       ·intro i v p dI hp
        by_cases hi:i<fs.size
        ·rw[bX,bm hi] at dI
         rw[az,am (by omega)] at hp
         exact kX i v p dI hp
        ·rw[bX,bY (by omega)] at dI
         rw[az,ar (by omega),← e1] at hp
         by_cases dM:i - fs.size<(xs.map a.eval).size
         ·rw[bm dM] at dI
          rw[am (by omega)] at hp
          exact g2 _ v p dI hp
         ·rw[bY (by omega)] at dI
          rw[ar (by omega),← g1] at hp
          exact d9 _ v p dI hp
       ·have:=BK hF hL (fs++xs.map a.eval++cs) w
        simp only[execOp,cN,resolve,Sem.run_bind,hv,Deferred.ofValue,Sem.run_pure,Result.andThen_ok,invoke]
        exact this
    ·simp at hs
   ·simp at hs
  ·simp at hs
 ·simp at hs
theorem P1 {L:Nat→Option PFunc} (hF:yr N P L) (hE:EnvOk E N) (nm:Names vs (wk vs ops)) (ho:ops[j]? = some o) (hf:FI N w G st a vs (wk vs ops)) {cf:wu} (dE:CallOK N P cf) (ec:∀k args h r,cf k args h=some r→∃f,L k=some f)
  {f:FuncId} {k:Nat} {xs:Array Operand} {ts:Array TypeId} {pxs:List PX} (cN:o.op = .call { callee := .value (.func f),args:=xs,argTypes:=ts }) (dh:E.inv f=some k) (hx:cxs E vs ops xs.toList=some pxs)
  (hs:wo cf (.call k pxs) st=some (u,st1)) (hk:wG N w G a st1 u vs ops j o next):o.wp P a w next Q:=by
 simp only[wo,ae,ab,ac] at hs
 obtain⟨us,eG,⟨r,h'⟩,hc,rfl,rfl⟩:=hs
 obtain⟨h1,h2⟩:=AG hE hf hx eG
 obtain⟨g1,g2⟩:=Cr (w:=w) (G:=G) h1 h2
 obtain⟨pf,hL⟩:=ec _ _ _ _ hc
 have ei:=hE.fn _ _ dh
 refine PY nm ho hf dE g1 g2 hc ?_ hk
 have:=BK hF hL (xs.map a.eval) w
 rw[ei] at this
 rw[ei]
 simp[execOp,cN,resolve,Act.eval,Deferred.ofValue,invoke]
 exact this
theorem b7O {L:Nat→Option PFunc} (hF:yr N P L) (hE:EnvOk E N) (nm:Names vs (wk vs ops)) (ho:ops[j]? = some o) (hf:FI N w G st a vs (wk vs ops)) {cf:wu} (dE:CallOK N P cf) (ec:∀k args h r,cf k args h=some r→∃f,L k=some f)
  {f:FuncId} {k:Nat} {xs:Array Operand} {ts:Array TypeId} {pxs:List PX} (cN:o.op = .call { callee := .value (.func f),args:=xs,argTypes:=ts }) (dh:E.inv f=some k) (hx:cxs E vs ops xs.toList=some pxs)
  (hs:wo cf (.lcall k pxs) st=some (u,st1)) (hk:wG N w G a st1 u vs ops j o next):o.wp P a w next Q:=by
 simp only[wo,Cu,ae] at hs
 obtain⟨us,eG,ws,oF,hs⟩:=hs
 split at hs
 ·rename_i dK
  simp only[ae] at hs
  obtain⟨⟨r,h'⟩,hc,hs⟩:=hs
  split at hs
  ·rename_i hr
   simp only[aa,ac] at hs
   obtain⟨rfl,rfl⟩:=hs
   obtain⟨h1,h2⟩:=AG hE hf hx eG
   obtain⟨g1,g2⟩:=Cr (w:=w) (G:=G) h1 h2
   obtain⟨pf,hL⟩:=ec _ _ _ _ hc
   have ei:=hE.fn _ _ dh
   refine b7K nm ho hf dE g1 g2 oF dK hc hr ?_ hk
   have:=BK hF hL (xs.map a.eval) w
   rw[ei] at this
   rw[ei]
   simp[execOp,cN,resolve,Act.eval,Deferred.ofValue,invoke]
   exact this
  ·simp at hs
 ·simp at hs
theorem b6G {L:Nat→Option PFunc} (hF:yr N P L) (hE:EnvOk E N) (nm:Names vs (wk vs ops)) (ho:ops[j]? = some o) (hf:FI N w G st a vs (wk vs ops)) {cf:wu} (dE:CallOK N P cf) (ec:∀k args h r,cf k args h=some r→∃f,L k=some f)
  {t:Tmp} {px:PX} {xs:Array Operand} {ts:Array TypeId} {pxs:List PX} (cN:o.op = .call { callee := .value (.tmp t),args:=xs,argTypes:=ts }) (fv:cx E vs ops (.tmp t)=some px) (hx:cxs E vs ops xs.toList=some pxs)
  (hs:wo cf (.callv px pxs) st=some (u,st1)) (hk:wG N w G a st1 u vs ops j o next):o.wp P a w next Q:=by
 simp only[wo] at hs
 split at hs
 ·rename_i k first captured us ma eG
  simp only[ab,ac] at hs
  obtain⟨⟨r,h'⟩,hc,rfl,rfl⟩:=hs
  obtain⟨h1,h2⟩:=AG hE hf hx eG
  obtain⟨g1,g2⟩:=Cr (w:=w) (G:=G) h1 h2
  obtain⟨pf,hL⟩:=ec _ _ _ _ hc
  have iq:=(wU hE fv hf ma).1
  generalize hv:a.eval (.tmp t)=v at iq
  cases iq with
  | yield _ _ _ _ _ _ hy=>rw[(dE.plain _ _ _ _ _ hc).1] at hy; simp at hy
  | func _ fs cs _ _ _ e1 e2 kX d9 =>
    refine PY (vals:=fs++xs.map a.eval++cs) nm ho hf dE (by simp[e1,e2]; simpa using h1) ?_ hc ?_ hk
    ·intro i v p dI hp
     by_cases hi:i<fs.size
     ·rw[bX,bm hi] at dI
      rw[az,am (by omega)] at hp
      exact kX i v p dI hp
     ·rw[bX,bY (by omega)] at dI
      rw[az,ar (by omega),← e1] at hp
      by_cases dM:i - fs.size<(xs.map a.eval).size
      ·rw[bm dM] at dI
       rw[am (by omega)] at hp
       exact g2 _ v p dI hp
      ·rw[bY (by omega)] at dI
       rw[ar (by omega),← g1] at hp
       exact d9 _ v p dI hp
    ·have:=BK hF hL (fs++xs.map a.eval++cs) w
     simp only[execOp,cN,resolve,Sem.run_bind,hv,Deferred.ofValue,Sem.run_pure,Result.andThen_ok,invoke]
     exact this
 ·simp at hs
theorem c1m {L:Nat→Option PFunc} (hF:yr N P L) (hE:EnvOk E N) (hP:E.P=P) (nm:Names vs (wk vs ops)) (ho:ops[j]? = some o) (hf:FI N w G st a vs (wk vs ops)) {cf:wu} (dE:CallOK N P cf)
  (ec:∀k args h r,cf k args h=some r→∃f,L k=some f) {po:HOp} (hc:Il E vs ops o=some po) (hs:wo cf po st=some (u,st1)) (hk:wG N w G a st1 u vs ops j o next):o.wp P a w next Q:=by
 subst hP
 unfold Il at hc
 split at hc
 ·rename_i t cN
  split at hc
  ·simp at hc
  ·split at hc
   ·rename_i hb
    simp only[aa] at hc
    subst hc
    exact b6O hE rfl nm ho hf cN hb hs hk
   ·simp only[ab] at hc
    obtain⟨z,hz,rfl⟩:=hc
    exact b6H nm ho hf cN hz hs hk
 ·rename_i t x cN
  split at hc
  ·simp at hc
  ·simp only[ae,ab] at hc
   obtain⟨n,hn,p,hp,rfl⟩:=hc
   exact b6I hE nm ho hf cN hn hp hs hk
 ·rename_i t x cN
  split at hc
  ·simp only[ae,ab] at hc
   obtain⟨n,hn,p,hp,rfl⟩:=hc
   exact b7R hE nm ho hf cN hn hp hs hk
  ·split at hc
   ·simp only[ae,ab] at hc
    obtain⟨n,hn,p,hp,rfl⟩:=hc
    exact b7T hE nm ho hf cN hn hp hs hk
   ·simp at hc
 ·rename_i t x y cN
  split at hc
  ·rename_i hd
   simp only[ae,ab] at hc
   obtain⟨n,hn,p,hp,q,hq,hc⟩:=hc
   split at hc
   ·subst hc
    exact b4W hE nm ho hf cN hd.1 hn hp hq hs hk
   ·subst hc
    exact P2 hE nm ho hf cN hd.1 hn hp hq hs hk
  ·simp at hc
 ·rename_i t x i cN
  split at hc
  ·rename_i len e hu
   split at hc
   ·simp only[ae,ab] at hc
    obtain⟨n,hn,p,hp,q,hq,rfl⟩:=hc
    exact b6J hE nm ho hf cN hu hn hp hq hs hk
   ·simp at hc
  ·simp at hc
 ·rename_i t cN
  split at hc
  ·simp at hc
  ·simp only[aa] at hc
   subst hc
   exact b7Q nm ho hf cN hs hk
 ·rename_i t m k ok cN
  split at hc
  ·rename_i kt e hu
   simp only[ae,ab] at hc
   obtain⟨kk,eT,z,hz,p,hp,q,hq,rfl⟩:=hc
   exact b6L hE nm ho hf cN hu eT hz hp hq hs hk
  ·simp at hc
 ·rename_i t m k v cN
  split at hc
  ·rename_i kt e hu
   split at hc
   ·rename_i hd
    simp only[ae,ab] at hc
    obtain⟨kk,eT,p,hp,q,hq,r,hr,rfl⟩:=hc
    exact P3 hE nm ho hf (.inl cN) hd hu eT hp hq hr hs hk
   ·simp at hc
  ·simp at hc
 ·rename_i t m k v cN
  split at hc
  ·rename_i kt e hu
   split at hc
   ·rename_i hd
    simp only[ae,ab] at hc
    obtain⟨kk,eT,p,hp,q,hq,r,hr,rfl⟩:=hc
    exact P3 hE nm ho hf (.inr cN) hd hu eT hp hq hr hs hk
   ·simp at hc
  ·simp at hc
 ·rename_i op t x y t' cN
  split at hc
  ·rename_i cR
   simp only[ae,ab] at hc
   obtain⟨kd,vV,p,hp,rfl⟩:=hc
   exact b7S hE nm ho hf cN cR vV hp hs hk
  ·simp at hc
 ·rename_i x cN
  simp only[ab] at hc
  obtain⟨p,hp,rfl⟩:=hc
  exact b6N hE nm ho hf cN hp hs hk
 ·rename_i t l c' cN
  split at hc
  ·rename_i e hu
   split at hc
   ·rename_i size z hn hz
    split at hc
    ·simp at hc
    ·rename_i cR
     simp only[bA,not_or,Bool.not_eq_true,Bool.not_eq_false'] at cR
     simp only[ab] at hc
     obtain⟨p,hp,rfl⟩:=hc
     exact b7U hE nm ho hf cN hu hn hz cR.2 hp hs hk
   ·simp at hc
  ·simp at hc
 ·rename_i t x cN
  split at hc
  ·rename_i hu
   split at hc
   ·simp at hc
   ·simp only[ab] at hc
    obtain⟨p,hp,rfl⟩:=hc
    exact b7V hE nm ho hf cN hu hp hs hk
  ·simp at hc
 ·rename_i x cN
  split at hc
  ·simp at hc
  ·simp only[ab] at hc
   obtain⟨p,hp,rfl⟩:=hc
   exact b9O hE nm ho hf cN hp hs hk
 ·rename_i t parts cN
  split at hc
  ·rename_i n e hu
   split at hc
   ·rename_i size z hn hz
    simp only[ab] at hc
    obtain⟨ps,ea,rfl⟩:=hc
    exact b9L hE nm ho hf cN hu hn hz ea hs hk
   ·simp at hc
  ·simp at hc
 ·rename_i t x i cN
  split at hc
  ·rename_i len e hu
   simp only[ae,ab] at hc
   obtain⟨n,hn,p,hp,q,hq,rfl⟩:=hc
   exact b9M hE nm ho hf cN hu hn hp hq hs hk
  ·simp at hc
 ·rename_i fn xs ys cN
  split at hc
  ·simp at hc
  ·simp only[ae,ab] at hc
   obtain⟨f,ei,k,dh,ps,ea,qs,jL,rfl⟩:=hc
   have:fn = .func f:=by
    unfold Lr at ei
    split at ei
    ·simp at ei; subst ei; rfl
    ·simp at ei
   subst this
   exact b6M hE nm ho hf cN dh ea jL hs hk
 ·rename_i args ts cN
  obtain⟨args⟩:=args
  obtain⟨ts⟩:=ts
  split at hc
  ·rename_i s x t1 t2 dH eo
   simp only at dH eo
   subst dH eo
   split at hc
   ·split at hc
    ·rename_i e e' hu eH
     split at hc
     ·rename_i size z hn hz
      simp only[ae,ab] at hc
      obtain⟨p,hp,q,hq,rfl⟩:=hc
      exact b9P hE nm ho hf cN hu eH hn hz hp hq hs hk
     ·simp at hc
    ·rename_i e k0 hu eH
     split at hc
     ·rename_i size z hn hz
      simp only[ae,ab] at hc
      obtain⟨p,hp,q,hq,rfl⟩:=hc
      exact b7W hE nm ho hf cN hu eH hn hz hp hq hs hk
     ·simp at hc
    ·simp at hc
   ·simp at hc
  ·simp at hc
 ·rename_i args ts cN
  obtain⟨args⟩:=args
  obtain⟨ts⟩:=ts
  split at hc
  ·rename_i x t rest dH eo
   simp only at dH eo
   subst dH eo
   split at hc
   ·rename_i e hu
    split at hc
    ·rename_i eN
     simp only[ae,ab] at hc
     obtain⟨size,hn,z,hz,p,hp,rfl⟩:=hc
     have dZ:o.dst=none:=by
      unfold isN wO at eN
      split at eN
      ·rename_i hd
       split at hd
       ·assumption
       ·split at hd<;>simp at hd
      ·simp at eN
     exact b7X hE nm ho hf dZ cN hu hn hz hp hs hk
    ·simp at hc
   ·simp at hc
  ·simp at hc
 ·rename_i args ts cN
  obtain⟨args⟩:=args
  obtain⟨ts⟩:=ts
  split at hc
  ·rename_i x t rest dH eo
   simp only at dH eo
   subst dH eo
   split at hc
   ·rename_i kt e hu
    split at hc
    ·simp at hc
    ·simp only[ab] at hc
     obtain⟨p,hp,rfl⟩:=hc
     exact b9J hE nm ho hf cN rfl hu hp hs hk
   ·simp at hc
  ·simp at hc
 ·rename_i f args ts cN
  split at hc
  ·simp only[ae,ab] at hc
   obtain⟨k,dh,ps,ea,rfl⟩:=hc
   split at hs
   ·refine P1 hF hE nm ho hf dE ec cN dh ea ?_ hk
    simp only[wo,ae,same] at hs ⊢
    obtain⟨us,h1,r,h2,h3⟩:=hs
    split at h3
    ·rename_i he
     simp only[aa,ac] at h3
     obtain⟨rfl,rfl⟩:=h3
     exact⟨us,h1,by rw[h2,aA,he]⟩
    ·simp at h3
   ·split at hs
    ·exact b7O hF hE nm ho hf dE ec cN dh ea hs hk
    ·exact P1 hF hE nm ho hf dE ec cN dh ea hs hk
  ·simp at hc
 ·rename_i t args ts cN
  split at hc
  ·simp only[ae,ab] at hc
   obtain⟨p,hp,ps,ea,rfl⟩:=hc
   exact b6G hF hE nm ho hf dE ec cN hp ea hs hk
  ·simp at hc
 ·simp at hc
theorem c3h {L:Nat→Option PFunc} (hF:yr N P L) (hE:EnvOk E N) (hP:E.P=P) (nm:Names vs (wk vs ops)) (ho:ops[j]? = some o) (hf:FI N w G st a vs (wk vs ops)) {cf:wu} (dE:CallOK N P cf)
  (ec:∀k args h r,cf k args h=some r→∃f,L k=some f) {po:POp} (hc:cOp E vs ops o=some po) (hs:opv cf po st=some (u,st1)) (hk:wG N w G a st1 u vs ops j o next):o.wp P a w next Q:=by
 unfold cOp at hc
 simp only at hc
 split at hc
 ·rename_i h re
  simp only[aa] at hc
  subst hc
  exact c1m hF hE hP nm ho hf dE ec re (by simpa[opv] using hs) hk
 rename_i eg
 subst hP
 split at hc
 ·
  rename_i x cN
  simp only[ab] at hc
  obtain⟨p,hp,rfl⟩:=hc
  split at hs
  ·exact PK hE nm ho hf (by simp[execOp,cN]) hp (by simpa[opv] using hs) hk
  ·exact c1f hE nm ho hf (by simp[execOp,cN]) hp (by simpa[opv] using hs) hk
 ·rename_i x cN
  simp only[ab] at hc
  obtain⟨p,hp,rfl⟩:=hc
  exact PK hE nm ho hf (by simp[execOp,cN]) hp (by simpa[opv] using hs) hk
 ·rename_i x y z cN
  simp only[ae,ab] at hc
  obtain⟨px,fv,pa,qY,pb,vW,rfl⟩:=hc
  exact b9B hE nm ho hf cN fv qY vW hs hk
 ·rename_i t cN
  split at hc
  ·rename_i hv
   simp only[ab] at hc
   obtain⟨z,hz,rfl⟩:=hc
   exact b6y nm ho hf cN hz hv hs hk
  ·simp at hc
 ·rename_i t x cN
  split at hc
  ·rename_i hv
   simp only[ae,ab] at hc
   obtain⟨n,hn,p,hp,rfl⟩:=hc
   exact b6z hE nm ho hf cN hn hp hv hs hk
  ·simp at hc
 ·rename_i t parts cN
  split at hc
  ·rename_i fs z hu hz
   split at hc
   ·rename_i places fW
    simp only[ab] at hc
    obtain⟨ps,ea,rfl⟩:=hc
    exact b7G hE nm ho hf cN hu hz fW ea hs hk
   ·simp at hc
  ·simp at hc
 ·rename_i t len parts cN
  split at hc
  ·rename_i e hu
   split at hc
   ·rename_i size z hn hz
    split at hc
    ·rename_i cM
     simp only[ab] at hc
     obtain⟨ps,ea,rfl⟩:=hc
     exact b4Q hE nm ho hf cN hu hn hz cM ea hs hk
    ·simp at hc
   ·simp at hc
  ·simp at hc
 ·rename_i t x cN
  simp only[ae,ab] at hc
  obtain⟨n,hn,p,hp,rfl⟩:=hc
  split at hs
  ·refine PP (tk:=false) (cf:=cf) hE nm ho hf cN hn hp ?_ hk
   simp only[opv] at hs ⊢
   split at hs
   ·rename_i s' g off dD
    split at hs
    ·rename_i g' cs hv
     split at hs
     ·rename_i hc
      obtain⟨rfl,rfl⟩:=hc
      simp only[dD,hv,if_true,bL]
      exact hs
     ·simp at hs
    ·simp at hs
   ·simp at hs
  ·exact PP hE nm ho hf cN hn hp hs hk
 ·rename_i t x y cN
  split at hc
  ·rename_i hd
   simp only[ae,ab] at hc
   obtain⟨n,hn,p,hp,q,hq,rfl⟩:=hc
   exact b7H hE nm ho hf cN hd hn hp hq hs hk
  ·simp at hc
 ·rename_i s x f cN
  split at hc
  ·rename_i fs hu
   split at hc
   ·rename_i fd iC
    simp only[ae,ab] at hc
    obtain⟨n,hn,p,hp,rfl⟩:=hc
    exact b7E hE nm ho hf cN hu iC hn hp hs hk
   ·simp at hc
  ·simp at hc
 ·rename_i t x i cN
  split at hc
  ·rename_i e hu
   simp only[ae,ab] at hc
   obtain⟨n,hn,p,hp,q,hq,rfl⟩:=hc
   exact b6o hE nm ho hf cN hu hn hp hq hs hk
  ·rename_i len e hu
   simp only[ae,ab] at hc
   obtain⟨n,hn,p,hp,q,hq,rfl⟩:=hc
   exact b6p hE nm ho hf cN hu hn hp hq hs hk
  ·simp at hc
 ·rename_i t x f cN
  split at hc
  ·rename_i fs hu
   split at hc
   ·rename_i fd iC
    simp only[ae,ab] at hc
    obtain⟨n,hn,p,hp,rfl⟩:=hc
    exact b7F hE nm ho hf cN hu iC hn hp hs hk
   ·simp at hc
  ·simp at hc
 ·rename_i t x i cN
  split at hc
  ·rename_i hu
   simp only[ae,ab] at hc
   obtain⟨p,hp,q,hq,rfl⟩:=hc
   exact b3n hE nm ho hf cN hu hp hq hs hk
  ·simp at hc
 ·rename_i t x lo hi cN
  split at hc
  ·rename_i hu
   simp only[ae,ab] at hc
   obtain⟨p,hp,pl,hl,ph,hh,rfl⟩:=hc
   exact b6v hE nm ho hf cN hu hp hl hh hs hk
  ·rename_i e hu
   simp only[ae,ab] at hc
   obtain⟨n,hn,p,hp,pl,hl,ph,hh,rfl⟩:=hc
   exact b6w hE nm ho hf cN hu hn hp hl hh hs hk
  ·rename_i n e hu
   split at hc
   ·have hn:wP E.P e=some 1:=by assumption
    simp only[ab] at hc
    obtain⟨p,hp,rfl⟩:=hc
    exact b3o hE nm ho hf cN hu hn hp hs hk
   ·simp at hc
  ·simp at hc
 ·rename_i op t x y t' cN
  split at hc
  ·rename_i fQ
   split at hc
   ·rename_i agg ks ht
    simp only[ae,ab] at hc
    obtain⟨p,hp,q,hq,rfl⟩:=hc
    exact c3e hE rfl nm ho hf cN fQ ht hp hq hs hk
   ·simp only[ae,ab] at hc
    obtain⟨p,hp,q,hq,rfl⟩:=hc
    exact PA hE nm ho hf cN hp hq hs hk
   ·simp at hc
  ·simp only[ae,ab] at hc
   obtain⟨p,hp,q,hq,rfl⟩:=hc
   exact PA hE nm ho hf cN hp hq hs hk
 ·rename_i op t x cN
  simp only[ab] at hc
  obtain⟨p,hp,rfl⟩:=hc
  exact c3f hE nm ho hf cN hp hs hk
 ·rename_i s t x cN
  split at hc
  ·rename_i k' k hu eH
   simp only[ab] at hc
   obtain⟨p,hp,rfl⟩:=hc
   exact b4N hE nm ho hf cN hu eH hp hs hk
  ·rename_i hu eH
   simp only[ab] at hc
   obtain⟨p,hp,rfl⟩:=hc
   exact b9D hE nm ho hf cN hu eH hp hs hk
  ·rename_i e hu eH
   split at hc
   ·rename_i he
    split at hc
    ·simp at hc
    ·rename_i dl
     have gz:wO vs o.dst≠.n:=by intro e; rw[e] at dl; simp[isN] at dl
     simp only[ab] at hc
     obtain⟨p,hp,rfl⟩:=hc
     exact c1r hE nm ho hf cN gz hu eH he hp hs hk
   ·simp at hc
  ·rename_i e hu eH
   split at hc
   ·rename_i he
    simp only[ab] at hc
    obtain⟨p,hp,rfl⟩:=hc
    exact c1k hE nm ho hf cN hu he eH hp hs hk
   ·simp at hc
  ·simp at hc
 ·rename_i x i cN
  simp only[ab] at hc
  obtain⟨p,hp,rfl⟩:=hc
  exact b4O hE nm ho hf cN hp hs hk
 ·rename_i b args ts cN
  split at hc
  ·simp at hc
  ·rename_i dl
   have gz:wO vs o.dst≠.n:=by intro e; rw[e] at dl; simp[isN] at dl
   obtain⟨args⟩:=args
   obtain⟨ts⟩:=ts
   unfold Lq at hc
   split at hc
   ·rename_i x t rest hb dH eo
    simp only at dH eo
    subst dH eo
    split at hc
    ·rename_i hu
     simp only[ab] at hc
     obtain⟨p,hp,rfl⟩:=hc
     exact PE hE nm ho hf cN rfl (str:=true) (by simpa using hu) hp hs hk
    ·rename_i e hu
     simp only[ab] at hc
     obtain⟨p,hp,rfl⟩:=hc
     exact PE hE nm ho hf cN rfl (str:=false) (by simpa using⟨e,hu⟩) hp hs hk
    ·simp at hc
   ·simp only[ab] at hc
    obtain⟨p,hp,rfl⟩:=hc
    exact PJ (mx:=false) hE nm ho hf cN hp hs hk
   ·simp only[ab] at hc
    obtain⟨p,hp,rfl⟩:=hc
    exact PJ (mx:=true) hE nm ho hf cN hp hs hk
   ·rename_i x t rest hb dH eo
    simp only at dH eo
    subst dH eo
    split at hc
    ·rename_i e hu
     simp only[ab] at hc
     obtain⟨p,hp,rfl⟩:=hc
     exact c1g hE nm ho hf cN rfl hu hp hs hk
    ·simp at hc
   ·rename_i s x t1 t2 hb dH eo
    simp only at dH eo
    subst dH eo
    split at hc
    ·rename_i e e' hu eH
     split at hc
     ·rename_i size z hn hz
      simp only[ae,ab] at hc
      obtain⟨p,hp,q,hq,rfl⟩:=hc
      exact b6B hE nm ho hf cN gz hu eH hn hz hp hq hs hk
     ·simp at hc
    ·rename_i e hu eH
     split at hc
     ·rename_i z he hn hz eC
      simp only[ae,ab] at hc
      obtain⟨p,hp,q,hq,rfl⟩:=hc
      exact b6D hE nm ho hf cN gz hu eH hn hz eC hp hq hs hk
     ·simp at hc
    ·simp at hc
   ·simp at hc
 ·rename_i f args ts cN
  simp only[ae,ab] at hc
  obtain⟨k,dh,ps,ea,rfl⟩:=hc
  split at hs
  ·split at hs
   ·simp[Cb,opv,rd,raw,cp] at hs
   ·rename_i dl
    exact b6F hF hE nm ho (by intro e; rw[e] at dl; simp[isN] at dl) hf dE ec cN dh ea hs hk
  ·exact b7L hF hE nm ho hf dE ec cN dh ea hs hk
 ·rename_i t args ts cN
  simp only[ae,ab] at hc
  obtain⟨p,hp,ps,ea,rfl⟩:=hc
  exact b7N hF hE nm ho hf dE ec cN hp ea hs hk
 ·simp at hc
end
section
variable {E:Env} {N:Nm} {w:World} {G:GS} {st:St} {a:Act} {vs:List Tmp} {P:Program} {ops:Array Oper}
variable {o:Oper} {j:Nat} {Q:Exit→Act→World→Prop} {st1:St}
abbrev Next1 (N:Nm) (w:World) (G:GS) (a:Act) (st1:St) (vs:List Tmp) (ops:List Oper) (K:Act→World→Prop):Prop:=
 ∀a' w' G',FI N w' G' st1 a' vs (wk vs ops)→Ext w G w' G'→a'.tmps.size=a.tmps.size→K a' w'
theorem F4 {L:Nat→Option PFunc} (hF:yr N P L) (hE:EnvOk E N) (hP:E.P=P) (nm:Names vs (wk vs ops.toList)) (ho:ops[j]? = some o) (hf:FI N w G st a vs (wk vs ops.toList)) {cf:wu} (dE:CallOK N P cf)
  (ec:∀k args h r,cf k args h=some r→∃f,L k=some f) {po:PO} (hc:CY E vs ops.toList o=some po) (hs:xG cf j po st=some st1) {K:Act→World→Prop} (hk:Next1 N w G a st1 vs ops.toList K):wpOp P ops Q j K a w:=by
 have eL:ops.toList[j]? = some o:=by simpa using ho
 simp only[CY,ab] at hc
 obtain⟨g,hg,rfl⟩:=hc
 generalize nI:(cOp E vs ops.toList o).getD Cb=p at hs
 unfold wpOp
 simp only[ho]
 have run:∀{st1},(opv cf p st).map (λr=>put r.2 j (wO vs o.dst) r.1)=some st1→Next1 N w G a st1 vs ops.toList K→o.wp P a w K Q:=by
  intro st1 h hk
  simp only[ab] at h
  obtain⟨⟨u,st2⟩,h1,rfl⟩:=h
  cases fu:cOp E vs ops.toList o with
  | none =>
    rw[fu] at nI
    simp only[cD] at nI
    subst nI
    simp[Cb,opv,rd,raw,cp] at h1
  | some p' =>
    rw[fu] at nI
    simp only[bI] at nI
    subst nI
    exact c3h hF hE hP nm eL hf dE ec fu h1 hk
 unfold Ls at hg
 split at hg
 ·rename_i sx
  simp at hg; subst hg
  simp only[xG] at hs
  rw[ah (by simp[Region.wanted,sx])]
  exact .inl (run hs hk)
 ·rename_i jj want tV
  split at hg
  ·rename_i og tW
   split at hg
   ·rename_i t ht
    simp only[ab] at hg
    obtain⟨px,fv,rfl⟩:=hg
    simp only[xG] at hs
    split at hs
    ·rename_i b hb
     have eM:=(wU hE fv hf hb).1
     have eR:a.eval (.tmp t) = .bool b:=by generalize a.eval (.tmp t)=z at eM; cases eM; rfl
     have hy:yielded ops a.tmps jj=some b:=by
      have h1:ops[jj]? = some og:=by simpa using tW
      have h2:a.tmps[t]? = some (.bool b):=by
       simp only[Act.eval,aM] at eR
       cases h:a.tmps[t]? with
       | none=>rw[h] at eR; simp[undef] at eR
       | some z=>rw[h] at eR; simpa using eR
      simp[yielded,h1,ht,h2]
     have hw:Region.wanted o (yielded ops a.tmps)=(b==want):=by
      simp[Region.wanted,tV,hy]
     rw[hw]
     split at hs
     ·rename_i mz
      rw[ah (by simpa using mz)]
      exact .inl (run hs hk)
     ·rename_i mz
      rw[af (by simpa using mz)]
      simp at hs; subst hs
      exact hk _ _ G (hf.put nm (yV eL) (.tuple #[] [] rfl (by intro i c p h _; simp at h))) (Ext.refl _ _) (yW _ _ _)
    ·rename_i hb
     have eM:=(wU hE fv hf hb).1
     have eR:a.eval (.tmp t) = .tuple #[]:=by
      generalize a.eval (.tmp t)=z at eM
      cases eM with
      | tuple cs _ cM _=>simp at cM; rw[cM]
     have hy:yielded ops a.tmps jj=none:=by
      have h1:ops[jj]? = some og:=by simpa using tW
      simp only[Act.eval,aM] at eR
      cases h:a.tmps[t]? with
      | none=>simp[yielded,h1,ht,h]
      | some z=>rw[h] at eR; simp at eR; subst eR; simp[yielded,h1,ht,h]
     have hw:Region.wanted o (yielded ops a.tmps)=false:=by
      simp[Region.wanted,tV,hy]
     rw[hw]
     simp at hs; subst hs
     exact hk _ _ G (hf.put nm (yV eL) (.tuple #[] [] rfl (by intro i c p h _; simp at h))) (Ext.refl _ _) (yW _ _ _)
    ·simp at hs
   ·simp at hg
  ·simp at hg
theorem Next1.trans {w':World} {G':GS} {a':Act} {K:Act→World→Prop} {vs':List Tmp} {ops':List Oper} (h:Next1 N w G a st1 vs' ops' K) (e:Ext w G w' G') (hs:a'.tmps.size=a.tmps.size):Next1 N w' G' a' st1 vs' ops' K:=
 λa2 w2 G2 h1 h2 h3=>h a2 w2 G2 h1 (e.trans h2) (h3.trans hs)
theorem CC:∀{os:List Oper} {pos:List PO} {ops:List Oper},B9 E vs ops os=some pos→os.length=pos.length∧∀(i:Nat) (o:Oper),os[i]? = some o→∃p,pos[i]? = some p∧CY E vs ops o=some p
 | [],pos,ops,h=>by simp[B9] at h; subst h; simp
 | o :: os, pos, ops, h => by
   simp only[B9,ae,ab] at h
   obtain⟨p,hp,ps,ea,rfl⟩:=h
   obtain⟨h1,h2⟩:=CC ea
   refine⟨by simp[h1],?_⟩
   intro i o' eL
   cases i with
   | zero=>simp at eL; subst eL; exact⟨p,rfl,hp⟩
   | succ i=>simpa using h2 i o' (by simpa using eL)
noncomputable def ye (cf:wu) (pos:List PO):List Nat→St→Option St
 | [],st=>some st
 | i :: l, st =>
   match pos[i]? with
   | some p=>(xG cf i p st).bind (ye cf pos l)
   | none=>none
theorem F1 {cf:wu} {all:List PO}:∀{pos:List PO} {j:Nat} {st:St},all.drop j=pos→yB cf j pos st=ye cf all (List.range' j pos.length) st
 | [],j,st,_=>by simp[yB,ye]
 | p :: pos, j, st, h => by
   have h1:all[j]? = some p:=by
    have:=aE List.head? h; simpa[List.head?_drop] using this
   have h2:all.drop (j+1)=pos:=by have:=aE List.tail h; simpa[List.tail_drop] using this
   simp only[yB,aP,List.range'_succ,ye,h1]
   congr 1
   funext st'
   exact F1 h2
theorem Ib {L:Nat→Option PFunc} (hF:yr N P L) (hE:EnvOk E N) (hP:E.P=P) (nm:Names vs (wk vs ops.toList)) {cf:wu} (dE:CallOK N P cf)
  (ec:∀k args h r,cf k args h=some r→∃f,L k=some f) {pos:List PO} (hc:B9 E vs ops.toList ops.toList=some pos):
  ∀{l:List Nat} {st st':St} {w:World} {G:GS} {a:Act},ye cf pos l st=some st'→FI N w G st a vs (wk vs ops.toList)→Next1 N w G a st' vs ops.toList (Q .normal)→wpOps P ops Q l a w
 | [], st, st', w, G, a, h, hf, hk => by
   simp[ye] at h; subst h
   exact hk _ _ G hf (Ext.refl _ _) rfl
 | i :: l, st, st', w, G, a, h, hf, hk => by
   simp only[ye] at h
   split at h
   ·rename_i p hp
    simp only[ae] at h
    obtain⟨st1,h1,h2⟩:=h
    have cQ:i<ops.toList.length:=by rw[(CC hc).1]; exact(aj.1 hp).1
    obtain⟨p',eQ,fu⟩:=(CC hc).2 i ops.toList[i] (av cQ)
    have:p'=p:=by rw[hp] at eQ; simpa using eQ.symm
    subst this
    rw[wpOps_cons]
    refine F4 hF hE hP nm (o:=ops.toList[i]) (by simp) hf dE ec fu h1 ?_
    intro a' w' G' iX he hs
    exact Ib hF hE hP nm dE ec hc h2 iX (hk.trans he hs)
   ·simp at h
end
theorem Id {t:Tmp} {vs:List Tmp} {i:Nat} (h:vs[i]? = some t):∀n,(x5 t vs n).isSome=true:=by
 induction vs generalizing i with
 | nil=>simp at h
 | cons x xs ih =>
   intro n
   simp only[x5]
   split
   ·rfl
   ·rename_i da
    cases i with
    | zero=>simp at h; exact absurd h da
    | succ i=>exact ih (by simpa using h) (n+1)
theorem Py {vs:List Tmp}:∀{ops:List Oper},Cz vs ops=true→∀(j j':Nat) (o o':Oper) (t:Tmp),ops[j]? = some o→ops[j']? = some o'→o.dst=some t→o'.dst=some t→(x5 t vs 0).isSome=false→j=j'
 | [],_,j,_,_,_,_,h,_,_,_,_=>by simp at h
 | x :: xs, h, j, j', o, o', t, h1, h2, h3, h4, h5 => by
   simp only[Cz,al] at h
   obtain⟨ha,hb⟩:=h
   have key:∀(m:Nat) (p:Oper),xs[m]? = some p→x.dst=some t→p.dst≠some t:=by
    intro m p hm hx
    rw[hx] at ha
    simp only[h5,Bool.false_or,aD,bne_iff_ne,ne_eq] at ha
    exact ha p (ax hm)
   cases j with
   | zero =>
     simp at h1; subst h1
     cases j' with
     | zero=>rfl
     | succ m=>exact absurd h4 (key m o' (by simpa using h2) h3)
   | succ m =>
     cases j' with
     | zero=>simp at h2; subst h2; exact absurd h3 (key m o (by simpa using h1) h4)
     | succ m'=>rw[Py hb m m' o o' t (by simpa using h1) (by simpa using h2) h3 h4 h5]
theorem F0 {vs:List Tmp} {ops:List Oper} (hn:vs.Nodup) (ho:Cz vs ops=true):Names vs (wk vs ops):=by
 have sp:∀j t,wk vs ops j=some t→∃o,ops[j]? = some o∧o.dst=some t∧(x5 t vs 0).isSome=false:=by
  intro j t h
  unfold wk at h
  split at h
  ·rename_i o ho
   split at h
   ·rename_i t' js
    split at h
    ·simp at h
    ·rename_i hi
     simp at h; subst h
     exact⟨o,ho,js,by simpa using hi⟩
   ·simp at h
  ·simp at h
 refine⟨?_,?_,?_⟩
 ·intro i i' t h1 h2
  obtain⟨hi,e1⟩:=aj.1 h1
  obtain⟨it,e2⟩:=aj.1 h2
  exact(List.getElem_inj hn).1 (e1.trans e2.symm)
 ·intro j t i h1 h2
  obtain⟨o,_,_,h3⟩:=sp j t h1
  have:=Id h2 0
  rw[h3] at this; simp at this
 ·intro j j' t h1 h2
  obtain⟨o,a1,a2,a3⟩:=sp j t h1
  obtain⟨o',b1,b2,_⟩:=sp j' t h2
  exact Py ho j j' o o' t a1 b1 a2 b2 a3
end PI
