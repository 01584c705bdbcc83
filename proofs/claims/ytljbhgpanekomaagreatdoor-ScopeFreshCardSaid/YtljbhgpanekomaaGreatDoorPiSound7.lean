import Derived.Test.YtljbhgpanekomaaGreatDoorPiSound1
import Derived.Laws.BytesArg
import Derived.Lib.ConvBytes
import Derived.MapKept
set_option linter.unusedSimpArgs false
set_option linter.unusedVariables false
namespace PI
open Go
section
variable {E : Env} {N : Nm} {w : World} {G : GS} {st : St} {a : Act} {vs : List Tmp} {ops : List Oper} {P : Program}
variable {o : Oper} {j : Nat} {next : Act → World → Prop} {Q : Exit → Act → World → Prop} {u : PV} {st1 : St}
theorem box_open (hf : FI N w G st a vs (lmap vs ops)) {s g b : Nat} {cs : List PV} (hv : st.vars[s]? = some (.loc g cs)) (hb : G.box g = some b) :
  ∃ t, vs[s]? = some t ∧ a.eval (.tmp t) = .pointer (some ⟨b, 0, none⟩) ∧ G.ow b = some (.var s) ∧ (∀ o, ¬ G.fix b o) ∧
    ∃ cv T, w.heap[b]? = some (.cells cv T (0, 0)) ∧ cv.size = cs.length ∧ ∀ (k : Nat) (c : Value) (x : PV), cv[k]? = some c → cs[k]? = some x → CR N w G (.vcell s k) c x := by
 have hs : s < vs.length := by rw [← hf.len]; exact (List.getElem?_eq_some_iff.1 hv).1
 have h := hf.var s vs[s] _ (List.getElem?_eq_getElem hs) hv
 obtain ⟨b', i, hk, h1, h2, h3, h4, h5⟩ := h
 have hi : i = s := by simpa using hk.symm
 subst hi
 have : b' = b := by rw [hb] at h2; simpa using h2.symm
 subst this
 exact ⟨vs[i], List.getElem?_eq_getElem hs, h1, h3, h4, h5⟩
theorem cells_of_box {b : Nat} {cv : Array Value} {T : TypeId} {cs : List PV} {s : Nat} (hh : w.heap[b]? = some (.cells cv T (0, 0))) (hl : cv.size = cs.length)
  (hc : ∀ (k : Nat) (c : Value) (x : PV), cv[k]? = some c → cs[k]? = some x → CR N w G (.vcell s k) c x) :
  CellsR N w G.fix G.heap cv.toList cs ∧ ∀ (k : Nat) (v : Value), cv.toList[k]? = some v → w.cell? ⟨b, k, none⟩ = some v := by
 refine ⟨⟨by simpa using hl, ?_, fun i c x h1 h2 => (hc i c x (by simpa using h1) h2).1⟩, ?_⟩
 ·intro x hx
  obtain ⟨i, hi⟩ := List.mem_iff_getElem?.1 hx
  have hlt : i < cv.size := by have := (List.getElem?_eq_some_iff.1 hi).1; omega
  exact (hc i cv[i] x (by simp [hlt]) hi).2.1
 ·intro k v hv
  simp only [Array.getElem?_toList] at hv
  simp [World.cell?, hh, hv]
theorem load_lptr (hf : FI N w G st a vs (lmap vs ops)) {t : TypeId} {n s g off b : Nat} {cs : List PV} {v : Value} (hn : sizeT P t = some n) (hv : v = .pointer (some ⟨b, off, none⟩)) (hb : G.box g = some b)
  (hs : st.vars[s]? = some (.loc g cs)) (hl : loadFrom n (isAggT P t) cs off = some u) : ∃ r, (Instr.loadAt t v).run P w = .ok r w ∧ VR N w G.fix G.heap r u ∧ cp u = some u := by
 obtain ⟨_, _, _, _, _, cv, T, h1, h2, h3⟩ := box_open hf hs hb
 obtain ⟨hR, hcell⟩ := cells_of_box h1 h2 h3
 have hn0 : n ≠ 0 := by obtain ⟨_, _, _, _, h, _⟩ := info_underlying hn; exact h
 obtain ⟨k1, k2, k3⟩ := loadFrom_sound hR hl hn0 (sizeT_one hn)
 refine ⟨_, ?_, k2, k3⟩
 subst hv
 have := run_loadVarT (w := w) hn b off (cv.toList.drop off) (by simp at k1 ⊢; omega) (fun j v hv => by
  rw [List.getElem?_drop] at hv
  exact hcell _ _ hv)
 simpa [Instr.loadAt, Instr.sureAddr] using this
theorem load_sound (hE : EnvOk E N) (nm : Names vs (lmap vs ops)) (ho : ops[j]? = some o) (hf : FI N w G st a vs (lmap vs ops)) {t : TypeId} {n : Nat} {x : Operand} {px : PX} {tk : Bool} (hop : o.op = .load t x) (hn : sizeT P t = some n)
  (hx : cx E vs ops x = some px) {cf : CallF} (hs : opv cf (.load n (isAggT P t) px tk) st = some (u, st1)) (hk : Goes N w G a st1 u vs ops j o next) : o.wp P a w next Q := by
 have plain : ∀ r, (Instr.loadAt t (a.eval x)).run P w = .ok r w → (execOp a.eval o).run P w = .ok (.value r) w := by
  intro r hr
  simp [execOp, hop, hr]
 simp only [opv] at hs
 split at hs
 ·rename_i cs ha
  simp only [Option.map_eq_some_iff, Prod.mk.injEq] at hs
  obtain ⟨r, hr, rfl, rfl⟩ := hs
  rcases addr_sound hE hx hf ha with ⟨_, _, _, _, h, _⟩ | ⟨h, _⟩
  ·simp at h
  ·obtain ⟨r', h1, h2, h3⟩ := load_cptr (P := P) hn h hr
   exact wp_value nm ho hf (plain _ h1) (SR.of_pure h2 h3) hk
 ·rename_i s g off ha
  rcases addr_sound hE hx hf ha with ⟨_, _, _, b, h, hv, hb⟩ | ⟨_, h⟩
  ·simp only [PV.lptr.injEq] at h
   obtain ⟨rfl, rfl, rfl⟩ := h
   split at hs
   ·rename_i g' cs hsv
    split at hs
    ·rename_i hgg
     subst hgg
     split at hs
     ·rename_i es htk hcell
      simp only [Option.some.injEq, Prod.mk.injEq] at hs
      obtain ⟨rfl, rfl⟩ := hs
      simp only [Bool.and_eq_true, Bool.not_eq_true'] at htk
      obtain ⟨tt, ht1, ht2, ht3, ht4, cv, T, hh, hl, hc⟩ := box_open hf hsv hb
      have hlt : off < cv.size := by have := (List.getElem?_eq_some_iff.1 hcell).1; omega
      obtain ⟨hvr, _, hroom⟩ := hc off cv[off] _ (by simp [hlt]) hcell
      obtain ⟨G', hG, hroom'⟩ := Room.give (key' := keyD (cDst vs o.dst) j) hroom
      have hgg : G'.box = G.box ∧ G'.fix = G.fix ∧ G'.heap = G.heap := by
       rcases hG with rfl | ⟨b, _, rfl⟩ <;> exact ⟨rfl, rfl, rfl⟩
      have hext : Ext w G w G' := by
       rcases hG with rfl | ⟨b, hb, rfl⟩
       ·exact Ext.refl _ _
       ·exact give_ext b _ (fun _ => by simp [hb])
      have hkeep : Keep (fun k => k = .vcell s off) w G w G' := by
       rcases hG with rfl | ⟨b, hb, rfl⟩
       ·exact ⟨fun b k h _ => ⟨h, rfl, fun _ h => h⟩, fun _ _ h => h⟩
       ·exact give_keep b _ (fun k' hk' => by rw [hb] at hk'; simpa using hk'.symm)
      have hf1 : FI N w G' { st with vars := st.vars.set s (.loc g (cs.set off (.list false es))) } a vs (lmap vs ops) := by
       refine ⟨by simp [hf.len], ?_, fun i t' u' h1 h2 => (hf.loc i t' u' h1 h2).keep hext hkeep (by simp) (by simp), hf.tv, hf.tl, (hf.defers.trans hext.df.symm), by rw [hgg.1]; exact hf.gen, ?_, by rw [hgg.2.1]; exact hf.fixlt, hf.heap.keep hext hkeep (by rintro k hk rfl; simp [Key.isH] at hk), by rw [hgg.2.2]; exact hf.hdom⟩
       ·intro i t' u' h1 h2
        simp only [List.getElem?_set] at h2
        split at h2
        ·rename_i hi
         subst hi
         split at h2
         ·simp at h2; subst h2
          have : t' = tt := by rw [ht1] at h1; simpa using h1.symm
          subst this
          obtain ⟨ho1, _, _⟩ := hkeep.1 _ _ ht3 (by simp)
          refine ⟨b, s, rfl, ht2, by rw [hgg.1]; exact hb, ho1, by rw [hgg.2.1]; exact ht4, cv, T, hh, by simp [hl], ?_⟩
          intro k c y hc1 hy
          rw [List.getElem?_set] at hy
          split at hy
          ·rename_i hk2
           subst hk2
           split at hy
           ·simp at hy; subst hy
            have : c = cv[off] := by simp [hlt] at hc1; exact hc1.symm
            subst this
            refine ⟨(hvr.dem).ext hext, rfl, trivial⟩
           ·simp at hy
          ·rename_i hk2
           exact (hc k c y hc1 hy).keep hext hkeep (by simp; omega)
         ·simp at h2
        ·rename_i hi
         exact (hf.var i t' u' h1 h2).keep hext hkeep (by simp) (by simp; intro i' k hi' e; omega)
       ·intro b' k hb'
        rcases hG with rfl | ⟨b2, hb2, rfl⟩
        ·exact hf.owlt _ _ hb'
        ·simp only [GS.give] at hb'
         split at hb'
         ·subst_vars; exact hf.owlt _ _ hb2
         ·exact hf.owlt _ _ hb'
      unfold Oper.wp
      have hrun : (Instr.loadAt t (a.eval x)).run P w = .ok cv[off] w := by
       have hcl : w.cell? ⟨b, off, none⟩ = some cv[off] := by simp [World.cell?, hh, hlt]
       rw [hv]
       simp [Instr.loadAt, Instr.sureAddr, loadVar, run_isAggT hn, htk.2, hcl]
      rw [plain _ hrun]
      exact hk _ _ G' (hf1.put nm (cDst_ok ho) ⟨hvr.ext hext, hroom'⟩) hext (put_size _ _ _)
     ·simp only [Option.map_eq_some_iff, Prod.mk.injEq] at hs
      obtain ⟨r, hr, rfl, rfl⟩ := hs
      obtain ⟨r', h1, h2, h3⟩ := load_lptr (P := P) hf hn hv hb hsv hr
      exact wp_value nm ho hf (plain _ h1) (SR.of_pure h2 h3) hk
    ·simp at hs
   ·simp at hs
  ·simp [cp] at h
 ·simp at hs
theorem store_sound (hE : EnvOk E N) (nm : Names vs (lmap vs ops)) (ho : ops[j]? = some o) (hf : FI N w G st a vs (lmap vs ops)) {t : TypeId} {n : Nat} {x y : Operand} {px py : PX} (hop : o.op = .store t x y) (hdst : o.dst = none) (hn : sizeT P t = some n)
  (hx : cx E vs ops x = some px) (hy : cx E vs ops y = some py) {cf : CallF} (hs : opv cf (.store n (isAggT P t) px py) st = some (u, st1)) (hk : Goes N w G a st1 u vs ops j o next) : o.wp P a w next Q := by
 simp only [opv] at hs
 split at hs
 ·rename_i s g off v st' ha htk
  rcases addr_sound hE hx hf ha with ⟨_, _, _, b, h, hv, hb⟩ | ⟨_, h⟩
  ·simp only [PV.lptr.injEq] at h
   obtain ⟨rfl, rfl, rfl⟩ := h
   obtain ⟨G1, hf1, hext1, hbox1, hfix1, hheap1, hvr, htaken, _, _, _⟩ := tk_sound hE hy hf htk (.vcell s off)
   split at hs
   ·rename_i g' cs hsv
    split at hs
    ·rename_i hgg
     subst hgg
     simp only [Option.map_eq_some_iff, Prod.mk.injEq] at hs
     obtain ⟨cs', hst, rfl, rfl⟩ := hs
     obtain ⟨tt, ht1, ht2, ht3, ht4, cv, T, hh, hl, hc⟩ := box_open hf1 hsv (by rw [hbox1]; exact hb)
     have hn0 : n ≠ 0 := by obtain ⟨_, _, _, _, h, _⟩ := info_underlying hn; exact h
     have key : ∃ nc : List Value, (a.eval y).cells.toList = nc ∧ nc.length = n ∧ off + n ≤ cv.size ∧ (∀ c ∈ nc, c.oneCell' = true) ∧ cs'.length = cs.length ∧
       ∀ (k : Nat) (c : Value) (z : PV), (cv.toList.take off ++ nc ++ cv.toList.drop (off + n))[k]? = some c → cs'[k]? = some z →
         (cv[k]? = some c ∧ cs[k]? = some z) ∨ (VR N w G.fix G.heap c z ∧ z.flat = true ∧ ∀ es, z = .list true es → (k = off ∧ Room w G1 (.vcell s off) c es) ∨ c = .slice none 0 0) := by
      unfold storeInto at hst
      split at hst
      ·rename_i hagg
       split at hst
       ·rename_i ws
        split at hst
        ·rename_i hcond
         simp only [Option.some.injEq] at hst; subst hst
         obtain ⟨ca, hca, hR⟩ := CellsR.of_agg hvr
         have hO : OwnNil ca.toList ws := OwnNil.of_agg (hca ▸ hvr)
         have hcl : (a.eval y).cells.toList = ca.toList := by rw [hca]; rfl
         have hlen : ca.toList.length = n := by have := hR.1; omega
         refine ⟨ca.toList, hcl, hlen, by omega, ?_, by simp; omega, ?_⟩
         ·intro c hcm
          obtain ⟨i, hi⟩ := List.mem_iff_getElem?.1 hcm
          have hlt : i < ws.length := by have := (List.getElem?_eq_some_iff.1 hi).1; have := hR.1; omega
          have h1 := hR.2.2 i c ws[i] hi (List.getElem?_eq_getElem hlt)
          have h2 := h1.oneCell (hR.2.1 _ (List.getElem_mem hlt))
          cases c <;> first | rfl | simp [oneCell] at h2
         ·intro k c z hc1 hz
          rw [List.append_assoc] at hc1
          have hoff : (cv.toList.take off).length = off := by simp; omega
          have hoff' : (cs.take off).length = off := by simp; omega
          by_cases h1 : k < off
          ·rw [List.getElem?_append_left (by omega), List.getElem?_take, if_pos h1] at hc1
           rw [List.getElem?_append_left (by omega), List.getElem?_take, if_pos h1] at hz
           exact .inl ⟨by simpa using hc1, hz⟩
          ·rw [List.getElem?_append_right (by omega), hoff] at hc1
           rw [List.getElem?_append_right (by omega), hoff'] at hz
           by_cases h2 : k < off + n
           ·rw [List.getElem?_append_left (by omega)] at hc1
            rw [List.getElem?_append_left (by omega)] at hz
            refine .inr ⟨hR.2.2 _ c z hc1 hz, hR.2.1 z (List.mem_of_getElem? hz), ?_⟩
            rintro es rfl
            exact .inr (hO _ c es hc1 hz)
           ·rw [List.getElem?_append_right (by omega), List.getElem?_drop, hlen] at hc1
            rw [List.getElem?_append_right (by omega), List.getElem?_drop, hcond.1] at hz
            rw [show off + n + (k - off - n) = k by omega] at hc1 hz
            exact .inl ⟨by simpa using hc1, hz⟩
        ·simp at hst
       ·simp at hst
      ·rename_i hagg
       have hn1 := sizeT_one hn (by simpa using hagg)
       subst hn1
       split at hst
       ·rename_i hcond
        simp only [Option.some.injEq] at hst; subst hst
        have h1 := hvr.oneCell hcond.2
        have hcl : (a.eval y).cells.toList = [a.eval y] := by
         generalize a.eval y = q at h1
         cases q <;> first | rfl | simp [oneCell] at h1
        refine ⟨[a.eval y], hcl, rfl, by omega, ?_, by simp, ?_⟩
        ·intro c hcm
         simp at hcm; subst hcm
         generalize a.eval y = q at h1
         cases q <;> first | rfl | simp [oneCell] at h1
        ·intro k c z hc1 hz
         rw [List.append_assoc] at hc1
         have hoff : (cv.toList.take off).length = off := by simp; omega
         rw [List.getElem?_set] at hz
         split at hz
         ·rename_i hko
          subst hko
          split at hz
          ·simp at hz; subst hz
           rw [List.getElem?_append_right (by omega), hoff] at hc1
           simp at hc1; subst hc1
           refine .inr ⟨hvr, hcond.2, ?_⟩
           rintro es rfl
           exact .inl ⟨rfl, htaken⟩
          ·simp at hz
         ·rename_i hko
          refine .inl ⟨?_, hz⟩
          by_cases h1 : k < off
          ·rw [List.getElem?_append_left (by omega), List.getElem?_take, if_pos h1] at hc1
           simpa using hc1
          ·rw [List.getElem?_append_right (by omega), hoff, List.getElem?_append_right (by simp; omega), List.getElem?_drop] at hc1
           simp only [List.length_singleton] at hc1
           rw [show off + 1 + (k - off - 1) = k by omega] at hc1
           simpa using hc1
       ·simp at hst
     obtain ⟨nc, hnc, hlen, hfit, hone, hlcs, hcells⟩ := key
     have hrun : (execOp a.eval o).run P w = .ok .skip (w.setRow b (cv.toList.take off ++ nc ++ cv.toList.drop (off + n)).toArray) := by
      have hst := run_storeCells_at P b off T nc 0 cv w hh (by simp; omega) hone
      simp only [Nat.add_zero, hlen] at hst
      have hsz : (a.eval y).cells.size = n := by rw [← hlen, ← hnc]; simp
      simp [execOp, hop, Instr.storeAt, hv, Instr.sureAddr, storeVar, run_sizeT hn, hsz, hnc, hst]
     unfold Oper.wp
     rw [hrun]
     have hblt : b < w.heap.size := hf1.owlt _ _ ht3
     have hother : ∀ x, x ≠ b → (w.setRow b (cv.toList.take off ++ nc ++ cv.toList.drop (off + n)).toArray).heap[x]? = w.heap[x]? := fun x hx => setRow_other w b x _ hx
     have hext2 : Ext w G1 (w.setRow b (cv.toList.take off ++ nc ++ cv.toList.drop (off + n)).toArray) G1 := by
      refine ⟨rfl, rfl, rfl, by simp [World.setRow], ?_, ?_, fun _ _ h => .inl h, fun _ h => .inr h, fun _ _ h => h, shape_setRow hh _ ?_, rfl⟩
      rotate_left 2
      ·simp; omega
      ·intro x _ hxo
       exact hother x (by rintro rfl; rw [ht3] at hxo; simp at hxo)
      ·intro x o' hfx
       refine ⟨hfx, ?_⟩
       have hxb : x ≠ b := by rintro rfl; exact ht4 _ hfx
       simp only [World.cell?, hother x hxb]
     have hkeep2 : Keep (fun k => k = .var s) w G1 (w.setRow b (cv.toList.take off ++ nc ++ cv.toList.drop (off + n)).toArray) G1 := by
      refine ⟨?_, fun _ _ h => h⟩
      intro x k hxk hnk
      refine ⟨hxk, hother x ?_, fun _ h => h⟩
      rintro rfl
      rw [ht3] at hxk
      simp at hxk
      exact hnk hxk.symm
     have hf2 : FI N (w.setRow b (cv.toList.take off ++ nc ++ cv.toList.drop (off + n)).toArray) G1 { st' with vars := st'.vars.set s (.loc g cs') } a vs (lmap vs ops) := by
      refine ⟨by simp [hf1.len], ?_, fun i t' u' h1 h2 => (hf1.loc i t' u' h1 h2).keep hext2 hkeep2 (by simp) (by simp), hf1.tv, hf1.tl, hf1.defers, hf1.gen, ?_, ?_, hf1.heap.keep hext2 hkeep2 (by rintro k hk rfl; simp [Key.isH] at hk), hf1.hdom⟩
      ·intro i t' u' h1 h2
       simp only [List.getElem?_set] at h2
       split at h2
       ·rename_i hi
        subst hi
        split at h2
        ·simp at h2; subst h2
         have : t' = tt := by rw [ht1] at h1; simpa using h1.symm
         subst this
         refine ⟨b, s, rfl, ht2, by rw [hbox1]; exact hb, ht3, ht4, _, T, setRow_heap w b cv _ T (0, 0) hh, ?_, ?_⟩
         ·simp; omega
         ·intro k c z hc1 hz
          rcases hcells k c z (by simpa using hc1) hz with ⟨k1, k2⟩ | ⟨k1, k2, k3⟩
          ·exact (hc k c z k1 k2).keep hext2 hkeep2 (by simp)
          ·refine ⟨(hfix1 ▸ hheap1 ▸ k1 : VR N w G1.fix G1.heap c z).ext hext2, k2, ?_⟩
           split
           ·rename_i es
            rcases k3 es rfl with ⟨e1, e2⟩ | e
            ·subst e1
             exact e2.keep hkeep2 (by simp)
            ·subst e; trivial
           ·trivial
        ·simp at h2
       ·rename_i hi
        exact (hf1.var i t' u' h1 h2).keep hext2 hkeep2 (by simp; omega) (by simp)
      ·intro x k hx; simpa [World.setRow] using hf1.owlt x k hx
      ·intro x o' hx; simpa [World.setRow] using hf1.fixlt x o' hx
     have hput : a.put o.dst undef = a := by simp [hdst, Act.put]
     have hd : cDst vs o.dst = .n := by simp [hdst, cDst]
     show next (a.put o.dst undef) _
     rw [hput]
     refine hk _ _ G1 ?_ (hext1.trans hext2) rfl
     rw [hd]
     exact hf2
    ·simp at hs
   ·simp at hs
  ·simp [cp] at h
 ·simp at hs
end
end PI
set_option linter.unusedSimpArgs false
set_option linter.unusedVariables false
namespace PI
open Go
theorem FI.extDst {N : Nm} {w w' : World} {G G' : GS} {st : St} {a : Act} {vs : List Tmp} {lm : Nat → Option Tmp} {j : Nat} {d : PD} {dst : Option Tmp} {v : Value} {u : PV}
  (h : FI N w G st a vs lm) (nm : Names vs lm) (hd : DstOk vs lm j d dst) (hdn : d ≠ .n) (e : Ext w G w' G') (hk : Keep (fun k => k = keyD d j) w G w' G')
  (hg : ∀ g b, G'.box g = some b → g < st.gen) (ho : ∀ b k, G'.ow b = some k → b < w'.heap.size) (hx : ∀ b o, G'.fix b o → b < w'.heap.size) (hh : G'.heap = G.heap) (hs : SR N w' G' (keyD d j) v u) :
  FI N w' G' (PI.put st j d u) (a.put dst v) vs lm := by
 cases d with
 | n => exact absurd rfl hdn
 | v i =>
   obtain ⟨t, rfl, ht⟩ := hd
   have hsz := h.tv i t ht
   refine ⟨by simp [PI.put, h.len], ?_, ?_, ?_, ?_, (h.defers.trans e.df.symm), hg, ho, hx, h.heap.keep e hk (by intro k hk e; subst e; simp [keyD, Key.isH] at hk), by rw [hh]; exact h.hdom⟩
   ·intro i' t' u' h1 h2
    rw [put_eval _ _ _ _ hsz]
    simp only [PI.put, List.getElem?_set] at h2
    by_cases hi : i = i'
    ·subst hi
     have : t' = t := by rw [ht] at h1; simpa using h1.symm
     subst this
     split at h2
     ·split at h2
      ·simp at h2; subst h2; simp only [if_true]; exact hs
      ·simp at h2
     ·exact absurd rfl ‹_›
    ·rw [if_neg hi] at h2
     have hne : t' ≠ t := fun e => hi (nm.vnd i i' t ht (e ▸ h1))
     rw [if_neg hne]
     exact (h.var i' t' u' h1 h2).keep e hk (by simp [keyD]; omega) (by simp [keyD])
   ·intro j' t' u' h1 h2
    rw [put_eval _ _ _ _ hsz, if_neg (fun e : t' = t => nm.sep j' t' i h1 (e ▸ ht))]
    exact (h.loc j' t' u' h1 h2).keep e hk (by simp [keyD]) (by simp)
   ·intro i' t' h1; simpa [Act.put] using h.tv i' t' h1
   ·intro j' t' h1; simpa [Act.put] using h.tl j' t' h1
 | l =>
   obtain ⟨t, rfl, ht⟩ := hd
   have hsz := h.tl j t ht
   refine ⟨h.len, ?_, ?_, ?_, ?_, (h.defers.trans e.df.symm), hg, ho, hx, h.heap.keep e hk (by intro k hk e; subst e; simp [keyD, Key.isH] at hk), by rw [hh]; exact h.hdom⟩
   ·intro i' t' u' h1 h2
    rw [put_eval _ _ _ _ hsz, if_neg (fun e : t' = t => nm.sep j t i' ht (e ▸ h1))]
    exact (h.var i' t' u' h1 h2).keep e hk (by simp [keyD]) (by simp [keyD])
   ·intro j' t' u' h1 h2
    rw [put_eval _ _ _ _ hsz]
    simp only [PI.put, List.getElem?_set] at h2
    by_cases hj : j = j'
    ·subst hj
     have : t' = t := by rw [ht] at h1; simpa using h1.symm
     subst this
     split at h2
     ·split at h2
      ·simp at h2; subst h2; simp only [if_true]; exact hs
      ·simp at h2
     ·exact absurd rfl ‹_›
    ·rw [if_neg hj] at h2
     have hne : t' ≠ t := fun e => hj (nm.lnd j j' t ht (e ▸ h1))
     rw [if_neg hne]
     exact (h.loc j' t' u' h1 h2).keep e hk (by simp [keyD]; omega) (by simp)
   ·intro i' t' h1; simpa [Act.put] using h.tv i' t' h1
   ·intro j' t' h1; simpa [Act.put] using h.tl j' t' h1
theorem SR.own {N : Nm} {w : World} {G : GS} {key : Key} {v : Value} {es : List PV} (h : VR N w G.fix G.heap v (.list true es)) (hr : Room w G key v es) : SR N w G key v (.list true es) := ⟨h, hr⟩
structure ListR (N : Nm) (w : World) (fix : Nat → Nat → Prop) (hp : Nat → Option Nat) (size : Nat) (news : List Value) (es : List PV) : Prop where
 len : news.length = es.length * size
 sz : ∀ e ∈ es, e.cells.length = size
 flat : ∀ e ∈ es, ∀ x ∈ e.cells, x.flat = true
 vr : ∀ (i : Nat) (e : PV), es[i]? = some e → ∀ (k : Nat) (c : Value) (x : PV), news[i * size + k]? = some c → e.cells[k]? = some x → VR N w fix hp c x
section
variable {E : Env} {N : Nm} {w : World} {G : GS} {st : St} {a : Act} {vs : List Tmp} {ops : List Oper} {P : Program}
variable {o : Oper} {j : Nat} {next : Act → World → Prop} {Q : Exit → Act → World → Prop} {u : PV} {st1 : St}
theorem ListR.append {fix : Nat → Nat → Prop} {hp : Nat → Option Nat} {size : Nat} {xs ys : List Value} {es fs : List PV} (h : ListR N w fix hp size xs es) (k : ListR N w fix hp size ys fs) (hs : size ≠ 0) :
  ListR N w fix hp size (xs ++ ys) (es ++ fs) := by
 refine ⟨by simp [h.len, k.len, Nat.add_mul], ?_, ?_, ?_⟩
 ·intro e he; rcases List.mem_append.1 he with he | he
  ·exact h.sz e he
  ·exact k.sz e he
 ·intro e he; rcases List.mem_append.1 he with he | he
  ·exact h.flat e he
  ·exact k.flat e he
 ·intro i e he m c x hc hx
  by_cases hi : i < es.length
  ·rw [List.getElem?_append_left hi] at he
   have hm : m < size := by have := (List.getElem?_eq_some_iff.1 hx).1; have := h.sz e (List.mem_of_getElem? he); omega
   rw [List.getElem?_append_left (by rw [h.len]; exact idx_lt hi hm)] at hc
   exact h.vr i e he m c x hc hx
  ·rw [List.getElem?_append_right (by omega)] at he
   have hge : xs.length ≤ i * size + m := by
    rw [h.len]
    have : es.length * size ≤ i * size := Nat.mul_le_mul_right _ (by omega)
    omega
   rw [List.getElem?_append_right hge, h.len] at hc
   refine k.vr _ e he m c x ?_ hx
   rw [show (i - es.length) * size + m = i * size + m - es.length * size by
    rw [Nat.sub_mul]
    have : es.length * size ≤ i * size := Nat.mul_le_mul_right _ (by omega)
    omega]
   exact hc
theorem ListR.mono {w' : World} {fix fix' : Nat → Nat → Prop} {hp hp' : Nat → Option Nat} {size : Nat} {xs : List Value} {es : List PV} (h : ListR N w fix hp size xs es)
  (hf : ∀ b o, fix b o → fix' b o ∧ w'.cell? ⟨b, o, none⟩ = w.cell? ⟨b, o, none⟩) (hh : ∀ n b, hp n = some b → hp' n = some b) (hs : ShapeLe w w') : ListR N w' fix' hp' size xs es :=
 ⟨h.len, h.sz, h.flat, fun i e he k c x hc hx => (h.vr i e he k c x hc hx).mono hf hh hs⟩
theorem ListR.one {fix : Nat → Nat → Prop} {hp : Nat → Option Nat} {size : Nat} {xs : List Value} {es : List PV} (h : ListR N w fix hp size xs es) (hs : size ≠ 0) : ∀ c ∈ xs, c.oneCell' = true := by
 intro c hc
 obtain ⟨m, hm⟩ := List.mem_iff_getElem?.1 hc
 have hlt : m < es.length * size := by have := (List.getElem?_eq_some_iff.1 hm).1; rw [h.len] at this; exact this
 have hi : m / size < es.length := by rw [Nat.div_lt_iff_lt_mul (by omega)]; exact hlt
 have hk : m % size < size := Nat.mod_lt _ (by omega)
 have he := List.getElem?_eq_getElem hi
 have hmem := List.mem_of_getElem? he
 have hkl : m % size < (es[m / size]).cells.length := by rw [h.sz _ hmem]; exact hk
 have hx := List.getElem?_eq_getElem hkl
 have hmk : m / size * size + m % size = m := by rw [Nat.mul_comm]; exact Nat.div_add_mod m size
 have h1 := (h.vr _ _ he _ c _ (by rw [hmk]; exact hm) hx).oneCell (h.flat _ hmem _ (List.mem_of_getElem? hx))
 cases c <;> first | rfl | simp [oneCell] at h1
theorem list_cells {fix : Nat → Nat → Prop} {hp : Nat → Option Nat} {size : Nat} {v : Value} {own : Bool} {es : List PV} (h : VR N w fix hp v (.list own es)) (hh : headOk size es = true) :
  ∃ news, ListR N w fix hp size news es ∧ ((v = .slice none 0 0 ∧ es = [] ∧ news = []) ∨ (∃ ad cap, v = .slice (some ad) 0 cap ∧ es = [] ∧ news = []) ∨
    ∃ b off cap, v = .slice (some ⟨b, off, none⟩) es.length cap ∧ es.length ≤ cap ∧ ∀ (j : Nat) (u : Value), news[j]? = some u → w.cell? ⟨b, off + j, none⟩ = some u ∧ fix b (off + j)) := by
 cases h with
 | nils => exact ⟨[], ⟨by simp, by simp, by simp, by simp⟩, .inl ⟨rfl, rfl, rfl⟩⟩
 | void _ ad cap => exact ⟨[], ⟨by simp, by simp, by simp, by simp⟩, .inr (.inl ⟨ad, cap, rfl, rfl, rfl⟩)⟩
 | list _ b off len cap sz _ cv hlen hcap hsz hflat hcell hvr =>
   subst hlen
   by_cases h0 : es = []
   ·subst h0
    exact ⟨[], ⟨by simp, by simp, by simp, by simp⟩, .inr (.inr ⟨b, off, cap, rfl, hcap, by simp⟩)⟩
   ·have hs : sz = size := by
     cases es with
     | nil => exact absurd rfl h0
     | cons y ys =>
       have := hsz y (by simp)
       simp [headOk] at hh
       omega
    subst hs
    refine ⟨(List.range (es.length * sz)).map cv, ⟨by simp, hsz, hflat, ?_⟩, .inr (.inr ⟨b, off, cap, rfl, hcap, ?_⟩)⟩
    ·intro i e he k c x hc hx
     simp only [List.getElem?_map, Option.map_eq_some_iff] at hc
     obtain ⟨m, hm, rfl⟩ := hc
     have : m = i * sz + k := by
      have := (List.getElem?_eq_some_iff.1 hm)
      obtain ⟨h1, h2⟩ := this
      simp at h2; exact h2.symm
     subst this
     exact hvr i e he k x hx
    ·intro j u hu
     simp only [List.getElem?_map, Option.map_eq_some_iff] at hu
     obtain ⟨m, hm, rfl⟩ := hu
     have hm' : m = j ∧ j < es.length * sz := by
      obtain ⟨h1, h2⟩ := List.getElem?_eq_some_iff.1 hm
      simp at h1 h2; exact ⟨h2.symm, h1⟩
     obtain ⟨rfl, hlt⟩ := hm'
     exact hcell m hlt
theorem list_mk {fix : Nat → Nat → Prop} {hp : Nat → Option Nat} {size b off cap : Nat} {own : Bool} {es : List PV} {news : List Value} (h : ListR N w fix hp size news es) (hcap : es.length ≤ cap)
  (hc : ∀ (j : Nat) (u : Value), news[j]? = some u → w.cell? ⟨b, off + j, none⟩ = some u ∧ fix b (off + j)) : VR N w fix hp (.slice (some ⟨b, off, none⟩) es.length cap) (.list own es) := by
 refine .list own b off es.length cap size es (fun k => news.getD k undef) rfl hcap h.sz h.flat ?_ ?_
 ·intro k hk
  have hlt : k < news.length := by rw [h.len]; exact hk
  have := hc k news[k] (List.getElem?_eq_getElem hlt)
  simpa [List.getD, List.getElem?_eq_getElem hlt] using this
 ·intro i e he k x hx
  have hk : k < size := by have := (List.getElem?_eq_some_iff.1 hx).1; have := h.sz e (List.mem_of_getElem? he); omega
  have hi : i < es.length := (List.getElem?_eq_some_iff.1 he).1
  have hlt : i * size + k < news.length := by rw [h.len]; exact idx_lt hi hk
  have := h.vr i e he k news[i * size + k] x (List.getElem?_eq_getElem hlt) hx
  simpa [List.getD, List.getElem?_eq_getElem hlt] using this
theorem run_storeCells_live (P : Program) (g o : Nat) (t : TypeId) (fz : Nat × Nat) : ∀ (vs : List Value) (i : Nat) (cur : Array Value) (w : World), w.heap[g]? = some (.cells cur t fz) → (∀ o, o < cur.size → ¬ (fz.1 ≤ o ∧ o < fz.2)) → o + i + vs.length ≤ cur.size → (∀ v ∈ vs, v.oneCell' = true) →
  (storeCells ⟨g, o, none⟩ vs i).run P w = .ok () (w.setRow g (cur.toList.take (o + i) ++ vs ++ cur.toList.drop (o + i + vs.length)).toArray)
 | [], i, cur, w, hg, _, _, _ => by
   simp only [storeCells, List.append_nil, List.length_nil, Nat.add_zero, List.take_append_drop, Array.toArray_toList]
   rw [setRow_self w g cur t fz hg]
   rfl
 | v :: rest, i, cur, w, hg, hz, hl, h1 => by
   have hi : o + i < cur.size := by simp at hl; omega
   have hadd : (⟨g, o, none⟩ : Addr).add i = ⟨g, o + i, none⟩ := by unfold Addr.add; split <;> simp_all
   have hcell : w.cell? ⟨g, o + i, none⟩ = some cur[o + i] := by simp [World.cell?, hg, hi]
   have hfro : w.frozen? ⟨g, o + i, none⟩ = false := by
    have := hz _ hi
    obtain ⟨lo, hi'⟩ := fz
    simp only at this
    simp only [World.frozen?, hg, Bool.and_eq_false_iff, decide_eq_false_iff_not]
    omega
   have hst : (store ((⟨g, o, none⟩ : Addr).add i) v).run P w = .ok () (w.setRow g (cur.setIfInBounds (o + i) v)) := by
    rw [hadd, run_store P w _ v _ (h1 v (by simp)), hcell]
    simp [hfro, setCell_eq_setRow w g (o + i) cur t fz v hg]
   have ih := run_storeCells_live P g o t fz rest (i + 1) (cur.setIfInBounds (o + i) v) (w.setRow g (cur.setIfInBounds (o + i) v)) (setRow_heap w g cur _ t _ hg) (by simpa using hz) (by simp at hl ⊢; omega) (fun x hx => h1 x (by simp [hx]))
   simp only [storeCells, Sem.run_bind, hst, Result.andThen_ok, ih, setRow_setRow]
   congr 3
   have e := list_seg_step cur.toList (o + i) v rest (by simp at hl ⊢; omega)
   simpa [Array.toList_setIfInBounds, Nat.add_assoc] using e
theorem append_core (hE : EnvOk E N) (nm : Names vs (lmap vs ops)) (ho : ops[j]? = some o) (hf : FI N w G st a vs (lmap vs ops)) {ts tx e : TypeId} {size : Nat} {z : List PV} {s x : Operand} {ps : PX}
  (hop : o.op = .call { callee := .builtin .append, args := #[s, x], argTypes := #[ts, tx] }) (hdst : cDst vs o.dst ≠ .n) (hts : P.underlying ts = some (.slice e)) (hn : sizeT P e = some size) (hz : zeroT P e = some z)
  (hs' : cx E vs ops s = some ps) {es xs : List PV} {st' : St} (htk : tk st ps = some (.list true es, st')) (hh1 : headOk size es = true) (hlen : es.length + xs.length ≤ 9223372036854775807) (hbytes : (es.length + xs.length) * P.bytesOf e ≤ 140737488355328)
  {news : List Value} (hRx : ListR N w G.fix G.heap size news xs) (hsrc : Src P size tx (a.eval x) xs.length news w)
  (hk : Goes N w G a st' (.list true (es ++ xs)) vs ops j o next) : o.wp P a w next Q := by
 obtain ⟨i, d, hi, hisz, hs0, hd⟩ := info_underlying hn
 obtain ⟨i2, zv, hi2, hzv, _, hzl, hzR, _⟩ := zeroT_sound (N := N) (w := w) (fix := G.fix) (hp := G.heap) hz
 have : i2 = i := by rw [hi] at hi2; simpa using hi2.symm
 subst this
 subst hisz
 have hzs : zv.cells.size = i2.size := by have := hzR.1; simp at this; omega
 have hby : P.bytesOf e = i2.bytes := by simp [Program.bytesOf, hi]
 rw [hby] at hbytes
 obtain ⟨G1, hf1, hext1, hbox1, hfix1, hheap1, hvr, htaken, _, hgen, _⟩ := tk_sound hE hs' hf htk (keyD (cDst vs o.dst) j)
 obtain ⟨olds, hRs, hcs⟩ := list_cells hvr hh1
 have hroom : Room w G1 (keyD (cDst vs o.dst) j) (a.eval s) es := htaken
 have hop' : ∀ v w', (Builtin.append_ #[ts, tx] o.type #[a.eval s, a.eval x]).run P w = .ok v w' → (execOp a.eval o).run P w = .ok (.value v) w' := by
  intro v w' hr
  simp [execOp, hop, resolve, invoke, builtin, hr]
 have hRx1 : ListR N w G1.fix G1.heap i2.size news xs := by rw [hfix1, hheap1]; exact hRx
 have hRs1 : ListR N w G1.fix G1.heap i2.size olds es := by rw [hfix1, hheap1]; exact hRs
 have hvr1 : VR N w G1.fix G1.heap (a.eval s) (.list true es) := by rw [hfix1, hheap1]; exact hvr
 have finish : ∀ (v : Value) (w' : World) (G' : GS), (Builtin.append_ #[ts, tx] o.type #[a.eval s, a.eval x]).run P w = .ok v w' → Ext w G1 w' G' → Keep (fun k => k = keyD (cDst vs o.dst) j) w G1 w' G' →
   (∀ g b, G'.box g = some b → G1.box g = some b) → (∀ b k, G'.ow b = some k → b < w'.heap.size) → (∀ b o, G'.fix b o → b < w'.heap.size) → G'.heap = G1.heap → VR N w' G'.fix G'.heap v (.list true (es ++ xs)) → Room w' G' (keyD (cDst vs o.dst) j) v (es ++ xs) →
   o.wp P a w next Q := by
  intro v w' G' hr hext hkeep hbx how hfx hh hv hrm
  unfold Oper.wp
  rw [hop' v w' hr]
  refine hk _ _ G' (hf1.extDst nm (cDst_ok ho) hdst hext hkeep ?_ how hfx hh (SR.own hv hrm)) (hext1.trans hext) (put_size _ _ _)
  intro g b hb
  exact hf1.gen g b (hbx g b hb)
 by_cases hgrow : ∃ base cap, a.eval s = .slice base es.length cap ∧ cap < es.length + xs.length
 ·
  obtain ⟨base, cap, hv, hcap⟩ := hgrow
  have hold : (Builtin.firstCells i2.size es.length (.slice base es.length cap)).run P w.drew = .ok olds.toArray w.drew := by
   rcases hcs with ⟨h1, h2, h3⟩ | ⟨ad, cap', h1, h2, h3⟩ | ⟨b, off, cap', h1, h2, h3⟩
   ·rw [hv] at h1; simp at h1
    obtain ⟨rfl, _, rfl⟩ := h1
    subst h3
    exact run_firstCells_none w.drew _ _ _ _
   ·rw [hv] at h1; simp at h1
    obtain ⟨rfl, _, rfl⟩ := h1
    subst h3
    rw [h2]
    exact run_firstCells_some w.drew _ _ _ _ _ [] (by simp) (by simp)
   ·rw [hv] at h1; simp at h1
    obtain ⟨rfl, rfl⟩ := h1
    exact run_firstCells_some w.drew _ _ _ _ _ olds hRs.len (fun j u hu => by rw [addr_add]; exact (h3 j u hu).1)
  have hfit : Builtin.nextslicecap (es.length + xs.length) cap * i2.bytes ≤ 281474976710656 := by
   exact growslice_fits hcap hbytes
  have hrun := run_append_grow_src (P := P) w ts tx o.type e i2 zv hts hi hzv base es.length cap olds hold (a.eval x) xs.length news hsrc hcap (by omega) hfit
  rw [← hv] at hrun
  have hnofix : ∀ o, ¬ G1.fix w.heap.size o := fun o h => by have := hf1.fixlt _ _ h; omega
  have hnc := grownCap_ge w (es.length + xs.length) cap e
  let CS : Array Value := (olds ++ news).toArray ++ Builtin.zeroCells zv.cells (grownCap w (es.length + xs.length) cap e - (es.length + xs.length))
  let G' : GS := { G1 with fix := fun b o => G1.fix b o ∨ (b = w.heap.size ∧ o < (es.length + xs.length) * i2.size), ow := fun b => if b = w.heap.size then some (keyD (cDst vs o.dst) j) else G1.ow b }
  have hR := hRs1.append hRx1 hs0
  have hCS : CS.size = grownCap w (es.length + xs.length) cap e * i2.size := by
   simp only [CS, Array.size_append, List.size_toArray, size_zeroCells, hzs, hR.len, List.length_append]
   rw [Nat.sub_mul]
   have : (es.length + xs.length) * i2.size ≤ grownCap w (es.length + xs.length) cap e * i2.size := Nat.mul_le_mul_right _ hnc
   omega
  have hext : Ext w G1 (w.drew.alloc (.cells CS e)) G' := by
   refine ⟨rfl, rfl, rfl, by simp, fun b hb _ => alloc_heap_old (w := w.drew) hb, fun b o h => ⟨.inl h, alloc_cell_old (w := w.drew) (hf1.fixlt _ _ h)⟩, ?_, ?_, fun _ _ h => h, .same fun k hk => alloc_heap_old (w := w.drew) hk, rfl⟩
   ·rintro b o (h | h)
    ·exact .inl h
    ·exact .inr (.inl (by omega))
   ·intro b hb
    simp only [G'] at hb
    split at hb
    ·exact .inl (by omega)
    ·exact .inr hb
  refine finish _ _ G' hrun hext ?_ (fun _ _ h => h) ?_ ?_ rfl ?_ ?_
  ·refine ⟨?_, fun _ _ h => h⟩
   intro b k hb _
   have hlt := hf1.owlt _ _ hb
   refine ⟨?_, alloc_heap_old (w := w.drew) hlt, ?_⟩
   ·simp only [G']; rw [if_neg (by omega)]; exact hb
   ·rintro o (h | h)
    ·exact h
    ·omega
  ·intro b k hb
   simp only [G'] at hb
   split at hb
   ·simp; omega
   ·have := hf1.owlt _ _ hb; simp; omega
  ·rintro b o (h | h)
   ·have := hf1.fixlt _ _ h; simp; omega
   ·simp; omega
  ·have hlen2 : (es ++ xs).length = es.length + xs.length := by simp
   have hfin : VR N (w.drew.alloc (.cells CS e)) G'.fix G'.heap (.slice (some ⟨w.heap.size, 0, none⟩) (es ++ xs).length (grownCap w (es.length + xs.length) cap e)) (.list true (es ++ xs)) := ?_
   ·rw [hlen2] at hfin; exact hfin
   refine list_mk (hR.mono hext.fix hext.heap hext.shape) (by rw [hlen2]; exact hnc) ?_
   intro j' u' hu
   have hlt : j' < (olds ++ news).length := (List.getElem?_eq_some_iff.1 hu).1
   refine ⟨?_, .inr ⟨rfl, by rw [hR.len, hlen2] at hlt; omega⟩⟩
   rw [Nat.zero_add]
   have := World.cell?_alloc_new w.drew CS e j'
   refine this.trans ?_
   simp only [CS]
   rw [Array.getElem?_append_left (by simpa using hlt)]
   simpa using hu
  ·refine .inr ⟨by simp [G'], i2.size, CS, e, hR.sz, .of (alloc_heap_new (w := w.drew)), by rw [hCS]; simp, by omega, ?_⟩
   rintro o' ho' (h | h)
   ·exact hnofix _ h
   ·simp at ho'; omega
 ·
  have hcase : ∃ base cap, a.eval s = .slice base es.length cap := by
   rcases hcs with ⟨h1, h2, _⟩ | ⟨ad, cap, h1, h2, _⟩ | ⟨b, off, cap, h1, _⟩
   ·exact ⟨none, 0, by rw [h1, h2]; rfl⟩
   ·exact ⟨some ad, cap, by rw [h1, h2]; rfl⟩
   ·exact ⟨_, cap, h1⟩
  obtain ⟨base, cap, hv⟩ := hcase
  have hle : es.length + xs.length ≤ cap := by
   rcases Nat.lt_or_ge cap (es.length + xs.length) with h | h
   ·exact absurd ⟨base, cap, hv, h⟩ hgrow
   ·exact h
  by_cases hx0 : xs = []
  ·subst hx0
   have hnil : news = [] := by have := hRx.len; simpa using this
   subst hnil
   have hrun : (Builtin.append_ #[ts, tx] o.type #[a.eval s, a.eval x]).run P w = .ok (a.eval s) w := by
    rw [hv]
    have hle' : es.length ≤ cap := by simpa using hle
    have hl0 : (Builtin.lenOf (a.eval x)).run P w = .ok 0 w := by simpa using hsrc.len w
    have hc0 : (Builtin.firstCells i2.size 0 (a.eval x)).run P w = .ok #[] w := by simpa using hsrc.cells
    rcases hsrc.kind with ⟨e'', hk'⟩ | hk' <;>
     cases base <;> simp [Builtin.append_, run_underlying hts, run_underlying hk', Go.sizeOf, typeInfo, hi, hl0, hle', hc0, storeCells]
   refine finish _ w G1 hrun (Ext.refl _ _) ⟨fun b k h _ => ⟨h, rfl, fun _ h => h⟩, fun _ _ h => h⟩ (fun _ _ h => h) hf1.owlt hf1.fixlt rfl (by simpa using hvr1) (by simpa using hroom)
  ·
   have hxl : 0 < xs.length := List.length_pos_iff.2 hx0
   rcases hcs with ⟨h1, h2, _⟩ | ⟨ad, cap', h1, h2, _⟩ | ⟨b, off, cap', h1, h2, h3⟩
   ·rw [hv] at h1; simp at h1; omega
   ·have hbc : base = some ad ∧ cap = cap' := by rw [hv, h2] at h1; simpa using h1
    obtain ⟨rfl, rfl⟩ := hbc
    rw [hv] at hroom
    rw [h2] at hroom hle
    rcases hroom with hroom | ⟨_, _, _, _, _, _, _, hpos, _⟩
    ·simp at hle hroom; omega
    ·simp at hpos
   ·have hbc : base = some ⟨b, off, none⟩ ∧ cap = cap' := by rw [hv] at h1; simpa using h1
    obtain ⟨rfl, rfl⟩ := hbc
    rw [hv] at hroom
    rcases hroom with hroom | ⟨how, sz, cur, T, hsz, ⟨fz, hheap, hfzn⟩, hfit, hpos, hfree⟩
    ·omega
    ·have hszz : sz = i2.size := by
      cases es with
      | nil => simp at hpos
      | cons y ys => have := hsz y (by simp); have := hRs.sz y (by simp); omega
     subst hszz
     simp only at how hheap hfit hfree hfzn
     have hcs2 : off + es.length * i2.size + news.length ≤ cur.size := by
      rw [hRx.len]
      have : (es.length + xs.length) * i2.size ≤ cap * i2.size := Nat.mul_le_mul_right _ hle
      rw [Nat.add_mul] at this; omega
     let NR : Array Value := (cur.toList.take (off + es.length * i2.size) ++ news ++ cur.toList.drop (off + es.length * i2.size + news.length)).toArray
     have hrun : (Builtin.append_ #[ts, tx] o.type #[a.eval s, a.eval x]).run P w = .ok (.slice (some ⟨b, off, none⟩) (es.length + xs.length) cap) (w.setRow b NR) := by
      have hst := run_storeCells_live P b (off + es.length * i2.size) T fz news 0 cur w hheap hfzn (by simpa using hcs2) (hRx.one hs0)
      simp only [Nat.add_zero] at hst
      rw [hv]
      rcases hsrc.kind with ⟨e'', hk'⟩ | hk' <;>
       simp [Builtin.append_, run_underlying hts, run_underlying hk', Go.sizeOf, typeInfo, hi, hsrc.len, hle, hsrc.cells, addr_add, hst, NR]
     have hblt : b < w.heap.size := hf1.owlt _ _ how
     have hother : ∀ x, x ≠ b → (w.setRow b NR).heap[x]? = w.heap[x]? := fun x hx => setRow_other w b x _ hx
     let G' : GS := { G1 with fix := fun b' o => G1.fix b' o ∨ (b' = b ∧ off + es.length * i2.size ≤ o ∧ o < off + (es.length + xs.length) * i2.size) }
     have hNRs : NR.size = cur.size := by simp only [NR, List.size_toArray, List.length_append, List.length_take, List.length_drop, Array.length_toList]; omega
     have hNR : ∀ k, k < off + es.length * i2.size → NR[k]? = cur[k]? := by
      intro k hk
      simp only [NR, List.getElem?_toArray, List.append_assoc]
      rw [List.getElem?_append_left (by simp; omega), List.getElem?_take, if_pos hk]
      simp
     have hNR2 : ∀ k, k < news.length → NR[off + es.length * i2.size + k]? = news[k]? := by
      intro k hk
      have hl : (cur.toList.take (off + es.length * i2.size)).length = off + es.length * i2.size := by simp; omega
      simp only [NR, List.getElem?_toArray, List.append_assoc]
      rw [List.getElem?_append_right (by omega), hl, List.getElem?_append_left (by omega)]
      congr 1; omega
     have hcellb : ∀ k, (w.setRow b NR).cell? ⟨b, k, none⟩ = NR[k]? := fun k => cell_setRow_same w b k cur NR T fz hheap
     have hext : Ext w G1 (w.setRow b NR) G' := by
      refine ⟨rfl, rfl, rfl, by simp [World.setRow], ?_, ?_, ?_, fun _ h => .inr h, fun _ _ h => h, shape_setRow hheap _ hNRs, rfl⟩
      ·intro y _ hyo
       exact hother y (by rintro rfl; rw [how] at hyo; simp at hyo)
      ·intro y o' hfx
       refine ⟨.inl hfx, ?_⟩
       by_cases hyb : y = b
       ·subst hyb
        have hlt : o' < off + es.length * i2.size := by
         rcases Nat.lt_or_ge o' (off + es.length * i2.size) with h | h
         ·exact h
         ·exact absurd hfx (hfree o' h)
        rw [hcellb, hNR o' hlt]
        simp [World.cell?, hheap]
       ·simp only [World.cell?, hother y hyb]
      ·rintro y o' (h | h)
       ·exact .inl h
       ·exact .inr (.inr (by rw [h.1, how]; simp))
     refine finish _ _ G' hrun hext ?_ (fun _ _ h => h) (fun y k hy => by simpa [World.setRow] using hf1.owlt y k hy) ?_ rfl ?_ ?_
     ·refine ⟨?_, fun _ _ h => h⟩
      intro y k hy hnk
      have hyb : y ≠ b := by rintro rfl; rw [how] at hy; simp at hy; exact hnk hy.symm
      refine ⟨hy, hother y hyb, ?_⟩
      rintro o' (h | h)
      ·exact h
      ·exact absurd h.1 hyb
     ·rintro y o' (h | h)
      ·simpa [World.setRow] using hf1.fixlt _ _ h
      ·simp [World.setRow]; omega
     ·have hlen2 : (es ++ xs).length = es.length + xs.length := by simp
      rw [← hlen2]
      refine list_mk ((hRs1.append hRx1 hs0).mono hext.fix hext.heap hext.shape) (by rw [hlen2]; exact hle) ?_
      intro k u' hu
      by_cases hk1 : k < olds.length
      ·rw [List.getElem?_append_left hk1] at hu
       obtain ⟨c1, c2⟩ := h3 k u' hu
       have := hext.fix b (off + k) (by rw [hfix1]; exact c2)
       exact ⟨this.2.trans c1, this.1⟩
      ·rw [List.getElem?_append_right (by omega)] at hu
       have hlt : k - olds.length < news.length := (List.getElem?_eq_some_iff.1 hu).1
       have he : off + k = off + es.length * i2.size + (k - olds.length) := by have := hRs.len; omega
       refine ⟨?_, .inr ⟨rfl, ?_, ?_⟩⟩
       ·rw [hcellb, he, hNR2 _ hlt]; exact hu
       ·rw [he]; omega
       ·rw [he, Nat.add_mul]; have := hRx.len; omega
     ·refine .inr ⟨how, i2.size, NR, T, ?_, ⟨fz, setRow_heap w b cur NR T fz hheap, fun o ho => hfzn o (by rw [← hNRs]; exact ho)⟩, ?_, by omega, ?_⟩
      ·intro y hy
       rcases List.mem_append.1 hy with hy | hy
       ·exact hRs.sz y hy
       ·exact hRx.sz y hy
      ·simp only [NR, List.size_toArray, List.length_append, List.length_take, List.length_drop, Array.length_toList]; omega
      ·rintro o' ho' (h | h)
       ·refine hfree o' ?_ h
        simp only [List.length_append, Nat.add_mul] at ho'
        omega
       ·simp only [List.length_append, Nat.add_mul] at ho'
        have := h.2.2
        rw [Nat.add_mul] at this
        omega
theorem append_sound (hE : EnvOk E N) (nm : Names vs (lmap vs ops)) (ho : ops[j]? = some o) (hf : FI N w G st a vs (lmap vs ops)) {ts tx e e' : TypeId} {size : Nat} {z : List PV} {s x : Operand} {ps px : PX}
  (hop : o.op = .call { callee := .builtin .append, args := #[s, x], argTypes := #[ts, tx] }) (hdst : cDst vs o.dst ≠ .n) (hts : P.underlying ts = some (.slice e)) (htx : P.underlying tx = some (.slice e')) (hn : sizeT P e = some size) (hz : zeroT P e = some z)
  (hs' : cx E vs ops s = some ps) (hx : cx E vs ops x = some px) {cf : CallF} (hs : opv cf (.append size (P.bytesOf e) ps px) st = some (u, st1)) (hk : Goes N w G a st1 u vs ops j o next) : o.wp P a w next Q := by
 simp only [opv] at hs
 split at hs
 ·rename_i xs es st' hrd0 htk
  split at hs
  ·rename_i hcond
   obtain ⟨hh1, hh2, hroomy⟩ := hcond
   have hlen : es.length + xs.length ≤ 9223372036854775807 := by rcases hroomy with ⟨h, _⟩ | ⟨h, _⟩ <;> omega
   have hbytes : (es.length + xs.length) * P.bytesOf e ≤ 140737488355328 := by
    rcases hroomy with ⟨h, h'⟩ | ⟨_, h⟩
    ·exact Nat.le_trans (Nat.mul_le_mul h h') (by decide)
    ·exact h
   simp only [Option.some.injEq, Prod.mk.injEq] at hs
   obtain ⟨rfl, rfl⟩ := hs
   simp only [Option.bind_eq_some_iff] at hrd0
   obtain ⟨px0, hrd, hrow⟩ := hrd0
   have hvx := (rd_sound hE hx hf hrd).1.row hrow
   obtain ⟨news, hRx, hcx⟩ := list_cells hvx hh2
   obtain ⟨_, _, _, _, hs0, _⟩ := info_underlying hn
   have hsrc : Src P size tx (a.eval x) xs.length news w := by
    rcases hcx with ⟨h1, h2, h3⟩ | ⟨ad, cap, h1, h2, h3⟩ | ⟨b, off, cap, h1, h2, h3⟩
    ·rw [h1, h2, h3]; exact Src.ofNil w htx 0
    ·rw [h1, h2, h3]; exact Src.ofSlice w htx ad 0 cap [] (by simp) (by simp) (by simp)
    ·rw [h1]
     exact Src.ofSlice w htx ⟨b, off, none⟩ xs.length cap news hRx.len (fun j u hu => by rw [addr_add]; exact (h3 j u hu).1) (hRx.one hs0)
   exact append_core hE nm ho hf hop hdst hts hn hz hs' htk hh1 hlen hbytes hRx hsrc hk
  ·simp at hs
 ·simp at hs
theorem ofBytes_R (fix : Nat → Nat → Prop) (hp : Nat → Option Nat) (s : ByteArray) : ListR N w fix hp 1 (byteCells s) (ofBytes s.data.toList) := by
 refine ⟨by rw [byteCells_length, Nat.mul_one]; simp only [ofBytes, List.length_map, Array.length_toList]; rfl, ?_, ?_, ?_⟩
 ·intro e he
  obtain ⟨b, _, rfl⟩ := List.mem_map.1 he
  rfl
 ·intro e he x hx
  obtain ⟨b, _, rfl⟩ := List.mem_map.1 he
  simp only [PV.cells, List.mem_singleton] at hx
  subst hx; rfl
 ·intro i e he k c x hc hx
  simp only [ofBytes, List.getElem?_map, Option.map_eq_some_iff] at he
  obtain ⟨b, hb, rfl⟩ := he
  cases k with
  | zero =>
    simp only [PV.cells, List.getElem?_cons_zero, Option.some.injEq] at hx
    subst hx
    simp only [byteCells, Nat.mul_one, Nat.add_zero, List.getElem?_map, Option.map_eq_some_iff] at hc
    obtain ⟨b', hb', rfl⟩ := hc
    rw [hb] at hb'; cases hb'
    exact .int _ _
  | succ k => simp [PV.cells] at hx
theorem ofBytes_len (s : List UInt8) : (ofBytes s).length = s.length := by simp [ofBytes]
theorem appstr_sound (hE : EnvOk E N) (nm : Names vs (lmap vs ops)) (ho : ops[j]? = some o) (hf : FI N w G st a vs (lmap vs ops)) {ts tx e : TypeId} {z : List PV} {s x : Operand} {ps px : PX}
  (hop : o.op = .call { callee := .builtin .append, args := #[s, x], argTypes := #[ts, tx] }) (hdst : cDst vs o.dst ≠ .n) (hts : P.underlying ts = some (.slice e)) (htx : P.underlying tx = some .string) (hn : sizeT P e = some 1) (hz : zeroT P e = some z) (hb1 : P.bytesOf e = 1)
  (hs' : cx E vs ops s = some ps) (hx : cx E vs ops x = some px) {cf : CallF} (hs : opv cf (.appstr ps px) st = some (u, st1)) (hk : Goes N w G a st1 u vs ops j o next) : o.wp P a w next Q := by
 simp only [opv] at hs
 split at hs
 ·rename_i xs es st' hrd htk
  split at hs
  ·rename_i hcond
   obtain ⟨hh1, hlen⟩ := hcond
   simp only [Option.some.injEq, Prod.mk.injEq] at hs
   obtain ⟨rfl, rfl⟩ := hs
   have hvx := (rd_sound hE hx hf hrd).1
   generalize hv : a.eval x = v at hvx
   cases hvx with
   | str s0 =>
     have hl : (ofBytes s0.data.toList).length = s0.size := by simp only [ofBytes, List.length_map, Array.length_toList]; rfl
     have hl2 : s0.data.toList.length = s0.size := Array.length_toList
     refine append_core (xs := ofBytes s0.data.toList) (news := byteCells s0) hE nm ho hf hop hdst hts hn hz hs' htk hh1 (by omega) (by rw [hb1]; omega) (ofBytes_R _ _ _) ?_ hk
     rw [hv, hl]
     exact Src.ofString w htx s0
  ·simp at hs
 ·simp at hs
theorem bytesOf_cells {fix : Nat → Nat → Prop} {hp : Nat → Option Nat} {v : Value} {es : List PV} {bs : List UInt8} (h : VR N w fix hp v (.list false es)) (hb : bytesOf es = some bs) :
  (∃ l c, v = .slice none l c ∧ bs = []) ∨ ∃ ad c, v = .slice (some ad) bs.length c ∧ ((bs = []) ∨ (ad.spot = none ∧ ∀ i, i < bs.length → w.cell? ⟨ad.block, ad.off + i, none⟩ = some (.int .u8 ((bs.map fun b => (b.toNat : Int)).getD i 0)))) := by
 have key : ∀ {es : List PV} {bs : List UInt8}, bytesOf es = some bs → es.length = bs.length ∧ ∀ (i : Nat) (e : PV), es[i]? = some e → e = .int .u8 ((bs.map fun b => (b.toNat : Int)).getD i 0) := by
  intro es
  induction es with
  | nil => intro bs h; simp [bytesOf] at h; subst h; simp
  | cons x xs ih =>
    intro bs h
    unfold bytesOf at h
    split at h
    ·rename_i h0; simp at h0
    ·rename_i n r h0
     simp only [List.cons.injEq] at h0
     obtain ⟨rfl, rfl⟩ := h0
     split at h
     ·rename_i hn
      simp only [Option.map_eq_some_iff] at h
      obtain ⟨bs', h1, rfl⟩ := h
      obtain ⟨k1, k2⟩ := ih h1
      refine ⟨by simp [k1], ?_⟩
      intro i e he
      cases i with
      | zero =>
        simp at he; subst he
        have : (UInt8.ofNat n.toNat).toNat = n.toNat := by simp [UInt8.toNat_ofNat']; omega
        simp [this]; omega
      | succ i =>
        have := k2 i e (by simpa using he)
        simpa using this
     ·simp at h
    ·simp at h
 obtain ⟨k1, k2⟩ := key hb
 cases h with
 | nils => simp at k1; exact .inl ⟨_, _, rfl, List.eq_nil_of_length_eq_zero k1.symm⟩
 | void _ ad cap => simp at k1; refine .inr ⟨ad, cap, ?_, .inl (List.eq_nil_of_length_eq_zero k1.symm)⟩; rw [← k1]
 | list _ b off len cap sz _ cv hlen hcap hsz hflat hcell hvr =>
   refine .inr ⟨⟨b, off, none⟩, cap, by rw [← k1, hlen], .inr ⟨rfl, ?_⟩⟩
   intro i hi
   have hlt : i < es.length := by omega
   have he := List.getElem?_eq_getElem hlt
   have hev := k2 i _ he
   have hs1 : sz = 1 := by rw [← hsz _ (List.getElem_mem hlt), hev]; rfl
   subst hs1
   have h1 := hvr i _ he 0 (es[i]) (by rw [hev]; rfl)
   rw [hev] at h1
   have h2 := (hcell i (by omega)).1
   rw [Nat.mul_one, Nat.add_zero] at h1
   generalize hg : cv i = c at h1 h2
   cases h1
   exact h2
theorem strOfNums_ofBytes (bs : List UInt8) : strOfNums (bs.map fun b => (b.toNat : Int)) = ⟨bs.toArray⟩ := by
 have := strOfNums_data (bs.map fun b => (b.toNat : Int))
 have h2 : (strOfNums (bs.map fun b => (b.toNat : Int))).data.toList = bs := by
  rw [this, List.map_map]
  conv => rhs; rw [← List.map_id bs]
  apply List.map_congr_left
  intro b _
  simp
 generalize strOfNums (bs.map fun b => (b.toNat : Int)) = x at h2
 cases x with
 | mk d => simp at h2; subst h2; simp
theorem b2s_sound (hE : EnvOk E N) (nm : Names vs (lmap vs ops)) (ho : ops[j]? = some o) (hf : FI N w G st a vs (lmap vs ops)) {src dst e : TypeId} {x : Operand} {px : PX} (hop : o.op = .convert src dst x)
  (hs1 : P.underlying src = some (.slice e)) (he : P.underlying e = some (.int .u8)) (hd : P.underlying dst = some .string) (hx : cx E vs ops x = some px) {cf : CallF} (hs : opv cf (.b2s px) st = some (u, st1)) (hk : Goes N w G a st1 u vs ops j o next) : o.wp P a w next Q := by
 simp only [opv] at hs
 split at hs
 ·rename_i es hrd
  simp only [Option.map_eq_some_iff, Prod.mk.injEq] at hs
  obtain ⟨bs, hbs, rfl, rfl⟩ := hs
  simp only [Option.bind_eq_some_iff] at hrd
  obtain ⟨p0, hp0, hrow⟩ := hrd
  have hv := (rd_sound hE hx hf hp0).1.row hrow
  have hrun : (convert src dst (a.eval x)).run P w = .ok (.string ⟨bs.toArray⟩) w := by
   rcases bytesOf_cells hv hbs with ⟨l, c, h1, rfl⟩ | ⟨ad, c, h1, h2⟩
   ·rw [h1, run_convert_bytes_nil (w := w) src e hs1 he l c dst hd]; rfl
   ·rw [h1]
    rcases h2 with rfl | ⟨hsp, h2⟩
    ·rw [run_convert_bytes_string w src dst e _ _ _ hs1 he hd]
     have := run_bytesToString (P := P) w ad 0 c [] (by simpa using run_loadCells_list (P := P) w ad [] (by simp))
     exact this
    ·obtain ⟨b, off, sp⟩ := ad
     simp only at hsp; subst hsp
     have := run_convert_bytes_arg (w := w) src e hs1 he b off bs.length c (bs.map fun b => (b.toNat : Int)) (by simp) h2 dst hd
     rw [this, strOfNums_ofBytes]
  refine wp_value (v := .string ⟨bs.toArray⟩) nm ho hf (by simp [execOp, hop, hrun]) (SR.of_pure ?_ rfl) hk
  have := VR.str (N := N) (w := w) (fix := G.fix) (hp := G.heap) ⟨bs.toArray⟩
  simpa using this
 ·simp at hs
theorem sliceLoc_sound (hE : EnvOk E N) (nm : Names vs (lmap vs ops)) (ho : ops[j]? = some o) (hf : FI N w G st a vs (lmap vs ops)) {t e : TypeId} {n : Nat} {x : Operand} {px : PX} (hop : o.op = .slice t x none none none)
  (hu : P.underlying t = some (.array n e)) (hn : sizeT P e = some 1) (hx : cx E vs ops x = some px) {cf : CallF} (hs : opv cf (.sliceLoc n px) st = some (u, st1)) (hk : Goes N w G a st1 u vs ops j o next) : o.wp P a w next Q := by
 simp only [opv] at hs
 split at hs
 ·rename_i i g cs hraw
  split at hs
  ·rename_i hlen
   simp only [Option.some.injEq, Prod.mk.injEq] at hs
   obtain ⟨rfl, rfl⟩ := hs
   have hvi : st.vars[i]? = some (.loc g cs) := hraw
   have hsr := raw_sound hE hx hf hraw
   obtain ⟨b0, i0, hk0, hv, hb0, _⟩ := hsr
   obtain ⟨tt, ht1, ht2, ht3, ht4, cv, T, hh, hl, hc⟩ := box_open hf hvi hb0
   obtain ⟨hR, hcell⟩ := cells_of_box hh hl hc
   let G' : GS := { G with fix := fun b o => G.fix b o ∨ b = b0 }
   have hext : Ext w G w G' := by
    refine ⟨rfl, rfl, rfl, Nat.le_refl _, fun _ _ _ => rfl, fun _ _ h => ⟨.inl h, rfl⟩, ?_, fun _ h => .inr h, fun _ _ h => h, ShapeLe.refl w, rfl⟩
    rintro b o (h | h)
    ·exact .inl h
    ·exact .inr (.inr (by rw [h, ht3]; simp))
   have hkeep : Keep (fun k => k = .var i) w G w G' := by
    refine ⟨?_, fun _ _ h => h⟩
    intro b k hb hnk
    refine ⟨hb, rfl, ?_⟩
    rintro o (h | h)
    ·exact h
    ·subst h; rw [ht3] at hb; simp at hb; exact absurd hb.symm hnk
   have hb0lt := hf.owlt _ _ ht3
   have hf1 : FI N w G' { st with vars := st.vars.set i .dead } a vs (lmap vs ops) := by
    refine ⟨by simp [hf.len], ?_, fun j' t' u' h1 h2 => (hf.loc j' t' u' h1 h2).keep hext hkeep (by simp) (by simp), hf.tv, hf.tl, hf.defers, hf.gen, hf.owlt, ?_, hf.heap.keep hext hkeep (by rintro k hk rfl; simp [Key.isH] at hk), hf.hdom⟩
    ·intro i' t' u' h1 h2
     simp only [List.getElem?_set] at h2
     split at h2
     ·split at h2
      ·simp at h2; subst h2; trivial
      ·simp at h2
     ·rename_i hi
      exact (hf.var i' t' u' h1 h2).keep hext hkeep (by simp; omega) (by simp)
    ·rintro b o (h | h)
     ·exact hf.fixlt _ _ h
     ·omega
   have hrun : (execOp a.eval o).run P w = .ok (.value (.slice (some ⟨b0, 0, none⟩) n n)) w := by
    have hz : (if n = 0 then (⟨b0, 0, none⟩ : Addr) else (⟨b0, 0, none⟩ : Addr).add (0 * 1)) = ⟨b0, 0, none⟩ := by simp [addr_add]
    simp [execOp, hop, hv, Instr.sliceAt, run_underlying hu, Instr.sureAddr, Instr.sliceBounds, run_sizeT hn, hz]
   unfold Oper.wp
   rw [hrun]
   refine hk _ _ G' (hf1.put nm (cDst_ok ho) ⟨?_, .inl rfl⟩) hext (put_size _ _ _)
   have hfl : ∀ x ∈ cs, x.cells = [x] := by
    intro x hx
    have := hR.2.1 x hx
    cases x <;> first | rfl | simp [PV.flat] at this
   rw [← hlen]
   refine list_mk (size := 1) (news := cv.toList) ⟨?_, ?_, ?_, ?_⟩ (Nat.le_refl _) ?_
   ·simpa using hl
   ·intro e he; rw [hfl e he]; rfl
   ·intro e he y hy; rw [hfl e he] at hy; simp at hy; subst hy; exact hR.2.1 _ he
   ·intro k e he m c y hcc hy
    rw [hfl e (List.mem_of_getElem? he)] at hy
    have hm : m = 0 := by
     cases m with
     | zero => rfl
     | succ m => simp at hy
    subst hm
    simp at hy; subst hy
    exact (hR.2.2 k c _ (by simpa using hcc) he).ext hext
   ·intro k v hv'
    exact ⟨by rw [Nat.zero_add]; exact hcell k v hv', .inr rfl⟩
  ·simp at hs
 ·simp at hs
end
end PI
set_option linter.unusedSimpArgs false
set_option linter.unusedVariables false
namespace PI
open Go
section
variable {E : Env} {N : Nm} {w : World} {G : GS} {st : St} {a : Act} {vs : List Tmp} {ops : List Oper} {P : Program}
variable {o : Oper} {j : Nat} {next : Act → World → Prop} {Q : Exit → Act → World → Prop} {u : PV} {st1 : St}
def GS.more (G : GS) (b n : Nat) : GS := { G with ow := fun x => if x = b then some (.hobj n) else G.ow x, heap := fun m => if m = n then some b else G.heap m }
theorem obj_new (nm : Names vs (lmap vs ops)) (ho : ops[j]? = some o) (hf : FI N w G st a vs (lmap vs ops)) {ob : PObj} {mob : Obj} {v : Value} {u : PV}
  (hrun : (execOp a.eval o).run P w = .ok (.value v) (w.alloc mob)) (hv : ∀ G', G' = G.more w.heap.size st.heap.length → SR N (w.alloc mob) G' (keyD (cDst vs o.dst) j) v u)
  (hR : ∀ G', G' = G.more w.heap.size st.heap.length → Ext w G (w.alloc mob) G' → ObjR N (w.alloc mob) G' st.heap.length w.heap.size ob)
  (hk : Goes N w G a { st with heap := st.heap ++ [ob] } u vs ops j o next) : o.wp P a w next Q := by
 unfold Oper.wp
 rw [hrun]
 let G' : GS := G.more w.heap.size st.heap.length
 have hext : Ext w G (w.alloc mob) G' := by
  refine ⟨rfl, rfl, rfl, by simp, fun b hb _ => alloc_heap_old hb, fun b o h => ⟨h, alloc_cell_old (hf.fixlt _ _ h)⟩, fun _ _ h => .inl h, ?_, ?_, .same fun k hk => alloc_heap_old hk, rfl⟩
  ·intro b hb
   by_cases hlt : b < w.heap.size
   ·refine .inr ?_
    simp only [G', GS.more] at hb
    rw [if_neg (by omega)] at hb
    exact hb
   ·exact .inl (by omega)
  ·intro n b h
   have := hf.hdom _ _ h
   simp only [G', GS.more]
   rw [if_neg (by omega)]; exact h
 have hkeep : Keep (fun _ => False) w G (w.alloc mob) G' := by
  refine ⟨?_, fun _ _ h => h⟩
  intro b k hb _
  have hlt := hf.owlt _ _ hb
  refine ⟨?_, alloc_heap_old hlt, fun _ h => h⟩
  simp only [G', GS.more]
  rw [if_neg (by omega)]; exact hb
 have hf1 : FI N (w.alloc mob) G' { st with heap := st.heap ++ [ob] } a vs (lmap vs ops) := by
  refine ⟨hf.len, fun i t u h1 h2 => (hf.var i t u h1 h2).keep hext hkeep (fun h => h) (fun _ _ _ h => h), fun j t u h1 h2 => (hf.loc j t u h1 h2).keep hext hkeep (fun h => h) (fun _ _ _ h => h), hf.tv, hf.tl, hf.defers, hf.gen, ?_, ?_, ?_, ?_⟩
  ·intro b k hb
   simp only [G', GS.more] at hb
   split at hb
   ·simp; omega
   ·have := hf.owlt _ _ hb; simp; omega
  ·intro b o h; have := hf.fixlt _ _ h; simp; omega
  ·exact hf.heap.push hext hkeep (fun _ _ _ => ⟨fun h => h, fun h => h⟩) (.inr ⟨w.heap.size, by simp [G', GS.more], by simp [G', GS.more], hR G' rfl hext⟩)
  ·intro n b h
   simp only [G', GS.more] at h
   simp only [List.length_append, List.length_singleton]
   split at h
   ·omega
   ·have := hf.hdom _ _ h; omega
 exact hk _ _ G' (hf1.put nm (cDst_ok ho) (hv _ rfl)) hext (put_size _ _ _)
theorem obj_cells (hf : FI N w G st a vs (lmap vs ops)) {cs : Array Value} {ps : List PV} {T : TypeId}
  (hR : ∀ (k : Nat) (c : Value) (x : PV), cs[k]? = some c → ps[k]? = some x → VR N w G.fix G.heap c x ∧ x.flat = true ∧ (∀ es, x = .list true es → c = .slice none 0 0)) (hl : cs.size = ps.length)
  {G' : GS} (hG : G' = G.more w.heap.size st.heap.length) (hext : Ext w G (w.alloc (.cells cs T)) G') : ObjR N (w.alloc (.cells cs T)) G' st.heap.length w.heap.size (.cells ps) := by
 subst hG
 have hnofix : ∀ o, ¬ G.fix w.heap.size o := fun o h => by have := hf.fixlt _ _ h; omega
 refine ⟨hnofix, cs, T, alloc_heap_new, Nat.le_of_eq hl.symm, ?_⟩
 intro k c x hc hx
 obtain ⟨h1, h2, h3⟩ := hR k c x hc hx
 refine ⟨h1.ext hext, h2, ?_⟩
 split
 ·rename_i es
  have := h3 es rfl
  subst this
  trivial
 ·trivial
theorem newobj_sound (nm : Names vs (lmap vs ops)) (ho : ops[j]? = some o) (hf : FI N w G st a vs (lmap vs ops)) {t : TypeId} {z : List PV} (hop : o.op = .alloc t) (hz : zeroT P t = some z) {cf : CallF}
  (hs : hopv cf (.newobj z) st = some (u, st1)) (hk : Goes N w G a st1 u vs ops j o next) : o.wp P a w next Q := by
 simp only [hopv, Option.some.injEq, Prod.mk.injEq] at hs
 obtain ⟨rfl, rfl⟩ := hs
 obtain ⟨ti, zv, h1, h2, h3, h4, h5, _⟩ := zeroT_sound (N := N) (w := w) (fix := G.fix) (hp := G.heap) hz
 refine obj_new (mob := .cells zv.cells t) (v := .pointer (some ⟨w.heap.size, 0, none⟩)) nm ho hf ?_ ?_ (fun G' hG hext => obj_cells hf ?_ ?_ hG hext) hk
 ·simp [execOp, hop, Instr.alloc, zeroValue, typeInfo, h1, h2, newVar, newRow]
 ·rintro G' rfl
  exact .ptr _ _ w.heap.size (by simp [GS.more])
 ·intro k c x hc hx
  refine ⟨h5.2.2 k c x (by simpa using hc) hx, h5.2.1 x (List.mem_of_getElem? hx), ?_⟩
  rintro es rfl
  unfold zeroT at hz
  simp only [h1, h2, Option.bind_eq_some_iff] at hz
  obtain ⟨cs', hcs, hz⟩ := hz
  split at hz
  ·simp at hz; subst hz
   exact constAll_own hcs k c es (by simpa using hc) hx
  ·simp at hz
 ·have := h5.1; simpa using this
theorem boxobj_sound (hE : EnvOk E N) (nm : Names vs (lmap vs ops)) (ho : ops[j]? = some o) (hf : FI N w G st a vs (lmap vs ops)) {t : TypeId} {n : Nat} {x : Operand} {px : PX} (hop : o.op = .box t x) (hn : sizeT P t = some n) (hx : cx E vs ops x = some px)
  {cf : CallF} (hs : hopv cf (.boxobj n px) st = some (u, st1)) (hk : Goes N w G a st1 u vs ops j o next) : o.wp P a w next Q := by
 simp only [hopv] at hs
 split at hs
 ·rename_i p hp
  split at hs
  ·rename_i hl
   simp only [Option.some.injEq, Prod.mk.injEq] at hs
   obtain ⟨rfl, rfl⟩ := hs
   obtain ⟨_, _, _, _, hn0, _⟩ := info_underlying hn
   have hv := (rd_sound hE hx hf hp).1
   have hcells := (CellsR.of_cells hv (by intro e; rw [e] at hl; simp at hl; omega))
   refine obj_new (mob := .cells (a.eval x).cells t) (v := .pointer (some ⟨w.heap.size, 0, none⟩)) nm ho hf ?_ ?_ (fun G' hG hext => obj_cells hf ?_ ?_ hG hext) hk
   ·simp [execOp, hop, Instr.box, newVar, newRow]
   ·rintro G' rfl
    exact .ptr _ _ w.heap.size (by simp [GS.more])
   ·intro k c y hc hy
    refine ⟨hcells.2.2 k c y (by simpa using hc) hy, hcells.2.1 y (List.mem_of_getElem? hy), ?_⟩
    rintro es rfl
    have hno : ∀ es, p ≠ .list true es := by
     rintro es rfl
     unfold rd at hp
     cases h1 : raw st px with
     | none => rw [h1] at hp; simp at hp
     | some q => rw [h1] at hp; cases q <;> simp [cp] at hp
    generalize a.eval x = v at hv hc
    cases hv with
    | agg cs ps hlen hflat hown hcell => exact hown k c es hc hy
    | _ =>
      exfalso
      cases k with
      | succ k => simp [PV.cells] at hy
      | zero =>
        simp [PV.cells] at hy
        try (obtain ⟨rfl, rfl⟩ := hy; exact hno _ rfl)
        try (subst hy; exact hno _ rfl)
   ·have := hcells.1; simpa using this
  ·simp at hs
 ·simp at hs
theorem mkmap_sound (nm : Names vs (lmap vs ops)) (ho : ops[j]? = some o) (hf : FI N w G st a vs (lmap vs ops)) {t : TypeId} (hop : o.op = .makeMap t none) {cf : CallF}
  (hs : hopv cf .mkmap st = some (u, st1)) (hk : Goes N w G a st1 u vs ops j o next) : o.wp P a w next Q := by
 simp only [hopv, Option.some.injEq, Prod.mk.injEq] at hs
 obtain ⟨rfl, rfl⟩ := hs
 refine obj_new (mob := .map #[] 0) (v := .map (some w.heap.size)) nm ho hf ?_ ?_ ?_ hk
 ·simp [execOp, hop, Instr.makeMap]
 ·rintro G' rfl
  exact .map _ w.heap.size (by simp [GS.more])
 ·rintro G' rfl hext
  exact ⟨#[], 0, alloc_heap_new, rfl, by simp, by simp, by simp⟩
theorem obj_open (hf : FI N w G st a vs (lmap vs ops)) {n b : Nat} {cs : List PV} (hg : hget st n = some cs) (hb : G.heap n = some b) :
  G.ow b = some (.hobj n) ∧ (∀ o, ¬ G.fix b o) ∧ ∃ cv T, w.heap[b]? = some (.cells cv T (0, 0)) ∧ cs.length ≤ cv.size ∧ ∀ (k : Nat) (c : Value) (x : PV), cv[k]? = some c → cs[k]? = some x → CR N w G (.hcell n k) c x := by
 unfold hget at hg
 split at hg
 ·rename_i cs' hn
  simp at hg; subst hg
  rcases hf.heap.1 n _ hn with e | ⟨b', h1, h2, h3, h4⟩
  ·simp at e
  have : b' = b := by rw [hb] at h1; simpa using h1.symm
  subst this
  exact ⟨h2, h3, h4⟩
 ·simp at hg
theorem cells_of_obj {b n : Nat} {cv : Array Value} {T : TypeId} {cs : List PV} (hh : w.heap[b]? = some (.cells cv T (0, 0))) (hl : cs.length ≤ cv.size)
  (hc : ∀ (k : Nat) (c : Value) (x : PV), cv[k]? = some c → cs[k]? = some x → CR N w G (.hcell n k) c x) :
  CellsR N w G.fix G.heap (cv.toList.take cs.length) cs ∧ ∀ (k : Nat) (v : Value), (cv.toList.take cs.length)[k]? = some v → w.cell? ⟨b, k, none⟩ = some v := by
 have get : ∀ (k : Nat) (v : Value), (cv.toList.take cs.length)[k]? = some v → cv[k]? = some v := by
  intro k v hv
  rw [List.getElem?_take] at hv
  split at hv
  ·simpa using hv
  ·simp at hv
 refine ⟨⟨by simp; omega, ?_, fun i c x h1 h2 => (hc i c x (get i c h1) h2).1⟩, ?_⟩
 ·intro x hx
  obtain ⟨i, hi⟩ := List.mem_iff_getElem?.1 hx
  have hlt : i < cv.size := by have := (List.getElem?_eq_some_iff.1 hi).1; omega
  exact (hc i cv[i] x (by simp [hlt]) hi).2.1
 ·intro k v hv
  simp [World.cell?, hh, get k v hv]
theorem addr_ptr (hE : EnvOk E N) {x : Operand} {px : PX} {n off : Nat} (hc : cx E vs ops x = some px) (hf : FI N w G st a vs (lmap vs ops)) (hr : addr st px = some (.ptr n off)) :
  ∃ b, a.eval x = .pointer (some ⟨b, off, none⟩) ∧ G.heap n = some b := by
 rcases addr_sound hE hc hf hr with ⟨_, _, _, _, h, _⟩ | ⟨h, _⟩
 ·simp at h
 ·generalize a.eval x = v at h
  cases h with
  | ptr _ _ b hb => exact ⟨b, rfl, hb⟩
theorem hload_sound (hE : EnvOk E N) (nm : Names vs (lmap vs ops)) (ho : ops[j]? = some o) (hf : FI N w G st a vs (lmap vs ops)) {t : TypeId} {n : Nat} {x : Operand} {px : PX} {tk : Bool} (hop : o.op = .load t x) (hn : sizeT P t = some n)
  (hx : cx E vs ops x = some px) {cf : CallF} (hs : hopv cf (.load n (isAggT P t) px tk) st = some (u, st1)) (hk : Goes N w G a st1 u vs ops j o next) : o.wp P a w next Q := by
 have plain : ∀ r, (Instr.loadAt t (a.eval x)).run P w = .ok r w → (execOp a.eval o).run P w = .ok (.value r) w := by
  intro r hr
  simp [execOp, hop, hr]
 have hn0 : n ≠ 0 := by obtain ⟨_, _, _, _, h, _⟩ := info_underlying hn; exact h
 simp only [hopv] at hs
 split at hs
 ·rename_i cs ha
  simp only [Option.map_eq_some_iff, Prod.mk.injEq] at hs
  obtain ⟨r, hr, rfl, rfl⟩ := hs
  rcases addr_sound hE hx hf ha with ⟨_, _, _, _, h, _⟩ | ⟨h, _⟩
  ·simp at h
  ·obtain ⟨r', h1, h2, h3⟩ := load_cptr (P := P) hn h hr
   exact wp_value nm ho hf (plain _ h1) (SR.of_pure h2 h3) hk
 ·rename_i m off ha
  obtain ⟨b, hv, hb⟩ := addr_ptr hE hx hf ha
  simp only [Option.bind_eq_some_iff] at hs
  obtain ⟨cs, hg, hs⟩ := hs
  obtain ⟨ho1, ho2, cv, T, hh, hl, hc⟩ := obj_open hf hg hb
  split at hs
  ·rename_i es htk hcell
   simp only [Option.some.injEq, Prod.mk.injEq] at hs
   obtain ⟨rfl, rfl⟩ := hs
   simp only [Bool.and_eq_true, Bool.not_eq_true'] at htk
   have hlt : off < cv.size := by have := (List.getElem?_eq_some_iff.1 hcell).1; omega
   obtain ⟨hvr, _, hroom⟩ := hc off cv[off] _ (by simp [hlt]) hcell
   obtain ⟨G', hG, hroom'⟩ := Room.give (key' := keyD (cDst vs o.dst) j) hroom
   have hgg : G'.box = G.box ∧ G'.fix = G.fix ∧ G'.heap = G.heap := by
    rcases hG with rfl | ⟨b, _, rfl⟩ <;> exact ⟨rfl, rfl, rfl⟩
   have hext : Ext w G w G' := by
    rcases hG with rfl | ⟨b, hb, rfl⟩
    ·exact Ext.refl _ _
    ·exact give_ext b _ (fun _ => by simp [hb])
   have hkeep : Keep (fun k => k = .hcell m off) w G w G' := by
    rcases hG with rfl | ⟨b, hb, rfl⟩
    ·exact ⟨fun b k h _ => ⟨h, rfl, fun _ h => h⟩, fun _ _ h => h⟩
    ·exact give_keep b _ (fun k' hk' => by rw [hb] at hk'; simpa using hk'.symm)
   have hf1 : FI N w G' (hset st m (.cells (cs.set off (.list false es)))) a vs (lmap vs ops) := by
    refine ⟨hf.len, fun i t' u' h1 h2 => (hf.var i t' u' h1 h2).keep hext hkeep (by simp) (by simp), fun i t' u' h1 h2 => (hf.loc i t' u' h1 h2).keep hext hkeep (by simp) (by simp), hf.tv, hf.tl, (hf.defers.trans hext.df.symm), by rw [hgg.1]; exact hf.gen, ?_, by rw [hgg.2.1]; exact hf.fixlt, ?_, ?_⟩
    ·intro b' k hb'
     rcases hG with rfl | ⟨b2, hb2, rfl⟩
     ·exact hf.owlt _ _ hb'
     ·simp only [GS.give] at hb'
      split at hb'
      ·subst_vars; exact hf.owlt _ _ hb2
      ·exact hf.owlt _ _ hb'
    ·refine hf.heap.keepBut hext hkeep (fun n k hne => ⟨by simp, by simp; omega⟩) (fun _ => ?_)
     refine .inr ⟨b, hext.heap _ _ hb, (hkeep.1 _ _ ho1 (by simp)).1, by rw [hgg.2.1]; exact ho2, cv, T, hh, by simp [hl], ?_⟩
     intro k c y hc1 hy
     rw [List.getElem?_set] at hy
     split at hy
     ·rename_i hk2
      subst hk2
      split at hy
      ·simp at hy; subst hy
       have : c = cv[off] := by simp [hlt] at hc1; exact hc1.symm
       subst this
       exact ⟨(hvr.dem).ext hext, rfl, trivial⟩
      ·simp at hy
     ·rename_i hk2
      exact (hc k c y hc1 hy).keep hext hkeep (by simp; omega)
    ·rw [hgg.2.2]; simp only [hset, List.length_set]; exact hf.hdom
   unfold Oper.wp
   have hrun : (Instr.loadAt t (a.eval x)).run P w = .ok cv[off] w := by
    have hcl : w.cell? ⟨b, off, none⟩ = some cv[off] := by simp [World.cell?, hh, hlt]
    rw [hv]
    simp [Instr.loadAt, Instr.sureAddr, loadVar, run_isAggT hn, htk.2, hcl]
   rw [plain _ hrun]
   exact hk _ _ G' (hf1.put nm (cDst_ok ho) ⟨hvr.ext hext, hroom'⟩) hext (put_size _ _ _)
  ·simp only [Option.map_eq_some_iff, Prod.mk.injEq] at hs
   obtain ⟨r, hr, rfl, rfl⟩ := hs
   obtain ⟨hR, hcell⟩ := cells_of_obj hh hl hc
   obtain ⟨k1, k2, k3⟩ := loadFrom_sound hR hr hn0 (sizeT_one hn)
   have := run_loadVarT (w := w) hn b off ((cv.toList.take cs.length).drop off) (by simp at k1 ⊢; omega) (fun j v hv => by
    rw [List.getElem?_drop] at hv
    exact hcell _ _ hv)
   refine wp_value nm ho hf (plain _ ?_) (SR.of_pure k2 k3) hk
   rw [hv]
   simpa [Instr.loadAt, Instr.sureAddr] using this
 ·simp at hs
theorem storeInto_sound {n off : Nat} {t : TypeId} {cv : Array Value} {cs cs' : List PV} {v : PV} {val : Value} (hl : cs.length ≤ cv.size) (hn : sizeT P t = some n) (hst : storeInto n (isAggT P t) cs off v = some cs') (hvr : VR N w G.fix G.heap val v) :
  ∃ nc : List Value, val.cells.toList = nc ∧ nc.length = n ∧ off + n ≤ cv.size ∧ (∀ c ∈ nc, c.oneCell' = true) ∧ cs'.length = cs.length ∧
    ∀ (k : Nat) (c : Value) (z : PV), (cv.toList.take off ++ nc ++ cv.toList.drop (off + n))[k]? = some c → cs'[k]? = some z →
      (cv[k]? = some c ∧ cs[k]? = some z) ∨ (VR N w G.fix G.heap c z ∧ z.flat = true ∧ ∀ es, z = .list true es → (k = off ∧ c = val ∧ v = .list true es) ∨ c = .slice none 0 0) := by
 unfold storeInto at hst
 split at hst
 ·rename_i hagg
  split at hst
  ·rename_i ws
   split at hst
   ·rename_i hcond
    simp only [Option.some.injEq] at hst; subst hst
    obtain ⟨ca, hca, hR⟩ := CellsR.of_agg hvr
    have hO : OwnNil ca.toList ws := OwnNil.of_agg (hca ▸ hvr)
    have hcl : val.cells.toList = ca.toList := by rw [hca]; rfl
    have hlen : ca.toList.length = n := by have := hR.1; omega
    refine ⟨ca.toList, hcl, hlen, by omega, ?_, by simp; omega, ?_⟩
    ·intro c hcm
     obtain ⟨i, hi⟩ := List.mem_iff_getElem?.1 hcm
     have hlt : i < ws.length := by have := (List.getElem?_eq_some_iff.1 hi).1; have := hR.1; omega
     have h1 := hR.2.2 i c ws[i] hi (List.getElem?_eq_getElem hlt)
     have h2 := h1.oneCell (hR.2.1 _ (List.getElem_mem hlt))
     cases c <;> first | rfl | simp [oneCell] at h2
    ·intro k c z hc1 hz
     rw [List.append_assoc] at hc1
     have hoff : (cv.toList.take off).length = off := by simp; omega
     have hoff' : (cs.take off).length = off := by simp; omega
     by_cases h1 : k < off
     ·rw [List.getElem?_append_left (by omega), List.getElem?_take, if_pos h1] at hc1
      rw [List.getElem?_append_left (by omega), List.getElem?_take, if_pos h1] at hz
      exact .inl ⟨by simpa using hc1, hz⟩
     ·rw [List.getElem?_append_right (by omega), hoff] at hc1
      rw [List.getElem?_append_right (by omega), hoff'] at hz
      by_cases h2 : k < off + n
      ·rw [List.getElem?_append_left (by omega)] at hc1
       rw [List.getElem?_append_left (by omega)] at hz
       refine .inr ⟨hR.2.2 _ c z hc1 hz, hR.2.1 z (List.mem_of_getElem? hz), ?_⟩
       rintro es rfl
       exact .inr (hO _ c es hc1 hz)
      ·rw [List.getElem?_append_right (by omega), List.getElem?_drop, hlen] at hc1
       rw [List.getElem?_append_right (by omega), List.getElem?_drop, hcond.1] at hz
       rw [show off + n + (k - off - n) = k by omega] at hc1 hz
       exact .inl ⟨by simpa using hc1, hz⟩
   ·simp at hst
  ·simp at hst
 ·rename_i hagg
  have hn1 := sizeT_one hn (by simpa using hagg)
  subst hn1
  split at hst
  ·rename_i hcond
   simp only [Option.some.injEq] at hst; subst hst
   have h1 := hvr.oneCell hcond.2
   have hcl : val.cells.toList = [val] := by
    cases val <;> first | rfl | simp [oneCell] at h1
   refine ⟨[val], hcl, rfl, by omega, ?_, by simp, ?_⟩
   ·intro c hcm
    simp at hcm; subst hcm
    cases c <;> first | rfl | simp [oneCell] at h1
   ·intro k c z hc1 hz
    rw [List.append_assoc] at hc1
    have hoff : (cv.toList.take off).length = off := by simp; omega
    rw [List.getElem?_set] at hz
    split at hz
    ·rename_i hko
     subst hko
     split at hz
     ·simp at hz; subst hz
      rw [List.getElem?_append_right (by omega), hoff] at hc1
      simp at hc1; subst hc1
      exact .inr ⟨hvr, hcond.2, fun es e => .inl ⟨rfl, rfl, e⟩⟩
     ·simp at hz
    ·rename_i hko
     refine .inl ⟨?_, hz⟩
     by_cases h1 : k < off
     ·rw [List.getElem?_append_left (by omega), List.getElem?_take, if_pos h1] at hc1
      simpa using hc1
     ·rw [List.getElem?_append_right (by omega), hoff, List.getElem?_append_right (by simp; omega), List.getElem?_drop] at hc1
      simp only [List.length_singleton] at hc1
      rw [show off + 1 + (k - off - 1) = k by omega] at hc1
      simpa using hc1
  ·simp at hst
theorem hstore_sound (hE : EnvOk E N) (nm : Names vs (lmap vs ops)) (ho : ops[j]? = some o) (hf : FI N w G st a vs (lmap vs ops)) {t : TypeId} {n : Nat} {x y : Operand} {px py : PX} (hop : o.op = .store t x y) (hdst : o.dst = none) (hn : sizeT P t = some n)
  (hx : cx E vs ops x = some px) (hy : cx E vs ops y = some py) {cf : CallF} (hs : hopv cf (.store n (isAggT P t) px py) st = some (u, st1)) (hk : Goes N w G a st1 u vs ops j o next) : o.wp P a w next Q := by
 simp only [hopv] at hs
 split at hs
 ·rename_i m off v st' ha htk
  obtain ⟨b, hv, hb⟩ := addr_ptr hE hx hf ha
  obtain ⟨G1, hf1, hext1, hbox1, hfix1, hheap1, hvr, htaken, _, _, _⟩ := tk_sound hE hy hf htk (.hcell m off)
  simp only [Option.bind_eq_some_iff, Option.map_eq_some_iff, Prod.mk.injEq] at hs
  obtain ⟨cs, hg, cs', hst, rfl, rfl⟩ := hs
  have hb1 : G1.heap m = some b := by rw [hheap1]; exact hb
  obtain ⟨ho1, ho2, cv, T, hh, hl, hc⟩ := obj_open hf1 hg hb1
  obtain ⟨nc, hnc, hlen, hfit, hone, hlcs, hcells⟩ := storeInto_sound hl hn hst hvr
  have hrun : (execOp a.eval o).run P w = .ok .skip (w.setRow b (cv.toList.take off ++ nc ++ cv.toList.drop (off + n)).toArray) := by
   have hst := run_storeCells_at P b off T nc 0 cv w hh (by simp; omega) hone
   simp only [Nat.add_zero, hlen] at hst
   have hsz : (a.eval y).cells.size = n := by rw [← hlen, ← hnc]; simp
   simp [execOp, hop, Instr.storeAt, hv, Instr.sureAddr, storeVar, run_sizeT hn, hsz, hnc, hst]
  unfold Oper.wp
  rw [hrun]
  have hblt : b < w.heap.size := hf1.owlt _ _ ho1
  have hother : ∀ x, x ≠ b → (w.setRow b (cv.toList.take off ++ nc ++ cv.toList.drop (off + n)).toArray).heap[x]? = w.heap[x]? := fun x hx => setRow_other w b x _ hx
  have hext2 : Ext w G1 (w.setRow b (cv.toList.take off ++ nc ++ cv.toList.drop (off + n)).toArray) G1 := by
   refine ⟨rfl, rfl, rfl, by simp [World.setRow], ?_, ?_, fun _ _ h => .inl h, fun _ h => .inr h, fun _ _ h => h, shape_setRow hh _ (by simp; omega), rfl⟩
   ·intro x _ hxo
    exact hother x (by rintro rfl; rw [ho1] at hxo; simp at hxo)
   ·intro x o' hfx
    refine ⟨hfx, ?_⟩
    have hxb : x ≠ b := by rintro rfl; exact ho2 _ hfx
    simp only [World.cell?, hother x hxb]
  have hkeep2 : Keep (fun k => k = .hobj m) w G1 (w.setRow b (cv.toList.take off ++ nc ++ cv.toList.drop (off + n)).toArray) G1 := by
   refine ⟨?_, fun _ _ h => h⟩
   intro x k hxk hnk
   refine ⟨hxk, hother x ?_, fun _ h => h⟩
   rintro rfl
   rw [ho1] at hxk
   simp at hxk
   exact hnk hxk.symm
  have hf2 : FI N (w.setRow b (cv.toList.take off ++ nc ++ cv.toList.drop (off + n)).toArray) G1 (hset st' m (.cells cs')) a vs (lmap vs ops) := by
   refine ⟨hf1.len, fun i t' u' h1 h2 => (hf1.var i t' u' h1 h2).keep hext2 hkeep2 (by simp) (by simp), fun i t' u' h1 h2 => (hf1.loc i t' u' h1 h2).keep hext2 hkeep2 (by simp) (by simp), hf1.tv, hf1.tl, hf1.defers, hf1.gen, ?_, ?_, ?_, ?_⟩
   ·intro x k hx; simpa [World.setRow] using hf1.owlt x k hx
   ·intro x o' hx; simpa [World.setRow] using hf1.fixlt x o' hx
   ·refine hf1.heap.keepBut hext2 hkeep2 (fun n k hne => ⟨by simp; omega, by simp⟩) (fun _ => ?_)
    refine .inr ⟨b, hb1, ho1, ho2, _, T, setRow_heap w b cv _ T (0, 0) hh, ?_, ?_⟩
    ·simp; omega
    ·intro k c z hc1 hz
     rcases hcells k c z (by simpa using hc1) hz with ⟨k1, k2⟩ | ⟨k1, k2, k3⟩
     ·exact (hc k c z k1 k2).keep hext2 hkeep2 (by simp)
     ·refine ⟨(hfix1 ▸ hheap1 ▸ k1 : VR N w G1.fix G1.heap c z).ext hext2, k2, ?_⟩
      split
      ·rename_i es
       rcases k3 es rfl with ⟨e1, e2, e3⟩ | e
       ·subst e1 e2 e3
        have hr : Room w G1 (.hcell m k) (a.eval y) es := htaken
        exact hr.keep hkeep2 (by simp)
       ·subst e; trivial
      ·trivial
   ·simp only [hset, List.length_set]; exact hf1.hdom
  have hput : a.put o.dst undef = a := by simp [hdst, Act.put]
  have hd : cDst vs o.dst = .n := by simp [hdst, cDst]
  show next (a.put o.dst undef) _
  rw [hput]
  refine hk _ _ G1 ?_ (hext1.trans hext2) rfl
  rw [hd]
  exact hf2
 ·simp at hs
theorem hstorer_sound (hE : EnvOk E N) (nm : Names vs (lmap vs ops)) (ho : ops[j]? = some o) (hf : FI N w G st a vs (lmap vs ops)) {t : TypeId} {n : Nat} {x y : Operand} {px py : PX} (hop : o.op = .store t x y) (hdst : o.dst = none) (hn : sizeT P t = some n)
  (hx : cx E vs ops x = some px) (hy : cx E vs ops y = some py) {cf : CallF} (hs : hopv cf (.storer n (isAggT P t) px py) st = some (u, st1)) (hk : Goes N w G a st1 u vs ops j o next) : o.wp P a w next Q := by
 refine hstore_sound hE nm ho hf hop hdst hn hx hy (cf := cf) ?_ hk
 simp only [hopv] at hs ⊢
 split at hs
 ·rename_i m off v ha hr
  split at hs
  ·simp at hs
  ·rename_i hl
   have htk : tk st py = some (v, st) := by
    unfold tk
    simp only [rd, Option.bind_eq_some_iff] at hr
    obtain ⟨r, h1, h2⟩ := hr
    rw [h1]
    cases r <;> simp [cp] at h2 <;> subst h2 <;> first | rfl | simp [isList] at hl
   simp only [ha, htk]
   exact hs
 ·simp at hs
theorem hiaddr_sound (hE : EnvOk E N) (nm : Names vs (lmap vs ops)) (ho : ops[j]? = some o) (hf : FI N w G st a vs (lmap vs ops)) {t e : TypeId} {x i : Operand} {px pi : PX} {n len : Nat} (hop : o.op = .indexAddr t x i)
  (hu : P.underlying t = some (.array len e)) (hn : sizeT P e = some n) (hx : cx E vs ops x = some px) (hi : cx E vs ops i = some pi) {cf : CallF} (hs : hopv cf (.iaddr len n px pi) st = some (u, st1)) (hk : Goes N w G a st1 u vs ops j o next) : o.wp P a w next Q := by
 simp only [hopv] at hs
 split at hs
 ·rename_i m off k ha hki
  split at hs
  ·rename_i hb
   simp only [Option.some.injEq, Prod.mk.injEq] at hs
   obtain ⟨rfl, rfl⟩ := hs
   obtain ⟨b, hv, hbb⟩ := addr_ptr hE hx hf ha
   obtain ⟨kk, hik⟩ := rdInt_sound hE hi hf hki
   refine wp_value nm ho hf (v := .pointer (some ⟨b, off + k.toNat * n, none⟩)) ?_ (SR.of_pure (.ptr _ _ b hbb) rfl) hk
   simp [execOp, hop, Instr.indexAt, hik, hv, asIntOf, run_underlying hu, Instr.sureAddr, hb, run_sizeT hn, addr_add]
  ·simp at hs
 ·simp at hs
end
end PI
