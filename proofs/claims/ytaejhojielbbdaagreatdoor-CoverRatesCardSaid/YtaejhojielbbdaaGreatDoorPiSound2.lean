/-
  The pure interpreter is right, 2: the operations that give a value and write nothing.
-/
import Derived.Test.YtaejhojielbbdaaGreatDoorPiSound1
import Derived.Laws.Tables
import Derived.ProofKit
set_option linter.unusedVariables false
set_option linter.unusedSimpArgs false
set_option linter.unusedSectionVars false
namespace PI
open Go
theorem toList_data (s : ByteArray) : s.toList = s.data.toList := ByteArray.toList_eq s
section
variable {E : Env} {N : Nm} {w : World} {G : GS} {st : St} {a : Act} {vs : List Tmp} {ops : List Oper} {P : Program}
theorem sizeT_one {t : TypeId} {n : Nat} (h : sizeT P t = some n) : isAggT P t = false → n = 1 := by
 intro ha
 unfold sizeT at h
 split at h
 ·split at h
  ·simp at h
  ·rename_i hn
   simp only [not_or, not_and, Decidable.not_not] at hn
   simp at h; subst h
   exact hn.2.2 ha
 ·simp at h
theorem info_underlying {t : TypeId} {n : Nat} (h : sizeT P t = some n) : ∃ i d, P.info? t = some i ∧ i.size = n ∧ n ≠ 0 ∧ P.underlying t = some d := by
 unfold sizeT at h
 split at h
 ·rename_i i hi
  split at h
  ·simp at h
  ·rename_i hn
   simp at h; subst h
   simp only [not_or] at hn
   obtain ⟨hn1, hn2, _⟩ := hn
   cases hu : P.underlying t with
   | none => simp [hu] at hn2
   | some d => exact ⟨i, d, hi, rfl, hn1, rfl⟩
 ·simp at h
theorem run_sizeT {t : TypeId} {n : Nat} (h : sizeT P t = some n) (w : World) : (Go.sizeOf t).run P w = .ok n w := by
 obtain ⟨i, d, hi, rfl, _, _⟩ := info_underlying h
 simp [Go.sizeOf, typeInfo, hi]
theorem run_isAggT {t : TypeId} {n : Nat} (h : sizeT P t = some n) (w : World) : (isAgg t).run P w = .ok (isAggT P t) w := by
 obtain ⟨i, d, _, _, _, hd⟩ := info_underlying h
 simp only [isAgg, Sem.run_bind, run_underlying hd, Result.andThen_ok, isAggT, hd]
 cases d <;> rfl
theorem addr_add (b off n : Nat) : (⟨b, off, none⟩ : Addr).add n = ⟨b, off + n, none⟩ := Addr.add_lit b off n
/-- A whole variable, read. -/
theorem run_loadVarT {t : TypeId} {n : Nat} (h : sizeT P t = some n) (b off : Nat) (cs : List Value) (hl : n ≤ cs.length)
  (hc : ∀ j v, cs[j]? = some v → w.cell? ⟨b, off + j, none⟩ = some v) :
  (loadVar t ⟨b, off, none⟩).run P w = .ok (if isAggT P t then .agg (cs.take n).toArray else cs.headD undef) w := by
 obtain ⟨i, d, hi, hn, hn0, hd⟩ := info_underlying h
 have hlc : (cs.take n).length = n := by simp [hl]
 have hload := run_loadCells_list (P := P) w ⟨b, off, none⟩ (cs.take n) (fun j v hv => by
  rw [addr_add]
  refine hc j v ?_
  rw [List.getElem?_take] at hv
  split at hv
  ·exact hv
  ·cases hv)
 rw [hlc] at hload
 unfold loadVar
 simp only [Sem.run_bind, run_isAggT h, Result.andThen_ok, Sem.run_ite]
 by_cases ha : isAggT P t = true
 ·simp [ha, run_sizeT h, hload]
 ·simp only [Bool.not_eq_true] at ha
  cases cs with
  | nil => simp at hl; omega
  | cons c cs =>
    have := hc 0 c rfl
    simp only [Nat.add_zero] at this
    simp [ha, this]
def CellsR (N : Nm) (w : World) (fix : Nat → Nat → Prop) (hp : Nat → Option Nat) (cs : List Value) (ps : List PV) : Prop :=
 cs.length = ps.length ∧ (∀ x ∈ ps, x.flat = true) ∧ ∀ (i : Nat) (c : Value) (x : PV), cs[i]? = some c → ps[i]? = some x → VR N w fix hp c x
theorem CellsR.dem {fix : Nat → Nat → Prop} {hp : Nat → Option Nat} {cs : List Value} {ps : List PV} (h : CellsR N w fix hp cs ps) : CellsR N w fix hp cs (ps.map dem) := by
 refine ⟨by simpa using h.1, ?_, ?_⟩
 ·intro x hx
  obtain ⟨y, hy, rfl⟩ := List.mem_map.1 hx
  rw [flat_dem]; exact h.2.1 y hy
 ·intro i c x hc hx
  simp only [List.getElem?_map, Option.map_eq_some_iff] at hx
  obtain ⟨y, hy, rfl⟩ := hx
  exact (h.2.2 i c y hc hy).dem
theorem CellsR.take {fix : Nat → Nat → Prop} {hp : Nat → Option Nat} {cs : List Value} {ps : List PV} (h : CellsR N w fix hp cs ps) (n : Nat) : CellsR N w fix hp (cs.take n) (ps.take n) := by
 refine ⟨by simp [h.1], fun x hx => h.2.1 x (List.mem_of_mem_take hx), ?_⟩
 intro i c x hc hx
 rw [List.getElem?_take] at hc hx
 split at hc
 ·rename_i hi; rw [if_pos hi] at hx; exact h.2.2 i c x hc hx
 ·cases hc
theorem CellsR.drop {fix : Nat → Nat → Prop} {hp : Nat → Option Nat} {cs : List Value} {ps : List PV} (h : CellsR N w fix hp cs ps) (n : Nat) : CellsR N w fix hp (cs.drop n) (ps.drop n) := by
 refine ⟨by simp [h.1], fun x hx => h.2.1 x (List.mem_of_mem_drop hx), ?_⟩
 intro i c x hc hx
 rw [List.getElem?_drop] at hc hx
 exact h.2.2 _ c x hc hx
theorem CellsR.append {fix : Nat → Nat → Prop} {hp : Nat → Option Nat} {cs ds : List Value} {ps qs : List PV} (h : CellsR N w fix hp cs ps) (k : CellsR N w fix hp ds qs) :
  CellsR N w fix hp (cs ++ ds) (ps ++ qs) := by
 refine ⟨by simp [h.1, k.1], ?_, ?_⟩
 ·intro x hx
  rcases List.mem_append.1 hx with hx | hx
  ·exact h.2.1 x hx
  ·exact k.2.1 x hx
 ·intro i c x hc hx
  by_cases hi : i < cs.length
  ·rw [List.getElem?_append_left hi] at hc
   rw [List.getElem?_append_left (h.1 ▸ hi)] at hx
   exact h.2.2 i c x hc hx
  ·rw [List.getElem?_append_right (by omega)] at hc
   rw [List.getElem?_append_right (by have := h.1; omega), ← h.1] at hx
   exact k.2.2 _ c x hc hx
/-- What is marked as owned is nil. -/
def OwnNil (cs : List Value) (ps : List PV) : Prop := ∀ (i : Nat) (c : Value) (es : List PV), cs[i]? = some c → ps[i]? = some (.list true es) → c = .slice none 0 0
theorem OwnNil.dem (cs : List Value) (ps : List PV) : OwnNil cs (ps.map PI.dem) := by
 intro i c es _ h
 simp only [List.getElem?_map, Option.map_eq_some_iff] at h
 obtain ⟨q, _, hq⟩ := h
 cases q <;> simp [PI.dem] at hq
theorem OwnNil.take {cs : List Value} {ps : List PV} (h : OwnNil cs ps) (n : Nat) : OwnNil (cs.take n) (ps.take n) := by
 intro i c es hc hx
 rw [List.getElem?_take] at hc hx
 split at hc
 ·rename_i hi; rw [if_pos hi] at hx; exact h i c es hc hx
 ·cases hc
theorem OwnNil.drop {cs : List Value} {ps : List PV} (h : OwnNil cs ps) (n : Nat) : OwnNil (cs.drop n) (ps.drop n) := by
 intro i c es hc hx
 rw [List.getElem?_drop] at hc hx
 exact h _ c es hc hx
theorem OwnNil.append {cs ds : List Value} {ps qs : List PV} (hl : cs.length = ps.length) (h : OwnNil cs ps) (k : OwnNil ds qs) : OwnNil (cs ++ ds) (ps ++ qs) := by
 intro i c es hc hx
 by_cases hi : i < cs.length
 ·rw [List.getElem?_append_left hi] at hc
  rw [List.getElem?_append_left (hl ▸ hi)] at hx
  exact h i c es hc hx
 ·rw [List.getElem?_append_right (by omega)] at hc
  rw [List.getElem?_append_right (by omega), ← hl] at hx
  exact k _ c es hc hx
theorem CellsR.agg {fix : Nat → Nat → Prop} {hp : Nat → Option Nat} {cs : List Value} {ps : List PV} (h : CellsR N w fix hp cs ps) (ho : OwnNil cs ps) : VR N w fix hp (.agg cs.toArray) (.agg ps) :=
 .agg cs.toArray ps (by simpa using h.1) h.2.1 (fun i c es hc hp => ho i c es (by simpa using hc) hp) (fun i c p hc hp => h.2.2 i c p (by simpa using hc) hp)
theorem CellsR.of_agg {fix : Nat → Nat → Prop} {hp : Nat → Option Nat} {v : Value} {ps : List PV} (h : VR N w fix hp v (.agg ps)) : ∃ cs : Array Value, v = .agg cs ∧ CellsR N w fix hp cs.toList ps := by
 cases h with
 | agg cs _ hlen hflat _ hvr => exact ⟨cs, rfl, by simpa using hlen, hflat, fun i c p hc hp => hvr i c p (by simpa using hc) hp⟩
theorem OwnNil.of_agg {fix : Nat → Nat → Prop} {hp : Nat → Option Nat} {cs : Array Value} {ps : List PV} (h : VR N w fix hp (.agg cs) (.agg ps)) : OwnNil cs.toList ps := by
 cases h with
 | agg _ _ hlen hflat hown hvr => exact fun i c es hc hp => hown i c es (by simpa using hc) hp
theorem CellsR.of_cells {fix : Nat → Nat → Prop} {hp : Nat → Option Nat} {v : Value} {p : PV} (h : VR N w fix hp v p) (h0 : p.cells ≠ []) : CellsR N w fix hp v.cells.toList p.cells := by
 obtain ⟨h1, h2, h3⟩ := h.cells h0
 exact ⟨by simpa using h1, h2, fun i c x hc hx => h3 i c x (by simpa using hc) hx⟩
/-- What is loaded out of cells that stand for others. -/
theorem loadFrom_sound {fix : Nat → Nat → Prop} {hp : Nat → Option Nat} {size : Nat} {agg : Bool} {ps : List PV} {off : Nat} {u : PV} {cs : List Value} (h : CellsR N w fix hp cs ps)
  (hl : loadFrom size agg ps off = some u) (hs : size ≠ 0) (h1 : agg = false → size = 1) :
  off + size ≤ cs.length ∧ VR N w fix hp (if agg then .agg ((cs.drop off).take size).toArray else (cs.drop off).headD undef) u ∧ cp u = some u := by
 unfold loadFrom at hl
 cases agg with
 | true =>
   simp only [if_true] at hl
   split at hl
   ·rename_i hle
    simp only [Option.some.injEq] at hl; subst hl
    refine ⟨by rw [h.1]; exact hle, ?_, rfl⟩
    rw [if_pos rfl]
    exact (((h.drop off).take size).dem).agg (OwnNil.dem _ _)
   ·simp at hl
 | false =>
   have hs1 := h1 rfl
   subst hs1
   simp only [Bool.false_eq_true, if_false] at hl
   split at hl
   ·rename_i v hv
    have hlt : off < ps.length := (List.getElem?_eq_some_iff.1 hv).1
    have hlt' : off < cs.length := by rw [h.1]; exact hlt
    refine ⟨by omega, ?_⟩
    have hvr := h.2.2 off cs[off] v (List.getElem?_eq_getElem hlt') hv
    have hd : (cs.drop off).headD undef = cs[off] := by rw [List.drop_eq_getElem_cons hlt']; rfl
    simp only [Bool.false_eq_true, if_false, hd]
    unfold cp at hl
    split at hl <;> simp at hl <;> subst hl
    ·exact ⟨hvr.dem, rfl⟩
    ·refine ⟨hvr, ?_⟩
     clear hv hd
     generalize cs[off] = c at hvr
     cases hvr <;> first | rfl | simp_all
   ·simp at hl
theorem SR.lptr {key : Key} {s g off b : Nat} {v : Value} (hv : v = .pointer (some ⟨b, off, none⟩)) (hb : G.box g = some b) : SR N w G key v (.lptr s g off) := ⟨b, hv, hb⟩
variable {o : Oper} {j : Nat} {next : Act → World → Prop} {Q : Exit → Act → World → Prop} {u : PV} {st1 : St}
abbrev Goes (N : Nm) (w : World) (G : GS) (a : Act) (st1 : St) (u : PV) (vs : List Tmp) (ops : List Oper) (j : Nat) (o : Oper) (next : Act → World → Prop) : Prop :=
 ∀ a' w' G', FI N w' G' (put st1 j (cDst vs o.dst) u) a' vs (lmap vs ops) → Ext w G w' G' → a'.tmps.size = a.tmps.size → next a' w'
theorem mov_sound (hE : EnvOk E N) (nm : Names vs (lmap vs ops)) (ho : ops[j]? = some o) (hf : FI N w G st a vs (lmap vs ops)) {x : Operand} {p : PX} (hx : (execOp a.eval o).run P w = .ok (.value (a.eval x)) w)
  (hc : cx E vs ops x = some p) (hs : (rd st p).map (·, st) = some (u, st1)) (hk : Goes N w G a st1 u vs ops j o next) : o.wp P a w next Q := by
 simp only [Option.map_eq_some_iff, Prod.mk.injEq] at hs
 obtain ⟨r, hr, rfl, rfl⟩ := hs
 obtain ⟨h1, h2⟩ := rd_sound hE hc hf hr
 exact wp_value nm ho hf hx (SR.of_pure h1 h2) hk
theorem pick_sound (hE : EnvOk E N) (nm : Names vs (lmap vs ops)) (ho : ops[j]? = some o) (hf : FI N w G st a vs (lmap vs ops)) {c x y : Operand} {pc px py : PX} (hop : o.op = .pick c x y)
  (hc : cx E vs ops c = some pc) (hx : cx E vs ops x = some px) (hy : cx E vs ops y = some py) {cf : CallF} (hs : opv cf (.pick pc px py) st = some (u, st1)) (hk : Goes N w G a st1 u vs ops j o next) : o.wp P a w next Q := by
 simp only [opv] at hs
 split at hs
 ·rename_i t ht
  simp only [Option.map_eq_some_iff, Prod.mk.injEq] at hs
  obtain ⟨r, hr, rfl, rfl⟩ := hs
  have hb := (rd_sound hE hc hf ht).1
  have hbe : a.eval c = .bool t := by generalize a.eval c = z at hb; cases hb; rfl
  cases t with
  | true =>
    obtain ⟨h1, h2⟩ := rd_sound hE hx hf hr
    exact wp_value nm ho hf (by simp [execOp, hop, hbe, asBool]) (SR.of_pure h1 h2) hk
  | false =>
    obtain ⟨h1, h2⟩ := rd_sound hE hy hf hr
    exact wp_value nm ho hf (by simp [execOp, hop, hbe, asBool]) (SR.of_pure h1 h2) hk
 ·simp at hs
theorem faddr_sound (hE : EnvOk E N) (nm : Names vs (lmap vs ops)) (ho : ops[j]? = some o) (hf : FI N w G st a vs (lmap vs ops)) {s : TypeId} {x : Operand} {f : Nat} {px : PX} {fs : Array Field} {fd : Field} {n : Nat} (hop : o.op = .fieldAddr s x f)
  (hu : P.underlying s = some (.struct fs)) (hfd : fs[f]? = some fd) (hn : sizeT P fd.type = some n) (hx : cx E vs ops x = some px) {cf : CallF} (hs : opv cf (.faddr fd.offset px) st = some (u, st1)) (hk : Goes N w G a st1 u vs ops j o next) : o.wp P a w next Q := by
 have hn0 : n ≠ 0 := by obtain ⟨_, _, _, _, h, _⟩ := info_underlying hn; exact h
 have run : ∀ b off, a.eval x = .pointer (some ⟨b, off, none⟩) → (execOp a.eval o).run P w = .ok (.value (.pointer (some ⟨b, off + fd.offset, none⟩))) w := by
  intro b off h
  simp [execOp, hop, h, Instr.fieldAt, run_underlying hu, hfd, Instr.sureAddr, fieldPlace, run_sizeT hn, hn0, addr_add]
 simp only [opv] at hs
 split at hs
 ·rename_i cs ha
  simp only [Option.some.injEq, Prod.mk.injEq] at hs
  obtain ⟨rfl, rfl⟩ := hs
  rcases addr_sound hE hx hf ha with ⟨_, _, _, _, h, _⟩ | ⟨h, _⟩
  ·simp at h
  ·generalize hv : a.eval x = v at h
   cases h with
   | cptr b off _ cv hflat hcell hvr =>
     refine wp_value nm ho hf (run b off hv) (SR.of_pure ?_ rfl) hk
     refine .cptr b (off + fd.offset) _ (fun k => cv (fd.offset + k)) (fun y hy => hflat y (List.mem_of_mem_drop hy)) ?_ ?_
     ·intro k hk
      have := hcell (fd.offset + k) (by simp at hk; omega)
      simpa [Nat.add_assoc] using this
     ·intro k y hy
      rw [List.getElem?_drop] at hy
      exact hvr _ _ hy
 ·rename_i s' g off ha
  simp only [Option.some.injEq, Prod.mk.injEq] at hs
  obtain ⟨rfl, rfl⟩ := hs
  rcases addr_sound hE hx hf ha with ⟨_, _, _, b, h, hv, hb⟩ | ⟨_, h⟩
  ·simp at h
   obtain ⟨rfl, rfl, rfl⟩ := h
   exact wp_value nm ho hf (run b _ hv) (SR.lptr rfl hb) hk
  ·simp [cp] at h
 ·rename_i n' off ha
  simp only [Option.some.injEq, Prod.mk.injEq] at hs
  obtain ⟨rfl, rfl⟩ := hs
  rcases addr_sound hE hx hf ha with ⟨_, _, _, _, h, _⟩ | ⟨h, _⟩
  ·simp at h
  ·generalize hv : a.eval x = v at h
   cases h with
   | ptr _ _ b hb => exact wp_value nm ho hf (run b off hv) (SR.of_pure (.ptr _ _ b hb) rfl) hk
 ·simp at hs
theorem iaddrS_sound (hE : EnvOk E N) (nm : Names vs (lmap vs ops)) (ho : ops[j]? = some o) (hf : FI N w G st a vs (lmap vs ops)) {t e : TypeId} {x i : Operand} {px pi : PX} {n : Nat} (hop : o.op = .indexAddr t x i)
  (hu : P.underlying t = some (.slice e)) (hn : sizeT P e = some n) (hx : cx E vs ops x = some px) (hi : cx E vs ops i = some pi) {cf : CallF} (hs : opv cf (.iaddrS n px pi) st = some (u, st1)) (hk : Goes N w G a st1 u vs ops j o next) : o.wp P a w next Q := by
 simp only [opv] at hs
 split at hs
 ·rename_i own es m hes hm
  split at hs
  ·rename_i hm0
   split at hs
   ·rename_i y hy
    split at hs
    ·rename_i hyl
     simp only [Option.some.injEq, Prod.mk.injEq] at hs
     obtain ⟨rfl, rfl⟩ := hs
     have h := (rd_sound hE hx hf hes).1
     obtain ⟨k, hik⟩ := rdInt_sound hE hi hf hm
     have hlt : m.toNat < es.length := (List.getElem?_eq_some_iff.1 hy).1
     generalize hv : a.eval x = v at h
     cases h with
     | nils => simp at hlt
     | void => simp at hlt
     | list _ b off len cap sz _ cv hlen hcap hsz hflat hcell hvr =>
       have hmem : y ∈ es := List.mem_of_getElem? hy
       have hszn : sz = n := by rw [← hsz y hmem]; exact hyl
       subst hszn
       have hrun : (execOp a.eval o).run P w = .ok (.value (.pointer (some ⟨b, off + m.toNat * sz, none⟩))) w := by
        have h1 : m < len := by omega
        simp [execOp, hop, hv, hik, Instr.indexAt, asIntOf, run_underlying hu, hm0, h1, run_sizeT hn, addr_add]
       refine wp_value nm ho hf hrun (SR.of_pure ?_ rfl) hk
       refine .cptr b _ _ (fun k => cv (m.toNat * sz + k)) (hflat y hmem) ?_ ?_
       ·intro k hk
        rw [hyl] at hk
        have hb : m.toNat * sz + k < len * sz := by
         have : (m.toNat + 1) * sz ≤ len * sz := Nat.mul_le_mul_right _ (by omega)
         rw [Nat.add_mul] at this; omega
        have := hcell _ hb
        simpa [Nat.add_assoc] using this
       ·intro k z hz
        exact hvr _ _ hy _ _ hz
    ·simp at hs
   ·simp at hs
  ·simp at hs
 ·rename_i r sz agg len m hes hm
  split at hs
  ·rename_i hc
   obtain ⟨rfl, hm0, hlt⟩ := hc
   simp only [Option.some.injEq, Prod.mk.injEq] at hs
   obtain ⟨rfl, rfl⟩ := hs
   have h := (rd_sound hE hx hf hes).1
   obtain ⟨k, hik⟩ := rdInt_sound hE hi hf hm
   generalize hv : a.eval x = v at h
   cases h with
   | rowp _ _ _ _ b cap hb hcap hsh =>
     have hrun : (execOp a.eval o).run P w = .ok (.value (.pointer (some ⟨b, 0 + m.toNat * sz, none⟩))) w := by
      simp [execOp, hop, hv, hik, Instr.indexAt, asIntOf, run_underlying hu, hm0, hlt, run_sizeT hn, addr_add]
     rw [Nat.zero_add] at hrun
     exact wp_value nm ho hf hrun (SR.of_pure (.ptr _ _ b hb) rfl) hk
  ·simp at hs
 ·rename_i r sz agg off len m hes hm
  split at hs
  ·rename_i hc
   obtain ⟨rfl, hm0, hlt⟩ := hc
   simp only [Option.some.injEq, Prod.mk.injEq] at hs
   obtain ⟨rfl, rfl⟩ := hs
   have h := (rd_sound hE hx hf hes).1
   obtain ⟨k, hik⟩ := rdInt_sound hE hi hf hm
   generalize hv : a.eval x = v at h
   cases h with
   | rows _ _ _ _ _ b o' cap m' T hb hcap hoo hsh hm' =>
     have ho' : o' = off * sz := hoo.resolve_left (by omega)
     have hrun : (execOp a.eval o).run P w = .ok (.value (.pointer (some ⟨b, o' + m.toNat * sz, none⟩))) w := by
      simp [execOp, hop, hv, hik, Instr.indexAt, asIntOf, run_underlying hu, hm0, hlt, run_sizeT hn, addr_add]
     rw [ho', ← Nat.add_mul] at hrun
     exact wp_value nm ho hf hrun (SR.of_pure (.ptr _ _ b hb) rfl) hk
  ·simp at hs
 ·simp at hs
theorem iaddrA_sound (hE : EnvOk E N) (nm : Names vs (lmap vs ops)) (ho : ops[j]? = some o) (hf : FI N w G st a vs (lmap vs ops)) {t e : TypeId} {x i : Operand} {px pi : PX} {n len : Nat} (hop : o.op = .indexAddr t x i)
  (hu : P.underlying t = some (.array len e)) (hn : sizeT P e = some n) (hx : cx E vs ops x = some px) (hi : cx E vs ops i = some pi) {cf : CallF} (hs : opv cf (.iaddrA len n px pi) st = some (u, st1)) (hk : Goes N w G a st1 u vs ops j o next) : o.wp P a w next Q := by
 have run : ∀ b off m k, a.eval x = .pointer (some ⟨b, off, none⟩) → a.eval i = .int k m → 0 ≤ m → m < len → (execOp a.eval o).run P w = .ok (.value (.pointer (some ⟨b, off + m.toNat * n, none⟩))) w := by
  intro b off m k hv hik h0 h1
  simp [execOp, hop, hv, hik, Instr.indexAt, asIntOf, run_underlying hu, Instr.sureAddr, h0, h1, run_sizeT hn, addr_add]
 simp only [opv] at hs
 split at hs
 ·rename_i s g off m ha hm
  split at hs
  ·rename_i hb
   simp only [Option.some.injEq, Prod.mk.injEq] at hs
   obtain ⟨rfl, rfl⟩ := hs
   obtain ⟨k, hik⟩ := rdInt_sound hE hi hf hm
   rcases addr_sound hE hx hf ha with ⟨_, _, _, b, h, hv, hbx⟩ | ⟨_, h⟩
   ·simp at h
    obtain ⟨rfl, rfl, rfl⟩ := h
    exact wp_value nm ho hf (run b _ m k hv hik hb.1 hb.2) (SR.lptr rfl hbx) hk
   ·simp [cp] at h
  ·simp at hs
 ·rename_i cs m ha hm
  split at hs
  ·rename_i hb
   simp only [Option.some.injEq, Prod.mk.injEq] at hs
   obtain ⟨rfl, rfl⟩ := hs
   obtain ⟨k, hik⟩ := rdInt_sound hE hi hf hm
   rcases addr_sound hE hx hf ha with ⟨_, _, _, _, h, _⟩ | ⟨h, _⟩
   ·simp at h
   ·generalize hv : a.eval x = v at h
    cases h with
    | cptr b off _ cv hflat hcell hvr =>
      refine wp_value nm ho hf (run b off m k hv hik hb.1 hb.2) (SR.of_pure ?_ rfl) hk
      refine .cptr b _ _ (fun k => cv (m.toNat * n + k)) (fun y hy => hflat y (List.mem_of_mem_drop hy)) ?_ ?_
      ·intro k hk
       have := hcell (m.toNat * n + k) (by simp at hk; omega)
       simpa [Nat.add_assoc] using this
      ·intro k y hy
       rw [List.getElem?_drop] at hy
       exact hvr _ _ hy
  ·simp at hs
 ·simp at hs
theorem load_cptr {t : TypeId} {n : Nat} (hn : sizeT P t = some n) {v : Value} {cs : List PV} {u : PV} (h : VR N w G.fix G.heap v (.cptr cs))
  (hl : loadFrom n (isAggT P t) cs 0 = some u) : ∃ r, (Instr.loadAt t v).run P w = .ok r w ∧ VR N w G.fix G.heap r u ∧ cp u = some u := by
 cases h with
 | cptr b off _ cv hflat hcell hvr =>
   have hn0 : n ≠ 0 := by obtain ⟨_, _, _, _, h, _⟩ := info_underlying hn; exact h
   let ds : List Value := (List.range cs.length).map cv
   have hR : CellsR N w G.fix G.heap ds cs := by
    refine ⟨by simp [ds], hflat, ?_⟩
    intro i c x hc hx
    have hi : i < cs.length := (List.getElem?_eq_some_iff.1 hx).1
    simp [ds, hi] at hc
    subst hc
    exact hvr i x hx
   obtain ⟨h1, h2, h3⟩ := loadFrom_sound hR hl hn0 (sizeT_one hn)
   refine ⟨_, ?_, h2, h3⟩
   have := run_loadVarT (w := w) hn b off ds (by simpa using h1) (fun j v hv => by
    have hj : j < cs.length := by have := (List.getElem?_eq_some_iff.1 hv).1; simpa [ds] using this
    simp [ds, hj] at hv
    subst hv
    exact (hcell j hj).1)
   simpa [Instr.loadAt, Instr.sureAddr] using this
theorem field_sound (hE : EnvOk E N) (nm : Names vs (lmap vs ops)) (ho : ops[j]? = some o) (hf : FI N w G st a vs (lmap vs ops)) {t : TypeId} {x : Operand} {f : Nat} {px : PX} {fs : Array Field} {fd : Field} {n : Nat} (hop : o.op = .field t x f)
  (hu : P.underlying t = some (.struct fs)) (hfd : fs[f]? = some fd) (hn : sizeT P fd.type = some n) (hx : cx E vs ops x = some px) {cf : CallF}
  (hs : opv cf (.field fd.offset n (isAggT P fd.type) px) st = some (u, st1)) (hk : Goes N w G a st1 u vs ops j o next) : o.wp P a w next Q := by
 have hn0 : n ≠ 0 := by obtain ⟨_, _, _, _, h, _⟩ := info_underlying hn; exact h
 simp only [opv] at hs
 split at hs
 ·rename_i ps hps
  simp only [Option.map_eq_some_iff, Prod.mk.injEq] at hs
  obtain ⟨r, hr, rfl, rfl⟩ := hs
  obtain ⟨cs, hv, hR⟩ := CellsR.of_agg (rd_sound hE hx hf hps).1
  obtain ⟨h1, h2, h3⟩ := loadFrom_sound hR hr hn0 (sizeT_one hn)
  refine wp_value nm ho hf ?_ (SR.of_pure h2 h3) hk
  have hx : (Instr.field t (.agg cs) f).run P w = .ok (if isAggT P fd.type then .agg ((cs.toList.drop fd.offset).take n).toArray else (cs.toList.drop fd.offset).headD undef) w := by
   simp only [Instr.field, Sem.run_bind, run_underlying hu, Result.andThen_ok, hfd, asAgg, Sem.run_pure, part, run_isAggT hn, Sem.run_ite, run_sizeT hn]
   by_cases ha : isAggT P fd.type = true
   ·simp only [ha, if_true]
    congr 2
    apply Array.ext'
    simp
   ·simp only [Bool.not_eq_true] at ha
    have hlt : fd.offset < cs.size := by simp at h1; omega
    simp [ha, List.drop_eq_getElem_cons (l := cs.toList) (i := fd.offset) (by simpa using hlt), hlt]
  simp [execOp, hop, hv, hx]
 ·simp at hs
theorem indexStr_sound (hE : EnvOk E N) (nm : Names vs (lmap vs ops)) (ho : ops[j]? = some o) (hf : FI N w G st a vs (lmap vs ops)) {t : TypeId} {x i : Operand} {px pi : PX} (hop : o.op = .index t x i)
  (hu : P.underlying t = some .string) (hx : cx E vs ops x = some px) (hi : cx E vs ops i = some pi) {cf : CallF} (hs : opv cf (.indexStr px pi) st = some (u, st1)) (hk : Goes N w G a st1 u vs ops j o next) : o.wp P a w next Q := by
 simp only [opv] at hs
 split at hs
 ·rename_i s m hes hm
  split at hs
  ·rename_i hm0
   split at hs
   ·rename_i y hy
    simp only [Option.some.injEq, Prod.mk.injEq] at hs
    obtain ⟨rfl, rfl⟩ := hs
    have h := (rd_sound hE hx hf hes).1
    obtain ⟨k, hik⟩ := rdInt_sound hE hi hf hm
    generalize hv : a.eval x = v at h
    cases h with
    | str s =>
      have hy' : s[m.toNat]? = some y := by
       have hlt : m.toNat < s.data.toList.length := (List.getElem?_eq_some_iff.1 hy).1
       have hlt' : m.toNat < s.size := by rw [Array.length_toList] at hlt; exact hlt
       rw [getElem?_pos s m.toNat hlt']
       rw [List.getElem?_eq_getElem hlt] at hy
       simp only [Option.some.injEq] at hy ⊢
       rw [← hy]; rfl
      refine wp_value nm ho hf ?_ (SR.of_pure (.int _ _) rfl) hk
      simp only [execOp, hop, hv, hik, Instr.index, asIntOf, Sem.run_bind, Sem.run_pure, run_underlying hu, Result.andThen_ok, hm0, if_true, hy']
   ·simp at hs
  ·simp at hs
 ·simp at hs
end
end PI
