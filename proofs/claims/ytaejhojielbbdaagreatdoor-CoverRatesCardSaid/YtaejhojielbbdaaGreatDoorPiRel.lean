/-
  What a value of the pure interpreter stands for in the machine's memory: readings, owned room, the frame's own boxes; and how these are kept.
-/
import Derived.Test.YtaejhojielbbdaaGreatDoorPiBase
import Derived.Calls
import Derived.Below
import Derived.Lib.Builder
import Derived.Lib.UnsafeStr
set_option linter.unusedVariables false
set_option linter.unusedSimpArgs false
namespace PI
open Go (IntKind BinOp UnOp Value Addr World Obj Program FuncId TypeId Act Operand undef)
/-- The loop whose rounds a function of the library is. -/
structure YL where
 fn : FuncId
 params : Array Go.Tmp
 assign : Go.Code
 body : Go.Code
 /-- the variables that the rounds take from the loop's frame -/
 vars : List Go.Tmp
 nt : Nat
/-- The numbers that functions and types bear in a translation. -/
structure Nm where
 fn : Nat → FuncId
 ty : Nat → TypeId
 /-- cells that hold what they held when all began: tables of the library -/
 tabs : List (Nat × Nat × Value) := []
 /-- and their blocks' shapes -/
 rows : List (Nat × TypeId × Nat) := []
 /-- the type of strings.Builder, and of bytes -/
 bT : TypeId := 0
 bE : TypeId := 0
 /-- functions of the library that are the rounds of a range over a function -/
 yl : Nat → Option YL := fun _ => none
/-- Who holds a block: a variable, a place of the region, a cell of a variable's box, an object of the heap, a cell of one. -/
inductive Key where
 | var (i : Nat)
 | loc (j : Nat)
 | vcell (i k : Nat)
 | hobj (n : Nat)
 | hcell (n k : Nat)
 deriving DecidableEq
structure GS where
 fix : Nat → Nat → Prop
 heap : Nat → Option Nat
 box : Nat → Option Nat
 ow : Nat → Option Key
 df : List Go.Deferred := []
/-- What a loop's record never changes. -/
def loopOf (w : World) (b : Nat) : Option (FuncId × Array Value × Array Go.Tmp × Go.Code × Go.Code) :=
 match w.heap[b]? with
 | some (.loop r) => some (r.fn, r.tmps, r.params, r.assign, r.body)
 | _ => none
/-- Blocks of cells keep their type and size, loops what they are of. -/
def ShapeLe (w w' : World) : Prop := (∀ (b : Nat) (s : TypeId × Nat), w.shape? b = some s → w'.shape? b = some s) ∧ ∀ b s, loopOf w b = some s → loopOf w' b = some s
theorem ShapeLe.refl (w : World) : ShapeLe w w := ⟨fun _ _ h => h, fun _ _ h => h⟩
theorem ShapeLe.trans {a b c : World} (h : ShapeLe a b) (k : ShapeLe b c) : ShapeLe a c := ⟨fun x s hx => k.1 x s (h.1 x s hx), fun x s hx => k.2 x s (h.2 x s hx)⟩
theorem loopOf_lt {w : World} {b : Nat} {s} (h : loopOf w b = some s) : b < w.heap.size := by
 unfold loopOf at h
 split at h
 ·rename_i h1; exact (Array.getElem?_eq_some_iff.1 h1).1
 ·simp at h
theorem loopOf_cells {w : World} {b : Nat} {cs T fz} (h : w.heap[b]? = some (.cells cs T fz)) : loopOf w b = none := by
 unfold loopOf; rw [h]
theorem loopOf_shape {w : World} {b : Nat} {s} (h : w.shape? b = some s) : loopOf w b = none := by
 unfold World.shape? at h
 split at h
 ·rename_i h1; exact loopOf_cells h1
 ·simp at h
theorem shape_lt {w : World} {b : Nat} {s : TypeId × Nat} (h : w.shape? b = some s) : b < w.heap.size := by
 unfold World.shape? at h
 split at h
 ·rename_i h1; exact (Array.getElem?_eq_some_iff.1 h1).1
 ·simp at h
theorem ShapeLe.same {w w' : World} (h : ∀ k, k < w.heap.size → w'.heap[k]? = w.heap[k]?) : ShapeLe w w' := by
 refine ⟨?_, ?_⟩
 ·intro b s hb
  have := h b (shape_lt hb)
  unfold World.shape? at hb ⊢
  rw [this]; exact hb
 ·intro b s hb
  have := h b (loopOf_lt hb)
  unfold loopOf at hb ⊢
  rw [this]; exact hb
/-- One block turns, and its shape does not. -/
theorem ShapeLe.one {w w' : World} (x : Nat) (h : ∀ k, k < w.heap.size → k ≠ x → w'.heap[k]? = w.heap[k]?) (hx : ∀ s, w.shape? x = some s → w'.shape? x = some s) (hl : ∀ s, loopOf w x = some s → loopOf w' x = some s) : ShapeLe w w' := by
 refine ⟨?_, ?_⟩
 ·intro b s hb
  by_cases he : b = x
  ·subst he; exact hx s hb
  ·have := h b (shape_lt hb) he
   unfold World.shape? at hb ⊢
   rw [this]; exact hb
 ·intro b s hb
  by_cases he : b = x
  ·subst he; exact hl s hb
  ·have := h b (loopOf_lt hb) he
   unfold loopOf at hb ⊢
   rw [this]; exact hb
inductive VR (N : Nm) (w : World) (fix : Nat → Nat → Prop) (hp : Nat → Option Nat) : Value → PV → Prop where
 | bool (b : Bool) : VR N w fix hp (.bool b) (.bool b)
 | int (k : IntKind) (n : Int) : VR N w fix hp (.int k n) (.int k n)
 | str (s : ByteArray) : VR N w fix hp (.string s) (.str s.data.toList)
 | nils (own : Bool) : VR N w fix hp (.slice none 0 0) (.list own [])
 | void (own : Bool) (a : Addr) (cap : Nat) : VR N w fix hp (.slice (some a) 0 cap) (.list own [])
 | nils' : VR N w fix hp (.slice none 0 0) .nils
 | void' (a : Addr) (cap : Nat) : VR N w fix hp (.slice (some a) 0 cap) .void
 | list (own : Bool) (b off len cap sz : Nat) (es : List PV) (cv : Nat → Value) (hlen : es.length = len) (hcap : len ≤ cap)
   (hsz : ∀ e ∈ es, e.cells.length = sz) (hflat : ∀ e ∈ es, ∀ x ∈ e.cells, x.flat = true)
   (hcell : ∀ k, k < len * sz → w.cell? ⟨b, off + k, none⟩ = some (cv k) ∧ fix b (off + k))
   (hvr : ∀ (i : Nat) (e : PV), es[i]? = some e → ∀ (j : Nat) (x : PV), e.cells[j]? = some x → VR N w fix hp (cv (i * sz + j)) x) :
   VR N w fix hp (.slice (some ⟨b, off, none⟩) len cap) (.list own es)
 | agg (cs : Array Value) (ps : List PV) (hlen : cs.size = ps.length) (hflat : ∀ x ∈ ps, x.flat = true)
   (hown : ∀ (i : Nat) (c : Value) (es : List PV), cs[i]? = some c → ps[i]? = some (.list true es) → c = .slice none 0 0)
   (hvr : ∀ (i : Nat) (c : Value) (p : PV), cs[i]? = some c → ps[i]? = some p → VR N w fix hp c p) : VR N w fix hp (.agg cs) (.agg ps)
 | tuple (cs : Array Value) (ps : List PV) (hlen : cs.size = ps.length)
   (hvr : ∀ (i : Nat) (c : Value) (p : PV), cs[i]? = some c → ps[i]? = some p → VR N w fix hp c p) : VR N w fix hp (.tuple cs) (.tuple ps)
 | nilptr : VR N w fix hp (.pointer none) .nilptr
 | cptr (b off : Nat) (ps : List PV) (cv : Nat → Value) (hflat : ∀ x ∈ ps, x.flat = true)
   (hcell : ∀ k, k < ps.length → w.cell? ⟨b, off + k, none⟩ = some (cv k) ∧ fix b (off + k))
   (hvr : ∀ (k : Nat) (x : PV), ps[k]? = some x → VR N w fix hp (cv k) x) : VR N w fix hp (.pointer (some ⟨b, off, none⟩)) (.cptr ps)
 | ptr (n off b : Nat) (h : hp n = some b) : VR N w fix hp (.pointer (some ⟨b, off, none⟩)) (.ptr n off)
 | rowp (n sz : Nat) (agg : Bool) (len b cap : Nat) (h : hp n = some b) (hcap : len ≤ cap) (hsh : ∃ T m, w.shape? b = some (T, m) ∧ cap * sz ≤ m) : VR N w fix hp (.slice (some ⟨b, 0, none⟩) len cap) (.rowp n sz agg len)
 | rows (n sz : Nat) (agg : Bool) (off len b o cap m : Nat) (T : TypeId) (h : hp n = some b) (hcap : len ≤ cap) (ho : len = 0 ∨ o = off * sz) (hsh : w.shape? b = some (T, m)) (hm : (off + len) * sz ≤ m) : VR N w fix hp (.slice (some ⟨b, o, none⟩) len cap) (.rows n sz agg off len)
 | mapn : VR N w fix hp (.map none) (.map none)
 | map (n b : Nat) (h : hp n = some b) : VR N w fix hp (.map (some b)) (.map (some n))
 | func (k : Nat) (fs cs : Array Value) (pf pc : List PV) (h0 : N.yl k = none) (h1 : fs.size = pf.length) (h2 : cs.size = pc.length)
   (hf : ∀ (i : Nat) (c : Value) (p : PV), fs[i]? = some c → pf[i]? = some p → VR N w fix hp c p)
   (hc : ∀ (i : Nat) (c : Value) (p : PV), cs[i]? = some c → pc[i]? = some p → VR N w fix hp c p) :
   VR N w fix hp (.func (.func (N.fn k)) fs cs) (.func k pf pc)
 | yield (k n l : Nat) (y : YL) (tmps : Array Value) (caps : List PV) (h0 : N.yl k = some y) (hl : hp n = some l) (hr : loopOf w l = some (y.fn, tmps, y.params, y.assign, y.body)) (hlen : caps.length = y.vars.length) (hsz : y.nt ≤ tmps.size)
   (hc : ∀ (i : Nat) (t : Go.Tmp) (p : PV), y.vars[i]? = some t → caps[i]? = some p → VR N w fix hp (tmps.getD t undef) p) :
   VR N w fix hp (.func (.yield l) #[] #[]) (.func k (.ptr n 0 :: caps) [])
 | nilfunc : VR N w fix hp .nilFunc .nilfunc
 | iface (t : Nat) (v : Value) (p : PV) (h : VR N w fix hp v p) : VR N w fix hp (.iface (N.ty t) v) (.iface t p)
 | nilIface : VR N w fix hp .nilIface .nilIface
theorem VR.mono {N : Nm} {w w' : World} {fix fix' : Nat → Nat → Prop} {hp hp' : Nat → Option Nat} {v : Value} {p : PV} (h : VR N w fix hp v p)
  (hf : ∀ b o, fix b o → fix' b o ∧ w'.cell? ⟨b, o, none⟩ = w.cell? ⟨b, o, none⟩) (hh : ∀ n b, hp n = some b → hp' n = some b) (hs : ShapeLe w w') :
  VR N w' fix' hp' v p := by
 induction h with
 | bool b => exact .bool b
 | int k n => exact .int k n
 | str s => exact .str s
 | nils own => exact .nils own
 | void own a cap => exact .void own a cap
 | nils' => exact .nils'
 | void' a cap => exact .void' a cap
 | list own b off len cap sz es cv hlen hcap hsz hflat hcell _ ih =>
   exact .list own b off len cap sz es cv hlen hcap hsz hflat (fun k hk => ⟨(hf _ _ (hcell k hk).2).2.trans (hcell k hk).1, (hf _ _ (hcell k hk).2).1⟩) ih
 | agg cs ps hlen hflat hown _ ih => exact .agg cs ps hlen hflat hown ih
 | tuple cs ps hlen _ ih => exact .tuple cs ps hlen ih
 | nilptr => exact .nilptr
 | cptr b off ps cv hflat hcell _ ih =>
   exact .cptr b off ps cv hflat (fun k hk => ⟨(hf _ _ (hcell k hk).2).2.trans (hcell k hk).1, (hf _ _ (hcell k hk).2).1⟩) ih
 | ptr n off b h => exact .ptr n off b (hh _ _ h)
 | rowp n sz agg len b cap h hcap hsh => exact .rowp n sz agg len b cap (hh _ _ h) hcap (let ⟨T, m, h1, h2⟩ := hsh; ⟨T, m, hs.1 _ _ h1, h2⟩)
 | rows n sz agg off len b o cap m T h hcap ho hsh hm => exact .rows n sz agg off len b o cap m T (hh _ _ h) hcap ho (hs.1 _ _ hsh) hm
 | mapn => exact .mapn
 | map n b h => exact .map n b (hh _ _ h)
 | func k fs cs pf pc h0 h1 h2 _ _ ihf ihc => exact .func k fs cs pf pc h0 h1 h2 ihf ihc
 | yield k n l y tmps caps h0 hl hr hlen hsz hc ih => exact .yield k n l y tmps caps h0 (hh _ _ hl) (hs.2 _ _ hr) hlen hsz ih
 | nilfunc => exact .nilfunc
 | iface t v p _ ih => exact .iface t v p ih
 | nilIface => exact .nilIface
/-- The mark 'own' says nothing in a reading. -/
theorem VR.dem {N : Nm} {w : World} {fix : Nat → Nat → Prop} {hp : Nat → Option Nat} {v : Value} {p : PV} (h : VR N w fix hp v p) :
  VR N w fix hp v (dem p) := by
 cases h with
 | nils own => exact .nils false
 | void own a cap => exact .void false a cap
 | nils' => exact .nils'
 | void' a cap => exact .void' a cap
 | list own b off len cap sz es cv hlen hcap hsz hflat hcell hvr => exact .list false b off len cap sz es cv hlen hcap hsz hflat hcell hvr
 | bool b => exact .bool b
 | int k n => exact .int k n
 | str s => exact .str s
 | agg cs ps hlen hflat hown hvr => exact .agg cs ps hlen hflat hown hvr
 | tuple cs ps hlen hvr => exact .tuple cs ps hlen hvr
 | nilptr => exact .nilptr
 | cptr b off ps cv hflat hcell hvr => exact .cptr b off ps cv hflat hcell hvr
 | ptr n off b h => exact .ptr n off b h
 | rowp n sz agg len b cap h hcap hsh => exact .rowp n sz agg len b cap h hcap hsh
 | rows n sz agg off len b o cap m T h hcap ho hsh hm => exact .rows n sz agg off len b o cap m T h hcap ho hsh hm
 | mapn => exact .mapn
 | map n b h => exact .map n b h
 | func k fs cs pf pc h0 h1 h2 hf hc => exact .func k fs cs pf pc h0 h1 h2 hf hc
 | yield k n l y tmps caps h0 hl hr hlen hsz hc => exact .yield k n l y tmps caps h0 hl hr hlen hsz hc
 | nilfunc => exact .nilfunc
 | iface t v p h => exact .iface t v p h
 | nilIface => exact .nilIface
theorem VR.undem {N : Nm} {w : World} {fix : Nat → Nat → Prop} {hp : Nat → Option Nat} {v : Value} {own : Bool} {es : List PV}
  (h : VR N w fix hp v (.list false es)) : VR N w fix hp v (.list own es) := by
 cases h with
 | nils _ => exact .nils own
 | void _ a cap => exact .void own a cap
 | list _ b off len cap sz es cv hlen hcap hsz hflat hcell hvr => exact .list own b off len cap sz es cv hlen hcap hsz hflat hcell hvr
theorem VR.row {N : Nm} {w : World} {fix : Nat → Nat → Prop} {hp : Nat → Option Nat} {v : Value} {p : PV} {es : List PV} (h : VR N w fix hp v p) (hr : asRow p = some es) : VR N w fix hp v (.list false es) := by
 unfold asRow at hr
 split at hr <;> simp at hr
 ·subst hr; exact h.dem
 ·subst hr; cases h; exact .nils false
 ·subst hr; cases h; exact .void false _ _
/-- An empty slice is nil, or not. -/
theorem VR.vague {N : Nm} {w : World} {fix : Nat → Nat → Prop} {hp : Nat → Option Nat} {v : Value} {p : PV} (h : VR N w fix hp v p) (hv : PI.vague p = true) : VR N w fix hp v .nils ∨ VR N w fix hp v .void := by
 unfold PI.vague at hv
 split at hv
 ·cases h with
  | nils _ => exact .inl .nils'
  | void _ a cap => exact .inr (.void' a cap)
  | list _ b off len cap sz _ cv hlen _ _ _ _ _ =>
    simp at hlen
    subst hlen
    exact .inr (.void' _ cap)
 ·simp at hv
theorem flat_dem (p : PV) : (dem p).flat = p.flat := by cases p <;> rfl
/-- The cells of a value and of what it stands for. -/
theorem VR.cells {N : Nm} {w : World} {fix : Nat → Nat → Prop} {hp : Nat → Option Nat} {v : Value} {p : PV} (h : VR N w fix hp v p) (hp0 : p.cells ≠ []) :
  v.cells.size = p.cells.length ∧ (∀ x ∈ p.cells, x.flat = true) ∧ ∀ (i : Nat) (c : Value) (x : PV), v.cells[i]? = some c → p.cells[i]? = some x → VR N w fix hp c x := by
 have one : ∀ (v : Value) (p : PV), VR N w fix hp v p → p.flat = true → v.cells = #[v] → p.cells = [p] →
   v.cells.size = p.cells.length ∧ (∀ x ∈ p.cells, x.flat = true) ∧ ∀ (i : Nat) (c : Value) (x : PV), v.cells[i]? = some c → p.cells[i]? = some x → VR N w fix hp c x := by
  intro v p h hf hv hp
  rw [hv, hp]
  refine ⟨rfl, by simpa using hf, ?_⟩
  intro i c x hc hx
  cases i with
  | zero => simp at hc hx; subst hc hx; exact h
  | succ i => simp at hx
 cases h with
 | agg cs ps hlen hflat _ hvr => exact ⟨hlen, hflat, hvr⟩
 | tuple cs ps hlen hvr => exact absurd rfl hp0
 | bool b => exact one _ _ (.bool b) rfl rfl rfl
 | int k n => exact one _ _ (.int k n) rfl rfl rfl
 | str s => exact one _ _ (.str s) rfl rfl rfl
 | nils own => exact one _ _ (.nils own) rfl rfl rfl
 | void own a cap => exact one _ _ (.void own a cap) rfl rfl rfl
 | nils' => exact one _ _ .nils' rfl rfl rfl
 | void' a cap => exact one _ _ (.void' a cap) rfl rfl rfl
 | list own b off len cap sz es cv hlen hcap hsz hflat hcell hvr => exact one _ _ (.list own b off len cap sz es cv hlen hcap hsz hflat hcell hvr) rfl rfl rfl
 | nilptr => exact one _ _ .nilptr rfl rfl rfl
 | cptr b off ps cv hflat hcell hvr => exact one _ _ (.cptr b off ps cv hflat hcell hvr) rfl rfl rfl
 | ptr n off b h => exact one _ _ (.ptr n off b h) rfl rfl rfl
 | rowp n sz agg len b cap h hcap hsh => exact one _ _ (.rowp n sz agg len b cap h hcap hsh) rfl rfl rfl
 | rows n sz agg off len b o cap m T h hcap ho hsh hm => exact one _ _ (.rows n sz agg off len b o cap m T h hcap ho hsh hm) rfl rfl rfl
 | mapn => exact one _ _ .mapn rfl rfl rfl
 | map n b h => exact one _ _ (.map n b h) rfl rfl rfl
 | func k fs cs pf pc h0 h1 h2 hf hc => exact one _ _ (.func k fs cs pf pc h0 h1 h2 hf hc) rfl rfl rfl
 | yield k n l y tmps caps h0 hl hr hlen hsz hc => exact one _ _ (.yield k n l y tmps caps h0 hl hr hlen hsz hc) rfl rfl rfl
 | nilfunc => exact one _ _ .nilfunc rfl rfl rfl
 | iface t v p h => exact one _ _ (.iface t v p h) rfl rfl rfl
 | nilIface => exact one _ _ .nilIface rfl rfl rfl
/-- A flat value stands for a value of one cell. -/
def oneCell : Value → Bool
 | .agg _ | .tuple _ => false
 | _ => true
theorem VR.oneCell {N : Nm} {w : World} {fix : Nat → Nat → Prop} {hp : Nat → Option Nat} {v : Value} {p : PV} (h : VR N w fix hp v p) (hf : p.flat = true) : oneCell v = true := by
 cases h <;> first | rfl | simp [PV.flat] at hf
/-- A block of cells none of which is frozen. -/
def Live (w : World) (b : Nat) (cs : Array Value) (T : TypeId) : Prop := ∃ fz : Nat × Nat, w.heap[b]? = some (.cells cs T fz) ∧ ∀ o, o < cs.size → ¬ (fz.1 ≤ o ∧ o < fz.2)
theorem Live.of {w : World} {b : Nat} {cs : Array Value} {T : TypeId} (h : w.heap[b]? = some (.cells cs T (0, 0))) : Live w b cs T := ⟨(0, 0), h, fun o _ h => by simp at h⟩
theorem Live.same {w w' : World} {b : Nat} {cs : Array Value} {T : TypeId} (h : Live w b cs T) (e : w'.heap[b]? = w.heap[b]?) : Live w' b cs T := let ⟨fz, h1, h2⟩ := h; ⟨fz, e.trans h1, h2⟩
/-- Room behind an owned row. -/
def Room (w : World) (G : GS) (key : Key) (v : Value) (es : List PV) : Prop :=
 match v with
 | .slice (some a) len cap => cap = len ∨
   (G.ow a.block = some key ∧ ∃ sz cs T, (∀ e ∈ es, e.cells.length = sz) ∧ Live w a.block cs T ∧ a.off + cap * sz ≤ cs.size ∧
    0 < len ∧ ∀ o, a.off + len * sz ≤ o → ¬ G.fix a.block o)
 | _ => True
/-- What a cell of a box holds. -/
def CR (N : Nm) (w : World) (G : GS) (key : Key) (v : Value) (p : PV) : Prop :=
 VR N w G.fix G.heap v p ∧ p.flat = true ∧ match p with
 | .list true es => Room w G key v es
 | _ => True
/-- What a variable, or a place of a region, holds. -/
def SR (N : Nm) (w : World) (G : GS) (key : Key) (v : Value) (p : PV) : Prop :=
 match p with
 | .dead => True
 | .loc g cs => ∃ b i, key = .var i ∧ v = .pointer (some ⟨b, 0, none⟩) ∧ G.box g = some b ∧ G.ow b = some key ∧ (∀ o, ¬ G.fix b o) ∧
   ∃ cv T, w.heap[b]? = some (.cells cv T (0, 0)) ∧ cv.size = cs.length ∧ ∀ (k : Nat) (c : Value) (x : PV), cv[k]? = some c → cs[k]? = some x → CR N w G (.vcell i k) c x
 | .lptr _ g off => ∃ b, v = .pointer (some ⟨b, off, none⟩) ∧ G.box g = some b
 | .fresh sz agg len cs => ∃ b, v = .slice (some ⟨b, 0, none⟩) len len ∧ G.ow b = some key ∧ (∀ o, ¬ G.fix b o) ∧
   ∃ cv T, w.heap[b]? = some (.cells cv T (0, 0)) ∧ cs.length ≤ cv.size ∧ len * sz ≤ cv.size ∧ ∀ (k : Nat) (c : Value) (x : PV), cv[k]? = some c → cs[k]? = some x → VR N w G.fix G.heap c x ∧ x.flat = true ∧ ∀ es, x ≠ .list true es
 | .list true es => VR N w G.fix G.heap v (.list true es) ∧ Room w G key v es
 | p => VR N w G.fix G.heap v p
structure Ext (w : World) (G : GS) (w' : World) (G' : GS) : Prop where
 os : w'.os = w.os
 tape : w'.tape = w.tape
 output : w'.output = w.output
 size : w.heap.size ≤ w'.heap.size
 same : ∀ b, b < w.heap.size → G.ow b = none → w'.heap[b]? = w.heap[b]?
 fix : ∀ b o, G.fix b o → G'.fix b o ∧ w'.cell? ⟨b, o, none⟩ = w.cell? ⟨b, o, none⟩
 newfix : ∀ b o, G'.fix b o → G.fix b o ∨ w.heap.size ≤ b ∨ G.ow b ≠ none
 own : ∀ b, G'.ow b ≠ none → w.heap.size ≤ b ∨ G.ow b ≠ none
 heap : ∀ n b, G.heap n = some b → G'.heap n = some b
 shape : ShapeLe w w'
 df : G'.df = G.df
theorem Ext.refl (w : World) (G : GS) : Ext w G w G := ⟨rfl, rfl, rfl, Nat.le_refl _, fun _ _ _ => rfl, fun _ _ h => ⟨h, rfl⟩, fun _ _ h => .inl h, fun _ h => .inr h, fun _ _ h => h, ShapeLe.refl w, rfl⟩
theorem Ext.trans {a b c : World} {A B C : GS} (h : Ext a A b B) (k : Ext b B c C) : Ext a A c C := by
 refine ⟨k.os.trans h.os, k.tape.trans h.tape, k.output.trans h.output, Nat.le_trans h.size k.size, ?_, ?_, ?_, ?_, fun n x hx => k.heap _ _ (h.heap _ _ hx), h.shape.trans k.shape, k.df.trans h.df⟩
 ·intro x hx ho
  have hB : B.ow x = none := by
   cases hb : B.ow x with
   | none => rfl
   | some y =>
     rcases h.own x (by simp [hb]) with h1 | h1
     ·omega
     ·exact absurd ho h1
  exact (k.same x (Nat.lt_of_lt_of_le hx h.size) hB).trans (h.same x hx ho)
 ·intro x o hf
  have h1 := h.fix x o hf
  have h2 := k.fix x o h1.1
  exact ⟨h2.1, h2.2.trans h1.2⟩
 ·intro x o hf
  rcases k.newfix x o hf with h1 | h1 | h1
  ·exact h.newfix x o h1
  ·exact .inr (.inl (Nat.le_trans h.size h1))
  ·rcases h.own x h1 with h2 | h2
   ·exact .inr (.inl h2)
   ·exact .inr (.inr h2)
 ·intro x hx
  rcases k.own x hx with h1 | h1
  ·exact .inl (Nat.le_trans h.size h1)
  ·exact h.own x h1
theorem VR.ext {N : Nm} {w w' : World} {G G' : GS} {v : Value} {p : PV} (h : VR N w G.fix G.heap v p) (e : Ext w G w' G') : VR N w' G'.fix G'.heap v p :=
 h.mono e.fix e.heap e.shape
/-- What is held by keys outside K is as it was. -/
def Keep (K : Key → Prop) (w : World) (G : GS) (w' : World) (G' : GS) : Prop :=
 (∀ b k, G.ow b = some k → ¬ K k → G'.ow b = some k ∧ w'.heap[b]? = w.heap[b]? ∧ ∀ o, G'.fix b o → G.fix b o) ∧ ∀ g b, G.box g = some b → G'.box g = some b
theorem Room.keep {w w' : World} {G G' : GS} {K : Key → Prop} {key : Key} {v : Value} {es : List PV} (h : Room w G key v es) (hk : Keep K w G w' G') (hn : ¬ K key) : Room w' G' key v es := by
 unfold Room at *
 split at h
 ·rename_i a len cap
  rcases h with h | ⟨ho, sz, cs, T, h1, h2, h3, h4, h5⟩
  ·exact .inl h
  ·obtain ⟨k1, k2, k3⟩ := hk.1 _ _ ho hn
   exact .inr ⟨k1, sz, cs, T, h1, h2.same k2, h3, h4, fun o hoff hf => h5 o hoff (k3 o hf)⟩
 ·trivial
theorem CR.keep {N : Nm} {w w' : World} {G G' : GS} {K : Key → Prop} {key : Key} {v : Value} {p : PV} (h : CR N w G key v p) (e : Ext w G w' G') (hk : Keep K w G w' G') (hn : ¬ K key) : CR N w' G' key v p := by
 obtain ⟨h1, h2, h3⟩ := h
 refine ⟨h1.ext e, h2, ?_⟩
 split at h3
 ·exact Room.keep h3 hk hn
 ·trivial
theorem SR.keep {N : Nm} {w w' : World} {G G' : GS} {K : Key → Prop} {key : Key} {v : Value} {p : PV} (h : SR N w G key v p) (e : Ext w G w' G') (hk : Keep K w G w' G') (hn : ¬ K key)
  (hc : ∀ i k, key = .var i → ¬ K (.vcell i k)) : SR N w' G' key v p := by
 unfold SR at *
 split at h
 ·trivial
 ·obtain ⟨b, i, hkey, hv, hb, ho, hf, cv, T, h1, h2, h3⟩ := h
  obtain ⟨k1, k2, k3⟩ := hk.1 _ _ ho hn
  exact ⟨b, i, hkey, hv, hk.2 _ _ hb, k1, fun o hf' => hf o (k3 o hf'), cv, T, k2.trans h1, h2, fun k c x hc1 hx => (h3 k c x hc1 hx).keep e hk (hc i k hkey)⟩
 ·obtain ⟨b, h1, h2⟩ := h
  exact ⟨b, h1, hk.2 _ _ h2⟩
 ·obtain ⟨b, hv, ho, hf, cv, T, h1, h2, h4, h3⟩ := h
  obtain ⟨k1, k2, k3⟩ := hk.1 _ _ ho hn
  exact ⟨b, hv, k1, fun o hf' => hf o (k3 o hf'), cv, T, k2.trans h1, h2, h4, fun k c x hc1 hx => ⟨(h3 k c x hc1 hx).1.ext e, (h3 k c x hc1 hx).2⟩⟩
 ·exact ⟨h.1.ext e, Room.keep h.2 hk hn⟩
 ·exact h.ext e
/-- What a map's entry holds. -/
def MR (N : Nm) (w : World) (G : GS) (key : Key) (v : Value) (p : PV) : Prop :=
 VR N w G.fix G.heap v p ∧ match p with
 | .list true es => Room w G key v es
 | _ => True
theorem MR.keep {N : Nm} {w w' : World} {G G' : GS} {K : Key → Prop} {key : Key} {v : Value} {p : PV} (h : MR N w G key v p) (e : Ext w G w' G') (hk : Keep K w G w' G') (hn : ¬ K key) : MR N w' G' key v p := by
 obtain ⟨h1, h3⟩ := h
 refine ⟨h1.ext e, ?_⟩
 split at h3
 ·exact Room.keep h3 hk hn
 ·trivial
/-- An object of the shared heap. -/
def ObjR (N : Nm) (w : World) (G : GS) (n b : Nat) : PObj → Prop
 | .cells cs => (∀ o, ¬ G.fix b o) ∧ ∃ cv T, w.heap[b]? = some (.cells cv T (0, 0)) ∧ cs.length ≤ cv.size ∧ ∀ (k : Nat) (c : Value) (x : PV), cv[k]? = some c → cs[k]? = some x → CR N w G (.hcell n k) c x
 | .map es => ∃ mes clock, w.heap[b]? = some (.map mes clock) ∧ mes.size = es.length ∧ (∀ (i : Nat) (e : Go.MapEntry), mes[i]? = some e → e.born < clock) ∧
   (∀ (i i' : Nat) (e e' : Go.MapEntry), mes[i]? = some e → mes[i']? = some e' → e.born = e'.born → i = i') ∧
   ∀ (i : Nat) (e : Go.MapEntry) (p : PV × PV), mes[i]? = some e → es[i]? = some p → VR N w G.fix G.heap e.key p.1 ∧ MR N w G (.hcell n i) e.val p.2
 | .bld bs => (∀ o, ¬ G.fix b o) ∧ ∃ p v, w.heap[b]? = some (.cells #[p, v] N.bT (0, 0)) ∧ (p = .pointer none ∨ p = .pointer (some ⟨b, 0, none⟩)) ∧
   ((v = .slice none 0 0 ∧ bs = []) ∨ ∃ g cap cur, v = .slice (some ⟨g, 0, none⟩) bs.length cap ∧ G.ow g = some (.hcell n 1) ∧ (∀ o, ¬ G.fix g o) ∧ w.heap[g]? = some (.cells cur N.bE (0, 0)) ∧ bs.length ≤ cap ∧ cap ≤ Go.maxLen ∧ cur.size = cap ∧ cur.toList.take bs.length = Go.Lib.byteCells bs)
 | .siter s pos => (∀ o, ¬ G.fix b o) ∧ ∃ s' : ByteArray, w.heap[b]? = some (.stringIter s' pos) ∧ s'.data.toList = s
 | .gone => True
 | .sblob => ∃ mes clock, w.heap[b]? = some (.map mes clock) ∧ ∀ e ∈ mes.toList, ∃ s, e.key = .string s
 | .loop ready => (∀ o, ¬ G.fix b o) ∧ ∃ r : Go.Loop, w.heap[b]? = some (.loop r) ∧ r.pending = none ∧ r.state = (if ready then .ready else .busy)
 | .over id => (∀ o, ¬ G.fix b o) ∧ ∃ r : Go.Loop, w.heap[b]? = some (.loop r) ∧ r.pending = some (match id with | none => .ret | some i => .exit i) ∧ r.state = .done
theorem ObjR.keep {N : Nm} {w w' : World} {G G' : GS} {K : Key → Prop} {n b : Nat} {ob : PObj} (h : ObjR N w G n b ob) (ho : G.ow b = some (.hobj n)) (e : Ext w G w' G') (hk : Keep K w G w' G') (h1 : ¬ K (.hobj n))
  (h2 : ∀ k, ¬ K (.hcell n k)) : ObjR N w' G' n b ob := by
 obtain ⟨_, k2, k3⟩ := hk.1 _ _ ho h1
 cases ob with
 | cells cs =>
   obtain ⟨f, cv, T, a1, a2, a3⟩ := h
   exact ⟨fun o hf => f o (k3 o hf), cv, T, k2.trans a1, a2, fun k c x hc hx => (a3 k c x hc hx).keep e hk (h2 k)⟩
 | map es =>
   obtain ⟨mes, clock, a1, a2, a3, a4, a5⟩ := h
   exact ⟨mes, clock, k2.trans a1, a2, a3, a4, fun i en p hi hp => ⟨(a5 i en p hi hp).1.ext e, (a5 i en p hi hp).2.keep e hk (h2 i)⟩⟩
 | bld bs =>
   obtain ⟨f, p, v, a1, a2, a3⟩ := h
   refine ⟨fun o hf => f o (k3 o hf), p, v, k2.trans a1, a2, ?_⟩
   rcases a3 with a3 | ⟨g, cap, cur, b1, b2, b3, b4, b5⟩
   ·exact .inl a3
   ·obtain ⟨j1, j2, j3⟩ := hk.1 _ _ b2 (h2 1)
    exact .inr ⟨g, cap, cur, b1, j1, fun o hf => b3 o (j3 o hf), j2.trans b4, b5⟩
 | siter s pos =>
   obtain ⟨f, s', a1, a2⟩ := h
   exact ⟨fun o hf => f o (k3 o hf), s', k2.trans a1, a2⟩
 | gone => trivial
 | sblob =>
   obtain ⟨mes, clock, a1, a2⟩ := h
   exact ⟨mes, clock, k2.trans a1, a2⟩
 | loop ready =>
   obtain ⟨f, r, a1, a2⟩ := h
   exact ⟨fun o hf => f o (k3 o hf), r, k2.trans a1, a2⟩
 | over id =>
   obtain ⟨f, r, a1, a2⟩ := h
   exact ⟨fun o hf => f o (k3 o hf), r, k2.trans a1, a2⟩
/-- The tables are there. -/
def Tab (N : Nm) (w : World) (fix : Nat → Nat → Prop) : Prop := (∀ t ∈ N.tabs, fix t.1 t.2.1 ∧ w.cell? ⟨t.1, t.2.1, none⟩ = some t.2.2) ∧ ∀ r ∈ N.rows, w.shape? r.1 = some r.2
theorem Tab.ext {N : Nm} {w w' : World} {G G' : GS} (h : Tab N w G.fix) (e : Ext w G w' G') : Tab N w' G'.fix :=
 ⟨fun t ht => ⟨(e.fix _ _ (h.1 t ht).1).1, (e.fix _ _ (h.1 t ht).1).2.trans (h.1 t ht).2⟩, fun r hr => e.shape.1 _ _ (h.2 r hr)⟩
/-- The shared heap. -/
def HR (N : Nm) (w : World) (G : GS) (heap : List PObj) : Prop :=
 (∀ (n : Nat) (ob : PObj), heap[n]? = some ob → ob = .gone ∨ ∃ b, G.heap n = some b ∧ G.ow b = some (.hobj n) ∧ ObjR N w G n b ob) ∧ Tab N w G.fix
def Key.isH : Key → Bool
 | .hobj _ | .hcell _ _ => true
 | _ => false
theorem HR.keep {N : Nm} {w w' : World} {G G' : GS} {K : Key → Prop} {heap : List PObj} (h : HR N w G heap) (e : Ext w G w' G') (hk : Keep K w G w' G') (hn : ∀ k, k.isH = true → ¬ K k) : HR N w' G' heap := by
 refine ⟨?_, h.2.ext e⟩
 intro n ob hob
 rcases h.1 n ob hob with rfl | ⟨b, h1, h2, h3⟩
 ·exact .inl rfl
 exact .inr ⟨b, e.heap _ _ h1, (hk.1 _ _ h2 (hn _ rfl)).1, h3.keep h2 e hk (hn _ rfl) (fun k => hn _ rfl)⟩
/-- All but the object m is kept. -/
theorem HR.keepBut {N : Nm} {w w' : World} {G G' : GS} {K : Key → Prop} {heap : List PObj} {m : Nat} {ob' : PObj} (h : HR N w G heap) (e : Ext w G w' G') (hk : Keep K w G w' G')
  (hn : ∀ n k, n ≠ m → ¬ K (.hobj n) ∧ ¬ K (.hcell n k)) (hm : m < heap.length → ob' = .gone ∨ ∃ b, G'.heap m = some b ∧ G'.ow b = some (.hobj m) ∧ ObjR N w' G' m b ob') : HR N w' G' (heap.set m ob') := by
 refine ⟨?_, h.2.ext e⟩
 intro n ob hob
 rw [List.getElem?_set] at hob
 split at hob
 ·rename_i hmn
  subst hmn
  split at hob
  ·rename_i hlt
   simp at hob; subst hob
   exact hm hlt
  ·simp at hob
 ·rename_i hmn
  rcases h.1 n ob hob with rfl | ⟨b, h1, h2, h3⟩
  ·exact .inl rfl
  have hne : n ≠ m := fun e => hmn e.symm
  exact .inr ⟨b, e.heap _ _ h1, (hk.1 _ _ h2 (hn n 0 hne).1).1, h3.keep h2 e hk (hn n 0 hne).1 (fun k => (hn n k hne).2)⟩
/-- One object more. -/
theorem HR.push {N : Nm} {w w' : World} {G G' : GS} {K : Key → Prop} {heap : List PObj} {ob' : PObj} (h : HR N w G heap) (e : Ext w G w' G') (hk : Keep K w G w' G')
  (hn : ∀ n k, n < heap.length → heap[n]? = some .gone ∨ (¬ K (.hobj n) ∧ ¬ K (.hcell n k))) (hm : ob' = .gone ∨ ∃ b, G'.heap heap.length = some b ∧ G'.ow b = some (.hobj heap.length) ∧ ObjR N w' G' heap.length b ob') : HR N w' G' (heap ++ [ob']) := by
 refine ⟨?_, h.2.ext e⟩
 intro n ob hob
 by_cases hlt : n < heap.length
 ·rw [List.getElem?_append_left hlt] at hob
  rcases h.1 n ob hob with rfl | ⟨b, h1, h2, h3⟩
  ·exact .inl rfl
  by_cases hg : ob = .gone
  ·exact .inl hg
  have hn' : ∀ k, ¬ K (.hobj n) ∧ ¬ K (.hcell n k) := fun k => (hn n k hlt).resolve_left fun e => hg (by rw [hob] at e; simpa using e)
  exact .inr ⟨b, e.heap _ _ h1, (hk.1 _ _ h2 (hn' 0).1).1, h3.keep h2 e hk (hn' 0).1 (fun k => (hn' k).2)⟩
 ·rw [List.getElem?_append_right (by omega)] at hob
  have : n - heap.length = 0 := by
   cases hx : n - heap.length with
   | zero => rfl
   | succ k => rw [hx] at hob; simp at hob
  rw [this] at hob
  simp at hob
  subst hob
  have hn' : n = heap.length := by omega
  subst hn'
  exact hm
end PI
