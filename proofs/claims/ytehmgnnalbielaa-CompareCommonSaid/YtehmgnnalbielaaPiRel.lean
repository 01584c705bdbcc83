/-
  What a value of the pure interpreter stands for in the machine's memory: readings, owned room, the frame's own boxes; and how these are kept.
-/
import Derived.Test.YtehmgnnalbielaaPiBase
import Derived.Calls
import Derived.Below
namespace PI
open Go (IntKind BinOp UnOp Value Addr World Obj Program FuncId TypeId Act Operand undef)

/-- The numbers that functions and types bear in a translation. -/
structure Nm where
  fn : Nat → FuncId
  ty : Nat → TypeId

/-- Who holds a block: a variable, a place of the region, a cell of a variable's box, an object of the heap, a cell of one. -/
inductive Key where
  | var (i : Nat)
  | loc (j : Nat)
  | vcell (i k : Nat)
  | hobj (n : Nat)
  | hcell (n k : Nat)
  deriving DecidableEq

structure GS where
  fix : Nat → Nat → Prop
  heap : Nat → Option Nat
  box : Nat → Option Nat
  ow : Nat → Option Key

inductive VR (N : Nm) (w : World) (fix : Nat → Nat → Prop) (hp : Nat → Option Nat) : Value → PV → Prop where
  | bool (b : Bool) : VR N w fix hp (.bool b) (.bool b)
  | int (k : IntKind) (n : Int) : VR N w fix hp (.int k n) (.int k n)
  | str (s : ByteArray) : VR N w fix hp (.string s) (.str s.data.toList)
  | nils (own : Bool) : VR N w fix hp (.slice none 0 0) (.list own [])
  | void (own : Bool) (a : Addr) (cap : Nat) : VR N w fix hp (.slice (some a) 0 cap) (.list own [])
  | nils' : VR N w fix hp (.slice none 0 0) .nils
  | void' (a : Addr) (cap : Nat) : VR N w fix hp (.slice (some a) 0 cap) .void
  | list (own : Bool) (b off len cap sz : Nat) (es : List PV) (cv : Nat → Value) (hlen : es.length = len) (hcap : len ≤ cap)
      (hsz : ∀ e ∈ es, e.cells.length = sz) (hflat : ∀ e ∈ es, ∀ x ∈ e.cells, x.flat = true)
      (hcell : ∀ k, k < len * sz → w.cell? ⟨b, off + k, none⟩ = some (cv k) ∧ fix b (off + k))
      (hvr : ∀ (i : Nat) (e : PV), es[i]? = some e → ∀ (j : Nat) (x : PV), e.cells[j]? = some x → VR N w fix hp (cv (i * sz + j)) x) :
      VR N w fix hp (.slice (some ⟨b, off, none⟩) len cap) (.list own es)
  | agg (cs : Array Value) (ps : List PV) (hlen : cs.size = ps.length) (hflat : ∀ x ∈ ps, x.flat = true)
      (hown : ∀ (i : Nat) (c : Value) (es : List PV), cs[i]? = some c → ps[i]? = some (.list true es) → c = .slice none 0 0)
      (hvr : ∀ (i : Nat) (c : Value) (p : PV), cs[i]? = some c → ps[i]? = some p → VR N w fix hp c p) : VR N w fix hp (.agg cs) (.agg ps)
  | tuple (cs : Array Value) (ps : List PV) (hlen : cs.size = ps.length)
      (hvr : ∀ (i : Nat) (c : Value) (p : PV), cs[i]? = some c → ps[i]? = some p → VR N w fix hp c p) : VR N w fix hp (.tuple cs) (.tuple ps)
  | nilptr : VR N w fix hp (.pointer none) .nilptr
  | cptr (b off : Nat) (ps : List PV) (cv : Nat → Value) (hflat : ∀ x ∈ ps, x.flat = true)
      (hcell : ∀ k, k < ps.length → w.cell? ⟨b, off + k, none⟩ = some (cv k) ∧ fix b (off + k))
      (hvr : ∀ (k : Nat) (x : PV), ps[k]? = some x → VR N w fix hp (cv k) x) : VR N w fix hp (.pointer (some ⟨b, off, none⟩)) (.cptr ps)
  | ptr (n off b : Nat) (h : hp n = some b) : VR N w fix hp (.pointer (some ⟨b, off, none⟩)) (.ptr n off)
  | mapn : VR N w fix hp (.map none) (.map none)
  | map (n b : Nat) (h : hp n = some b) : VR N w fix hp (.map (some b)) (.map (some n))
  | func (k : Nat) (fs cs : Array Value) (pf pc : List PV) (h1 : fs.size = pf.length) (h2 : cs.size = pc.length)
      (hf : ∀ (i : Nat) (c : Value) (p : PV), fs[i]? = some c → pf[i]? = some p → VR N w fix hp c p)
      (hc : ∀ (i : Nat) (c : Value) (p : PV), cs[i]? = some c → pc[i]? = some p → VR N w fix hp c p) :
      VR N w fix hp (.func (.func (N.fn k)) fs cs) (.func k pf pc)
  | nilfunc : VR N w fix hp .nilFunc .nilfunc
  | iface (t : Nat) (v : Value) (p : PV) (h : VR N w fix hp v p) : VR N w fix hp (.iface (N.ty t) v) (.iface t p)
  | nilIface : VR N w fix hp .nilIface .nilIface

theorem VR.mono {N : Nm} {w w' : World} {fix fix' : Nat → Nat → Prop} {hp hp' : Nat → Option Nat} {v : Value} {p : PV} (h : VR N w fix hp v p)
    (hf : ∀ b o, fix b o → fix' b o ∧ w'.cell? ⟨b, o, none⟩ = w.cell? ⟨b, o, none⟩) (hh : ∀ n b, hp n = some b → hp' n = some b) :
    VR N w' fix' hp' v p := by
  induction h with
  | bool b => exact .bool b
  | int k n => exact .int k n
  | str s => exact .str s
  | nils own => exact .nils own
  | void own a cap => exact .void own a cap
  | nils' => exact .nils'
  | void' a cap => exact .void' a cap
  | list own b off len cap sz es cv hlen hcap hsz hflat hcell _ ih =>
    exact .list own b off len cap sz es cv hlen hcap hsz hflat (fun k hk => ⟨(hf _ _ (hcell k hk).2).2.trans (hcell k hk).1, (hf _ _ (hcell k hk).2).1⟩) ih
  | agg cs ps hlen hflat hown _ ih => exact .agg cs ps hlen hflat hown ih
  | tuple cs ps hlen _ ih => exact .tuple cs ps hlen ih
  | nilptr => exact .nilptr
  | cptr b off ps cv hflat hcell _ ih =>
    exact .cptr b off ps cv hflat (fun k hk => ⟨(hf _ _ (hcell k hk).2).2.trans (hcell k hk).1, (hf _ _ (hcell k hk).2).1⟩) ih
  | ptr n off b h => exact .ptr n off b (hh _ _ h)
  | mapn => exact .mapn
  | map n b h => exact .map n b (hh _ _ h)
  | func k fs cs pf pc h1 h2 _ _ ihf ihc => exact .func k fs cs pf pc h1 h2 ihf ihc
  | nilfunc => exact .nilfunc
  | iface t v p _ ih => exact .iface t v p ih
  | nilIface => exact .nilIface

/-- The mark 'own' says nothing in a reading. -/
theorem VR.dem {N : Nm} {w : World} {fix : Nat → Nat → Prop} {hp : Nat → Option Nat} {v : Value} {p : PV} (h : VR N w fix hp v p) :
    VR N w fix hp v (dem p) := by
  cases h with
  | nils own => exact .nils false
  | void own a cap => exact .void false a cap
  | nils' => exact .nils'
  | void' a cap => exact .void' a cap
  | list own b off len cap sz es cv hlen hcap hsz hflat hcell hvr => exact .list false b off len cap sz es cv hlen hcap hsz hflat hcell hvr
  | bool b => exact .bool b
  | int k n => exact .int k n
  | str s => exact .str s
  | agg cs ps hlen hflat hown hvr => exact .agg cs ps hlen hflat hown hvr
  | tuple cs ps hlen hvr => exact .tuple cs ps hlen hvr
  | nilptr => exact .nilptr
  | cptr b off ps cv hflat hcell hvr => exact .cptr b off ps cv hflat hcell hvr
  | ptr n off b h => exact .ptr n off b h
  | mapn => exact .mapn
  | map n b h => exact .map n b h
  | func k fs cs pf pc h1 h2 hf hc => exact .func k fs cs pf pc h1 h2 hf hc
  | nilfunc => exact .nilfunc
  | iface t v p h => exact .iface t v p h
  | nilIface => exact .nilIface

theorem VR.undem {N : Nm} {w : World} {fix : Nat → Nat → Prop} {hp : Nat → Option Nat} {v : Value} {own : Bool} {es : List PV}
    (h : VR N w fix hp v (.list false es)) : VR N w fix hp v (.list own es) := by
  cases h with
  | nils _ => exact .nils own
  | void _ a cap => exact .void own a cap
  | list _ b off len cap sz es cv hlen hcap hsz hflat hcell hvr => exact .list own b off len cap sz es cv hlen hcap hsz hflat hcell hvr

theorem VR.row {N : Nm} {w : World} {fix : Nat → Nat → Prop} {hp : Nat → Option Nat} {v : Value} {p : PV} {es : List PV} (h : VR N w fix hp v p) (hr : asRow p = some es) : VR N w fix hp v (.list false es) := by
  unfold asRow at hr
  split at hr <;> simp at hr
  · subst hr; exact h.dem
  · subst hr; cases h; exact .nils false
  · subst hr; cases h; exact .void false _ _

/-- An empty slice is nil, or not. -/
theorem VR.vague {N : Nm} {w : World} {fix : Nat → Nat → Prop} {hp : Nat → Option Nat} {v : Value} {p : PV} (h : VR N w fix hp v p) (hv : PI.vague p = true) : VR N w fix hp v .nils ∨ VR N w fix hp v .void := by
  unfold PI.vague at hv
  split at hv
  · cases h with
    | nils _ => exact .inl .nils'
    | void _ a cap => exact .inr (.void' a cap)
    | list _ b off len cap sz _ cv hlen _ _ _ _ _ =>
      simp at hlen
      subst hlen
      exact .inr (.void' _ cap)
  · simp at hv

theorem flat_dem (p : PV) : (dem p).flat = p.flat := by cases p <;> rfl

/-- The cells of a value and of what it stands for. -/
theorem VR.cells {N : Nm} {w : World} {fix : Nat → Nat → Prop} {hp : Nat → Option Nat} {v : Value} {p : PV} (h : VR N w fix hp v p) (hp0 : p.cells ≠ []) :
    v.cells.size = p.cells.length ∧ (∀ x ∈ p.cells, x.flat = true) ∧ ∀ (i : Nat) (c : Value) (x : PV), v.cells[i]? = some c → p.cells[i]? = some x → VR N w fix hp c x := by
  have one : ∀ (v : Value) (p : PV), VR N w fix hp v p → p.flat = true → v.cells = #[v] → p.cells = [p] →
      v.cells.size = p.cells.length ∧ (∀ x ∈ p.cells, x.flat = true) ∧ ∀ (i : Nat) (c : Value) (x : PV), v.cells[i]? = some c → p.cells[i]? = some x → VR N w fix hp c x := by
    intro v p h hf hv hp
    rw [hv, hp]
    refine ⟨rfl, by simpa using hf, ?_⟩
    intro i c x hc hx
    cases i with
    | zero => simp at hc hx; subst hc hx; exact h
    | succ i => simp at hx
  cases h with
  | agg cs ps hlen hflat _ hvr => exact ⟨hlen, hflat, hvr⟩
  | tuple cs ps hlen hvr => exact absurd rfl hp0
  | bool b => exact one _ _ (.bool b) rfl rfl rfl
  | int k n => exact one _ _ (.int k n) rfl rfl rfl
  | str s => exact one _ _ (.str s) rfl rfl rfl
  | nils own => exact one _ _ (.nils own) rfl rfl rfl
  | void own a cap => exact one _ _ (.void own a cap) rfl rfl rfl
  | nils' => exact one _ _ .nils' rfl rfl rfl
  | void' a cap => exact one _ _ (.void' a cap) rfl rfl rfl
  | list own b off len cap sz es cv hlen hcap hsz hflat hcell hvr => exact one _ _ (.list own b off len cap sz es cv hlen hcap hsz hflat hcell hvr) rfl rfl rfl
  | nilptr => exact one _ _ .nilptr rfl rfl rfl
  | cptr b off ps cv hflat hcell hvr => exact one _ _ (.cptr b off ps cv hflat hcell hvr) rfl rfl rfl
  | ptr n off b h => exact one _ _ (.ptr n off b h) rfl rfl rfl
  | mapn => exact one _ _ .mapn rfl rfl rfl
  | map n b h => exact one _ _ (.map n b h) rfl rfl rfl
  | func k fs cs pf pc h1 h2 hf hc => exact one _ _ (.func k fs cs pf pc h1 h2 hf hc) rfl rfl rfl
  | nilfunc => exact one _ _ .nilfunc rfl rfl rfl
  | iface t v p h => exact one _ _ (.iface t v p h) rfl rfl rfl
  | nilIface => exact one _ _ .nilIface rfl rfl rfl

/-- A flat value stands for a value of one cell. -/
def oneCell : Value → Bool
  | .agg _ | .tuple _ => false
  | _ => true
theorem VR.oneCell {N : Nm} {w : World} {fix : Nat → Nat → Prop} {hp : Nat → Option Nat} {v : Value} {p : PV} (h : VR N w fix hp v p) (hf : p.flat = true) : oneCell v = true := by
  cases h <;> first | rfl | simp [PV.flat] at hf

/-- Room behind an owned row. -/
def Room (w : World) (G : GS) (key : Key) (v : Value) (es : List PV) : Prop :=
  match v with
  | .slice (some a) len cap => cap = len ∨
      (G.ow a.block = some key ∧ ∃ sz cs T, (∀ e ∈ es, e.cells.length = sz) ∧ w.heap[a.block]? = some (.cells cs T (0, 0)) ∧ a.off + cap * sz ≤ cs.size ∧
        0 < len ∧ ∀ o, a.off + len * sz ≤ o → ¬ G.fix a.block o)
  | _ => True

/-- What a cell of a box holds. -/
def CR (N : Nm) (w : World) (G : GS) (key : Key) (v : Value) (p : PV) : Prop :=
  VR N w G.fix G.heap v p ∧ p.flat = true ∧ match p with
  | .list true es => Room w G key v es
  | _ => True

/-- What a variable, or a place of a region, holds. -/
def SR (N : Nm) (w : World) (G : GS) (key : Key) (v : Value) (p : PV) : Prop :=
  match p with
  | .dead => True
  | .loc g cs => ∃ b i, key = .var i ∧ v = .pointer (some ⟨b, 0, none⟩) ∧ G.box g = some b ∧ G.ow b = some key ∧ (∀ o, ¬ G.fix b o) ∧
      ∃ cv T, w.heap[b]? = some (.cells cv T (0, 0)) ∧ cv.size = cs.length ∧ ∀ (k : Nat) (c : Value) (x : PV), cv[k]? = some c → cs[k]? = some x → CR N w G (.vcell i k) c x
  | .lptr _ g off => ∃ b, v = .pointer (some ⟨b, off, none⟩) ∧ G.box g = some b
  | .list true es => VR N w G.fix G.heap v (.list true es) ∧ Room w G key v es
  | p => VR N w G.fix G.heap v p

structure Ext (w : World) (G : GS) (w' : World) (G' : GS) : Prop where
  os : w'.os = w.os
  tape : w'.tape = w.tape
  output : w'.output = w.output
  size : w.heap.size ≤ w'.heap.size
  same : ∀ b, b < w.heap.size → G.ow b = none → w'.heap[b]? = w.heap[b]?
  fix : ∀ b o, G.fix b o → G'.fix b o ∧ w'.cell? ⟨b, o, none⟩ = w.cell? ⟨b, o, none⟩
  newfix : ∀ b o, G'.fix b o → G.fix b o ∨ w.heap.size ≤ b ∨ G.ow b ≠ none
  own : ∀ b, G'.ow b ≠ none → w.heap.size ≤ b ∨ G.ow b ≠ none
  heap : ∀ n b, G.heap n = some b → G'.heap n = some b

theorem Ext.refl (w : World) (G : GS) : Ext w G w G := ⟨rfl, rfl, rfl, Nat.le_refl _, fun _ _ _ => rfl, fun _ _ h => ⟨h, rfl⟩, fun _ _ h => .inl h, fun _ h => .inr h, fun _ _ h => h⟩

theorem Ext.trans {a b c : World} {A B C : GS} (h : Ext a A b B) (k : Ext b B c C) : Ext a A c C := by
  refine ⟨k.os.trans h.os, k.tape.trans h.tape, k.output.trans h.output, Nat.le_trans h.size k.size, ?_, ?_, ?_, ?_, fun n x hx => k.heap _ _ (h.heap _ _ hx)⟩
  · intro x hx ho
    have hB : B.ow x = none := by
      cases hb : B.ow x with
      | none => rfl
      | some y =>
        rcases h.own x (by simp [hb]) with h1 | h1
        · omega
        · exact absurd ho h1
    exact (k.same x (Nat.lt_of_lt_of_le hx h.size) hB).trans (h.same x hx ho)
  · intro x o hf
    have h1 := h.fix x o hf
    have h2 := k.fix x o h1.1
    exact ⟨h2.1, h2.2.trans h1.2⟩
  · intro x o hf
    rcases k.newfix x o hf with h1 | h1 | h1
    · exact h.newfix x o h1
    · exact .inr (.inl (Nat.le_trans h.size h1))
    · rcases h.own x h1 with h2 | h2
      · exact .inr (.inl h2)
      · exact .inr (.inr h2)
  · intro x hx
    rcases k.own x hx with h1 | h1
    · exact .inl (Nat.le_trans h.size h1)
    · exact h.own x h1

theorem VR.ext {N : Nm} {w w' : World} {G G' : GS} {v : Value} {p : PV} (h : VR N w G.fix G.heap v p) (e : Ext w G w' G') : VR N w' G'.fix G'.heap v p :=
  h.mono e.fix e.heap

/-- What is held by keys outside K is as it was. -/
def Keep (K : Key → Prop) (w : World) (G : GS) (w' : World) (G' : GS) : Prop :=
  (∀ b k, G.ow b = some k → ¬ K k → G'.ow b = some k ∧ w'.heap[b]? = w.heap[b]? ∧ ∀ o, G'.fix b o → G.fix b o) ∧ ∀ g b, G.box g = some b → G'.box g = some b

theorem Room.keep {w w' : World} {G G' : GS} {K : Key → Prop} {key : Key} {v : Value} {es : List PV} (h : Room w G key v es) (hk : Keep K w G w' G') (hn : ¬ K key) : Room w' G' key v es := by
  unfold Room at *
  split at h
  · rename_i a len cap
    rcases h with h | ⟨ho, sz, cs, T, h1, h2, h3, h4, h5⟩
    · exact .inl h
    · obtain ⟨k1, k2, k3⟩ := hk.1 _ _ ho hn
      exact .inr ⟨k1, sz, cs, T, h1, k2.trans h2, h3, h4, fun o hoff hf => h5 o hoff (k3 o hf)⟩
  · trivial

theorem CR.keep {N : Nm} {w w' : World} {G G' : GS} {K : Key → Prop} {key : Key} {v : Value} {p : PV} (h : CR N w G key v p) (e : Ext w G w' G') (hk : Keep K w G w' G') (hn : ¬ K key) : CR N w' G' key v p := by
  obtain ⟨h1, h2, h3⟩ := h
  refine ⟨h1.ext e, h2, ?_⟩
  split at h3
  · exact Room.keep h3 hk hn
  · trivial

theorem SR.keep {N : Nm} {w w' : World} {G G' : GS} {K : Key → Prop} {key : Key} {v : Value} {p : PV} (h : SR N w G key v p) (e : Ext w G w' G') (hk : Keep K w G w' G') (hn : ¬ K key)
    (hc : ∀ i k, key = .var i → ¬ K (.vcell i k)) : SR N w' G' key v p := by
  unfold SR at *
  split at h
  · trivial
  · obtain ⟨b, i, hkey, hv, hb, ho, hf, cv, T, h1, h2, h3⟩ := h
    obtain ⟨k1, k2, k3⟩ := hk.1 _ _ ho hn
    exact ⟨b, i, hkey, hv, hk.2 _ _ hb, k1, fun o hf' => hf o (k3 o hf'), cv, T, k2.trans h1, h2, fun k c x hc1 hx => (h3 k c x hc1 hx).keep e hk (hc i k hkey)⟩
  · obtain ⟨b, h1, h2⟩ := h
    exact ⟨b, h1, hk.2 _ _ h2⟩
  · exact ⟨h.1.ext e, Room.keep h.2 hk hn⟩
  · exact h.ext e

/-- What a map's entry holds. -/
def MR (N : Nm) (w : World) (G : GS) (key : Key) (v : Value) (p : PV) : Prop :=
  VR N w G.fix G.heap v p ∧ match p with
  | .list true es => Room w G key v es
  | _ => True

theorem MR.keep {N : Nm} {w w' : World} {G G' : GS} {K : Key → Prop} {key : Key} {v : Value} {p : PV} (h : MR N w G key v p) (e : Ext w G w' G') (hk : Keep K w G w' G') (hn : ¬ K key) : MR N w' G' key v p := by
  obtain ⟨h1, h3⟩ := h
  refine ⟨h1.ext e, ?_⟩
  split at h3
  · exact Room.keep h3 hk hn
  · trivial

/-- An object of the shared heap. -/
def ObjR (N : Nm) (w : World) (G : GS) (n b : Nat) : PObj → Prop
  | .cells cs => (∀ o, ¬ G.fix b o) ∧ ∃ cv T, w.heap[b]? = some (.cells cv T (0, 0)) ∧ cv.size = cs.length ∧ ∀ (k : Nat) (c : Value) (x : PV), cv[k]? = some c → cs[k]? = some x → CR N w G (.hcell n k) c x
  | .map es => ∃ mes clock, w.heap[b]? = some (.map mes clock) ∧ mes.size = es.length ∧ (∀ (i : Nat) (e : Go.MapEntry), mes[i]? = some e → e.born < clock) ∧
      (∀ (i i' : Nat) (e e' : Go.MapEntry), mes[i]? = some e → mes[i']? = some e' → e.born = e'.born → i = i') ∧
      ∀ (i : Nat) (e : Go.MapEntry) (p : PV × PV), mes[i]? = some e → es[i]? = some p → VR N w G.fix G.heap e.key p.1 ∧ MR N w G (.hcell n i) e.val p.2

theorem ObjR.keep {N : Nm} {w w' : World} {G G' : GS} {K : Key → Prop} {n b : Nat} {ob : PObj} (h : ObjR N w G n b ob) (ho : G.ow b = some (.hobj n)) (e : Ext w G w' G') (hk : Keep K w G w' G') (h1 : ¬ K (.hobj n))
    (h2 : ∀ k, ¬ K (.hcell n k)) : ObjR N w' G' n b ob := by
  obtain ⟨_, k2, k3⟩ := hk.1 _ _ ho h1
  cases ob with
  | cells cs =>
    obtain ⟨f, cv, T, a1, a2, a3⟩ := h
    exact ⟨fun o hf => f o (k3 o hf), cv, T, k2.trans a1, a2, fun k c x hc hx => (a3 k c x hc hx).keep e hk (h2 k)⟩
  | map es =>
    obtain ⟨mes, clock, a1, a2, a3, a4, a5⟩ := h
    exact ⟨mes, clock, k2.trans a1, a2, a3, a4, fun i en p hi hp => ⟨(a5 i en p hi hp).1.ext e, (a5 i en p hi hp).2.keep e hk (h2 i)⟩⟩

/-- The shared heap. -/
def HR (N : Nm) (w : World) (G : GS) (heap : List PObj) : Prop :=
  ∀ (n : Nat) (ob : PObj), heap[n]? = some ob → ∃ b, G.heap n = some b ∧ G.ow b = some (.hobj n) ∧ ObjR N w G n b ob

def Key.isH : Key → Bool
  | .hobj _ | .hcell _ _ => true
  | _ => false

theorem HR.keep {N : Nm} {w w' : World} {G G' : GS} {K : Key → Prop} {heap : List PObj} (h : HR N w G heap) (e : Ext w G w' G') (hk : Keep K w G w' G') (hn : ∀ k, k.isH = true → ¬ K k) : HR N w' G' heap := by
  intro n ob hob
  obtain ⟨b, h1, h2, h3⟩ := h n ob hob
  exact ⟨b, e.heap _ _ h1, (hk.1 _ _ h2 (hn _ rfl)).1, h3.keep h2 e hk (hn _ rfl) (fun k => hn _ rfl)⟩

/-- All but the object m is kept. -/
theorem HR.keepBut {N : Nm} {w w' : World} {G G' : GS} {K : Key → Prop} {heap : List PObj} {m : Nat} {ob' : PObj} (h : HR N w G heap) (e : Ext w G w' G') (hk : Keep K w G w' G')
    (hn : ∀ n k, n ≠ m → ¬ K (.hobj n) ∧ ¬ K (.hcell n k)) (hm : m < heap.length → ∃ b, G'.heap m = some b ∧ G'.ow b = some (.hobj m) ∧ ObjR N w' G' m b ob') : HR N w' G' (heap.set m ob') := by
  intro n ob hob
  rw [List.getElem?_set] at hob
  split at hob
  · rename_i hmn
    subst hmn
    split at hob
    · rename_i hlt
      simp at hob; subst hob
      exact hm hlt
    · simp at hob
  · rename_i hmn
    obtain ⟨b, h1, h2, h3⟩ := h n ob hob
    have hne : n ≠ m := fun e => hmn e.symm
    exact ⟨b, e.heap _ _ h1, (hk.1 _ _ h2 (hn n 0 hne).1).1, h3.keep h2 e hk (hn n 0 hne).1 (fun k => (hn n k hne).2)⟩

/-- One object more. -/
theorem HR.push {N : Nm} {w w' : World} {G G' : GS} {K : Key → Prop} {heap : List PObj} {ob' : PObj} (h : HR N w G heap) (e : Ext w G w' G') (hk : Keep K w G w' G')
    (hn : ∀ n k, n < heap.length → ¬ K (.hobj n) ∧ ¬ K (.hcell n k)) (hm : ∃ b, G'.heap heap.length = some b ∧ G'.ow b = some (.hobj heap.length) ∧ ObjR N w' G' heap.length b ob') : HR N w' G' (heap ++ [ob']) := by
  intro n ob hob
  by_cases hlt : n < heap.length
  · rw [List.getElem?_append_left hlt] at hob
    obtain ⟨b, h1, h2, h3⟩ := h n ob hob
    exact ⟨b, e.heap _ _ h1, (hk.1 _ _ h2 (hn n 0 hlt).1).1, h3.keep h2 e hk (hn n 0 hlt).1 (fun k => (hn n k hlt).2)⟩
  · rw [List.getElem?_append_right (by omega)] at hob
    have : n - heap.length = 0 := by
      cases hx : n - heap.length with
      | zero => rfl
      | succ k => rw [hx] at hob; simp at hob
    rw [this] at hob
    simp at hob
    subst hob
    have hn' : n = heap.length := by omega
    subst hn'
    exact hm

end PI
