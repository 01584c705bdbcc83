/-
  Lemmas to run code by simp: 'match' in the place of 'bind', so that only states that are known are stepped.
-/
import Derived.Test.YtaejhojielbbdaaGreatDoorPiRun
set_option linter.unusedVariables false
set_option linter.unusedSimpArgs false
set_option linter.unusedSectionVars false
namespace PI
open Go (IntKind BinOp UnOp)
section
variable {cf : CallF} {V l : List PV} {g : Nat} {h : List PObj} {L : Nat → Option PFunc}
@[simp] theorem raw_v (i : Nat) : raw ⟨V, l, g, h⟩ (.v i) = V[i]? := rfl
@[simp] theorem raw_l (i : Nat) : raw ⟨V, l, g, h⟩ (.l i) = l[i]? := rfl
@[simp] theorem raw_c (p : PV) : raw ⟨V, l, g, h⟩ (.c p) = some p := rfl
@[simp] theorem rd_mk (x : PX) : rd ⟨V, l, g, h⟩ x = match raw ⟨V, l, g, h⟩ x with | some v => cp v | none => none := by
 simp only [rd]; cases raw ⟨V, l, g, h⟩ x <;> rfl
@[simp] theorem cp_bool (b : Bool) : cp (.bool b) = some (.bool b) := rfl
@[simp] theorem dem_bool (b : Bool) : dem (.bool b) = .bool b := rfl
@[simp] theorem cp_int (k : IntKind) (n : Int) : cp (.int k n) = some (.int k n) := rfl
@[simp] theorem dem_int (k : IntKind) (n : Int) : dem (.int k n) = .int k n := rfl
@[simp] theorem cp_str (s : List UInt8) : cp (.str s) = some (.str s) := rfl
@[simp] theorem dem_str (s : List UInt8) : dem (.str s) = .str s := rfl
@[simp] theorem cp_agg (cs : List PV) : cp (.agg cs) = some (.agg cs) := rfl
@[simp] theorem dem_agg (cs : List PV) : dem (.agg cs) = .agg cs := rfl
@[simp] theorem cp_tuple (vs : List PV) : cp (.tuple vs) = some (.tuple vs) := rfl
@[simp] theorem dem_tuple (vs : List PV) : dem (.tuple vs) = .tuple vs := rfl
@[simp] theorem cp_nilptr : cp (.nilptr) = some (.nilptr) := rfl
@[simp] theorem dem_nilptr : dem (.nilptr) = .nilptr := rfl
@[simp] theorem cp_cptr (cs : List PV) : cp (.cptr cs) = some (.cptr cs) := rfl
@[simp] theorem dem_cptr (cs : List PV) : dem (.cptr cs) = .cptr cs := rfl
@[simp] theorem cp_ptr (n o : Nat) : cp (.ptr n o) = some (.ptr n o) := rfl
@[simp] theorem dem_ptr (n o : Nat) : dem (.ptr n o) = .ptr n o := rfl
@[simp] theorem cp_map (n : Option Nat) : cp (.map n) = some (.map n) := rfl
@[simp] theorem dem_map (n : Option Nat) : dem (.map n) = .map n := rfl
@[simp] theorem cp_func (k : Nat) (a b : List PV) : cp (.func k a b) = some (.func k a b) := rfl
@[simp] theorem dem_func (k : Nat) (a b : List PV) : dem (.func k a b) = .func k a b := rfl
@[simp] theorem cp_nilfunc : cp (.nilfunc) = some (.nilfunc) := rfl
@[simp] theorem dem_nilfunc : dem (.nilfunc) = .nilfunc := rfl
@[simp] theorem cp_iface (t : Nat) (v : PV) : cp (.iface t v) = some (.iface t v) := rfl
@[simp] theorem dem_iface (t : Nat) (v : PV) : dem (.iface t v) = .iface t v := rfl
@[simp] theorem cp_nilIface : cp (.nilIface) = some (.nilIface) := rfl
@[simp] theorem dem_nilIface : dem (.nilIface) = .nilIface := rfl
@[simp] theorem cp_nils : cp (.nils) = some (.nils) := rfl
@[simp] theorem dem_nils : dem (.nils) = .nils := rfl
@[simp] theorem cp_void : cp (.void) = some (.void) := rfl
@[simp] theorem dem_void : dem (.void) = .void := rfl
@[simp] theorem cp_list (o : Bool) (es : List PV) : cp (.list o es) = some (.list false es) := rfl
@[simp] theorem dem_list (o : Bool) (es : List PV) : dem (.list o es) = .list false es := rfl
@[simp] theorem cp_loc (n : Nat) (cs : List PV) : cp (.loc n cs) = none := rfl
@[simp] theorem cp_lptr (s n o : Nat) : cp (.lptr s n o) = none := rfl
@[simp] theorem cp_dead : cp .dead = none := rfl
@[simp] theorem cp_rowp (n sz : Nat) (a : Bool) (k : Nat) : cp (.rowp n sz a k) = some (.rowp n sz a k) := rfl
@[simp] theorem dem_rowp (n sz : Nat) (a : Bool) (k : Nat) : dem (.rowp n sz a k) = .rowp n sz a k := rfl
/-- The number of a row of the heap. -/
@[simp] theorem rowp_rowp (n sz : Nat) (a : Bool) (k : Nat) : rowpNo (.rowp n sz a k) = some n := rfl
@[simp] theorem rowp_bool (b : Bool) : rowpNo (.bool b) = none := rfl
@[simp] theorem rowp_int (k : IntKind) (n : Int) : rowpNo (.int k n) = none := rfl
@[simp] theorem rowp_str (s : List UInt8) : rowpNo (.str s) = none := rfl
@[simp] theorem rowp_agg (cs : List PV) : rowpNo (.agg cs) = none := rfl
@[simp] theorem rowp_tuple (vs : List PV) : rowpNo (.tuple vs) = none := rfl
@[simp] theorem rowp_nilptr : rowpNo (.nilptr) = none := rfl
@[simp] theorem rowp_cptr (cs : List PV) : rowpNo (.cptr cs) = none := rfl
@[simp] theorem rowp_ptr (n o : Nat) : rowpNo (.ptr n o) = none := rfl
@[simp] theorem rowp_map (n : Option Nat) : rowpNo (.map n) = none := rfl
@[simp] theorem rowp_func (k : Nat) (a b : List PV) : rowpNo (.func k a b) = none := rfl
@[simp] theorem rowp_nilfunc : rowpNo (.nilfunc) = none := rfl
@[simp] theorem rowp_iface (t : Nat) (v : PV) : rowpNo (.iface t v) = none := rfl
@[simp] theorem rowp_nilIface : rowpNo (.nilIface) = none := rfl
@[simp] theorem rowp_nils : rowpNo (.nils) = none := rfl
@[simp] theorem rowp_void : rowpNo (.void) = none := rfl
@[simp] theorem rowp_list (o : Bool) (es : List PV) : rowpNo (.list o es) = none := rfl
@[simp] theorem rowp_loc (n : Nat) (cs : List PV) : rowpNo (.loc n cs) = none := rfl
@[simp] theorem rowp_lptr (s n o : Nat) : rowpNo (.lptr s n o) = none := rfl
@[simp] theorem rowp_dead : rowpNo (.dead) = none := rfl
@[simp] theorem dem_loc (n : Nat) (cs : List PV) : dem (.loc n cs) = .loc n cs := rfl
@[simp] theorem dem_dead : dem .dead = .dead := rfl
@[simp] theorem free_bool (b : Bool) : refFree (.bool b) = true := rfl
@[simp] theorem free_int (k : IntKind) (n : Int) : refFree (.int k n) = true := rfl
@[simp] theorem free_str (s : List UInt8) : refFree (.str s) = true := rfl
@[simp] theorem free_agg (cs : List PV) : refFree (.agg cs) = refFrees cs := rfl
@[simp] theorem free_tuple (vs : List PV) : refFree (.tuple vs) = refFrees vs := rfl
@[simp] theorem free_nilptr : refFree (.nilptr) = true := rfl
@[simp] theorem free_cptr (cs : List PV) : refFree (.cptr cs) = refFrees cs := rfl
@[simp] theorem free_ptr (n o : Nat) : refFree (.ptr n o) = false := rfl
@[simp] theorem free_map (n : Option Nat) : refFree (.map n) = n.isNone := rfl
@[simp] theorem free_func (k : Nat) (a b : List PV) : refFree (.func k a b) = (refFrees a && refFrees b) := rfl
@[simp] theorem free_nilfunc : refFree (.nilfunc) = true := rfl
@[simp] theorem free_iface (t : Nat) (v : PV) : refFree (.iface t v) = refFree v := rfl
@[simp] theorem free_nilIface : refFree (.nilIface) = true := rfl
@[simp] theorem free_nils : refFree (.nils) = true := rfl
@[simp] theorem free_void : refFree (.void) = true := rfl
@[simp] theorem free_list (o : Bool) (es : List PV) : refFree (.list o es) = refFrees es := rfl
@[simp] theorem free_dead : refFree (.dead) = false := rfl
@[simp] theorem free_rowp (n sz : Nat) (a : Bool) (k : Nat) : refFree (.rowp n sz a k) = false := rfl
@[simp] theorem peq_one (k : EK) (x y : PV) : peq false [k] x y = peq1 k x y := rfl
@[simp] theorem peq_agg (ks : List EK) (xs ys : List PV) : peq true ks (.agg xs) (.agg ys) = peqs ks xs ys := rfl
/-- A value taken: with its room, or as it reads. -/
def tkv : PV → Option (PV × Bool)
 | .list true es => some (.list true es, true)
 | v => match cp v with
   | some u => some (u, false)
   | none => none
@[simp] theorem tkv_bool (b : Bool) : tkv (.bool b) = some (.bool b, false) := rfl
@[simp] theorem tkv_int (k : IntKind) (n : Int) : tkv (.int k n) = some (.int k n, false) := rfl
@[simp] theorem tkv_str (s : List UInt8) : tkv (.str s) = some (.str s, false) := rfl
@[simp] theorem tkv_agg (cs : List PV) : tkv (.agg cs) = some (.agg cs, false) := rfl
@[simp] theorem tkv_tuple (vs : List PV) : tkv (.tuple vs) = some (.tuple vs, false) := rfl
@[simp] theorem tkv_nilptr : tkv (.nilptr) = some (.nilptr, false) := rfl
@[simp] theorem tkv_cptr (cs : List PV) : tkv (.cptr cs) = some (.cptr cs, false) := rfl
@[simp] theorem tkv_ptr (n o : Nat) : tkv (.ptr n o) = some (.ptr n o, false) := rfl
@[simp] theorem tkv_map (n : Option Nat) : tkv (.map n) = some (.map n, false) := rfl
@[simp] theorem tkv_func (k : Nat) (a b : List PV) : tkv (.func k a b) = some (.func k a b, false) := rfl
@[simp] theorem tkv_nilfunc : tkv (.nilfunc) = some (.nilfunc, false) := rfl
@[simp] theorem tkv_iface (t : Nat) (v : PV) : tkv (.iface t v) = some (.iface t v, false) := rfl
@[simp] theorem tkv_nilIface : tkv (.nilIface) = some (.nilIface, false) := rfl
@[simp] theorem tkv_nils : tkv (.nils) = some (.nils, false) := rfl
@[simp] theorem tkv_void : tkv (.void) = some (.void, false) := rfl
@[simp] theorem tkv_own (es : List PV) : tkv (.list true es) = some (.list true es, true) := rfl
@[simp] theorem tkv_list (es : List PV) : tkv (.list false es) = some (.list false es, false) := rfl
@[simp] theorem tkv_loc (n : Nat) (cs : List PV) : tkv (.loc n cs) = none := rfl
@[simp] theorem tkv_lptr (s n o : Nat) : tkv (.lptr s n o) = none := rfl
@[simp] theorem tkv_dead : tkv .dead = none := rfl
@[simp] theorem tkv_rowp (n sz : Nat) (a : Bool) (k : Nat) : tkv (.rowp n sz a k) = some (.rowp n sz a k, false) := rfl
@[simp] theorem tk_mk (x : PX) : tk ⟨V, l, g, h⟩ x = match raw ⟨V, l, g, h⟩ x with
  | some v => (match tkv v with
    | some (u, true) => some (u, setSrc ⟨V, l, g, h⟩ x (dem v))
    | some (u, false) => some (u, ⟨V, l, g, h⟩)
    | none => none)
  | none => none := by
 unfold tk
 cases raw ⟨V, l, g, h⟩ x with
 | none => rfl
 | some v => cases v with
   | list ow es => cases ow <;> rfl
   | _ => rfl
/-- The cells of a struct or an array. -/
def aggCells : PV → Option (List PV)
 | .agg cs => some cs
 | _ => none
@[simp] theorem aggCells_agg (cs : List PV) : aggCells (.agg cs) = some cs := rfl
@[simp] theorem deep_agg (cs : List PV) : deep (.agg cs) = .agg (cs.map dem) := rfl
@[simp] theorem deep_bool (b : Bool) : deep (.bool b) = .bool b := rfl
@[simp] theorem deep_int (k : IntKind) (n : Int) : deep (.int k n) = .int k n := rfl
@[simp] theorem deep_str (s : List UInt8) : deep (.str s) = .str s := rfl
@[simp] theorem deep_list (o : Bool) (es : List PV) : deep (.list o es) = .list false es := rfl
@[simp] theorem storeInto_agg (n : Nat) (cs : List PV) (off : Nat) (v : PV) : storeInto n true cs off v = match aggCells v with
  | some vs => if vs.length = n ∧ off + n ≤ cs.length then some (cs.take off ++ (vs ++ cs.drop (off + n))) else none
  | none => none := by
 cases v <;> rfl
@[simp] theorem storeInto_one (n : Nat) (cs : List PV) (off : Nat) (v : PV) : storeInto n false cs off v = if off < cs.length ∧ v.flat = true then some (cs.set off v) else none := rfl
/-- A row of the heap that is given back. -/
def resR (h : List PObj) : PV → Option PV
 | .rowp n sz agg len => if agg = true ∨ sz = 1 then (match h[n]? with | some (.cells cs) => (match rowEls sz agg cs len 0 with | some es => some (.list false es) | none => none) | _ => none) else none
 | _ => none
@[simp] theorem resR_rowp (h : List PObj) (n sz len : Nat) (agg : Bool) : resR h (.rowp n sz agg len) = if agg = true ∨ sz = 1 then (match h[n]? with | some (.cells cs) => (match rowEls sz agg cs len 0 with | some es => some (.list false es) | none => none) | _ => none) else none := rfl
/-- The nil slice, given back. -/
def resN : PV → PV
 | .nils => .list false []
 | v => v
@[simp] theorem resN_nils : resN .nils = .list false [] := rfl
@[simp] theorem resN_bool (b : Bool) : resN (.bool b) = .bool b := rfl
@[simp] theorem resN_int (k : IntKind) (n : Int) : resN (.int k n) = .int k n := rfl
@[simp] theorem resN_str (s : List UInt8) : resN (.str s) = .str s := rfl
@[simp] theorem resN_agg (cs : List PV) : resN (.agg cs) = .agg cs := rfl
@[simp] theorem resN_tuple (cs : List PV) : resN (.tuple cs) = .tuple cs := rfl
@[simp] theorem resN_nilptr  : resN (.nilptr) = .nilptr := rfl
@[simp] theorem resN_cptr (cs : List PV) : resN (.cptr cs) = .cptr cs := rfl
@[simp] theorem resN_ptr (n o : Nat) : resN (.ptr n o) = .ptr n o := rfl
@[simp] theorem resN_map (n : Option Nat) : resN (.map n) = .map n := rfl
@[simp] theorem resN_func (k : Nat) (a b : List PV) : resN (.func k a b) = .func k a b := rfl
@[simp] theorem resN_nilfunc  : resN (.nilfunc) = .nilfunc := rfl
@[simp] theorem resN_iface (t : Nat) (v : PV) : resN (.iface t v) = .iface t v := rfl
@[simp] theorem resN_nilIface  : resN (.nilIface) = .nilIface := rfl
@[simp] theorem resN_void  : resN (.void) = .void := rfl
@[simp] theorem resN_list (o : Bool) (es : List PV) : resN (.list o es) = .list o es := rfl
@[simp] theorem resN_dead  : resN (.dead) = .dead := rfl
@[simp] theorem resN_loc (n : Nat) (cs : List PV) : resN (.loc n cs) = .loc n cs := rfl
@[simp] theorem resultOf_keep (i : Nat) : resultOf ⟨V, l, g, h⟩ (.keep i) = match V[i]? with | some v => cp v | none => none := by
 simp only [resultOf]; cases V[i]? <;> rfl
@[simp] theorem shutRes_keep (V : List PV) (i : Nat) (rs : List PRes) (h : List PObj) : shutRes V (.keep i :: rs) h = shutRes V rs h := rfl
@[simp] theorem resultOf_var (i : Nat) : resultOf ⟨V, l, g, h⟩ (.var i) = match V[i]? with
  | some v => (match rowpNo v with | some _ => resR h v | none => (match tkv v with | some (u, _) => some (resN u) | none => none))
  | none => none := by
 simp only [resultOf]
 cases V[i]? with
 | none => rfl
 | some v => cases v with
   | list ow es => cases ow <;> rfl
   | rowp n sz agg len =>
     simp only [Option.bind_some, rowp_rowp, resR_rowp]
     split
     ·simp only [hget]
      cases h[n]? with
      | none => rfl
      | some o => cases o <;> try rfl
                  rename_i cs
                  simp only [Option.bind_some]
                  cases rowEls sz agg cs len 0 <;> rfl
     ·rfl
   | _ => rfl
@[simp] theorem rowNos_nil : rowNos [] = [] := rfl
@[simp] theorem rowNos_cons (p : PV) (ps : List PV) : rowNos (p :: ps) = match rowpNo p with | some n => n :: rowNos ps | none => rowNos ps := by
 cases p <;> rfl
@[simp] theorem gones_nil (h : List PObj) : gones [] h = h := rfl
@[simp] theorem gones_cons (n : Nat) (ns : List Nat) (h : List PObj) : gones (n :: ns) h = gones ns (h.set n .gone) := rfl
@[simp] theorem shutRes_nil (V : List PV) (h : List PObj) : shutRes V [] h = h := rfl
@[simp] theorem shutRes_cell (V : List PV) (i n : Nat) (agg : Bool) (rs : List PRes) (h : List PObj) : shutRes V (.cell i n agg :: rs) h = match V[i]? with
  | some (.loc _ cs) => shutRes V rs (gones (rowNos cs) h)
  | _ => shutRes V rs h := by
 simp only [shutRes, resNos]
 cases V[i]? with
 | none => rfl
 | some v => cases v <;> rfl
@[simp] theorem shutRes_var (V : List PV) (i : Nat) (rs : List PRes) (h : List PObj) : shutRes V (.var i :: rs) h = match V[i]? with
  | some v => (match rowpNo v with | some n => shutRes V rs (h.set n .gone) | none => shutRes V rs h)
  | none => shutRes V rs h := by
 simp only [shutRes, resNos, rowNo]
 cases V[i]? with
 | none => rfl
 | some v => cases v <;> rfl
@[simp] theorem frozs_nil (h : List PObj) : frozs h [] = some [] := rfl
@[simp] theorem frozs_cons (h : List PObj) (p : PV) (ps : List PV) : frozs h (p :: ps) = match rowpNo p with
  | some _ => (match resR h p with | some q => (match frozs h ps with | some qs => some (q :: qs) | none => none) | none => none)
  | none => (match frozs h ps with | some qs => some (p :: qs) | none => none) := by
 simp only [frozs]
 cases p with
 | rowp n sz agg len =>
   simp only [rowp_rowp, resR_rowp, froz1]
   split
   ·cases h[n]? with
    | none => rfl
    | some o => cases o <;> try rfl
                rename_i cs
                simp only
                cases rowEls sz agg cs len 0 with
                | none => rfl
                | some es => simp only [Option.map_some, Option.bind_some]; cases frozs h ps <;> rfl
   ·rfl
 | _ => simp only [froz1, Option.bind_some]; cases frozs h ps <;> rfl
@[simp] theorem froz_agg (h : List PObj) (ps : List PV) : froz h (.agg ps) = match frozs h ps with | some qs => some (.agg qs) | none => none := by
 simp only [froz]; cases frozs h ps <;> rfl
@[simp] theorem froz_bool (h : List PObj) (b : Bool) : froz h (.bool b) = some (.bool b) := rfl
@[simp] theorem froz_int (h : List PObj) (k : IntKind) (n : Int) : froz h (.int k n) = some (.int k n) := rfl
@[simp] theorem froz_str (h : List PObj) (s : List UInt8) : froz h (.str s) = some (.str s) := rfl
@[simp] theorem froz_list (h : List PObj) (o : Bool) (es : List PV) : froz h (.list o es) = some (.list o es) := rfl
@[simp] theorem froz_nilptr (h : List PObj)  : froz h (.nilptr) = some (.nilptr) := rfl
@[simp] theorem froz_cptr (h : List PObj) (cs : List PV) : froz h (.cptr cs) = some (.cptr cs) := rfl
@[simp] theorem froz_ptr (h : List PObj) (n o : Nat) : froz h (.ptr n o) = some (.ptr n o) := rfl
@[simp] theorem froz_rowp (h : List PObj) (n sz : Nat) (a : Bool) (k : Nat) : froz h (.rowp n sz a k) = some (.rowp n sz a k) := rfl
@[simp] theorem froz_map (h : List PObj) (n : Option Nat) : froz h (.map n) = some (.map n) := rfl
@[simp] theorem froz_func (h : List PObj) (k : Nat) (a b : List PV) : froz h (.func k a b) = some (.func k a b) := rfl
@[simp] theorem froz_nilfunc (h : List PObj)  : froz h (.nilfunc) = some (.nilfunc) := rfl
@[simp] theorem froz_iface (h : List PObj) (t : Nat) (v : PV) : froz h (.iface t v) = some (.iface t v) := rfl
@[simp] theorem froz_nilIface (h : List PObj)  : froz h (.nilIface) = some (.nilIface) := rfl
theorem frozs_free (h : List PObj) : ∀ {ps : List PV}, refFrees ps = true → frozs h ps = some ps
 | [], _ => rfl
 | p :: ps, hr => by
   simp only [refFrees, Bool.and_eq_true] at hr
   have : froz1 h p = some p := by cases p <;> first | rfl | simp [refFree] at hr
   simp only [frozs, this, frozs_free h hr.2, Option.bind_some, Option.map_some]
theorem rowNos_free : ∀ {ps : List PV}, refFrees ps = true → rowNos ps = []
 | [], _ => rfl
 | p :: ps, hr => by
   simp only [refFrees, Bool.and_eq_true] at hr
   have : rowpNo p = none := by cases p <;> first | rfl | simp [refFree] at hr
   simp only [rowNos, this, rowNos_free hr.2]; rfl
@[simp] theorem resultOf_cell (i n : Nat) (agg : Bool) : resultOf ⟨V, l, g, h⟩ (.cell i n agg) = match V[i]? with
  | some (.loc _ cs) => (match loadFrom n agg cs 0 with | some v => froz h v | none => none)
  | some (.ptr m 0) => (match hget ⟨V, l, g, h⟩ m with | some cs => loadFrom n agg cs 0 | none => none)
  | _ => none := by
 simp only [resultOf]
 cases V[i]? with
 | none => rfl
 | some v =>
   cases v with
   | loc g cs => simp only; cases loadFrom n agg cs 0 <;> rfl
   | ptr m off =>
     cases off with
     | zero => simp only; cases hget ⟨V, l, g, h⟩ m <;> rfl
     | succ off => rfl
   | _ => rfl
attribute [simp] addr rdInt setSrc refFrees intBin strBin unv bound peq1 minmaxv
@[simp] theorem rdAll_nil (st : St) : rdAll st [] = some [] := rfl
@[simp] theorem rdAll_cons (x : PX) (xs : List PX) : rdAll ⟨V, l, g, h⟩ (x :: xs) = match rd ⟨V, l, g, h⟩ x with | some v => (match rdAll ⟨V, l, g, h⟩ xs with | some vs => some (v :: vs) | none => none) | none => none := by
 simp only [rdAll]; cases rd ⟨V, l, g, h⟩ x <;> simp; cases rdAll ⟨V, l, g, h⟩ xs <;> rfl
@[simp] theorem rdElems_nil (st : St) : rdElems st [] = some [] := rfl
@[simp] theorem rdElems_cons (i : Nat) (x : PX) (xs : List (Nat × PX)) : rdElems ⟨V, l, g, h⟩ ((i, x) :: xs) = match rd ⟨V, l, g, h⟩ x with | some v => (match rdElems ⟨V, l, g, h⟩ xs with | some vs => some ((i, v) :: vs) | none => none) | none => none := by
 simp only [rdElems]; cases rd ⟨V, l, g, h⟩ x <;> simp; cases rdElems ⟨V, l, g, h⟩ xs <;> rfl
@[simp] theorem rdParts_nil (st : St) : rdParts st [] = some [] := rfl
@[simp] theorem rdParts_cons (i s : Nat) (x : PX) (xs : List (Nat × Nat × PX)) : rdParts ⟨V, l, g, h⟩ ((i, s, x) :: xs) = match rd ⟨V, l, g, h⟩ x with | some v => (match rdParts ⟨V, l, g, h⟩ xs with | some vs => some ((i, s, v) :: vs) | none => none) | none => none := by
 simp only [rdParts]; cases rd ⟨V, l, g, h⟩ x <;> simp; cases rdParts ⟨V, l, g, h⟩ xs <;> rfl
@[simp] theorem put_v (i j : Nat) (v : PV) : put ⟨V, l, g, h⟩ j (.v i) v = ⟨V.set i v, l, g, h⟩ := rfl
@[simp] theorem put_l (j : Nat) (v : PV) : put ⟨V, l, g, h⟩ j .l v = ⟨V, l.set j v, g, h⟩ := rfl
@[simp] theorem put_n (j : Nat) (v : PV) : put ⟨V, l, g, h⟩ j .n v = ⟨V, l, g, h⟩ := rfl
@[simp] theorem execOps_mk (ops : List PO) : execOps cf ops ⟨V, l, g, h⟩ = execFrom cf 0 ops ⟨V, List.replicate ops.length .dead, g, h⟩ := rfl
@[simp] theorem execFrom_nil (j : Nat) (st : St) : execFrom cf j [] st = some st := rfl
@[simp] theorem execFrom_cons (j : Nat) (d : PD) (o : POp) (os : List PO) : execFrom cf j (⟨d, o, none⟩ :: os) ⟨V, l, g, h⟩ =
  match opv cf o ⟨V, l, g, h⟩ with | some (v, st) => execFrom cf (j + 1) os (put st j d v) | none => none := by
 simp only [execFrom, step1]; cases opv cf o ⟨V, l, g, h⟩ <;> rfl
@[simp] theorem execFrom_consG (j : Nat) (d : PD) (o : POp) (x : PX) (want : Bool) (os : List PO) : execFrom cf j (⟨d, o, some (x, want)⟩ :: os) ⟨V, l, g, h⟩ =
  match rd ⟨V, l, g, h⟩ x with
  | some (.bool b) => if b = want then (match opv cf o ⟨V, l, g, h⟩ with | some (v, st) => execFrom cf (j + 1) os (put st j d v) | none => none) else execFrom cf (j + 1) os (put ⟨V, l, g, h⟩ j d (.tuple []))
  | some (.tuple []) => execFrom cf (j + 1) os (put ⟨V, l, g, h⟩ j d (.tuple []))
  | _ => none := by
 simp only [execFrom, step1]
 cases rd ⟨V, l, g, h⟩ x with
 | none => rfl
 | some v =>
   cases v <;> try rfl
   ·rename_i b
    simp only
    by_cases hb : b = want
    ·simp only [if_pos hb]; cases opv cf o ⟨V, l, g, h⟩ <;> rfl
    ·simp only [if_neg hb]; rfl
   ·rename_i vs
    cases vs <;> rfl
/-- A value and the state as it was. -/
def sv (r : Option PV) (st : St) : Option (PV × St) := match r with | some v => some (v, st) | none => none
@[simp] theorem sv_some (v : PV) (st : St) : sv (some v) st = some (v, st) := rfl
@[simp] theorem sv_none (st : St) : sv none st = none := rfl
theorem map_sv (r : Option PV) (st : St) : r.map (·, st) = sv r st := by cases r <;> rfl
@[simp] theorem opv_mov (x : PX) : opv cf (.mov x) ⟨V, l, g, h⟩ = sv (rd ⟨V, l, g, h⟩ x) ⟨V, l, g, h⟩ := map_sv _ _
@[simp] theorem opv_movs (x : PX) : opv cf (.movs x) ⟨V, l, g, h⟩ = match rd ⟨V, l, g, h⟩ x with | some (.str s) => some (.str s, ⟨V, l, g, h⟩) | _ => none := rfl
@[simp] theorem opv_take (x : PX) : opv cf (.take x) ⟨V, l, g, h⟩ = match raw ⟨V, l, g, h⟩ x with
  | some v => (match tkv v with
    | some (u, true) => some (u, setSrc ⟨V, l, g, h⟩ x (dem v))
    | some (u, false) => some (u, ⟨V, l, g, h⟩)
    | none => none)
  | none => none := by
 simp only [opv, tk_mk]
@[simp] theorem opv_pick (c a b : PX) : opv cf (.pick c a b) ⟨V, l, g, h⟩ = match rd ⟨V, l, g, h⟩ c with
  | some (.bool t) => sv (rd ⟨V, l, g, h⟩ (if t then a else b)) ⟨V, l, g, h⟩
  | _ => none := by
 simp only [opv, map_sv]; rfl
@[simp] theorem opv_newloc (z : List PV) : opv cf (.newloc z) ⟨V, l, g, h⟩ = some (.loc g z, ⟨V, l, g + 1, h⟩) := rfl
@[simp] theorem opv_boxloc (s : Nat) (x : PX) : opv cf (.boxloc s x) ⟨V, l, g, h⟩ = match rd ⟨V, l, g, h⟩ x with
  | some v => if v.cells.length = s then some (.loc g (v.cells.map dem), ⟨V, l, g + 1, h⟩) else none
  | none => none := rfl
@[simp] theorem opv_mkslice (s : Nat) (z : PV) (n : Nat) (ps : List (Nat × PX)) : opv cf (.mkslice s z n ps) ⟨V, l, g, h⟩ = match rdElems ⟨V, l, g, h⟩ ps with
  | some es => (match setElems s (List.replicate n z) es with | some es => some (.list true es, ⟨V, l, g, h⟩) | none => none)
  | none => none := by
 simp only [opv]; cases rdElems ⟨V, l, g, h⟩ ps <;> simp; rename_i es; cases setElems s (List.replicate n z) es <;> rfl
@[simp] theorem opv_build (z : List PV) (ps : List (Nat × Nat × PX)) : opv cf (.build z ps) ⟨V, l, g, h⟩ = match rdParts ⟨V, l, g, h⟩ ps with
  | some es => (match setParts z es with | some cs => some (.agg cs, ⟨V, l, g, h⟩) | none => none)
  | none => none := by
 simp only [opv]; cases rdParts ⟨V, l, g, h⟩ ps <;> simp; rename_i es; cases setParts z es <;> rfl
@[simp] theorem opv_load (s : Nat) (agg : Bool) (a : PX) (t : Bool) : opv cf (.load s agg a t) ⟨V, l, g, h⟩ = match addr ⟨V, l, g, h⟩ a with
  | some (.cptr cs) => sv (loadFrom s agg cs 0) ⟨V, l, g, h⟩
  | some (.lptr s' g0 off) =>
    match V[s']? with
    | some (.loc g' cs) =>
      if g0 = g' then
       match t && !agg, cs[off]? with
       | true, some (.list true es) => some (.list true es, ⟨V.set s' (.loc g0 (cs.set off (.list false es))), l, g, h⟩)
       | _, _ => sv (loadFrom s agg cs off) ⟨V, l, g, h⟩
      else none
    | _ => none
  | _ => none := by simp only [opv, map_sv]; rfl
@[simp] theorem opv_store (s : Nat) (agg : Bool) (a x : PX) : opv cf (.store s agg a x) ⟨V, l, g, h⟩ = match addr ⟨V, l, g, h⟩ a, tk ⟨V, l, g, h⟩ x with
  | some (.lptr s' g0 off), some (v, ⟨V, l, g, h⟩) =>
    match V[s']? with
    | some (.loc g' cs) => if g0 = g' then (match storeInto s agg cs off v with | some cs => some (.dead, ⟨V.set s' (.loc g0 cs), l, g, h⟩) | none => none) else none
    | _ => none
  | _, _ => none := by
 simp only [opv]
 cases addr ⟨V, l, g, h⟩ a with
 | none => rfl
 | some p => cases p <;> try rfl
             cases tk ⟨V, l, g, h⟩ x with
             | none => rfl
             | some r => obtain ⟨v, ⟨V2, l2, g2, h2⟩⟩ := r
                         simp only
                         rename_i s1 g1 o1
                         cases V2[s1]? with
                         | none => rfl
                         | some q => cases q <;> try rfl
                                     rename_i g' cs
                                     simp only
                                     by_cases hg : g1 = g'
                                     ·simp only [if_pos hg]; cases storeInto s agg cs o1 v <;> rfl
                                     ·simp only [if_neg hg]
@[simp] theorem opv_faddr (off : Nat) (x : PX) : opv cf (.faddr off x) ⟨V, l, g, h⟩ = match addr ⟨V, l, g, h⟩ x with
  | some (.cptr cs) => some (.cptr (cs.drop off), ⟨V, l, g, h⟩)
  | some (.lptr s g0 o) => some (.lptr s g0 (o + off), ⟨V, l, g, h⟩)
  | some (.ptr n o) => some (.ptr n (o + off), ⟨V, l, g, h⟩)
  | _ => none := rfl
@[simp] theorem opv_iaddrS (s : Nat) (x i : PX) : opv cf (.iaddrS s x i) ⟨V, l, g, h⟩ = match rd ⟨V, l, g, h⟩ x, rdInt ⟨V, l, g, h⟩ i with
  | some (.list _ es), some n =>
    if 0 ≤ n then
     match es[n.toNat]? with
     | some e => if e.cells.length = s then some (.cptr e.cells, ⟨V, l, g, h⟩) else none
     | none => none
    else none
  | some (.rowp m sz _ len), some n => if sz = s ∧ 0 ≤ n ∧ n < len then some (.ptr m (n.toNat * s), ⟨V, l, g, h⟩) else none
  | some (.rows m sz _ off len), some n => if sz = s ∧ 0 ≤ n ∧ n < len then some (.ptr m ((off + n.toNat) * s), ⟨V, l, g, h⟩) else none
  | _, _ => none := rfl
@[simp] theorem opv_iaddrA (n' s : Nat) (x i : PX) : opv cf (.iaddrA n' s x i) ⟨V, l, g, h⟩ = match addr ⟨V, l, g, h⟩ x, rdInt ⟨V, l, g, h⟩ i with
  | some (.lptr s' g0 o), some n => if 0 ≤ n ∧ n < n' then some (.lptr s' g0 (o + n.toNat * s), ⟨V, l, g, h⟩) else none
  | some (.cptr cs), some n => if 0 ≤ n ∧ n < n' then some (.cptr (cs.drop (n.toNat * s)), ⟨V, l, g, h⟩) else none
  | _, _ => none := rfl
@[simp] theorem opv_field (off s : Nat) (agg : Bool) (x : PX) : opv cf (.field off s agg x) ⟨V, l, g, h⟩ = match rd ⟨V, l, g, h⟩ x with
  | some v => (match aggCells v with | some cs => sv (loadFrom s agg cs off) ⟨V, l, g, h⟩ | none => none)
  | none => none := by
 simp only [opv, map_sv]
 cases rd ⟨V, l, g, h⟩ x with
 | none => rfl
 | some v => cases v <;> rfl
@[simp] theorem opv_indexStr (x i : PX) : opv cf (.indexStr x i) ⟨V, l, g, h⟩ = match rd ⟨V, l, g, h⟩ x, rdInt ⟨V, l, g, h⟩ i with
  | some (.str s), some n =>
    if 0 ≤ n then
     match s[n.toNat]? with
     | some b => some (.int .u8 b.toNat, ⟨V, l, g, h⟩)
     | none => none
    else none
  | _, _ => none := rfl
@[simp] theorem opv_sliceLoc (n : Nat) (i : Nat) : opv cf (.sliceLoc n (.v i)) ⟨V, l, g, h⟩ = match V[i]? with
  | some (.loc _ cs) => if cs.length = n then some (.list true cs, ⟨V.set i .dead, l, g, h⟩) else none
  | _ => none := by
 simp only [opv, raw]
 cases V[i]? with
 | none => rfl
 | some q => cases q <;> rfl
@[simp] theorem opv_bin (op : BinOp) (x y : PX) : opv cf (.bin op x y) ⟨V, l, g, h⟩ = match rd ⟨V, l, g, h⟩ x, rd ⟨V, l, g, h⟩ y with
  | some a, some b => sv (binv op a b) ⟨V, l, g, h⟩
  | _, _ => none := by simp only [opv, map_sv]; rfl
@[simp] theorem opv_eq (neg agg : Bool) (ks : List EK) (x y : PX) : opv cf (.eq neg agg ks x y) ⟨V, l, g, h⟩ = match rd ⟨V, l, g, h⟩ x, rd ⟨V, l, g, h⟩ y with
  | some a, some b => (match peq agg ks a b with | some t => some (.bool (if neg then !t else t), ⟨V, l, g, h⟩) | none => none)
  | _, _ => none := by
 simp only [opv]
 cases rd ⟨V, l, g, h⟩ x with
 | none => rfl
 | some a => cases rd ⟨V, l, g, h⟩ y with
   | none => rfl
   | some b => simp only; cases peq agg ks a b <;> rfl
@[simp] theorem opv_un (op : UnOp) (x : PX) : opv cf (.un op x) ⟨V, l, g, h⟩ = match rd ⟨V, l, g, h⟩ x with
  | some a => sv (unv op a) ⟨V, l, g, h⟩
  | none => none := by simp only [opv, map_sv]; rfl
@[simp] theorem opv_ifc1 (t : Nat) (x : PX) : opv cf (.ifc true t x) ⟨V, l, g, h⟩ = match rd ⟨V, l, g, h⟩ x with
  | some v => some (.iface t v, ⟨V, l, g, h⟩)
  | none => none := by
 simp only [opv]
 cases rd ⟨V, l, g, h⟩ x <;> rfl
@[simp] theorem opv_ifc0 (t : Nat) (x : PX) : opv cf (.ifc false t x) ⟨V, l, g, h⟩ = match rd ⟨V, l, g, h⟩ x with
  | some (.iface t' v) => if t' = t then some (dem v, ⟨V, l, g, h⟩) else none
  | _ => none := by
 simp only [opv]
 cases rd ⟨V, l, g, h⟩ x with
 | none => rfl
 | some v => cases v <;> rfl
@[simp] theorem opv_convInt (k : IntKind) (x : PX) : opv cf (.convInt k x) ⟨V, l, g, h⟩ = match rdInt ⟨V, l, g, h⟩ x with
  | some n => some (.int k (k.wrap n), ⟨V, l, g, h⟩)
  | none => none := by simp only [opv]; cases rdInt ⟨V, l, g, h⟩ x <;> rfl
@[simp] theorem opv_extract (i : Nat) (x : PX) : opv cf (.extract i x) ⟨V, l, g, h⟩ = match rd ⟨V, l, g, h⟩ x with
  | some (.tuple vs) => (match vs[i]? with | some v => sv (cp v) ⟨V, l, g, h⟩ | none => none)
  | _ => none := by
 simp only [opv]
 cases rd ⟨V, l, g, h⟩ x with
 | none => rfl
 | some a => cases a <;> try rfl
             rename_i vs; simp only; cases vs[i]? <;> simp [map_sv]
@[simp] theorem opv_len (str : Bool) (x : PX) : opv cf (.len str x) ⟨V, l, g, h⟩ = match str, rd ⟨V, l, g, h⟩ x with
  | true, some (.str s) => some (.int .i64 s.length, ⟨V, l, g, h⟩)
  | false, some (.list _ es) => some (.int .i64 es.length, ⟨V, l, g, h⟩)
  | false, some (.rowp _ _ _ n) => some (.int .i64 n, ⟨V, l, g, h⟩)
  | false, some (.rows _ _ _ _ n) => some (.int .i64 n, ⟨V, l, g, h⟩)
  | false, some .nils => some (.int .i64 0, ⟨V, l, g, h⟩)
  | false, some .void => some (.int .i64 0, ⟨V, l, g, h⟩)
  | _, _ => none := rfl
@[simp] theorem opv_cap (x : PX) : opv cf (.cap x) ⟨V, l, g, h⟩ = match rd ⟨V, l, g, h⟩ x with
  | some .nils => some (.int .i64 0, ⟨V, l, g, h⟩)
  | _ => none := rfl
@[simp] theorem opv_appstr (y x : PX) : opv cf (.appstr y x) ⟨V, l, g, h⟩ = match rd ⟨V, l, g, h⟩ x, tk ⟨V, l, g, h⟩ y with
  | some (.str xs), some (.list true es, st) => if headOk 1 es ∧ es.length + xs.length ≤ 140737488355328 then some (.list true (es ++ ofBytes xs), st) else none
  | _, _ => none := rfl
@[simp] theorem opv_b2s (x : PX) : opv cf (.b2s x) ⟨V, l, g, h⟩ = match rd ⟨V, l, g, h⟩ x with
  | some (.list _ es) => (match bytesOf es with | some s => some (.str s, ⟨V, l, g, h⟩) | none => none)
  | some .nils => some (.str [], ⟨V, l, g, h⟩)
  | some .void => some (.str [], ⟨V, l, g, h⟩)
  | _ => none := by
 simp only [opv]
 cases rd ⟨V, l, g, h⟩ x with
 | none => rfl
 | some p => cases p <;> try rfl
             rename_i o es
             simp only [Option.bind_some, asRow]
             cases bytesOf es <;> rfl
@[simp] theorem opv_s2b (x : PX) : opv cf (.s2b x) ⟨V, l, g, h⟩ = match rd ⟨V, l, g, h⟩ x with
  | some (.str s) => if s.length ≤ 140737488355328 then some (.list (!s.isEmpty) (ofBytes s), ⟨V, l, g, h⟩) else none
  | _ => none := rfl
@[simp] theorem opv_minmax (mx : Bool) (xs : List PX) : opv cf (.minmax mx xs) ⟨V, l, g, h⟩ = match rdAll ⟨V, l, g, h⟩ xs with
  | some (v :: vs) => sv (minmaxv mx v vs) ⟨V, l, g, h⟩
  | _ => none := by simp only [opv, map_sv]; rfl
@[simp] theorem opv_append (s b : Nat) (y x : PX) : opv cf (.append s b y x) ⟨V, l, g, h⟩ = match rd ⟨V, l, g, h⟩ x, tk ⟨V, l, g, h⟩ y with
  | some (.list _ xs), some (.list true es, st) =>
    if headOk s es ∧ headOk s xs ∧ ((es.length + xs.length ≤ 2147483648 ∧ b ≤ 16384) ∨ (es.length + xs.length ≤ 9223372036854775807 ∧ (es.length + xs.length) * b ≤ 140737488355328)) then some (.list true (es ++ xs), st) else none
  | some .nils, some (.list true es, st) => if headOk s es ∧ ((es.length ≤ 2147483648 ∧ b ≤ 16384) ∨ (es.length ≤ 9223372036854775807 ∧ es.length * b ≤ 140737488355328)) then some (.list true es, st) else none
  | some .void, some (.list true es, st) => if headOk s es ∧ ((es.length ≤ 2147483648 ∧ b ≤ 16384) ∨ (es.length ≤ 9223372036854775807 ∧ es.length * b ≤ 140737488355328)) then some (.list true es, st) else none
  | _, _ => none := by
 simp only [opv]
 generalize tk ⟨V, l, g, h⟩ y = q
 rcases q with _ | ⟨v, st⟩
 ·cases rd ⟨V, l, g, h⟩ x with
  | none => rfl
  | some p => cases p <;> rfl
 ·cases rd ⟨V, l, g, h⟩ x with
  | none => rfl
  | some p =>
    cases v with
    | list ow es =>
      cases ow with
      | false => cases p <;> rfl
      | true => cases p <;> first | rfl | (simp only [Option.bind_some, asRow, show headOk s [] = true from rfl, List.length_nil, Nat.add_zero, List.append_nil, true_and])
    | _ => cases p <;> rfl
@[simp] theorem opv_loadv (s n : Nat) (agg : Bool) (a : PX) : opv cf (.loadv s n agg a) ⟨V, l, g, h⟩ = match addr ⟨V, l, g, h⟩ a with
  | some (.lptr s' g1 off) =>
    match V[s]? with
    | some (.loc g' cs) => if s' = s ∧ g1 = g' then (match loadFrom n agg cs off with | some u => some (u, ⟨V, l, g, h⟩) | none => none) else none
    | _ => none
  | _ => none := by
 simp only [opv]
 cases addr ⟨V, l, g, h⟩ a with
 | none => rfl
 | some v =>
   cases v <;> try rfl
   cases V[s]? with
   | none => rfl
   | some x => cases x <;> try rfl
               simp only
               split
               ·split
                ·rename_i hl; rw [hl]; rfl
                ·rename_i hl; rw [hl]; rfl
               ·rfl
@[simp] theorem opv_pcall (k : Nat) (args : List PX) : opv cf (.pcall k args) ⟨V, l, g, h⟩ = match rdAll ⟨V, l, g, h⟩ args with
  | some vs => if refFrees vs then (match cf k vs [] with | some (r, _) => if refFree r then some (dem r, ⟨V, l, g, h⟩) else none | none => none) else none
  | none => none := rfl
@[simp] theorem opv_pzcall (k : Nat) (args : List PX) : opv cf (.pzcall k args) ⟨V, l, g, h⟩ = match rdAll ⟨V, l, g, h⟩ args with
  | some vs => if refFrees vs then (match cf k vs [] with | some (r, h') => (if refFree (frz h' r) then some (dem (frz h' r), ⟨V, l, g, h⟩) else none) | none => none) else none
  | none => none := rfl
@[simp] theorem opv_pcallx (k : Nat) (args : List PX) : opv cf (.pcallx k args none) ⟨V, l, g, h⟩ = match rdAll ⟨V, l, g, h⟩ args with
  | some vs => if refFrees vs then (match cf k (ownArgs none vs) [] with | some (r, _) => if refFree r then some (r, ⟨V, l, g, h⟩) else none | none => none) else none
  | none => none := rfl
@[simp] theorem opv_pcallxo (k : Nat) (args : List PX) (i : Nat) : opv cf (.pcallx k args (some i)) ⟨V, l, g, h⟩ = match (match args[i]? with | some x => tk ⟨V, l, g, h⟩ x | none => none), rdAll ⟨V, l, g, h⟩ args with
  | some (v, st1), some vs => if refFrees (vs.set i v) ∧ i < vs.length then (match cf k (ownArgs (some i) (vs.set i v)) [] with | some (r, _) => if refFree r then some (r, st1) else none | none => none) else none
  | _, _ => none := by
 simp only [opv]; cases args[i]? <;> rfl
@[simp] theorem entry_none (l : List PV) : entry none l = l.map dem := rfl
@[simp] theorem entry_some (i : Nat) (l : List PV) : entry (some i) l = (l.map dem).set i (l.getD i .dead) := rfl
@[simp] theorem closed_mk : closed ⟨V, l, g, h⟩ = ⟨V, [], g, h⟩ := rfl
@[simp] theorem execReg_mk (ops : List PO) : execReg cf ops ⟨V, l, g, h⟩ = if isAny ops then execA cf ops ⟨V, l, g, h⟩ else execOps cf ops ⟨V, l, g, h⟩ := rfl
attribute [simp] isAny
@[simp] theorem evL_region_mk (ops : List PO) : evL L (.region ops) ⟨V, l, g, h⟩ = match execReg (callL L) ops ⟨V, l, g, h⟩ with | some st => some (.normal, closed st) | none => none := by
 rw [evL_region]; cases execReg (callL L) ops ⟨V, l, g, h⟩ <;> rfl
@[simp] theorem evL_branch_mk (ops : List PO) (x : PX) (a b : PC) : evL L (.branch ops x a b) ⟨V, l, g, h⟩ = match execReg (callL L) ops ⟨V, l, g, h⟩ with
  | some st => (match rd st x with | some (.bool t) => if t then evL L a (closed st) else evL L b (closed st) | _ => none)
  | none => none := by
 rw [evL_branch]
 cases execReg (callL L) ops ⟨V, l, g, h⟩ with
 | none => rfl
 | some st =>
   simp only [Option.bind_some]
   cases rd st x with
   | none => rfl
   | some v => cases v <;> try rfl
               rename_i t; cases t <;> rfl
/-! ### Regions in which a call may panic -/
@[simp] theorem brun_nil (ob : OutF) (j : Nat) (st : St) : brun cf ob j [] st = some (none, st) := rfl
/-- One step, and what follows. -/
noncomputable def brest (cf : CallF) (ob : OutF) (j : Nat) (os : List PO) : Option (Option PV × St) → Option (Option PV × St)
 | some (none, st) => brun cf ob j os st
 | r => r
@[simp] theorem brest_val (ob : OutF) (j : Nat) (os : List PO) (st : St) : brest cf ob j os (some (none, st)) = brun cf ob j os st := rfl
@[simp] theorem brest_boom (ob : OutF) (j : Nat) (os : List PO) (v : PV) (st : St) : brest cf ob j os (some (some v, st)) = some (some v, st) := rfl
@[simp] theorem brest_none (ob : OutF) (j : Nat) (os : List PO) : brest cf ob j os none = none := rfl
theorem brun_cons (ob : OutF) (j : Nat) (o : PO) (os : List PO) (st : St) : brun cf ob j (o :: os) st = brest cf ob (j + 1) os (bstep cf ob j o st) := by
 simp only [brun]
 rcases bstep cf ob j o st with _ | ⟨_ | v, st1⟩ <;> rfl
/-- How a call ends, put where it goes. -/
def bput (j : Nat) (d : PD) : Option (Out × List PObj) → St → Option (Option PV × St)
 | some (.val r, h'), st => some (none, put { st with heap := h' } j d (dem r))
 | some (.boom v, h'), st => some (some v, { st with heap := h' })
 | none, _ => none
@[simp] theorem bput_val (j : Nat) (d : PD) (r : PV) (h' : List PObj) : bput j d (some (.val r, h')) ⟨V, l, g, h⟩ = some (none, put ⟨V, l, g, h'⟩ j d (dem r)) := rfl
@[simp] theorem bput_boom (j : Nat) (d : PD) (v : PV) (h' : List PObj) : bput j d (some (.boom v, h')) ⟨V, l, g, h⟩ = some (some v, ⟨V, l, g, h'⟩) := rfl
@[simp] theorem bput_none (j : Nat) (d : PD) (st : St) : bput j d none st = none := rfl
theorem bstep_bcall (ob : OutF) (j k : Nat) (d : PD) (args : List PX) : bstep cf ob j ⟨d, .h (.bcall k args), none⟩ ⟨V, l, g, h⟩ = match rdAll ⟨V, l, g, h⟩ args with
  | some vs => bput j d (ob k vs h) ⟨V, l, g, h⟩
  | none => none := by
 simp only [bstep]
 cases rdAll ⟨V, l, g, h⟩ args with
 | none => rfl
 | some vs => simp only; rcases ob k vs h with _ | ⟨_ | v, h'⟩ <;> rfl
theorem bstep_bcallv (ob : OutF) (j : Nat) (x : PX) (d : PD) (args : List PX) : bstep cf ob j ⟨d, .h (.bcallv x args), none⟩ ⟨V, l, g, h⟩ = match rd ⟨V, l, g, h⟩ x, rdAll ⟨V, l, g, h⟩ args with
  | some (.func k first captured), some vs => bput j d (ob k (first ++ vs ++ captured) h) ⟨V, l, g, h⟩
  | _, _ => none := by
 simp only [bstep]
 cases rd ⟨V, l, g, h⟩ x with
 | none => rfl
 | some f => cases rdAll ⟨V, l, g, h⟩ args with
   | none => cases f <;> rfl
   | some vs => cases f <;> try rfl
                rename_i k first captured
                simp only; rcases ob k (first ++ vs ++ captured) h with _ | ⟨_ | v, h'⟩ <;> rfl
/-- A value that no panic can keep away. -/
def bsome : Option St → Option (Option PV × St)
 | some st => some (none, st)
 | none => none
@[simp] theorem bsome_some (st : St) : bsome (some st) = some (none, st) := rfl
@[simp] theorem bsome_none : bsome none = none := rfl
def isBop : POp → Bool
 | .h (.bcall ..) | .h (.bcallv ..) => true
 | _ => false
theorem bstep_step (ob : OutF) (j : Nat) (d : PD) (op : POp) (gd : Option (PX × Bool)) (st : St) (hb : isBop op = false) : bstep cf ob j ⟨d, op, gd⟩ st = bsome (step1 cf j ⟨d, op, gd⟩ st) := by
 have key : bstep cf ob j ⟨d, op, gd⟩ st = (step1 cf j ⟨d, op, gd⟩ st).map fun st => (none, st) := by
  cases op with
  | h o => cases o <;> first | rfl | simp [isBop] at hb
  | _ => rfl
 rw [key]
 cases step1 cf j ⟨d, op, gd⟩ st <;> rfl
@[simp] theorem isBop_mov (x : PX) : isBop (.mov x) = false := id rfl
@[simp] theorem isBop_movs (x : PX) : isBop (.movs x) = false := id rfl
@[simp] theorem isBop_take (x : PX) : isBop (.take x) = false := id rfl
@[simp] theorem isBop_pick (c a b : PX) : isBop (.pick c a b) = false := id rfl
@[simp] theorem isBop_newloc (zero : List PV) : isBop (.newloc zero) = false := id rfl
@[simp] theorem isBop_boxloc (size : Nat) (x : PX) : isBop (.boxloc size x) = false := id rfl
@[simp] theorem isBop_build (zero : List PV) (parts : List (Nat × Nat × PX)) : isBop (.build zero parts) = false := id rfl
@[simp] theorem isBop_mkslice (size : Nat) (zero : PV) (len : Nat) (parts : List (Nat × PX)) : isBop (.mkslice size zero len parts) = false := id rfl
@[simp] theorem isBop_load (size : Nat) (agg : Bool) (a : PX) (take : Bool) : isBop (.load size agg a take) = false := id rfl
@[simp] theorem isBop_store (size : Nat) (agg : Bool) (a x : PX) : isBop (.store size agg a x) = false := id rfl
@[simp] theorem isBop_faddr (off : Nat) (x : PX) : isBop (.faddr off x) = false := id rfl
@[simp] theorem isBop_iaddrS (size : Nat) (x i : PX) : isBop (.iaddrS size x i) = false := id rfl
@[simp] theorem isBop_iaddrA (len size : Nat) (x i : PX) : isBop (.iaddrA len size x i) = false := id rfl
@[simp] theorem isBop_field (off size : Nat) (agg : Bool) (x : PX) : isBop (.field off size agg x) = false := id rfl
@[simp] theorem isBop_indexStr (x i : PX) : isBop (.indexStr x i) = false := id rfl
@[simp] theorem isBop_slice (str : Bool) (size : Nat) (x : PX) (lo hi : Option PX) : isBop (.slice str size x lo hi) = false := id rfl
@[simp] theorem isBop_sliceLoc (n : Nat) (x : PX) : isBop (.sliceLoc n x) = false := id rfl
@[simp] theorem isBop_bin (op : BinOp) (x y : PX) : isBop (.bin op x y) = false := id rfl
@[simp] theorem isBop_eq (neg agg : Bool) (ks : List EK) (x y : PX) : isBop (.eq neg agg ks x y) = false := id rfl
@[simp] theorem isBop_un (op : UnOp) (x : PX) : isBop (.un op x) = false := id rfl
@[simp] theorem isBop_ifc (b : Bool) (t : Nat) (x : PX) : isBop (.ifc b t x) = false := id rfl
@[simp] theorem isBop_h_icall (t : List (Nat × Nat × Option (Nat × Bool))) (x : PX) (args : List PX) : isBop (.h (.icall t x args)) = false := id rfl
@[simp] theorem isBop_convInt (k : IntKind) (x : PX) : isBop (.convInt k x) = false := id rfl
@[simp] theorem isBop_extract (i : Nat) (x : PX) : isBop (.extract i x) = false := id rfl
@[simp] theorem isBop_len (str : Bool) (x : PX) : isBop (.len str x) = false := id rfl
@[simp] theorem isBop_minmax (max : Bool) (xs : List PX) : isBop (.minmax max xs) = false := id rfl
@[simp] theorem isBop_append (size bytes : Nat) (s x : PX) : isBop (.append size bytes s x) = false := id rfl
@[simp] theorem isBop_appstr (s x : PX) : isBop (.appstr s x) = false := id rfl
@[simp] theorem isBop_b2s (x : PX) : isBop (.b2s x) = false := id rfl
@[simp] theorem isBop_s2b (x : PX) : isBop (.s2b x) = false := id rfl
@[simp] theorem isBop_pcallx (k : Nat) (args : List PX) (o : Option Nat) : isBop (.pcallx k args o) = false := id rfl
@[simp] theorem isBop_loadv (s n : Nat) (agg : Bool) (a : PX) : isBop (.loadv s n agg a) = false := id rfl
@[simp] theorem isBop_pcall (k : Nat) (args : List PX) : isBop (.pcall k args) = false := id rfl
@[simp] theorem isBop_callv (x : PX) (args : List PX) : isBop (.callv x args) = false := id rfl
@[simp] theorem isBop_h_newobj (zero : List PV) : isBop (.h (.newobj zero)) = false := id rfl
@[simp] theorem isBop_h_boxobj (size : Nat) (x : PX) : isBop (.h (.boxobj size x)) = false := id rfl
@[simp] theorem isBop_h_load (size : Nat) (agg : Bool) (a : PX) (take : Bool) : isBop (.h (.load size agg a take)) = false := id rfl
@[simp] theorem isBop_h_storer (size : Nat) (agg : Bool) (a x : PX) : isBop (.h (.storer size agg a x)) = false := id rfl
@[simp] theorem isBop_h_store (size : Nat) (agg : Bool) (a x : PX) : isBop (.h (.store size agg a x)) = false := id rfl
@[simp] theorem isBop_h_iaddr (len size : Nat) (x i : PX) : isBop (.h (.iaddr len size x i)) = false := id rfl
@[simp] theorem isBop_h_mkmap  : isBop (.h (.mkmap )) = false := id rfl
@[simp] theorem isBop_h_lookup (ok take kagg : Bool) (ks : List EK) (zero : PV) (m x : PX) : isBop (.h (.lookup ok take kagg ks zero m x)) = false := id rfl
@[simp] theorem isBop_h_mdel (kagg : Bool) (ks : List EK) (m k : PX) : isBop (.h (.mdel kagg ks m k)) = false := id rfl
@[simp] theorem isBop_h_mset (kagg : Bool) (ks : List EK) (m k v : PX) : isBop (.h (.mset kagg ks m k v)) = false := id rfl
@[simp] theorem isBop_h_mlen (m : PX) : isBop (.h (.mlen m)) = false := id rfl
@[simp] theorem isBop_h_mkfunc (k : Nat) (first captured : List PX) : isBop (.h (.mkfunc k first captured)) = false := id rfl
@[simp] theorem isBop_h_isnil (kind : Nat) (neg : Bool) (x : PX) : isBop (.h (.isnil kind neg x)) = false := id rfl
@[simp] theorem isBop_h_nilchk (x : PX) : isBop (.h (.nilchk x)) = false := id rfl
@[simp] theorem isBop_h_loadc (size : Nat) (agg : Bool) (a : PX) : isBop (.h (.loadc size agg a)) = false := id rfl
@[simp] theorem isBop_h_barr (zero : List PV) (parts : List (Nat × Nat × PX)) : isBop (.h (.barr zero parts)) = false := id rfl
@[simp] theorem isBop_h_idxA (len size : Nat) (agg : Bool) (x i : PX) : isBop (.h (.idxA len size agg x i)) = false := id rfl
@[simp] theorem isBop_h_rcall (k : Nat) (args : List PX) : isBop (.h (.rcall k args)) = false := id rfl
@[simp] theorem isBop_h_zcall (k : Nat) (args : List PX) : isBop (.h (.zcall k args)) = false := id rfl
@[simp] theorem isBop_h_lcall (k : Nat) (args : List PX) : isBop (.h (.lcall k args)) = false := id rfl
@[simp] theorem isBop_h_call (k : Nat) (args : List PX) : isBop (.h (.call k args)) = false := id rfl
@[simp] theorem isBop_h_callv (x : PX) (args : List PX) : isBop (.h (.callv x args)) = false := id rfl
@[simp] theorem isBop_h_newbld  : isBop (.h (.newbld )) = false := id rfl
@[simp] theorem isBop_h_happ (size : Nat) (agg : Bool) (bytes : Nat) (s x : PX) : isBop (.h (.happ size agg bytes s x)) = false := id rfl
@[simp] theorem isBop_h_mkfresh (size : Nat) (agg : Bool) (b : Nat) (z : List PV) (x : PX) : isBop (.h (.mkfresh size agg b z x)) = false := id rfl
@[simp] theorem isBop_h_buildA (js : List Nat) (z : List PV) (ps : List (Nat × Nat × PX)) : isBop (.h (.buildA js z ps)) = false := id rfl
@[simp] theorem isBop_h_loadn (a : PX) : isBop (.h (.loadn a)) = false := id rfl
@[simp] theorem isBop_pzcall (k : Nat) (args : List PX) : isBop (.pzcall k args) = false := id rfl
@[simp] theorem isBop_h_mkrow (size : Nat) (agg : Bool) (z : PV) (len : Nat) (ps : List (Nat × PX)) : isBop (.h (.mkrow size agg z len ps)) = false := id rfl
@[simp] theorem isBop_h_mkarr (size : Nat) (agg : Bool) (bytes : Nat) (zero : List PV) (x : PX) : isBop (.h (.mkarr size agg bytes zero x)) = false := id rfl
@[simp] theorem isBop_h_range (x : PX) : isBop (.h (.range x)) = false := id rfl
@[simp] theorem isBop_h_next (x : PX) : isBop (.h (.next x)) = false := id rfl
@[simp] theorem brun_op (ob : OutF) (j : Nat) (d : PD) (op : POp) (os : List PO) (hb : isBop op = false) : brun cf ob j (⟨d, op, none⟩ :: os) ⟨V, l, g, h⟩ = match opv cf op ⟨V, l, g, h⟩ with
  | some (v, st) => brun cf ob (j + 1) os (put st j d v)
  | none => none := by
 rw [brun_cons, bstep_step ob j d op none _ hb]
 simp only [step1]
 cases opv cf op ⟨V, l, g, h⟩ <;> rfl
@[simp] theorem brun_opG (ob : OutF) (j : Nat) (d : PD) (op : POp) (x : PX) (want : Bool) (os : List PO) (hb : isBop op = false) : brun cf ob j (⟨d, op, some (x, want)⟩ :: os) ⟨V, l, g, h⟩ = match rd ⟨V, l, g, h⟩ x with
  | some (.bool b) => if b = want then (match opv cf op ⟨V, l, g, h⟩ with | some (v, st) => brun cf ob (j + 1) os (put st j d v) | none => none) else brun cf ob (j + 1) os (put ⟨V, l, g, h⟩ j d (.tuple []))
  | some (.tuple []) => brun cf ob (j + 1) os (put ⟨V, l, g, h⟩ j d (.tuple []))
  | _ => none := by
 rw [brun_cons, bstep_step ob j d op _ _ hb]
 simp only [step1]
 cases rd ⟨V, l, g, h⟩ x with
 | none => rfl
 | some v =>
   cases v with
   | bool b =>
     simp only
     by_cases hw : b = want
     ·simp only [hw, if_true]; cases opv cf op ⟨V, l, g, h⟩ <;> rfl
     ·simp only [hw, if_false]; rfl
   | tuple vs => cases vs <;> rfl
   | _ => rfl
@[simp] theorem brun_bcall (ob : OutF) (j k : Nat) (d : PD) (args : List PX) (os : List PO) : brun cf ob j (⟨d, .h (.bcall k args), none⟩ :: os) ⟨V, l, g, h⟩ = match rdAll ⟨V, l, g, h⟩ args with
  | some vs => brest cf ob (j + 1) os (bput j d (ob k vs h) ⟨V, l, g, h⟩)
  | none => none := by
 rw [brun_cons, bstep_bcall]
 cases rdAll ⟨V, l, g, h⟩ args <;> rfl
@[simp] theorem brun_bcallv (ob : OutF) (j : Nat) (x : PX) (d : PD) (args : List PX) (os : List PO) : brun cf ob j (⟨d, .h (.bcallv x args), none⟩ :: os) ⟨V, l, g, h⟩ = match rd ⟨V, l, g, h⟩ x, rdAll ⟨V, l, g, h⟩ args with
  | some (.func k first captured), some vs => brest cf ob (j + 1) os (bput j d (ob k (first ++ vs ++ captured) h) ⟨V, l, g, h⟩)
  | _, _ => none := by
 rw [brun_cons, bstep_bcallv]
 cases rd ⟨V, l, g, h⟩ x with
 | none => rfl
 | some f => cases rdAll ⟨V, l, g, h⟩ args with
   | none => cases f <;> rfl
   | some vs => cases f <;> rfl
@[simp] theorem evL_bregion_mk (ops : List PO) : evL L (.bregion ops) ⟨V, l, g, h⟩ = match brun (callL L) (outL L) 0 ops ⟨V, List.replicate ops.length .dead, g, h⟩ with
  | some (none, st) => some (.normal, closed st)
  | some (some v, st) => some (.boom v, closed st)
  | none => none := by rw [evL_bregion]; rfl
@[simp] theorem evL_bbranch_mk (ops : List PO) (x : PX) (a b : PC) : evL L (.bbranch ops x a b) ⟨V, l, g, h⟩ = match brun (callL L) (outL L) 0 ops ⟨V, List.replicate ops.length .dead, g, h⟩ with
  | some (none, st) => (match rd st x with | some (.bool t) => evL L (if t then a else b) (closed st) | _ => none)
  | some (some v, st) => some (.boom v, closed st)
  | none => none := by rw [evL_bbranch]; rfl
@[simp] theorem resultsOf_nil (st : St) : resultsOf st [] = some [] := rfl
@[simp] theorem resultsOf_cons (r : PRes) (rs : List PRes) : resultsOf ⟨V, l, g, h⟩ (r :: rs) = match resultOf ⟨V, l, g, h⟩ r with
  | some v => (match resultsOf ⟨V, l, g, h⟩ rs with | some vs => some (v :: vs) | none => none)
  | none => none := by
 simp only [resultsOf]; cases resultOf ⟨V, l, g, h⟩ r <;> simp; cases resultsOf ⟨V, l, g, h⟩ rs <;> rfl
def res1 : List PV → PV
 | [v] => v
 | vs => .tuple (vs.map dem)
@[simp] theorem res1_one (v : PV) : res1 [v] = v := rfl
@[simp] theorem res1_two (v u : PV) (r : List PV) : res1 (v :: u :: r) = .tuple ((v :: u :: r).map dem) := rfl
@[simp] theorem res1_nil : res1 [] = .tuple [] := rfl
@[simp] theorem resultV_mk (rs : List PRes) : resultV ⟨V, l, g, h⟩ rs = match resultsOf ⟨V, l, g, h⟩ rs with | some vs => some (res1 vs) | none => none := by
 simp only [resultV]; cases resultsOf ⟨V, l, g, h⟩ rs <;> rfl
/-- What a body's end gives. -/
def ending (rs : List PRes) : Option (PExit × St) → Option (PV × List PObj)
 | some (.normal, st) => (match resultV st rs with | some v => some (v, shutRes st.vars rs st.heap) | none => none)
 | some (.ret, st) => (match resultV st rs with | some v => some (v, shutRes st.vars rs st.heap) | none => none)
 | _ => none
attribute [simp] ending
/-- How a body's end ends a call. -/
theorem runOut_ending {f : PFunc} {args : List PV} {hp : List PObj} {r : PV × List PObj} (hr : f.code.isRound = false) (he : ending f.results (evL L f.code ⟨args.map dem ++ List.replicate (f.nv - f.params) .dead, [], 0, hp⟩) = some r) : runOut (evL L) (dfrOf L) f args hp = some (.val r.1, r.2) := by
 have key : ∀ st, (match resultV st f.results with | some v => some (v, shutRes st.vars f.results st.heap) | none => none) = some r → (resultV st f.results).map (fun r => (Out.val r, shutRes st.vars f.results st.heap)) = some (Out.val r.1, r.2) := by
  intro st h
  cases hv : resultV st f.results with
  | none => rw [hv] at h; simp at h
  | some v => rw [hv] at h; simp only [Option.some.injEq] at h; subst h; rfl
 unfold runOut
 split
 ·rename_i h1; rw [h1] at hr; simp [PC.isRound] at hr
 ·generalize evL L f.code ⟨args.map dem ++ List.replicate (f.nv - f.params) .dead, [], 0, hp⟩ = q at he ⊢
  rcases q with _ | ⟨e, st⟩
  ·simp at he
  ·cases e <;> simp only [ending] at he ⊢
   ·exact key st he
   ·simp at he
   ·exact key st he
   ·simp at he
   ·simp at he
theorem runFn_ending {f : PFunc} {args : List PV} {hp : List PObj} {r : PV × List PObj} (hr : f.code.isRound = false) (he : ending f.results (evL L f.code ⟨args.map dem ++ List.replicate (f.nv - f.params) .dead, [], 0, hp⟩) = some r) : runFn (evL L) (dfrOf L) f args hp = some r := by
 unfold runFn
 rw [if_neg (by rw [hr]; simp), valOf_some]
 exact runOut_ending hr he
theorem callL_run {k : Nat} {f : PFunc} {args : List PV} {hp : List PObj} {r} (hf : L k = some f) (hl : args.length = f.params) (he : ending f.results (evL L f.code ⟨args.map dem ++ List.replicate (f.nv - f.params) .dead, [], 0, hp⟩) = some r) (hs : f.split = false := by rfl) (hpr : f.prim = none := by rfl) (hr : f.code.isRound = false := by rfl) :
  callL L k args hp = some r := by
 rw [callL_eq, callWith, hf]
 simp only [if_pos hl, hs, hpr, Bool.false_and, Bool.false_eq_true, if_false]
 exact runFn_ending hr he
/-- A function that is taken by its contract. -/
theorem callL_prim {k : Nat} {f : PFunc} {p : List PV → List PObj → Option (PV × List PObj)} {args : List PV} {hp : List PObj} (hf : L k = some f) (hl : args.length = f.params) (hpr : f.prim = some p) : callL L k args hp = match p (args.map dem) hp with | some r => some (dem r.1, r.2) | none => none := by
 rw [callL_eq, callWith, hf]
 simp only [if_pos hl, hpr]
 cases p (args.map dem) hp <;> rfl
/-- A function that must not see whether an empty slice is nil: both ways. -/
theorem callL_split {k : Nat} {f : PFunc} {args : List PV} {hp : List PObj} {r} (hf : L k = some f) (hl : args.length = f.params) (hs : f.split = true) (h0 : vague (args.headD .dead) = false → ending f.results (evL L f.code ⟨args.map dem ++ List.replicate (f.nv - f.params) .dead, [], 0, hp⟩) = some r)
  (h1 : vague (args.headD .dead) = true → ending f.results (evL L f.code ⟨(.nils :: args.tail).map dem ++ List.replicate (f.nv - f.params) .dead, [], 0, hp⟩) = some r ∧ ending f.results (evL L f.code ⟨(.void :: args.tail).map dem ++ List.replicate (f.nv - f.params) .dead, [], 0, hp⟩) = some r) (hpr : f.prim = none := by rfl) (hr : f.code.isRound = false := by rfl) :
  callL L k args hp = some r := by
 rw [callL_eq, callWith, hf]
 simp only [if_pos hl, hpr]
 cases hv : vague (args.headD .dead) with
 | false => simp only [Bool.and_false, Bool.false_eq_true, if_false]; exact runFn_ending hr (h0 hv)
 | true =>
   obtain ⟨a, b⟩ := h1 hv
   simp only [hs, Bool.and_self, if_true]
   rw [agree_some]
   exact ⟨runFn_ending hr a, runFn_ending hr b⟩
end
end PI
