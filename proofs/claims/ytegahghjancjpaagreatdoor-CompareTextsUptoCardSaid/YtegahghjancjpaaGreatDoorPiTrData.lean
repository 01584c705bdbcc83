import Derived.Test.YtegahghjancjpaaGreatDoorPiSimp
set_option linter.unusedSimpArgs false
namespace PI
open Go (IntKind BinOp UnOp)
attribute [simp] loadFrom setElems setParts
@[simp] theorem headOk_nil (s : Nat) : headOk s [] = true := rfl
@[simp] theorem headOk_cons (s : Nat) (e : PV) (r : List PV) : headOk s (e :: r) = (e.cells.length == s) := rfl
@[simp] theorem cells_bool (b : Bool) : (PV.bool b).cells = [.bool b] := rfl
@[simp] theorem cells_int (k : IntKind) (n : Int) : (PV.int k n).cells = [.int k n] := rfl
@[simp] theorem cells_str (s : List UInt8) : (PV.str s).cells = [.str s] := rfl
@[simp] theorem cells_list (o : Bool) (s : List PV) : (PV.list o s).cells = [.list o s] := rfl
@[simp] theorem flat_bool (b : Bool) : (PV.bool b).flat = true := rfl
@[simp] theorem flat_int (k : IntKind) (n : Int) : (PV.int k n).flat = true := rfl
@[simp] theorem flat_str (s : List UInt8) : (PV.str s).flat = true := rfl
@[simp] theorem flat_list (o : Bool) (s : List PV) : (PV.list o s).flat = true := rfl
@[simp] theorem binv_int (op : BinOp) (h1 : op ≠ .shl) (h2 : op ≠ .shr) (k : IntKind) (a b : Int) : binv op (.int k a) (.int k b) = intBin op k a b := by cases op <;> simp_all [binv]
@[simp] theorem binv_str (op : BinOp) (a b : List UInt8) : binv op (.str a) (.str b) = strBin op a b := by cases op <;> rfl
@[simp] theorem wrap_succ (i : Nat) (h : i < 9223372036854775807) : IntKind.i64.wrap ((i : Int) + 1) = ((i + 1 : Nat) : Int) := by
  show (if (true && decide (((i : Int) + 1) % 18446744073709551616 ≥ 9223372036854775808)) = true then ((i : Int) + 1) % 18446744073709551616 - 18446744073709551616 else ((i : Int) + 1) % 18446744073709551616) = _
  simp only [Bool.true_and, decide_eq_true_eq]
  split <;> omega
theorem wrap_i64 (n : Int) (h1 : -9223372036854775808 ≤ n) (h2 : n ≤ 9223372036854775807) : IntKind.i64.wrap n = n := by
  show (if (true && decide (n % 18446744073709551616 ≥ 9223372036854775808)) = true then n % 18446744073709551616 - 18446744073709551616 else n % 18446744073709551616) = _
  simp only [Bool.true_and, decide_eq_true_eq]
  split <;> omega
theorem frees_all (l : List PV) : refFrees l = l.all refFree := by induction l <;> simp_all
@[simp] theorem frees_append (a b : List PV) : refFrees (a ++ b) = (refFrees a && refFrees b) := by simp [frees_all, List.all_append]
@[simp] theorem frees_take (l : List PV) (n : Nat) (h : refFrees l = true) : refFrees (l.take n) = true := by
  rw [frees_all, List.all_eq_true] at *
  exact fun x hx => h x (List.mem_of_mem_take hx)
@[simp] theorem frees_drop (l : List PV) (n : Nat) (h : refFrees l = true) : refFrees (l.drop n) = true := by
  rw [frees_all, List.all_eq_true] at *
  exact fun x hx => h x (List.mem_of_mem_drop hx)
@[simp] theorem free_strs (l : List (List UInt8)) : refFrees (l.map PV.str) = true := by induction l <;> simp_all
@[simp] theorem head_strs (l : List (List UInt8)) : headOk 1 (l.map PV.str) = true := by cases l <;> simp
@[simp] theorem free_ints (l : List Int) : refFrees (l.map (PV.int .i64)) = true := by induction l <;> simp_all
@[simp] theorem head_ints (l : List Int) : headOk 1 (l.map (PV.int .i64)) = true := by cases l <;> simp
namespace Tr
abbrev Str := List UInt8
abbrev Len (n : Nat) : Prop := n ≤ 9223372036854775807
structure On where
  name : List UInt8
  t : Int
  tag : Int
  deriving DecidableEq, Inhabited
def eOn (x : On) : PV := .agg [.str x.name, .int .i64 x.t, .int .i64 x.tag]
@[simp] theorem eOn_cells (x : On) : (eOn x).cells = [.str x.name, .int .i64 x.t, .int .i64 x.tag] := rfl
@[simp] theorem eOn_cp (x : On) : cp (eOn x) = some (eOn x) := rfl
@[simp] theorem eOn_tkv (x : On) : tkv (eOn x) = some (eOn x, false) := rfl
@[simp] theorem eOn_aggCells (x : On) : aggCells (eOn x) = some (eOn x).cells := rfl
@[simp] theorem eOn_dem (x : On) : dem (eOn x) = eOn x := rfl
@[simp] theorem eOn_deep (x : On) : deep (eOn x) = eOn x := rfl
@[simp] theorem eOn_rowp (x : On) : rowpNo (eOn x) = none := rfl
@[simp] theorem eOn_froz (h : List PObj) (x : On) : froz h (eOn x) = some (eOn x) := rfl
@[simp] theorem eOn_fold (x : On) : PV.agg [.str x.name, .int .i64 x.t, .int .i64 x.tag] = eOn x := rfl
@[simp] theorem eOn_free (x : On) : refFree (eOn x) = true := by simp only [eOn, refFree, refFrees, Bool.and_true]
@[simp] theorem free_On (l : List On) : refFrees (l.map eOn) = true := by induction l <;> simp_all
@[simp] theorem head_On (l : List On) : headOk 3 (l.map eOn) = true := by cases l <;> simp
@[simp] theorem eOn_eq (x y : On) : peq true [.s, .i, .i] (eOn x) (eOn y) = some (decide (x = y)) := by
  cases x; cases y
  simp only [eOn, peq, if_true, peqs, peq1, Option.bind_some, Option.map_some, Option.some.injEq, On.mk.injEq, Bool.and_true]
  rw [Bool.eq_iff_iff]; simp
structure Decl where
  name : List UInt8
  type : Int
  clock : List On
  deriving DecidableEq, Inhabited
def eDecl (x : Decl) : PV := .agg [.str x.name, .int .i64 x.type, .list false (x.clock.map eOn)]
@[simp] theorem eDecl_cells (x : Decl) : (eDecl x).cells = [.str x.name, .int .i64 x.type, .list false (x.clock.map eOn)] := rfl
@[simp] theorem eDecl_cp (x : Decl) : cp (eDecl x) = some (eDecl x) := rfl
@[simp] theorem eDecl_tkv (x : Decl) : tkv (eDecl x) = some (eDecl x, false) := rfl
@[simp] theorem eDecl_aggCells (x : Decl) : aggCells (eDecl x) = some (eDecl x).cells := rfl
@[simp] theorem eDecl_dem (x : Decl) : dem (eDecl x) = eDecl x := rfl
@[simp] theorem eDecl_deep (x : Decl) : deep (eDecl x) = eDecl x := rfl
@[simp] theorem eDecl_rowp (x : Decl) : rowpNo (eDecl x) = none := rfl
@[simp] theorem eDecl_froz (h : List PObj) (x : Decl) : froz h (eDecl x) = some (eDecl x) := rfl
@[simp] theorem eDecl_fold (x : Decl) : PV.agg [.str x.name, .int .i64 x.type, .list false (x.clock.map eOn)] = eDecl x := rfl
@[simp] theorem eDecl_free (x : Decl) : refFree (eDecl x) = true := by simp only [eDecl, refFree, refFrees, Bool.and_true, free_On]
@[simp] theorem free_Decl (l : List Decl) : refFrees (l.map eDecl) = true := by induction l <;> simp_all
@[simp] theorem head_Decl (l : List Decl) : headOk 3 (l.map eDecl) = true := by cases l <;> simp
structure Cell where
  kind : Int
  v : Int
  deriving DecidableEq, Inhabited
def eCell (x : Cell) : PV := .agg [.int .i64 x.kind, .int .i64 x.v]
@[simp] theorem eCell_cells (x : Cell) : (eCell x).cells = [.int .i64 x.kind, .int .i64 x.v] := rfl
@[simp] theorem eCell_cp (x : Cell) : cp (eCell x) = some (eCell x) := rfl
@[simp] theorem eCell_tkv (x : Cell) : tkv (eCell x) = some (eCell x, false) := rfl
@[simp] theorem eCell_aggCells (x : Cell) : aggCells (eCell x) = some (eCell x).cells := rfl
@[simp] theorem eCell_dem (x : Cell) : dem (eCell x) = eCell x := rfl
@[simp] theorem eCell_deep (x : Cell) : deep (eCell x) = eCell x := rfl
@[simp] theorem eCell_rowp (x : Cell) : rowpNo (eCell x) = none := rfl
@[simp] theorem eCell_froz (h : List PObj) (x : Cell) : froz h (eCell x) = some (eCell x) := rfl
@[simp] theorem eCell_fold (x : Cell) : PV.agg [.int .i64 x.kind, .int .i64 x.v] = eCell x := rfl
@[simp] theorem eCell_free (x : Cell) : refFree (eCell x) = true := by simp only [eCell, refFree, refFrees, Bool.and_true]
@[simp] theorem free_Cell (l : List Cell) : refFrees (l.map eCell) = true := by induction l <;> simp_all
@[simp] theorem head_Cell (l : List Cell) : headOk 2 (l.map eCell) = true := by cases l <;> simp
@[simp] theorem eCell_eq (x y : Cell) : peq true [.i, .i] (eCell x) (eCell y) = some (decide (x = y)) := by
  cases x; cases y
  simp only [eCell, peq, if_true, peqs, peq1, Option.bind_some, Option.map_some, Option.some.injEq, Cell.mk.injEq, Bool.and_true]
  rw [Bool.eq_iff_iff]; simp
structure Enum where
  name : List UInt8
  tags : List (List UInt8)
  deriving DecidableEq, Inhabited
def eEnum (x : Enum) : PV := .agg [.str x.name, .list false (x.tags.map PV.str)]
@[simp] theorem eEnum_cells (x : Enum) : (eEnum x).cells = [.str x.name, .list false (x.tags.map PV.str)] := rfl
@[simp] theorem eEnum_cp (x : Enum) : cp (eEnum x) = some (eEnum x) := rfl
@[simp] theorem eEnum_tkv (x : Enum) : tkv (eEnum x) = some (eEnum x, false) := rfl
@[simp] theorem eEnum_aggCells (x : Enum) : aggCells (eEnum x) = some (eEnum x).cells := rfl
@[simp] theorem eEnum_dem (x : Enum) : dem (eEnum x) = eEnum x := rfl
@[simp] theorem eEnum_deep (x : Enum) : deep (eEnum x) = eEnum x := rfl
@[simp] theorem eEnum_rowp (x : Enum) : rowpNo (eEnum x) = none := rfl
@[simp] theorem eEnum_froz (h : List PObj) (x : Enum) : froz h (eEnum x) = some (eEnum x) := rfl
@[simp] theorem eEnum_fold (x : Enum) : PV.agg [.str x.name, .list false (x.tags.map PV.str)] = eEnum x := rfl
@[simp] theorem eEnum_free (x : Enum) : refFree (eEnum x) = true := by simp only [eEnum, refFree, refFrees, Bool.and_true, free_strs]
@[simp] theorem free_Enum (l : List Enum) : refFrees (l.map eEnum) = true := by induction l <;> simp_all
@[simp] theorem head_Enum (l : List Enum) : headOk 2 (l.map eEnum) = true := by cases l <;> simp
abbrev Row := List Cell
def eRow (x : Row) : PV := .list false (x.map eCell)
@[simp] theorem eRow_cells (x : Row) : (eRow x).cells = [eRow x] := rfl
@[simp] theorem eRow_cp (x : Row) : cp (eRow x) = some (eRow x) := rfl
@[simp] theorem eRow_tkv (x : Row) : tkv (eRow x) = some (eRow x, false) := rfl
@[simp] theorem eRow_dem (x : Row) : dem (eRow x) = eRow x := rfl
@[simp] theorem eRow_deep (x : Row) : deep (eRow x) = eRow x := rfl
@[simp] theorem eRow_rowp (x : Row) : rowpNo (eRow x) = none := rfl
@[simp] theorem eRow_froz (h : List PObj) (x : Row) : froz h (eRow x) = some (eRow x) := rfl
@[simp] theorem eRow_free (x : Row) : refFree (eRow x) = true := by simp [eRow]
@[simp] theorem eRow_flat (x : Row) : (eRow x).flat = true := rfl
@[simp] theorem free_Row (l : List Row) : refFrees (l.map eRow) = true := by induction l <;> simp_all
@[simp] theorem head_Row (l : List Row) : headOk 1 (l.map eRow) = true := by cases l <;> simp
structure Trace where
  cols : List Decl
  rows : List Row
  deriving DecidableEq, Inhabited
def eTrace (x : Trace) : PV := .agg [.list false (x.cols.map eDecl), .list false (x.rows.map eRow)]
@[simp] theorem eTrace_cells (x : Trace) : (eTrace x).cells = [.list false (x.cols.map eDecl), .list false (x.rows.map eRow)] := rfl
@[simp] theorem eTrace_cp (x : Trace) : cp (eTrace x) = some (eTrace x) := rfl
@[simp] theorem eTrace_tkv (x : Trace) : tkv (eTrace x) = some (eTrace x, false) := rfl
@[simp] theorem eTrace_agg (x : Trace) : aggCells (eTrace x) = some (eTrace x).cells := rfl
@[simp] theorem eTrace_dem (x : Trace) : dem (eTrace x) = eTrace x := rfl
@[simp] theorem eTrace_deep (x : Trace) : deep (eTrace x) = eTrace x := rfl
@[simp] theorem eTrace_rowp (x : Trace) : rowpNo (eTrace x) = none := rfl
@[simp] theorem eTrace_froz (h : List PObj) (x : Trace) : froz h (eTrace x) = some (eTrace x) := rfl
@[simp] theorem eTrace_fold (x : Trace) : PV.agg [.list false (x.cols.map eDecl), .list false (x.rows.map eRow)] = eTrace x := rfl
@[simp] theorem eTrace_free (x : Trace) : refFree (eTrace x) = true := by simp only [eTrace, refFree, refFrees, free_Decl, free_Row, Bool.and_true]
end Tr
end PI
