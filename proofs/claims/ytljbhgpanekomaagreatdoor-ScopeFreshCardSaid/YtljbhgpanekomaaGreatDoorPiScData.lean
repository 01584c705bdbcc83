import Derived.Test.YtljbhgpanekomaaGreatDoorPiWp
set_option linter.unusedSimpArgs false
namespace PI
open Go (IntKind BinOp UnOp)
attribute [simp] loadFrom setElems setParts
@[simp] theorem headOk_nil (s : Nat) : headOk s [] = true := rfl
@[simp] theorem headOk_cons (s : Nat) (e : PV) (r : List PV) : headOk s (e :: r) = (e.cells.length == s) := rfl
@[simp] theorem cells_bool (b : Bool) : (PV.bool b).cells = [.bool b] := rfl
@[simp] theorem cells_int (k : IntKind) (n : Int) : (PV.int k n).cells = [.int k n] := rfl
@[simp] theorem cells_str (s : List UInt8) : (PV.str s).cells = [.str s] := rfl
@[simp] theorem cells_list (o : Bool) (s : List PV) : (PV.list o s).cells = [.list o s] := rfl
@[simp] theorem flat_bool (b : Bool) : (PV.bool b).flat = true := rfl
@[simp] theorem flat_int (k : IntKind) (n : Int) : (PV.int k n).flat = true := rfl
@[simp] theorem flat_str (s : List UInt8) : (PV.str s).flat = true := rfl
@[simp] theorem flat_list (o : Bool) (s : List PV) : (PV.list o s).flat = true := rfl
@[simp] theorem flat_ptr (n o : Nat) : (PV.ptr n o).flat = true := rfl
@[simp] theorem flat_nilptr : PV.nilptr.flat = true := rfl
@[simp] theorem flat_map (n : Option Nat) : (PV.map n).flat = true := rfl
@[simp] theorem flat_rowp (n s : Nat) (a : Bool) (l : Nat) : (PV.rowp n s a l).flat = true := rfl
@[simp] theorem binv_int (op : BinOp) (h1 : op ≠ .shl) (h2 : op ≠ .shr) (k : IntKind) (a b : Int) : binv op (.int k a) (.int k b) = intBin op k a b := by cases op <;> simp_all [binv]
@[simp] theorem binv_str (op : BinOp) (a b : List UInt8) : binv op (.str a) (.str b) = strBin op a b := by cases op <;> rfl
@[simp] theorem wrap_succ (i : Nat) (h : i < 9223372036854775807) : IntKind.i64.wrap ((i : Int) + 1) = ((i + 1 : Nat) : Int) := by
 show (if (true && decide (((i : Int) + 1) % 18446744073709551616 ≥ 9223372036854775808)) = true then ((i : Int) + 1) % 18446744073709551616 - 18446744073709551616 else ((i : Int) + 1) % 18446744073709551616) = _
 simp only [Bool.true_and, decide_eq_true_eq]
 split <;> omega
theorem wrap_i64 (n : Int) (h1 : -9223372036854775808 ≤ n) (h2 : n ≤ 9223372036854775807) : IntKind.i64.wrap n = n := by
 show (if (true && decide (n % 18446744073709551616 ≥ 9223372036854775808)) = true then n % 18446744073709551616 - 18446744073709551616 else n % 18446744073709551616) = _
 simp only [Bool.true_and, decide_eq_true_eq]
 split <;> omega
theorem frees_all (l : List PV) : refFrees l = l.all refFree := by induction l <;> simp_all
@[simp] theorem frees_append (a b : List PV) : refFrees (a ++ b) = (refFrees a && refFrees b) := by simp [frees_all, List.all_append]
@[simp] theorem frees_take (l : List PV) (n : Nat) (h : refFrees l = true) : refFrees (l.take n) = true := by
 rw [frees_all, List.all_eq_true] at *
 exact fun x hx => h x (List.mem_of_mem_take hx)
@[simp] theorem frees_drop (l : List PV) (n : Nat) (h : refFrees l = true) : refFrees (l.drop n) = true := by
 rw [frees_all, List.all_eq_true] at *
 exact fun x hx => h x (List.mem_of_mem_drop hx)
theorem frees_map {α : Type} {f : α → PV} (h : ∀ x, refFree (f x) = true) (l : List α) : refFrees (l.map f) = true := by
 rw [frees_all, List.all_eq_true]; intro x hx; obtain ⟨y, _, rfl⟩ := List.mem_map.1 hx; exact h y
@[simp] theorem free_strs (l : List (List UInt8)) : refFrees (l.map PV.str) = true := frees_map (fun _ => rfl) l
@[simp] theorem head_strs (l : List (List UInt8)) : headOk 1 (l.map PV.str) = true := by cases l <;> simp
@[simp] theorem free_ints (l : List Int) : refFrees (l.map (PV.int .i64)) = true := frees_map (fun _ => rfl) l
@[simp] theorem head_ints (l : List Int) : headOk 1 (l.map (PV.int .i64)) = true := by cases l <;> simp
namespace Sc
abbrev Str := List UInt8
structure On where
 name : Str
 t : Int
 tag : Int
 deriving Inhabited, DecidableEq
def eOn (x : On) : PV := .agg [.str x.name, .int .i64 x.t, .int .i64 x.tag]
theorem eOn_def (x : On) : eOn x = .agg [.str x.name, .int .i64 x.t, .int .i64 x.tag] := rfl
@[simp] theorem eOn_cells (x : On) : (eOn x).cells = [.str x.name, .int .i64 x.t, .int .i64 x.tag] := rfl
@[simp] theorem eOn_cp (x : On) : cp (eOn x) = some (eOn x) := rfl
@[simp] theorem eOn_tkv (x : On) : tkv (eOn x) = some (eOn x, false) := rfl
@[simp] theorem eOn_aggCells (x : On) : aggCells (eOn x) = some (eOn x).cells := rfl
@[simp] theorem eOn_dem (x : On) : dem (eOn x) = eOn x := rfl
@[simp] theorem eOn_deep (x : On) : deep (eOn x) = eOn x := rfl
@[simp] theorem eOn_rowp (x : On) : rowpNo (eOn x) = none := rfl
@[simp] theorem eOn_fold (x : On) : PV.agg [.str x.name, .int .i64 x.t, .int .i64 x.tag] = eOn x := (eOn_def x).symm
@[simp] theorem eOn_froz (h : List PObj) (x : On) : froz h (eOn x) = some (eOn x) := by
 rw [eOn_def]; simp [-eOn_fold]
@[simp] theorem head_On (l : List On) : headOk 3 (l.map eOn) = true := by cases l <;> simp
@[simp] theorem eOn_eq (x y : On) : peq true [.s, .i, .i] (eOn x) (eOn y) = some (decide (x = y)) := by
 cases x; cases y
 simp only [eOn, peq, if_true, peqs, peq1, Option.bind_some, Option.map_some, Option.some.injEq, On.mk.injEq, Bool.and_true]
 rw [Bool.eq_iff_iff]; simp
structure Decl where
 name : Str
 type : Int
 clock : List On
 deriving Inhabited, DecidableEq
def eDecl (x : Decl) : PV := .agg [.str x.name, .int .i64 x.type, .list false (x.clock.map eOn)]
theorem eDecl_def (x : Decl) : eDecl x = .agg [.str x.name, .int .i64 x.type, .list false (x.clock.map eOn)] := rfl
@[simp] theorem eDecl_cells (x : Decl) : (eDecl x).cells = [.str x.name, .int .i64 x.type, .list false (x.clock.map eOn)] := rfl
@[simp] theorem eDecl_cp (x : Decl) : cp (eDecl x) = some (eDecl x) := rfl
@[simp] theorem eDecl_tkv (x : Decl) : tkv (eDecl x) = some (eDecl x, false) := rfl
@[simp] theorem eDecl_aggCells (x : Decl) : aggCells (eDecl x) = some (eDecl x).cells := rfl
@[simp] theorem eDecl_dem (x : Decl) : dem (eDecl x) = eDecl x := rfl
@[simp] theorem eDecl_deep (x : Decl) : deep (eDecl x) = eDecl x := rfl
@[simp] theorem eDecl_rowp (x : Decl) : rowpNo (eDecl x) = none := rfl
@[simp] theorem eDecl_fold (x : Decl) : PV.agg [.str x.name, .int .i64 x.type, .list false (x.clock.map eOn)] = eDecl x := (eDecl_def x).symm
@[simp] theorem eDecl_froz (h : List PObj) (x : Decl) : froz h (eDecl x) = some (eDecl x) := by
 rw [eDecl_def]; simp [-eDecl_fold]
@[simp] theorem head_Decl (l : List Decl) : headOk 3 (l.map eDecl) = true := by cases l <;> simp
structure Enum where
 name : Str
 tags : List Str
 deriving Inhabited, DecidableEq
def eEnum (x : Enum) : PV := .agg [.str x.name, .list false (x.tags.map PV.str)]
theorem eEnum_def (x : Enum) : eEnum x = .agg [.str x.name, .list false (x.tags.map PV.str)] := rfl
@[simp] theorem eEnum_cells (x : Enum) : (eEnum x).cells = [.str x.name, .list false (x.tags.map PV.str)] := rfl
@[simp] theorem eEnum_cp (x : Enum) : cp (eEnum x) = some (eEnum x) := rfl
@[simp] theorem eEnum_tkv (x : Enum) : tkv (eEnum x) = some (eEnum x, false) := rfl
@[simp] theorem eEnum_aggCells (x : Enum) : aggCells (eEnum x) = some (eEnum x).cells := rfl
@[simp] theorem eEnum_dem (x : Enum) : dem (eEnum x) = eEnum x := rfl
@[simp] theorem eEnum_deep (x : Enum) : deep (eEnum x) = eEnum x := rfl
@[simp] theorem eEnum_rowp (x : Enum) : rowpNo (eEnum x) = none := rfl
@[simp] theorem eEnum_fold (x : Enum) : PV.agg [.str x.name, .list false (x.tags.map PV.str)] = eEnum x := (eEnum_def x).symm
@[simp] theorem eEnum_froz (h : List PObj) (x : Enum) : froz h (eEnum x) = some (eEnum x) := by
 rw [eEnum_def]; simp [-eEnum_fold]
@[simp] theorem head_Enum (l : List Enum) : headOk 2 (l.map eEnum) = true := by cases l <;> simp
inductive Expr where
 | mk (kind : Int) (op : Int) (t : Int) (v : Int) (name : Str) (args : List Expr)
instance : Inhabited Expr := ⟨.mk 0 0 0 0 [] []⟩
def Expr.kind : Expr → Int | .mk x _ _ _ _ _ => x
@[simp] theorem Expr.kind_mk (kind : Int) (op : Int) (t : Int) (v : Int) (name : Str) (args : List Expr) : (Expr.mk kind op t v name args).kind = kind := rfl
def Expr.op : Expr → Int | .mk _ x _ _ _ _ => x
@[simp] theorem Expr.op_mk (kind : Int) (op : Int) (t : Int) (v : Int) (name : Str) (args : List Expr) : (Expr.mk kind op t v name args).op = op := rfl
def Expr.t : Expr → Int | .mk _ _ x _ _ _ => x
@[simp] theorem Expr.t_mk (kind : Int) (op : Int) (t : Int) (v : Int) (name : Str) (args : List Expr) : (Expr.mk kind op t v name args).t = t := rfl
def Expr.v : Expr → Int | .mk _ _ _ x _ _ => x
@[simp] theorem Expr.v_mk (kind : Int) (op : Int) (t : Int) (v : Int) (name : Str) (args : List Expr) : (Expr.mk kind op t v name args).v = v := rfl
def Expr.name : Expr → Str | .mk _ _ _ _ x _ => x
@[simp] theorem Expr.name_mk (kind : Int) (op : Int) (t : Int) (v : Int) (name : Str) (args : List Expr) : (Expr.mk kind op t v name args).name = name := rfl
def Expr.args : Expr → List Expr | .mk _ _ _ _ _ x => x
@[simp] theorem Expr.args_mk (kind : Int) (op : Int) (t : Int) (v : Int) (name : Str) (args : List Expr) : (Expr.mk kind op t v name args).args = args := rfl
mutual
def eExpr : Expr → PV
 | .mk k o t v n as => .agg [.int .i64 k, .int .i64 o, .int .i64 t, .int .i64 v, .str n, .list false (eExprs as)]
def eExprs : List Expr → List PV
 | [] => []
 | x :: xs => eExpr x :: eExprs xs
end
theorem eExprs_eq : ∀ l : List Expr, eExprs l = l.map eExpr
 | [] => rfl
 | x :: xs => by simp [eExprs, eExprs_eq xs]
theorem eExpr_def (x : Expr) : eExpr x = .agg [.int .i64 x.kind, .int .i64 x.op, .int .i64 x.t, .int .i64 x.v, .str x.name, .list false (x.args.map eExpr)] := by cases x; simp [eExpr, eExprs_eq, Expr.kind, Expr.op, Expr.t, Expr.v, Expr.name, Expr.args]
@[simp] theorem eExpr_cells (x : Expr) : (eExpr x).cells = [.int .i64 x.kind, .int .i64 x.op, .int .i64 x.t, .int .i64 x.v, .str x.name, .list false (x.args.map eExpr)] := by rw [eExpr_def]; rfl
@[simp] theorem eExpr_cp (x : Expr) : cp (eExpr x) = some (eExpr x) := by rw [eExpr_def]; rfl
@[simp] theorem eExpr_tkv (x : Expr) : tkv (eExpr x) = some (eExpr x, false) := by rw [eExpr_def]; rfl
@[simp] theorem eExpr_aggCells (x : Expr) : aggCells (eExpr x) = some (eExpr x).cells := by rw [eExpr_def]; rfl
@[simp] theorem eExpr_dem (x : Expr) : dem (eExpr x) = eExpr x := by rw [eExpr_def]; rfl
@[simp] theorem eExpr_deep (x : Expr) : deep (eExpr x) = eExpr x := by rw [eExpr_def]; rfl
@[simp] theorem eExpr_rowp (x : Expr) : rowpNo (eExpr x) = none := by rw [eExpr_def]; rfl
@[simp] theorem eExpr_fold (x : Expr) : PV.agg [.int .i64 x.kind, .int .i64 x.op, .int .i64 x.t, .int .i64 x.v, .str x.name, .list false (x.args.map eExpr)] = eExpr x := (eExpr_def x).symm
@[simp] theorem eExpr_froz (h : List PObj) (x : Expr) : froz h (eExpr x) = some (eExpr x) := by
 rw [eExpr_def]; simp [-eExpr_fold]
@[simp] theorem head_Expr (l : List Expr) : headOk 6 (l.map eExpr) = true := by cases l <;> simp
structure Eqn where
 left : List Str
 right : Expr
 deriving Inhabited
def eEqn (x : Eqn) : PV := .agg [.list false (x.left.map PV.str), .int .i64 x.right.kind, .int .i64 x.right.op, .int .i64 x.right.t, .int .i64 x.right.v, .str x.right.name, .list false (x.right.args.map eExpr)]
theorem eEqn_def (x : Eqn) : eEqn x = .agg [.list false (x.left.map PV.str), .int .i64 x.right.kind, .int .i64 x.right.op, .int .i64 x.right.t, .int .i64 x.right.v, .str x.right.name, .list false (x.right.args.map eExpr)] := rfl
@[simp] theorem eEqn_cells (x : Eqn) : (eEqn x).cells = [.list false (x.left.map PV.str), .int .i64 x.right.kind, .int .i64 x.right.op, .int .i64 x.right.t, .int .i64 x.right.v, .str x.right.name, .list false (x.right.args.map eExpr)] := rfl
@[simp] theorem eEqn_cp (x : Eqn) : cp (eEqn x) = some (eEqn x) := rfl
@[simp] theorem eEqn_tkv (x : Eqn) : tkv (eEqn x) = some (eEqn x, false) := rfl
@[simp] theorem eEqn_aggCells (x : Eqn) : aggCells (eEqn x) = some (eEqn x).cells := rfl
@[simp] theorem eEqn_dem (x : Eqn) : dem (eEqn x) = eEqn x := rfl
@[simp] theorem eEqn_deep (x : Eqn) : deep (eEqn x) = eEqn x := rfl
@[simp] theorem eEqn_rowp (x : Eqn) : rowpNo (eEqn x) = none := rfl
@[simp] theorem eEqn_fold (x : Eqn) : PV.agg [.list false (x.left.map PV.str), .int .i64 x.right.kind, .int .i64 x.right.op, .int .i64 x.right.t, .int .i64 x.right.v, .str x.right.name, .list false (x.right.args.map eExpr)] = eEqn x := (eEqn_def x).symm
@[simp] theorem eEqn_froz (h : List PObj) (x : Eqn) : froz h (eEqn x) = some (eEqn x) := by
 rw [eEqn_def]; simp [-eEqn_fold]
@[simp] theorem head_Eqn (l : List Eqn) : headOk 7 (l.map eEqn) = true := by cases l <;> simp
structure Trn where
 cond : Expr
 to : Int
 resume : Bool
 deriving Inhabited
def eTrn (x : Trn) : PV := .agg [.int .i64 x.cond.kind, .int .i64 x.cond.op, .int .i64 x.cond.t, .int .i64 x.cond.v, .str x.cond.name, .list false (x.cond.args.map eExpr), .int .i64 x.to, .bool x.resume]
theorem eTrn_def (x : Trn) : eTrn x = .agg [.int .i64 x.cond.kind, .int .i64 x.cond.op, .int .i64 x.cond.t, .int .i64 x.cond.v, .str x.cond.name, .list false (x.cond.args.map eExpr), .int .i64 x.to, .bool x.resume] := rfl
@[simp] theorem eTrn_cells (x : Trn) : (eTrn x).cells = [.int .i64 x.cond.kind, .int .i64 x.cond.op, .int .i64 x.cond.t, .int .i64 x.cond.v, .str x.cond.name, .list false (x.cond.args.map eExpr), .int .i64 x.to, .bool x.resume] := rfl
@[simp] theorem eTrn_cp (x : Trn) : cp (eTrn x) = some (eTrn x) := rfl
@[simp] theorem eTrn_tkv (x : Trn) : tkv (eTrn x) = some (eTrn x, false) := rfl
@[simp] theorem eTrn_aggCells (x : Trn) : aggCells (eTrn x) = some (eTrn x).cells := rfl
@[simp] theorem eTrn_dem (x : Trn) : dem (eTrn x) = eTrn x := rfl
@[simp] theorem eTrn_deep (x : Trn) : deep (eTrn x) = eTrn x := rfl
@[simp] theorem eTrn_rowp (x : Trn) : rowpNo (eTrn x) = none := rfl
@[simp] theorem eTrn_fold (x : Trn) : PV.agg [.int .i64 x.cond.kind, .int .i64 x.cond.op, .int .i64 x.cond.t, .int .i64 x.cond.v, .str x.cond.name, .list false (x.cond.args.map eExpr), .int .i64 x.to, .bool x.resume] = eTrn x := (eTrn_def x).symm
@[simp] theorem eTrn_froz (h : List PObj) (x : Trn) : froz h (eTrn x) = some (eTrn x) := by
 rw [eTrn_def]; simp [-eTrn_fold]
@[simp] theorem head_Trn (l : List Trn) : headOk 8 (l.map eTrn) = true := by cases l <;> simp
inductive State where
 | mk (name : Str) (locals : List Decl) (eqs : List Eqn) (autos : List (List State)) (unl : List Trn) (til : List Trn)
instance : Inhabited State := ⟨.mk [] [] [] [] [] []⟩
def State.name : State → Str | .mk x _ _ _ _ _ => x
@[simp] theorem State.name_mk (name : Str) (locals : List Decl) (eqs : List Eqn) (autos : List (List State)) (unl : List Trn) (til : List Trn) : (State.mk name locals eqs autos unl til).name = name := rfl
def State.locals : State → List Decl | .mk _ x _ _ _ _ => x
@[simp] theorem State.locals_mk (name : Str) (locals : List Decl) (eqs : List Eqn) (autos : List (List State)) (unl : List Trn) (til : List Trn) : (State.mk name locals eqs autos unl til).locals = locals := rfl
def State.eqs : State → List Eqn | .mk _ _ x _ _ _ => x
@[simp] theorem State.eqs_mk (name : Str) (locals : List Decl) (eqs : List Eqn) (autos : List (List State)) (unl : List Trn) (til : List Trn) : (State.mk name locals eqs autos unl til).eqs = eqs := rfl
def State.autos : State → List (List State) | .mk _ _ _ x _ _ => x
@[simp] theorem State.autos_mk (name : Str) (locals : List Decl) (eqs : List Eqn) (autos : List (List State)) (unl : List Trn) (til : List Trn) : (State.mk name locals eqs autos unl til).autos = autos := rfl
def State.unl : State → List Trn | .mk _ _ _ _ x _ => x
@[simp] theorem State.unl_mk (name : Str) (locals : List Decl) (eqs : List Eqn) (autos : List (List State)) (unl : List Trn) (til : List Trn) : (State.mk name locals eqs autos unl til).unl = unl := rfl
def State.til : State → List Trn | .mk _ _ _ _ _ x => x
@[simp] theorem State.til_mk (name : Str) (locals : List Decl) (eqs : List Eqn) (autos : List (List State)) (unl : List Trn) (til : List Trn) : (State.mk name locals eqs autos unl til).til = til := rfl
abbrev Auto := List State
mutual
def eState : State → PV
 | .mk n l e a u w => .agg [.str n, .list false (l.map eDecl), .list false (e.map eEqn), .list false (eAutos a), .list false (u.map eTrn), .list false (w.map eTrn)]
def eStates : List State → List PV
 | [] => []
 | x :: xs => eState x :: eStates xs
def eAutos : List (List State) → List PV
 | [] => []
 | x :: xs => .agg [.list false (eStates x)] :: eAutos xs
end
def eAuto (a : Auto) : PV := .agg [.list false (a.map eState)]
theorem eStates_eq : ∀ l : List State, eStates l = l.map eState
 | [] => rfl
 | x :: xs => by simp [eStates, eStates_eq xs]
theorem eAutos_eq : ∀ l : List (List State), eAutos l = l.map eAuto
 | [] => rfl
 | x :: xs => by simp [eAutos, eAutos_eq xs, eStates_eq, eAuto]
theorem eState_def (x : State) : eState x = .agg [.str x.name, .list false (x.locals.map eDecl), .list false (x.eqs.map eEqn), .list false (x.autos.map eAuto), .list false (x.unl.map eTrn), .list false (x.til.map eTrn)] := by cases x; simp [eState, eAutos_eq]
@[simp] theorem eState_cells (x : State) : (eState x).cells = [.str x.name, .list false (x.locals.map eDecl), .list false (x.eqs.map eEqn), .list false (x.autos.map eAuto), .list false (x.unl.map eTrn), .list false (x.til.map eTrn)] := by rw [eState_def]; rfl
@[simp] theorem eState_cp (x : State) : cp (eState x) = some (eState x) := by rw [eState_def]; rfl
@[simp] theorem eState_tkv (x : State) : tkv (eState x) = some (eState x, false) := by rw [eState_def]; rfl
@[simp] theorem eState_aggCells (x : State) : aggCells (eState x) = some (eState x).cells := by rw [eState_def]; rfl
@[simp] theorem eState_dem (x : State) : dem (eState x) = eState x := by rw [eState_def]; rfl
@[simp] theorem eState_deep (x : State) : deep (eState x) = eState x := by rw [eState_def]; rfl
@[simp] theorem eState_rowp (x : State) : rowpNo (eState x) = none := by rw [eState_def]; rfl
@[simp] theorem eState_fold (x : State) : PV.agg [.str x.name, .list false (x.locals.map eDecl), .list false (x.eqs.map eEqn), .list false (x.autos.map eAuto), .list false (x.unl.map eTrn), .list false (x.til.map eTrn)] = eState x := (eState_def x).symm
@[simp] theorem eState_froz (h : List PObj) (x : State) : froz h (eState x) = some (eState x) := by
 rw [eState_def]; simp [-eState_fold]
@[simp] theorem head_State (l : List State) : headOk 6 (l.map eState) = true := by cases l <;> simp
theorem eAuto_def (x : Auto) : eAuto x = .agg [.list false (x.map eState)] := rfl
@[simp] theorem eAuto_cells (x : Auto) : (eAuto x).cells = [.list false (x.map eState)] := rfl
@[simp] theorem eAuto_cp (x : Auto) : cp (eAuto x) = some (eAuto x) := rfl
@[simp] theorem eAuto_tkv (x : Auto) : tkv (eAuto x) = some (eAuto x, false) := rfl
@[simp] theorem eAuto_aggCells (x : Auto) : aggCells (eAuto x) = some (eAuto x).cells := rfl
@[simp] theorem eAuto_dem (x : Auto) : dem (eAuto x) = eAuto x := rfl
@[simp] theorem eAuto_deep (x : Auto) : deep (eAuto x) = eAuto x := rfl
@[simp] theorem eAuto_rowp (x : Auto) : rowpNo (eAuto x) = none := rfl
@[simp] theorem eAuto_fold (x : Auto) : PV.agg [.list false (x.map eState)] = eAuto x := rfl
@[simp] theorem eAuto_froz (h : List PObj) (x : Auto) : froz h (eAuto x) = some (eAuto x) := by
 rw [eAuto_def]; simp [-eAuto_fold]
@[simp] theorem head_Auto (l : List Auto) : headOk 1 (l.map eAuto) = true := by cases l <;> simp
structure Node where
 name : Str
 ins : List Decl
 outs : List Decl
 locals : List Decl
 eqs : List Eqn
 autos : List (List State)
 assume : List Expr
 ensure : List Expr
 deriving Inhabited
def eNode (x : Node) : PV := .agg [.str x.name, .list false (x.ins.map eDecl), .list false (x.outs.map eDecl), .list false (x.locals.map eDecl), .list false (x.eqs.map eEqn), .list false (x.autos.map eAuto), .list false (x.assume.map eExpr), .list false (x.ensure.map eExpr)]
theorem eNode_def (x : Node) : eNode x = .agg [.str x.name, .list false (x.ins.map eDecl), .list false (x.outs.map eDecl), .list false (x.locals.map eDecl), .list false (x.eqs.map eEqn), .list false (x.autos.map eAuto), .list false (x.assume.map eExpr), .list false (x.ensure.map eExpr)] := rfl
@[simp] theorem eNode_cells (x : Node) : (eNode x).cells = [.str x.name, .list false (x.ins.map eDecl), .list false (x.outs.map eDecl), .list false (x.locals.map eDecl), .list false (x.eqs.map eEqn), .list false (x.autos.map eAuto), .list false (x.assume.map eExpr), .list false (x.ensure.map eExpr)] := rfl
@[simp] theorem eNode_cp (x : Node) : cp (eNode x) = some (eNode x) := rfl
@[simp] theorem eNode_tkv (x : Node) : tkv (eNode x) = some (eNode x, false) := rfl
@[simp] theorem eNode_aggCells (x : Node) : aggCells (eNode x) = some (eNode x).cells := rfl
@[simp] theorem eNode_dem (x : Node) : dem (eNode x) = eNode x := rfl
@[simp] theorem eNode_deep (x : Node) : deep (eNode x) = eNode x := rfl
@[simp] theorem eNode_rowp (x : Node) : rowpNo (eNode x) = none := rfl
@[simp] theorem eNode_fold (x : Node) : PV.agg [.str x.name, .list false (x.ins.map eDecl), .list false (x.outs.map eDecl), .list false (x.locals.map eDecl), .list false (x.eqs.map eEqn), .list false (x.autos.map eAuto), .list false (x.assume.map eExpr), .list false (x.ensure.map eExpr)] = eNode x := rfl
@[simp] theorem eNode_froz (h : List PObj) (x : Node) : froz h (eNode x) = some (eNode x) := by
 rw [eNode_def]; simp [-eNode_fold]
@[simp] theorem head_Node (l : List Node) : headOk 8 (l.map eNode) = true := by cases l <;> simp
structure Prog where
 enums : List Enum
 nodes : List Node
 deriving Inhabited
def eProg (x : Prog) : PV := .agg [.list false (x.enums.map eEnum), .list false (x.nodes.map eNode)]
theorem eProg_def (x : Prog) : eProg x = .agg [.list false (x.enums.map eEnum), .list false (x.nodes.map eNode)] := rfl
@[simp] theorem eProg_cells (x : Prog) : (eProg x).cells = [.list false (x.enums.map eEnum), .list false (x.nodes.map eNode)] := rfl
@[simp] theorem eProg_cp (x : Prog) : cp (eProg x) = some (eProg x) := rfl
@[simp] theorem eProg_tkv (x : Prog) : tkv (eProg x) = some (eProg x, false) := rfl
@[simp] theorem eProg_aggCells (x : Prog) : aggCells (eProg x) = some (eProg x).cells := rfl
@[simp] theorem eProg_dem (x : Prog) : dem (eProg x) = eProg x := rfl
@[simp] theorem eProg_deep (x : Prog) : deep (eProg x) = eProg x := rfl
@[simp] theorem eProg_rowp (x : Prog) : rowpNo (eProg x) = none := rfl
@[simp] theorem eProg_fold (x : Prog) : PV.agg [.list false (x.enums.map eEnum), .list false (x.nodes.map eNode)] = eProg x := rfl
@[simp] theorem eProg_froz (h : List PObj) (x : Prog) : froz h (eProg x) = some (eProg x) := by
 rw [eProg_def]; simp [-eProg_fold]
@[simp] theorem head_Prog (l : List Prog) : headOk 2 (l.map eProg) = true := by cases l <;> simp
mutual
theorem eExpr_free' : ∀ x : Expr, refFree (eExpr x) = true
 | .mk k o t v n as => by simp only [eExpr, refFree, refFrees, eExprs_free as, Bool.and_true]
theorem eExprs_free : ∀ l : List Expr, refFrees (eExprs l) = true
 | [] => rfl
 | x :: xs => by simp only [eExprs, refFrees, eExpr_free' x, eExprs_free xs, Bool.and_true]
end
@[simp] theorem eExpr_free (x : Expr) : refFree (eExpr x) = true := eExpr_free' x
@[simp] theorem free_Expr (l : List Expr) : refFrees (l.map eExpr) = true := frees_map eExpr_free l
@[simp] theorem eOn_free (x : On) : refFree (eOn x) = true := rfl
@[simp] theorem free_On (l : List On) : refFrees (l.map eOn) = true := frees_map eOn_free l
@[simp] theorem eDecl_free (x : Decl) : refFree (eDecl x) = true := by rw [eDecl_def]; simp [-eDecl_fold]
@[simp] theorem free_Decl (l : List Decl) : refFrees (l.map eDecl) = true := frees_map eDecl_free l
@[simp] theorem eEnum_free (x : Enum) : refFree (eEnum x) = true := by rw [eEnum_def]; simp [-eEnum_fold]
@[simp] theorem free_Enum (l : List Enum) : refFrees (l.map eEnum) = true := frees_map eEnum_free l
@[simp] theorem eEqn_free (x : Eqn) : refFree (eEqn x) = true := by rw [eEqn_def]; simp [-eEqn_fold]
@[simp] theorem free_Eqn (l : List Eqn) : refFrees (l.map eEqn) = true := frees_map eEqn_free l
@[simp] theorem eTrn_free (x : Trn) : refFree (eTrn x) = true := by rw [eTrn_def]; simp [-eTrn_fold]
@[simp] theorem free_Trn (l : List Trn) : refFrees (l.map eTrn) = true := frees_map eTrn_free l
mutual
theorem eState_free' : ∀ x : State, refFree (eState x) = true
 | .mk n l e a u w => by simp only [eState, refFree, refFrees, free_Decl, free_Eqn, free_Trn, eAutos_free a, Bool.and_true]
theorem eStates_free : ∀ l : List State, refFrees (eStates l) = true
 | [] => rfl
 | x :: xs => by simp only [eStates, refFrees, eState_free' x, eStates_free xs, Bool.and_true]
theorem eAutos_free : ∀ l : List (List State), refFrees (eAutos l) = true
 | [] => rfl
 | x :: xs => by simp only [eAutos, refFrees, refFree, eStates_free x, eAutos_free xs, Bool.and_true]
end
@[simp] theorem eState_free (x : State) : refFree (eState x) = true := eState_free' x
@[simp] theorem free_State (l : List State) : refFrees (l.map eState) = true := frees_map eState_free l
@[simp] theorem eAuto_free (x : Auto) : refFree (eAuto x) = true := by simp [eAuto_def, -eAuto_fold]
@[simp] theorem free_Auto (l : List Auto) : refFrees (l.map eAuto) = true := frees_map eAuto_free l
@[simp] theorem eNode_free (x : Node) : refFree (eNode x) = true := by rw [eNode_def]; simp [-eNode_fold]
@[simp] theorem free_Node (l : List Node) : refFrees (l.map eNode) = true := frees_map eNode_free l
@[simp] theorem eProg_free (x : Prog) : refFree (eProg x) = true := by rw [eProg_def]; simp [-eProg_fold]
end Sc
end PI
