import Derived.Test.YtljbhgpanekomaaGreatDoorPiScLaw1
set_option maxRecDepth 100000
set_option linter.unusedSimpArgs false
set_option linter.unusedVariables false
namespace PI.Sc
open Go (IntKind BinOp UnOp)
open Short
def namesIn (l : List Expr) : List Str := (l.filter fun x => counts x.kind).map (·.name)
theorem namesIn_app (a b : List Expr) : namesIn (a ++ b) = namesIn a ++ namesIn b := by simp [namesIn]
theorem namesIn_len (l : List Expr) : (namesIn l).length ≤ l.length := by unfold namesIn; rw [List.length_map]; exact List.length_filter_le _ _
theorem namesIn_flat (l : List Expr) : namesIn (l.flatMap Expr.list) = l.flatMap exprNames := by
 induction l with
 | nil => rfl
 | cons x l ih => rw [List.flatMap_cons, namesIn_app, ih, List.flatMap_cons]; rfl
section
variable {L : Nat → Option PFunc} (hL : ∀ k f, LS k = some f → L k = some f)
include hL
theorem ref_all_l0 (en : List Enum) (hen : en.length ≤ 1500) (ns : PV) (D : List Str) (hD : D.length ≤ 1000000) (rest : List Str) (hd : en.flatMap (fun u => u.name :: u.tags) ++ rest = D) (V0 V2 V5 V6 V7 V8 V9 V10 : PV) (gg g : Nat) (h : List PObj) {Q : PExit → St → Prop}
  (ok : Q (.exit 0) ⟨[V0, .loc gg [.list false (en.map eEnum), ns], V2, .list true ((en.flatMap fun u => u.name :: u.tags).map .str), .int .i64 en.length, V5, V6, V7, V8, V9, V10], [], g, h⟩) :
  wpL L f_ref10_All_l0 ⟨[V0, .loc gg [.list false (en.map eEnum), ns], V2, .list true [], .int .i64 0, V5, V6, V7, V8, V9, V10], [], g, h⟩ Q := by
 have _ := hL
 rw [f_ref10_All_l0]
 refine loop_rel en.length (fun j st => ∃ acc, st = ⟨[V0, .loc gg [.list false (en.map eEnum), ns], V2, .list true (acc.map .str), .int .i64 j, V5, V6, V7, V8, V9, V10], [], g, h⟩ ∧ acc = (en.take j).flatMap fun u => u.name :: u.tags) ?_ ?_ ⟨[], rfl, rfl⟩
 ·rintro j hj st ⟨acc, rfl, hacc⟩ ih
  have hw := wrap_succ j (by omega)
  have hs : (en.take (j + 1)).flatMap (fun u => u.name :: u.tags) = acc ++ en[j].name :: en[j].tags := by rw [take_snoc hj, List.flatMap_append, List.flatMap_singleton, hacc]
  have hle : (acc ++ en[j].name :: en[j].tags).length ≤ D.length := by
   rw [← hs, ← hd, List.length_append]
   have e : en.flatMap (fun u => u.name :: u.tags) = (en.take (j + 1)).flatMap (fun u => u.name :: u.tags) ++ (en.drop (j + 1)).flatMap (fun u => u.name :: u.tags) := by rw [← List.flatMap_append, List.take_append_drop]
   rw [e, List.length_append]; omega
  simp only [List.length_append, List.length_cons] at hle
  have hl1 : acc.length + 1 ≤ 2147483648 := by omega
  have hl2 : acc.length + 1 + en[j].tags.length ≤ 2147483648 := by omega
  have hl3 : acc.length + (en[j].tags.length + 1) ≤ 2147483648 := by omega
  have hh1 : ∀ l : List PV, headOk 1 (acc.map PV.str ++ PV.str en[j].name :: l) = true := fun l => by cases acc <;> simp
  simp [hj, hw, hl1, hl2, hl3, hh1]
  exact ih _ ⟨_, by simp, hs.symm⟩
 ·rintro st ⟨acc, rfl, hacc⟩
  rw [List.take_length] at hacc
  subst hacc
  simpa using ok
theorem ref_all_l2 (X : List Expr) (hX : X.length ≤ 1500) (hm : ∀ e ∈ X, e.parts ≤ 1500) (acc : List Str) (hb : acc.length + (X.flatMap Expr.list).length ≤ 1000000) (V0 V1 V2 V4 V5 V6 V9 V10 : PV) (g : Nat) (h : List PObj) {Q : PExit → St → Prop}
  (ok : ∀ y9 y10, Q (.exit 4) ⟨[V0, V1, V2, .list true ((acc ++ X.flatMap exprNames).map .str), V4, V5, V6, .list false (X.map eExpr), .int .i64 X.length, y9, y10], [], g, h⟩) :
  wpL L f_ref10_All_l2 ⟨[V0, V1, V2, .list true (acc.map .str), V4, V5, V6, .list false (X.map eExpr), .int .i64 0, V9, V10], [], g, h⟩ Q := by
 rw [f_ref10_All_l2]
 refine loop_rel X.length (fun j st => ∃ y9 y10, st = ⟨[V0, V1, V2, .list true ((acc ++ namesIn ((X.take j).flatMap Expr.list)).map .str), V4, V5, V6, .list false (X.map eExpr), .int .i64 j, y9, y10], [], g, h⟩) ?_ ?_ ⟨_, _, by simp [namesIn]; exact ⟨rfl, rfl⟩⟩
 ·rintro j hj st ⟨y9, y10, rfl⟩ ih
  have hw := wrap_succ j (by omega)
  have hls := ref_List hL X[j] (hm _ (List.getElem_mem hj)) []
  have hb2 : ((X.take (j + 1)).flatMap Expr.list).length ≤ (X.flatMap Expr.list).length := by
   have e : X.flatMap Expr.list = (X.take (j + 1)).flatMap Expr.list ++ (X.drop (j + 1)).flatMap Expr.list := by rw [← List.flatMap_append, List.take_append_drop]
   rw [e, List.length_append]; omega
  rw [take_snoc hj, List.flatMap_append, List.flatMap_singleton, List.length_append] at hb2
  rw [take_snoc hj, List.flatMap_append, List.flatMap_singleton] at ih
  obtain ⟨A, hA⟩ : ∃ A, A = (X.take j).flatMap Expr.list := ⟨_, rfl⟩
  obtain ⟨M, hM⟩ : ∃ M, M = X[j].list := ⟨_, rfl⟩
  rw [← hA, ← hM] at hb2 ih
  rw [← hM] at hls
  rw [← hA]
  obtain ⟨B, hB⟩ : ∃ B : Nat → List Str, ∀ i, B i = acc ++ namesIn (A ++ M.take i) := ⟨_, fun _ => rfl⟩
  have hMl : M.length ≤ 1500 := by rw [hM]; exact hm _ (List.getElem_mem hj)
  simp [hj, hls]
  refine loop_go M.length (fun i (_ : Unit) => [(3, .list true ((B i).map .str)), (10, .int .i64 i)]) (fun _ _ => h) () ?_ ?_ (by simp [hB]) rfl
  ·intro i hi _ ih3
   have hwi := wrap_succ i (by omega)
   have ih3 := ih3 ()
   have hBl : (B i).length + 1 ≤ 2147483648 := by
    have := namesIn_len (A ++ M.take i)
    rw [hB]
    simp only [List.length_append, List.length_take] at this ⊢
    omega
   have hs : B (i + 1) = B i ++ (if counts M[i].kind then [M[i].name] else []) := by
    rw [hB, hB, take_snoc hi, ← List.append_assoc, namesIn_app, ← List.append_assoc]
    congr 1
    by_cases hk : counts M[i].kind <;> simp [namesIn, hk]
   rw [hs] at ih3
   have hcn : counts M[i].kind = !decide (M[i].kind = 1 ∨ M[i].kind = 3 ∨ M[i].kind = 4 ∨ M[i].kind = 5 ∨ M[i].kind = 6 ∨ M[i].kind = 7 ∨ M[i].kind = 11) := rfl
   by_cases hk : counts M[i].kind = true
   ·have hk' := hk
    rw [hcn] at hk'
    simp only [Bool.not_eq_true', decide_eq_false_iff_not] at hk'
    rw [if_pos hk] at ih3
    by_cases c1 : M[i].kind < 1
    ·simp [hi, hwi, hBl, c1]
     simpa using ih3
    by_cases c2 : M[i].kind = 2
    ·simp [hi, hwi, hBl, c2]
     simpa using ih3
    by_cases c3 : M[i].kind = 8
    ·simp [hi, hwi, hBl, c3]
     simpa using ih3
    by_cases c4 : M[i].kind = 9
    ·simp [hi, hwi, hBl, c4]
     simpa using ih3
    by_cases c5 : M[i].kind = 10
    ·simp [hi, hwi, hBl, c5]
     simpa using ih3
    have c6 : 11 < M[i].kind := by omega
    simp [hi, hwi, hBl, c1, c2, c3, c4, c5, c6]
    simpa using ih3
   ·have hk' := hk
    rw [hcn] at hk'
    simp only [Bool.not_eq_true', decide_eq_false_iff_not, Classical.not_not] at hk'
    rw [if_neg hk, List.append_nil] at ih3
    have c1 : ¬ M[i].kind < 1 := by omega
    have c2 : ¬ M[i].kind = 2 := by omega
    have c3 : ¬ M[i].kind = 8 := by omega
    have c4 : ¬ M[i].kind = 9 := by omega
    have c5 : ¬ M[i].kind = 10 := by omega
    have c6 : ¬ 11 < M[i].kind := by omega
    simp [hi, hwi, c1, c2, c3, c4, c5, c6]
    simpa using ih3
  ·intro _
   simp [hw]
   have hBe : B M.length = acc ++ namesIn (A ++ M) := by rw [hB, List.take_length]
   rw [← hBe] at ih
   exact ih _ ⟨_, _, rfl⟩
 ·rintro st ⟨y9, y10, rfl⟩
  rw [List.take_length, namesIn_flat]
  simpa using ok y9 y10
theorem ref_all (p : Prog) (hw : PW p) (hp : parts p ≤ 1500) (h : List PObj) : callL L 22 [eProg p] h = some (.list false ((allNames p).map .str), h) := by
 refine callL_wp (hL 22 _ rfl) rfl ?_
 obtain ⟨D, hD⟩ : ∃ D, D = allNames p := ⟨_, rfl⟩
 have hDl := allNames_le p
 rw [← hD] at hDl ⊢
 have hnp : ∀ n ∈ p.nodes, n.parts ≤ 1500 := fun n hn => by
  have := total_mem Node.parts hn
  unfold parts at hp; omega
 simp [f_ref10_All]
 refine ref_all_l0 hL p.enums hw.enums _ D (by omega) (p.nodes.flatMap nodeNames) (by rw [hD]; rfl) _ _ _ _ _ _ _ _ _ _ _ ?_
 simp
 rw [f_ref10_All_l3]
 refine loop_rel p.nodes.length (fun j st => ∃ acc y6 y7 y8 y9 y10 g, st = ⟨[eProg p, .loc 0 (eProg p).cells, .list true [], .list true (acc.map .str), .int .i64 p.enums.length, .int .i64 j, y6, y7, y8, y9, y10], [], g, h⟩ ∧ acc ++ (p.nodes.drop j).flatMap nodeNames = D) ?_ ?_ ⟨p.enums.flatMap fun u => u.name :: u.tags, _, _, _, _, _, _, by simp; exact ⟨⟨rfl, rfl, rfl, rfl, rfl⟩, rfl⟩, by rw [hD]; rfl⟩
 ·rintro j hj st ⟨acc, y6, y7, y8, y9, y10, g, rfl, hd⟩ ih
  have hwr := wrap_succ j (by have := hw.nodes; omega)
  rw [List.drop_eq_getElem_cons hj, List.flatMap_cons] at hd
  obtain ⟨N, hN⟩ : ∃ N, N = p.nodes[j] := ⟨_, rfl⟩
  have hNW := hw.ns _ (List.getElem_mem hj)
  have hNp := hnp _ (List.getElem_mem hj)
  rw [← hN] at hd hNW hNp
  have hdl := congrArg List.length hd
  have hcl : ∀ d ∈ vars N, d.clock.length ≤ 1500 := by
   intro d hd
   unfold vars at hd
   rcases List.mem_append.1 hd with hd | hd
   ·rcases List.mem_append.1 hd with hd | hd
    ·exact (hNW.is d hd).clock
    ·exact (hNW.os d hd).clock
   ·exact (hNW.ls d hd).clock
  have hvl : (vars N).length ≤ 4500 := by have := hNW.ins; have := hNW.outs; have := hNW.locals; simp [vars]; omega
  have e1 : nodeNames N = N.name :: declaredN (vars N) ++ (N.eqs.flatMap (·.left) ++ insideA N.autos) ++ (nodeExprs N).flatMap exprNames := rfl
  rw [e1] at hd hdl
  simp only [List.length_append, List.length_cons] at hdl
  have v1 := ref_vars hL N hNW.ins hNW.outs hNW.locals []
  have v2 := ref_declared hL (vars N) hvl (by omega) hcl false []
  have v3 := ref_insideN hL N hNW hNp []
  have v4 := ref_exprs hL N hNW hNp []
  obtain ⟨B, hB⟩ : ∃ B, B = N.eqs.flatMap (·.left) ++ insideA N.autos := ⟨_, rfl⟩
  have hBl := congrArg List.length hB
  rw [List.length_append] at hBl
  obtain ⟨C, hC⟩ : ∃ C, C = declaredN (vars N) := ⟨_, rfl⟩
  rw [← hB] at v3 hd
  rw [← hC] at v2 hd hdl
  have hl1 : acc.length + 1 ≤ 2147483648 := by omega
  have hl3 : acc.length + (C.length + 1) ≤ 2147483648 := by omega
  have hl4 : acc.length + (C.length + B.length + 1) ≤ 2147483648 := by omega
  have hl5 : acc.length + (C.length + 1) + B.length ≤ 2147483648 := by omega
  have hl6 : acc.length + 1 + C.length + B.length ≤ 2147483648 := by omega
  have hl2 : acc.length + 1 + C.length ≤ 2147483648 := by omega
  have hl7 : acc.length + (C.length + (B.length + 1)) ≤ 2147483648 := by omega
  have hh1 : ∀ l : List PV, headOk 1 (acc.map PV.str ++ PV.str N.name :: l) = true := fun l => by cases acc <;> simp
  have hcell : ∀ es : List PV, (PV.list true es).cells = [.list true es] := fun _ => rfl
  simp [hj, ← hN, v1, v2, v3, v4, hl1, hl2, hl3, hl4, hl5, hl6, hl7, hh1, hwr]
  have hfl : acc.map PV.str ++ PV.str N.name :: (C.map PV.str ++ B.map PV.str) = (acc ++ N.name :: (C ++ B)).map PV.str := by simp
  rw [hfl]
  have htp := nodeExprs_parts N
  have hfp : ((nodeExprs N).flatMap Expr.list).length ≤ 1500 := by
   have : ((nodeExprs N).flatMap Expr.list).length = total Expr.parts (nodeExprs N) := by
    generalize nodeExprs N = l
    induction l with
    | nil => rfl
    | cons x l ih => simp only [List.flatMap_cons, List.length_append, total, ih]; rfl
   omega
  refine ref_all_l2 hL (nodeExprs N) (by have := nodeExprs_len N; omega) (fun e he => Nat.le_trans (nodeExprs_mem he) hNp) (acc ++ N.name :: (C ++ B)) (by simp only [List.length_append, List.length_cons]; omega) _ _ _ _ _ _ _ _ _ _ ?_
  intro y9' y10'
  simp [hwr]
  exact ih _ ⟨acc ++ N.name :: (C ++ B) ++ (nodeExprs N).flatMap exprNames, _, _, _, _, _, _, by simp; exact ⟨⟨rfl, rfl, rfl, rfl, rfl⟩, rfl⟩, by simpa using hd⟩
 ·rintro st ⟨acc, y6, y7, y8, y9, y10, g, rfl, hd⟩
  rw [List.drop_eq_nil_of_le (Nat.le_refl _)] at hd
  simp only [List.flatMap_nil, List.append_nil] at hd
  subst hd
  simp
end
end PI.Sc
set_option maxRecDepth 100000
set_option linter.unusedSimpArgs false
set_option linter.unusedVariables false
namespace PI.Sc
open Go (IntKind BinOp UnOp)
open Short
theorem dec_small {n : Nat} (h : n < 10) : Go.Lib.decDigits n = [UInt8.ofNat (48 + n)] := by rw [Go.Lib.decDigits, dif_pos h]
theorem dec_big {n : Nat} (h : ¬ n < 10) : Go.Lib.decDigits n = Go.Lib.decDigits (n / 10) ++ [UInt8.ofNat (48 + n % 10)] := by rw [Go.Lib.decDigits, dif_neg h]
section
variable {L : Nat → Option PFunc} (hL : ∀ k f, LS k = some f → L k = some f)
include hL
theorem ref_number_loop (h : List PObj) : ∀ (n : Nat), n ≤ 1000000 → ∀ (s : Str), s.length + n ≤ 1000000 → ∀ {Q : PExit → St → Prop}, (∀ y0, Q (.exit 0) ⟨[y0, .str [], .str (Go.Lib.decDigits n ++ s), .bool false], [], 0, h⟩) → wpL L f_ref10_number_l0 ⟨[.int .i64 n, .str [], .str s, .bool true], [], 0, h⟩ Q := by
 have _ := hL
 intro n
 induction n using Nat.strongRecOn with
 | ind n ih =>
   intro hn s hs Q ok
   have hr : Int.tmod (n : Int) 10 = ((n % 10 : Nat) : Int) := by rw [Int.tmod_eq_emod_of_nonneg (by omega)]; omega
   have hq : Int.tdiv (n : Int) 10 = ((n / 10 : Nat) : Int) := by rw [Int.tdiv_eq_ediv_of_nonneg (by omega)]; omega
   have hw1 : IntKind.i64.wrap (48 + ((n % 10 : Nat) : Int)) = 48 + ((n % 10 : Nat) : Int) := wrap_i64 _ (by omega) (by omega)
   have hw3 : IntKind.i64.wrap ((n / 10 : Nat) : Int) = ((n / 10 : Nat) : Int) := wrap_i64 _ (by omega) (by omega)
   have hw2 : IntKind.u8.wrap (48 + ((n % 10 : Nat) : Int)) = 48 + ((n % 10 : Nat) : Int) := by
    obtain ⟨d, hd⟩ : ∃ d, d = n % 10 := ⟨_, rfl⟩
    have hlt : d < 10 := by omega
    rw [← hd]
    match d, hlt with
    | 0, _ | 1, _ | 2, _ | 3, _ | 4, _ | 5, _ | 6, _ | 7, _ | 8, _ | 9, _ => decide
   have h8 : (48 + ((n % 10 : Nat) : Int)).toNat = 48 + n % 10 := by omega
   have hlt1 : (0 : Int) ≤ 48 + ((n % 10 : Nat) : Int) := by omega
   have hlt2 : 48 + ((n % 10 : Nat) : Int) < 256 := by omega
   have hsl : s.length + 1 ≤ 4611686018427387904 := by omega
   have hsl2 : 1 + s.length ≤ 4611686018427387904 := by omega
   obtain ⟨R, hR⟩ : ∃ R : Nat, R = n % 10 := ⟨_, rfl⟩
   obtain ⟨K, hK⟩ : ∃ K : Nat, K = n / 10 := ⟨_, rfl⟩
   rw [← hR] at hr hw1 hw2 h8 hlt1 hlt2
   rw [← hK] at hq hw3
   rw [f_ref10_number_l0, wpL_loop]
   by_cases hb : n < 10
   ·have hK0 : K = 0 := by omega
    have hRn : R = n := by omega
    subst hK0
    have hd := dec_small hb
    rw [hRn] at hr hw1 hw2 h8 hlt1 hlt2
    have hw00 : IntKind.i64.wrap 0 = 0 := by decide
    simp [hr, hq, hw1, hw2, hw3, h8, hlt1, hlt2, hsl, hsl2, hw00, bytesOf]
    rw [wpL_loop]
    have := ok (.int .i64 0)
    rw [hd] at this
    simpa using this
   ·have hd := dec_big hb
    rw [← hR, ← hK] at hd
    have hK1 : (0 : Int) < K := by omega
    have hK2 : 0 < K := by omega
    have hi := ih K (by omega) (by omega) (UInt8.ofNat (48 + R) :: s) (by simp only [List.length_cons]; omega) (Q := Q) (fun y0 => by have := ok y0; rw [hd] at this; simpa using this)
    rw [f_ref10_number_l0] at hi
    simp [hr, hq, hw1, hw2, hw3, h8, hlt1, hlt2, hsl, hsl2, hK1, hK2, bytesOf]
    simpa using hi
theorem ref_number (n : Nat) (hn : n ≤ 1000000) (h : List PObj) : callL L 45 [.int .i64 n] h = some (.str (Go.Lib.decDigits n), h) := by
 refine callL_wp (hL 45 _ rfl) rfl ?_
 simp [f_ref10_number]
 refine ref_number_loop hL h n hn [] (by simp; omega) ?_
 intro y0
 simp
theorem ref_fresh (p : Prog) (hw : PW p) (hp : parts p ≤ 1500) (base : Str) (hb : base.length ≤ 50) (h : List PObj) : callL L 20 [eProg p, .str base] h = some (.str (fresh p base), h) := by
 refine callL_wp (hL 20 _ rfl) rfl ?_
 have ha := ref_all hL p hw hp []
 have hal := allNames_le p
 obtain ⟨m, m1, m2, hin, hout, hf⟩ := fresh_least p base
 rw [hf]
 obtain ⟨A, hA⟩ : ∃ A, A = allNames p := ⟨_, rfl⟩
 rw [← hA] at ha hal m2 hin hout
 have key : ∀ k : Nat, k ≤ 1600 → callL L 45 [.int .i64 k] [] = some (.str (Go.Lib.decDigits k), []) ∧ base.length + 1 ≤ 4611686018427387904 ∧ base.length + 1 + (Go.Lib.decDigits k).length ≤ 4611686018427387904 ∧ base.length + ((Go.Lib.decDigits k).length + 1) ≤ 4611686018427387904 := by
  intro k hk
  have := dec_len 3 k (by have : (10 : Nat) ^ (3 + 1) = 10000 := rfl; omega)
  exact ⟨ref_number hL k (by omega) [], by omega, by omega, by omega⟩
 simp [f_ref10_Fresh, ha]
 rw [f_ref10_Fresh_l0]
 refine loop_rel (m - 1) (fun j st => st = ⟨[eProg p, .str base, .loc 0 (eProg p).cells, .str [], .list false (A.map .str), .int .i64 (j + 1 : Nat)], [], 1, h⟩) ?_ ?_ rfl
 ·rintro j hj st rfl ih
  obtain ⟨k1, k2, k3, k4⟩ := key (j + 1) (by omega)
  have hw1 := wrap_succ (j + 1) (by omega)
  have hin := hin (j + 1) (by omega) (by omega)
  have hh := ref_has' hL A (by omega) (withNo base (j + 1)) false []
  have hx : withNo base (j + 1) = base ++ 95 :: Go.Lib.decDigits (j + 1) := rfl
  simp only [hin, decide_true] at hh
  rw [hx] at hh
  try simp at k1
  try simp at hw1
  try simp at hh
  simp [k1, k2, k3, k4, hh, hw1]
  have := ih _ rfl
  simpa using this
 ·rintro st rfl
  have hm : m - 1 + 1 = m := by omega
  rw [hm]
  obtain ⟨k1, k2, k3, k4⟩ := key m (by omega)
  have hh := ref_has' hL A (by omega) (withNo base m) false []
  have hx : withNo base m = base ++ 95 :: Go.Lib.decDigits m := rfl
  simp only [hout, decide_false] at hh
  rw [hx] at hh
  try simp at k1
  try simp at hh
  simp [k1, k2, k3, k4, hh, hx]
end
end PI.Sc
set_option maxRecDepth 100000
set_option linter.unusedSimpArgs false
set_option linter.unusedVariables false
namespace PI.Sc
open Go (IntKind BinOp UnOp)
open Short
end PI.Sc
set_option maxRecDepth 100000
set_option linter.unusedSimpArgs false
set_option linter.unusedVariables false
namespace PI.Sc
open Go (IntKind BinOp UnOp)
open Short
end PI.Sc
set_option maxRecDepth 100000
set_option linter.unusedSimpArgs false
set_option linter.unusedVariables false
namespace PI.Sc
open Go (IntKind BinOp UnOp)
open Short
def eachRun (y : Expr → List PObj → Option (Out × List PObj)) : List Expr → List PObj → Option (Out × List PObj)
 | [], h => some (.val (.bool true), h)
 | x :: xs, h => match y x h with
   | some (.val (.bool true), h') => eachRun y xs h'
   | r => r
theorem eachRun_app (y : Expr → List PObj → Option (Out × List PObj)) : ∀ (a b : List Expr) (h : List PObj), eachRun y (a ++ b) h = match eachRun y a h with
  | some (.val (.bool true), h') => eachRun y b h'
  | r => r
 | [], b, h => rfl
 | x :: a, b, h => by
   simp only [List.cons_append, eachRun]
   split
   ·exact eachRun_app y a b _
   ·rename_i hne
    split
    ·rename_i h1; exact absurd h1 (hne _)
    ·rfl
section
variable {L : Nat → Option PFunc} {V l : List PV} {g : Nat} {h : List PObj}
@[simp] theorem set_same {n : Nat} {o o' : PObj} : (h.set n o).set n o' = h.set n o' := List.set_set ..
theorem set_back {n : Nat} {o : PObj} (hn : h[n]? = some o) : h.set n o = h := by
 obtain ⟨hlt, he⟩ := List.getElem?_eq_some_iff.1 hn
 rw [← he]; exact List.set_getElem_self hlt
end
section
variable {L : Nat → Option PFunc} (hL : ∀ k f, LS k = some f → L k = some f)
include hL
theorem pr_each (kb : Nat) (first captured : List PV) (y : Expr → List PObj → Option (Out × List PObj)) (hfr : ∀ p ∈ first ++ captured, cp p = some p) (hb : ∀ x h r, y x h = some r → (∃ b h', r = (.val (.bool b), h')) ∨ ∃ v h', r = (.boom v, h')) (e : Expr) : EW e → (∀ x ∈ e.list, ∀ h r, y x h = some r → outL L kb (first ++ [eExpr x] ++ captured) h = some r) → ∀ (h : List PObj) (r : Out × List PObj), eachRun y e.list h = some r → outL L 141 [eExpr e, .func kb first captured] h = some r := by
 induction e using Expr.ind with
 | h e ih =>
 intro he hy h r hr
 obtain ⟨_, _, hal⟩ := he.self
 rw [Expr.list_eq] at hr
 simp only [eachRun] at hr
 refine outL_wp (hL 141 _ rfl) rfl ?_
 cases hye : y e h with
 | none => rw [hye] at hr; simp at hr
 | some q =>
   rw [hye] at hr
   have hyo := hy e (by rw [Expr.list_eq]; simp) h q hye
   simp only [List.append_assoc] at hyo
   rcases hb e h q hye with ⟨b, h', rfl⟩ | ⟨v, h', rfl⟩
   ·cases b with
    | false =>
      simp only [Option.some.injEq] at hr
      subst hr
      simp at hyo
      simp [f_expr_each, hyo]
    | true =>
      simp only at hr
      simp at hyo
      simp [f_expr_each, hyo]
      suffices H : ∀ (n i : Nat) (h : List PObj) (x4 : PV) (g : Nat), i + n = e.args.length → eachRun y ((e.args.drop i).flatMap Expr.list) h = some r → wpL L f_expr_each_l0 ⟨[eExpr e, .func kb first captured, .loc 0 (eExpr e).cells, .bool false, x4, .list false (e.args.map eExpr), .int .i64 e.args.length, .int .i64 i], [], g, h⟩ (blockK 0 (seqK L (S (R [t 3 T]) Y) (endO L f_expr_each r))) by
       simpa [f_expr_each] using H e.args.length 0 h' .dead 1 (by omega) (by simpa using hr)
      intro n
      induction n with
      | zero =>
        intro i h x4 g hi hr
        have : i = e.args.length := by omega
        subst this
        rw [List.drop_eq_nil_of_le (Nat.le_refl _)] at hr
        simp only [List.flatMap_nil, eachRun, Option.some.injEq] at hr
        subst hr
        rw [f_expr_each_l0, wpL_loop]
        simp [f_expr_each]
      | succ n ih2 =>
        intro i h x4 g hi hr
        have hil : i < e.args.length := by omega
        have hw := wrap_succ i (by omega)
        rw [List.drop_eq_getElem_cons hil, List.flatMap_cons, eachRun_app] at hr
        rw [f_expr_each_l0, wpL_loop]
        cases hq : eachRun y e.args[i].list h with
        | none => rw [hq] at hr; simp at hr
        | some q =>
          have hc := ih e.args[i] (List.getElem_mem hil) (he.arg (List.getElem_mem hil)) (fun x hx => hy x (by rw [Expr.list_eq]; exact List.mem_cons_of_mem _ (List.mem_flatMap.2 ⟨_, List.getElem_mem hil, hx⟩))) h q hq
          rw [hq] at hr
          have hqs : (∃ b h', q = (.val (.bool b), h')) ∨ ∃ v h', q = (.boom v, h') := by
           have key : ∀ (l : List Expr) (h : List PObj) (q), eachRun y l h = some q → (∃ b h', q = (.val (.bool b), h')) ∨ ∃ v h', q = (.boom v, h') := by
            intro l
            induction l with
            | nil => intro h q hq; simp only [eachRun, Option.some.injEq] at hq; exact .inl ⟨true, h, hq.symm⟩
            | cons x l ihl =>
              intro h q hq
              simp only [eachRun] at hq
              split at hq
              ·exact ihl _ _ hq
              ·exact hb _ _ _ hq
           exact key _ _ _ hq
          rcases hqs with ⟨b, h2, rfl⟩ | ⟨v, h2, rfl⟩
          ·cases b with
           | false =>
             simp only [Option.some.injEq] at hr
             subst hr
             simp [hil, hc, f_expr_each]
           | true =>
             simp only at hr
             simp [hil, hc, hw]
             have := ih2 (i + 1) h2 (.loc g (eExpr e.args[i]).cells) (g + 1) (by omega) hr
             rw [f_expr_each_l0] at this
             simpa using this
          ·simp only [Option.some.injEq] at hr
           subst hr
           simp [hil, hc, f_expr_each]
   ·simp only [Option.some.injEq] at hr
    subst hr
    simp at hyo
    simp [f_expr_each, hyo]
theorem pr_Each (e : Expr) (h : List PObj) : callL L 81 [eExpr e] h = some (.func 114 [] [.cptr (eExpr e).cells], h) := by
 refine callL_wp (hL 81 _ rfl) rfl ?_
 simp [f_expr_Each]
theorem pr_range {V l : List PV} {g : Nat} {h : List PObj} {Q : PExit → St → Prop} {x : PX} {kb : Nat} {caps : List PX} {cs : List PV} (e : Expr) (he : EW e) (hx : rd ⟨V, l, g, h⟩ x = some (.func 114 [] [.cptr (eExpr e).cells])) (hc : rdAll ⟨V, l, g, h⟩ caps = some cs) (hcs : ∀ p ∈ cs, cp p = some p)
  (y : Expr → List PObj → Option (Out × List PObj)) (hy : ∀ x ∈ e.list, ∀ h' r, y x h' = some r → outL L kb (.ptr h.length 0 :: (cs ++ [eExpr x])) h' = some r) (hb : ∀ x h r, y x h = some r → (∃ b h', r = (.val (.bool b), h')) ∨ ∃ v h', r = (.boom v, h'))
  (r : Out × List PObj) (hr : eachRun y e.list (h ++ [.loop true]) = some r) (hq : overK V l g h.length Q r) : wpL L (.rangeF x kb caps) ⟨V, l, g, h⟩ Q := by
 have hnr : noRound L 114 = true := by unfold noRound; rw [hL 114 _ rfl]; rfl
 have hE := pr_each hL kb (.ptr h.length 0 :: cs) [] y (by
  intro p hp
  simp only [List.append_nil, List.mem_cons] at hp
  rcases hp with rfl | hp
  ·rfl
  ·exact hcs p hp) hb e he (fun x hx h' r hr => by have := hy x hx h' r hr; simpa using this) _ r hr
 have ho : ∃ r', outL L 114 ([] ++ .func kb (.ptr h.length 0 :: cs) [] :: [.cptr (eExpr e).cells]) (h ++ [.loop true]) = some r' ∧ overK V l g h.length Q r' := by
  obtain ⟨o, h'⟩ := r
  cases o with
  | val v =>
    refine ⟨(.val (.tuple []), h'), ?_, hq⟩
    refine outL_wp (hL 114 _ rfl) rfl ?_
    simp [f_expr_Each_1, hE]
  | boom v =>
    refine ⟨(.boom v, h'), ?_, hq⟩
    refine outL_wp (hL 114 _ rfl) rfl ?_
    simp [f_expr_Each_1, hE]
 obtain ⟨r', h1, h2⟩ := ho
 exact wpL_rangeF hx hc hnr h1 h2
end
end PI.Sc
set_option maxRecDepth 100000
set_option linter.unusedSimpArgs false
set_option linter.unusedVariables false
namespace PI.Sc
open Go (IntKind BinOp UnOp)
open Short
def badS (t : Nat) (a b e : Int) : PV := .iface t (.agg [.int .i64 a, .int .i64 b, .int .i64 e])
def shapeObj (en : List Enum) (a b : Int) : PObj := .cells [.list false (en.map eEnum), .int .i64 a, .int .i64 b]
end PI.Sc
set_option maxRecDepth 100000
set_option linter.unusedSimpArgs false
set_option linter.unusedVariables false
namespace PI.Sc
open Go (IntKind BinOp UnOp)
open Short
end PI.Sc
set_option maxRecDepth 100000
set_option linter.unusedSimpArgs false
set_option linter.unusedVariables false
namespace PI
section
variable {L : Nat → Option PFunc} {V l : List PV} {g : Nat} {h : List PObj}
def endOP (L : Nat → Option PFunc) (f : PFunc) (P : PV × List PObj → Prop) (e : PExit) (st : St) : Prop := ∃ v h', endO L f (.val v, h') e st ∧ P (v, h')
@[simp] theorem endOP_normal (f : PFunc) (P : PV × List PObj → Prop) : endOP L f P .normal ⟨V, l, g, h⟩ = ∃ v, resultV ⟨V, l, g, h⟩ f.results = some v ∧ P (v, shutRes V f.results h) := by
 simp only [endOP, endO_normal, eq_iff_iff]
 constructor
 ·rintro ⟨v, h', ⟨v', h1, h2⟩, h3⟩
  simp only [Prod.mk.injEq, Out.val.injEq] at h2
  obtain ⟨rfl, rfl⟩ := h2
  exact ⟨v, h1, h3⟩
 ·rintro ⟨v, h1, h2⟩; exact ⟨v, _, ⟨v, h1, rfl⟩, h2⟩
@[simp] theorem endOP_ret (f : PFunc) (P : PV × List PObj → Prop) : endOP L f P .ret ⟨V, l, g, h⟩ = ∃ v, resultV ⟨V, l, g, h⟩ f.results = some v ∧ P (v, shutRes V f.results h) := endOP_normal (L := L) f P
@[simp] theorem endOP_after (f : PFunc) (P : PV × List PObj → Prop) (kd : Nat) (cs : List PV) (p : Option PV) : endOP L f P (.after kd cs p) ⟨V, l, g, h⟩ = (f.code.NR = true ∧ ∃ h1 x, dfrOf L kd (p.getD .nilIface :: cs) h = some h1 ∧ resultV ⟨V, l, g, h1⟩ f.results = some x ∧ P (x, shutRes V f.results h1)) := by
 simp only [endOP, endO_after, eq_iff_iff]
 constructor
 ·rintro ⟨v, h', ⟨h0, h1, x, h2, h3, h4⟩, h5⟩
  simp only [Prod.mk.injEq, Out.val.injEq] at h4
  obtain ⟨rfl, rfl⟩ := h4
  exact ⟨h0, h1, v, h2, h3, h5⟩
 ·rintro ⟨h0, h1, x, h2, h3, h5⟩; exact ⟨x, _, ⟨h0, h1, x, h2, h3, rfl⟩, h5⟩
def endB (L : Nat → Option PFunc) (f : PFunc) (P : Out × List PObj → Prop) (e : PExit) (st : St) : Prop := ∃ r, endO L f r e st ∧ P r
@[simp] theorem endB_normal (f : PFunc) (P : Out × List PObj → Prop) : endB L f P .normal ⟨V, l, g, h⟩ = ∃ v, resultV ⟨V, l, g, h⟩ f.results = some v ∧ P (.val v, shutRes V f.results h) := by
 simp only [endB, endO_normal, eq_iff_iff]
 constructor
 ·rintro ⟨r, ⟨v, h1, rfl⟩, h2⟩; exact ⟨v, h1, h2⟩
 ·rintro ⟨v, h1, h2⟩; exact ⟨_, ⟨v, h1, rfl⟩, h2⟩
@[simp] theorem endB_ret (f : PFunc) (P : Out × List PObj → Prop) : endB L f P .ret ⟨V, l, g, h⟩ = ∃ v, resultV ⟨V, l, g, h⟩ f.results = some v ∧ P (.val v, shutRes V f.results h) := endB_normal (L := L) f P
@[simp] theorem endB_boom (f : PFunc) (P : Out × List PObj → Prop) (v : PV) : endB L f P (.boom v) ⟨V, l, g, h⟩ = P (.boom v, h) := by
 simp only [endB, endO_boom, eq_iff_iff]
 exact ⟨fun ⟨r, h1, h2⟩ => h1 ▸ h2, fun h2 => ⟨_, rfl, h2⟩⟩
end
end PI
namespace PI.Sc
open Go (IntKind BinOp UnOp)
open Short
section
variable {L : Nat → Option PFunc} (hL : ∀ k f, LS k = some f → L k = some f)
include hL
theorem rec48 (w1 w2 c a b e : Int) (o : PObj) : dfrOf L 48 [badS 2 a b e, .ptr 0 0, .ptr 1 0] [.cells [.int .i64 w1, .int .i64 w2], .cells [.int .i64 c], o] = some [.cells [.int .i64 a, .int .i64 b], .cells [.int .i64 e], o] := by
 unfold dfrOf
 rw [hL 48 _ rfl]
 simp [f_shape_Check_1, pRec, badS]
end
end PI.Sc
set_option maxRecDepth 100000
set_option linter.unusedSimpArgs false
set_option linter.unusedVariables false
namespace PI.Sc
open Go (IntKind BinOp UnOp)
open Short
abbrev Ents := List ((Int × Str) × Int)
def lookObj (en : List Enum) (ns : List Node) (a b : Int) : PObj := .cells [.list false (en.map eEnum), .list false (ns.map eNode), .int .i64 a, .int .i64 b, .map (some 2)]
def bmE (l : List Str) : List (PV × PV) := l.map fun s => (.str s, .bool true)
def putB (l : List Str) (x : Str) : List Str := if x ∈ l then l else l ++ [x]
theorem mem_putB {l : List Str} {x y : Str} : y ∈ putB l x ↔ y ∈ l ∨ y = x := by
 unfold putB; split
 ·rename_i h
  exact ⟨.inl, fun hh => hh.elim id fun e => e ▸ h⟩
 ·simp
theorem find_b (x : Str) : ∀ (l : List Str) (i : Nat), (x ∉ l → mfind false [.s] (.str x) (bmE l) i = some none) ∧ (x ∈ l → ∃ j, mfind false [.s] (.str x) (bmE l) i = some (some (i + j, .bool true)) ∧ l[j]? = some x)
 | [], i => ⟨fun _ => rfl, fun h => by simp at h⟩
 | y :: l, i => by
   have he : peq false [.s] (.str x) (.str y) = some (x == y) := rfl
   obtain ⟨h1, h2⟩ := find_b x l (i + 1)
   constructor
   ·intro h
    simp only [List.mem_cons, not_or] at h
    have hb : (x == y) = false := by simpa using h.1
    simp only [bmE, List.map_cons, mfind, he, Option.bind_some, hb, Bool.false_eq_true, if_false]
    exact h1 h.2
   ·intro h
    by_cases hx : x = y
    ·subst hx
     exact ⟨0, by simp [bmE, mfind, he], rfl⟩
    ·have hb : (x == y) = false := by simpa using hx
     obtain ⟨j, h3, h4⟩ := h2 (by simpa [hx] using h)
     refine ⟨j + 1, ?_, by simpa using h4⟩
     simp only [bmE, List.map_cons, mfind, he, Option.bind_some, hb, Bool.false_eq_true, if_false]
     rw [show i + (j + 1) = i + 1 + j by omega]
     exact h3
theorem find_bm (x : Str) (l : List Str) : ∃ r, mfind false [.s] (.str x) (bmE l) 0 = some r ∧ r.map (·.2) = (if x ∈ l then some (PV.bool true) else none) ∧ entered (bmE l) (.str x) (.bool true) r = bmE (putB l x) := by
 obtain ⟨h1, h2⟩ := find_b x l 0
 by_cases h : x ∈ l
 ·obtain ⟨j, h3, h4⟩ := h2 h
  refine ⟨_, h3, by simp [h], ?_⟩
  obtain ⟨hj, hx⟩ := List.getElem?_eq_some_iff.1 h4
  simp only [entered_some, putB, h, if_true, Nat.zero_add]
  have : (bmE l)[j]'(by simpa [bmE] using hj) = (.str x, .bool true) := by simp [bmE, hx]
  rw [← this, List.set_getElem_self]
 ·exact ⟨none, h1 h, by simp [h], by simp [putB, h, bmE]⟩
structure Fr where
 O : List Str
 D : List Str
 I : List Str
 df : List Str
def Kp (b : Nat) (h h' : List PObj) : Prop := h.length ≤ h'.length ∧ ∀ n, n < b → h'[n]? = h[n]?
theorem Kp.refl (b : Nat) (h : List PObj) : Kp b h h := ⟨Nat.le_refl _, fun _ _ => rfl⟩
theorem Kp.trans {b : Nat} {h h' h'' : List PObj} (h1 : Kp b h h') (h2 : Kp b h' h'') : Kp b h h'' := ⟨Nat.le_trans h1.1 h2.1, fun n hn => (h2.2 n hn).trans (h1.2 n hn)⟩
theorem Kp.app {b : Nat} {h e : List PObj} (hb : b ≤ h.length) : Kp b h (h ++ e) := ⟨by simp, fun n hn => by rw [List.getElem?_append_left (by omega)]⟩
theorem Kp.set {b n : Nat} {h : List PObj} {o : PObj} (hb : b ≤ n) : Kp b h (h.set n o) := ⟨by simp, fun k hk => by rw [List.getElem?_set_ne (by omega)]⟩
def RowAt (h : List PObj) (b' b : Nat) (dv : PV) (df : List Str) : Prop := (dv = .list true [] ∧ df = []) ∨ ∃ k, b' ≤ k ∧ k < b ∧ dv = .rowp k 1 false df.length ∧ h[k]? = some (.cells (df.map PV.str))
def Holds (h : List PObj) : Nat → PV → List Fr → Prop
 | b, v, [] => v = .nilptr
 | b, v, f :: fs => ∃ (b' n o d : Nat) (i dv up : PV), v = .ptr n 0 ∧ b' ≤ n ∧ b' ≤ o ∧ b' ≤ d ∧ n < b ∧ o < b ∧ d < b ∧ n ≠ o ∧ n ≠ d ∧ o ≠ d ∧ 4 ≤ b' ∧ h[n]? = some (.cells [up, .map (some o), .map (some d), i, dv]) ∧ h[o]? = some (.map (bmE f.O)) ∧ h[d]? = some (.map (bmE f.D)) ∧
   ((i = .map none ∧ f.I = []) ∨ ∃ m, i = .map (some m) ∧ b' ≤ m ∧ m < b ∧ m ≠ n ∧ m ≠ o ∧ m ≠ d ∧ h[m]? = some (.map (bmE f.I))) ∧ RowAt h b' b dv f.df ∧ (∀ k s a len, dv = .rowp k s a len → k ≠ n ∧ k ≠ o ∧ k ≠ d ∧ i ≠ .map (some k)) ∧ Holds h b' up fs
theorem Holds.keep {h h' : List PObj} : ∀ {fs : List Fr} {b : Nat} {v : PV}, Holds h b v fs → (∀ n, n < b → h'[n]? = h[n]?) → Holds h' b v fs
 | [], b, v, hh, _ => hh
 | f :: fs, b, v, hh, hk => by
   obtain ⟨b', n, o, d, i, dv, up, h1, h2, h3, h4, h5, h6, h7, h8, h9, h10, h4b, h11, h12, h13, h14, h15, h16, h17⟩ := hh
   refine ⟨b', n, o, d, i, dv, up, h1, h2, h3, h4, h5, h6, h7, h8, h9, h10, h4b, (hk _ h5).trans h11, (hk _ h6).trans h12, (hk _ h7).trans h13, ?_, ?_, h16, h17.keep fun k hk' => hk k (by omega)⟩
   ·rcases h14 with h | ⟨m, e1, e2, e3, e4, e5, e6, e7⟩
    ·exact .inl h
    ·exact .inr ⟨m, e1, e2, e3, e4, e5, e6, (hk _ e3).trans e7⟩
   ·rcases h15 with h | ⟨k, e1, e2, e3, e4⟩
    ·exact .inl h
    ·exact .inr ⟨k, e1, e2, e3, (hk _ e2).trans e4⟩
theorem Holds.up {h : List PObj} : ∀ {fs : List Fr} {b c : Nat} {v : PV}, Holds h b v fs → b ≤ c → Holds h c v fs
 | [], b, c, v, hh, _ => hh
 | f :: fs, b, c, v, hh, hk => by
   obtain ⟨b', n, o, d, i, dv, up, h1, h2, h3, h4, h5, h6, h7, h8, h9, h10, h4b, h11, h12, h13, h14, h15, h16, h17⟩ := hh
   refine ⟨b', n, o, d, i, dv, up, h1, h2, h3, h4, by omega, by omega, by omega, h8, h9, h10, h4b, h11, h12, h13, ?_, ?_, h16, h17⟩
   ·rcases h14 with h | ⟨m, e1, e2, e3, e4, e5, e6, e7⟩
    ·exact .inl h
    ·exact .inr ⟨m, e1, e2, by omega, e4, e5, e6, e7⟩
   ·rcases h15 with h | ⟨k, e1, e2, e3, e4⟩
    ·exact .inl h
    ·exact .inr ⟨k, e1, by omega, e3, e4⟩
theorem Holds.ptr {h : List PObj} {fs : List Fr} {b : Nat} {v : PV} (hv : Holds h b v fs) : v = .nilptr ∨ ∃ n, v = .ptr n 0 := by
 cases fs with
 | nil => exact .inl hv
 | cons f fs => obtain ⟨_, n, _, _, _, _, _, e, _⟩ := hv; exact .inr ⟨n, e⟩
theorem Holds.cp {h : List PObj} {fs : List Fr} {b : Nat} {v : PV} (hv : Holds h b v fs) : cp v = some v := by rcases hv.ptr with rfl | ⟨n, rfl⟩ <;> rfl
theorem Holds.tkv {h : List PObj} {fs : List Fr} {b : Nat} {v : PV} (hv : Holds h b v fs) : tkv v = some (v, false) := by rcases hv.ptr with rfl | ⟨n, rfl⟩ <;> rfl
theorem Holds.dem {h : List PObj} {fs : List Fr} {b : Nat} {v : PV} (hv : Holds h b v fs) : dem v = v := by rcases hv.ptr with rfl | ⟨n, rfl⟩ <;> rfl
end PI.Sc
set_option maxRecDepth 100000
set_option linter.unusedSimpArgs false
set_option linter.unusedVariables false
namespace PI.Sc
open Go (IntKind BinOp UnOp)
open Short
structure TopAt (h : List PObj) (b b' n o d : Nat) (i dv up : PV) (f : Fr) (fs : List Fr) : Prop where
 ln : b' ≤ n
 lo : b' ≤ o
 ld : b' ≤ d
 un : n < b
 uo : o < b
 ud : d < b
 no : n ≠ o
 nd : n ≠ d
 od : o ≠ d
 four : 4 ≤ b'
 hn : h[n]? = some (.cells [up, .map (some o), .map (some d), i, dv])
 ho : h[o]? = some (.map (bmE f.O))
 hd : h[d]? = some (.map (bmE f.D))
 hi : (i = .map none ∧ f.I = []) ∨ ∃ m, i = .map (some m) ∧ b' ≤ m ∧ m < b ∧ m ≠ n ∧ m ≠ o ∧ m ≠ d ∧ h[m]? = some (.map (bmE f.I))
 row : RowAt h b' b dv f.df
 rne : ∀ k s a len, dv = .rowp k s a len → k ≠ n ∧ k ≠ o ∧ k ≠ d ∧ i ≠ .map (some k)
 hup : Holds h b' up fs
section
variable {h h' : List PObj} {b b' n o d : Nat} {i dv up : PV} {f : Fr} {fs : List Fr}
theorem TopAt.keep (t : TopAt h b b' n o d i dv up f fs) (hk : ∀ n, n < b → h'[n]? = h[n]?) : TopAt h' b b' n o d i dv up f fs where
 ln := t.ln
 lo := t.lo
 ld := t.ld
 un := t.un
 uo := t.uo
 ud := t.ud
 no := t.no
 nd := t.nd
 od := t.od
 four := t.four
 hn := (hk _ t.un).trans t.hn
 ho := (hk _ t.uo).trans t.ho
 hd := (hk _ t.ud).trans t.hd
 hi := by
  rcases t.hi with h | ⟨m, e1, e2, e3, e4, e5, e6, e7⟩
  ·exact .inl h
  ·exact .inr ⟨m, e1, e2, e3, e4, e5, e6, (hk _ e3).trans e7⟩
 row := by
  rcases t.row with h | ⟨k, e1, e2, e3, e4⟩
  ·exact .inl h
  ·exact .inr ⟨k, e1, e2, e3, (hk _ e2).trans e4⟩
 rne := t.rne
 hup := t.hup.keep fun k hk' => hk k (by have := t.ln; have := t.un; omega)
end
end PI.Sc
set_option maxRecDepth 100000
set_option linter.unusedSimpArgs false
set_option linter.unusedVariables false
namespace PI.Sc
open Go (IntKind BinOp UnOp)
open Short
section
variable {L : Nat → Option PFunc} (hL : ∀ k f, LS k = some f → L k = some f) (en : List Enum) (ns : List Node) (a b : Int) (ents : Ents)
include hL
omit hL in
end
end PI.Sc
set_option maxRecDepth 100000
set_option linter.unusedSimpArgs false
set_option linter.unusedVariables false
namespace PI.Sc
open Go (IntKind BinOp UnOp)
open Short
end PI.Sc
set_option maxRecDepth 100000
set_option linter.unusedSimpArgs false
set_option linter.unusedVariables false
namespace PI.Sc
open Go (IntKind BinOp UnOp)
open Short
section
variable {h h' : List PObj} {b b' n o d : Nat} {i dv up : PV} {f : Fr} {fs : List Fr}
theorem Fr.same {f : Fr} (h : f.D = f.df) : ({ f with D := f.df, df := f.df } : Fr) = f := by cases f; simp at h ⊢; exact h.symm
theorem TopAt.push (t : TopAt h h.length b' n o d i dv up f fs) (df : List Str) (h1 : List PObj) (h1l : h1.length = h.length) (hk : ∀ k, k < b' → h1[k]? = h[k]?) (hk2 : ∀ k, b' ≤ k → (∀ s a len, dv ≠ .rowp k s a len) → k ≠ n → h1[k]? = h[k]?) :
  TopAt ((h1 ++ [PObj.cells (df.map PV.str)]).set n (.cells [up, .map (some o), .map (some d), i, .rowp h.length 1 false df.length])) (h.length + 1) b' n o d i (.rowp h.length 1 false df.length) up { f with df := df } fs := by
 have hun := t.un
 have hln := t.ln
 have key : ∀ k, k < h.length → k ≠ n → (h1[k]? = h[k]?) → ((h1 ++ [PObj.cells (df.map PV.str)]).set n (.cells [up, .map (some o), .map (some d), i, .rowp h.length 1 false df.length]))[k]? = h[k]? := by
  intro k hkl hkn hh
  rw [List.getElem?_set_ne (Ne.symm hkn), List.getElem?_append_left (by omega)]
  exact hh
 refine ⟨t.ln, t.lo, t.ld, by omega, by have := t.uo; omega, by have := t.ud; omega, t.no, t.nd, t.od, t.four, ?_, ?_, ?_, ?_, ?_, ?_, ?_⟩
 ·rw [List.getElem?_set_self (by simp; omega)]
 ·rw [key o t.uo (Ne.symm t.no) (hk2 o t.lo (fun s a len e => (t.rne _ _ _ _ e).2.1 rfl) (Ne.symm t.no))]
  exact t.ho
 ·rw [key d t.ud (Ne.symm t.nd) (hk2 d t.ld (fun s a len e => (t.rne _ _ _ _ e).2.2.1 rfl) (Ne.symm t.nd))]
  exact t.hd
 ·rcases t.hi with h | ⟨m, e1, e2, e3, e4, e5, e6, e7⟩
  ·exact .inl h
  ·refine .inr ⟨m, e1, e2, by omega, e4, e5, e6, ?_⟩
   rw [key m e3 e4 (hk2 m e2 (fun s a len e => (t.rne _ _ _ _ e).2.2.2 e1) e4)]
   exact e7
 ·refine .inr ⟨h.length, by omega, by omega, rfl, ?_⟩
  rw [List.getElem?_set_ne (by omega), ← h1l]
  simp
 ·intro k s a len e
  simp only [PV.rowp.injEq] at e
  obtain ⟨rfl, _⟩ := e
  have := t.uo
  have := t.ud
  refine ⟨by omega, by omega, by omega, ?_⟩
  rcases t.hi with ⟨h1, _⟩ | ⟨m, e1, e2, e3, _⟩
  ·rw [h1]; simp
  ·rw [e1]; simp; omega
 ·refine t.hup.keep fun k hk' => ?_
  rw [key k (by omega) (by omega) (hk k hk')]
end
end PI.Sc
set_option maxRecDepth 100000
set_option linter.unusedSimpArgs false
set_option linter.unusedVariables false
namespace PI.Sc
open Go (IntKind BinOp UnOp)
open Short
end PI.Sc
set_option maxRecDepth 100000
set_option linter.unusedSimpArgs false
set_option linter.unusedVariables false
namespace PI.Sc
open Go (IntKind BinOp UnOp)
open Short
end PI.Sc
set_option maxRecDepth 100000
set_option linter.unusedSimpArgs false
set_option linter.unusedVariables false
namespace PI.Sc
open Go (IntKind BinOp UnOp)
open Short
def growF (sz by' : Nat) (z : List PV) : PFunc := ⟨2, 3, (S (R [t 2 (.c (.list true []))]) (S (B [m v1,b .lss l0 (k 0)] l1 (R [m (.c .dead),r (.mov (.c .dead))]) Z) (S (S (R [m v1,m v0,p (.cap l1),m v0,n l3,b .sub l2 l4,b .sub l0 l5,t 1 l6]) (B [m v1,b .gtr l0 (k 0)] l1 (R [m v0,m v0,p (.cap l1),p (.slice false sz l0 none (some l2)),m v1,p (.h (.happz sz true by' z l3 l4)),m v0,n l6,p (.slice false sz l5 none (some l7)),t 0 l8]) Z)) (S (R [m v0,t 2 l0]) Y)))), [.keep 2], false, none, none⟩
def catL0 : PC := (.loop (S (B [b .lss v8 v7] l0 Z (X 0)) (S (K 1 (S (R [i 1 v6 v8,c l0,t 3 l1]) (S (R [m v2,m v3,n l1,b .add l0 l2,t 2 l3]) (B [m v2,b .lss l0 (k 0)] l1 (R [m (.c .dead),r (.mov (.c .dead))]) Z)))) (R [b .add v8 (k 1),q 8 (.mov l0)]))))
def catL1 (sz by' : Nat) : PC := (.loop (S (B [b .lss v11 v10] l0 Z (X 2)) (S (K 3 (S (R [i 1 v9 v11,c l0,t 5 l1]) (R [p (.take v4),m v5,p (.h (.happ sz true by' l0 l1)),t 4 l2]))) (R [b .add v11 (k 1),q 11 (.mov l0)]))))
def catF (sz by' gr : Nat) (res : PRes) : PFunc := ⟨1, 12, (S (R [t 1 (.c .nils)]) (S (R [t 2 (k 0)]) (S (S (R [q 6 (.mov v0),q 7 (.len false v6),q 8 (.mov (k 0))]) (K 0 catL0)) (S (R [m v2,fh gr [(.c .nils),l0],t 4 l1]) (S (S (R [q 9 (.mov v0),q 10 (.len false v9),q 11 (.mov (k 0))]) (K 2 (catL1 sz by'))) (S (R [m v4,t 1 l0]) Y)))))), [res], false, none, none⟩
structure Enc {α : Type} (e : α → PV) (sz : Nat) : Prop where
 agg : ∀ x, e x = .agg (e x).cells
 len : ∀ x, (e x).cells.length = sz
 dem : ∀ x, (e x).cells.map dem = (e x).cells
 pos : 0 < sz
section
variable {α : Type} {e : α → PV} {sz : Nat} (he : Enc e sz)
def RowOf (e : α → PV) (sz : Nat) (h : List PObj) (b : Nat) (v : PV) (l : List α) : Prop := (v = .nils ∧ l = []) ∨ ∃ k cs, b ≤ k ∧ v = .rowp k sz true l.length ∧ h[k]? = some (.cells cs) ∧ l.length * sz ≤ cs.length ∧ cs.take (l.length * sz) = (l.map e).flatMap PV.cells
def eLists (e : α → PV) (gs : List (List α)) : List PV := gs.map fun g => .list false (g.map e)
def countL (gs : List (List α)) : Nat := total List.length gs
theorem countL_app : ∀ (a b : List (List α)), countL (a ++ b) = countL a + countL b
 | [], b => by simp [countL, total]
 | x :: a, b => by
   have := countL_app a b
   simp only [countL] at this
   simp only [countL, List.cons_append, total, this]; omega
theorem countL_snoc (gs : List (List α)) (j : Nat) (hj : j < gs.length) : countL (gs.take (j + 1)) = countL (gs.take j) + gs[j].length := by
 rw [take_snoc hj, countL_app]
 simp [countL, total]
theorem countL_le (gs : List (List α)) (j : Nat) : countL (gs.take j) ≤ countL gs := by
 have := countL_app (gs.take j) (gs.drop j)
 rw [List.take_append_drop] at this; omega
theorem countL_flat (gs : List (List α)) : gs.flatten.length = countL gs := by
 induction gs with
 | nil => rfl
 | cons x gs ih => rw [List.flatten_cons, List.length_append, ih]; simp [countL, total]
include he
theorem Enc.cellsDem : ∀ l : List α, ((l.map e).flatMap PV.cells).map PI.dem = (l.map e).flatMap PV.cells
 | [] => rfl
 | x :: l => by
   rw [List.map_cons, List.flatMap_cons, List.map_append, Enc.cellsDem l, he.dem]
theorem Enc.cellsLen : ∀ l : List α, ((l.map e).flatMap PV.cells).length = l.length * sz
 | [] => by simp
 | x :: l => by
   rw [List.map_cons, List.flatMap_cons, List.length_append, Enc.cellsLen l, he.len, List.length_cons, Nat.succ_mul]; omega
theorem Enc.head (l : List α) : headOk sz (l.map e) = true := by
 cases l with
 | nil => rfl
 | cons x l => simp [headOk, he.len]
theorem Enc.els (l : List α) (cs : List PV) (hc : cs.take (l.length * sz) = (l.map e).flatMap PV.cells) : rowEls sz true cs l.length 0 = some (l.map e) := by
 have key : ∀ (l : List α) (pre post : List PV), rowEls sz true (pre ++ ((l.map e).flatMap PV.cells ++ post)) l.length pre.length = some (l.map e) := by
  intro l
  induction l with
  | nil => intro pre post; rfl
  | cons x l ih =>
    intro pre post
    have h1 := ih (pre ++ (e x).cells) post
    rw [List.length_append, he.len] at h1
    have h2 : pre ++ (e x).cells ++ ((l.map e).flatMap PV.cells ++ post) = pre ++ (((x :: l).map e).flatMap PV.cells ++ post) := by simp
    rw [h2] at h1
    have h3 : loadFrom sz true (pre ++ (((x :: l).map e).flatMap PV.cells ++ post)) pre.length = some (e x) := by
     have hl := he.len x
     have h4 : pre.length + sz ≤ (pre ++ (((x :: l).map e).flatMap PV.cells ++ post)).length := by
      rw [List.length_append, List.length_append, List.map_cons, List.flatMap_cons, List.length_append]; omega
     simp only [loadFrom, if_true, h4, List.drop_left']
     rw [List.map_cons, List.flatMap_cons, List.append_assoc, List.take_left' hl, he.dem, ← he.agg]
    rw [List.length_cons, rowEls, h3, Option.bind_some, h1]
    rfl
 have := key l [] (cs.drop (l.length * sz))
 rw [← hc, List.take_append_drop] at this
 exact this
theorem Enc.happ {by' : Nat} (hby : by' ≤ 16384) (h : List PObj) (b : Nat) (hb : b ≤ h.length) (v : PV) (l m : List α) (hv : RowOf e sz h b v l) (hl : l.length + m.length ≤ 4500) : ∃ v' h', (∀ st : St, st.heap = h → happv h sz true by' (m.map e) v st = some (v', { st with heap := h' })) ∧ Kp b h h' ∧ RowOf e sz h' b v' (l ++ m) := by
 have hh3 := he.head m
 rcases hv with ⟨rfl, rfl⟩ | ⟨k, cs, hk, rfl, hc, hcl, hct⟩
 ·by_cases hm : m = []
  ·subst hm
   refine ⟨.nils, h, ?_, Kp.refl _ _, .inl ⟨rfl, rfl⟩⟩
   intro st hst
   simp [happv, ← hst]
  ·refine ⟨.rowp h.length sz true m.length, h ++ [.cells ((m.map e).flatMap PV.cells)], ?_, Kp.app hb, .inr ⟨h.length, (m.map e).flatMap PV.cells, hb, by simp, by simp, ?_, ?_⟩⟩
   ·intro st hst
    have h1 : m.length ≤ 2147483648 := by simp at hl; omega
    have hmm : ¬ m.map e = [] := by simpa using hm
    simp only [happv, hmm, if_false, hh3, List.length_map, h1, he.cellsDem, hby]
    simp [hst]
   ·rw [he.cellsLen]; simp
   ·rw [List.nil_append, List.take_of_length_le (by rw [he.cellsLen]; omega)]
 ·have hkl : k < h.length := (List.getElem?_eq_some_iff.1 hc).1
  refine ⟨.rowp h.length sz true (l.length + m.length), h.set k .gone ++ [.cells ((l.map e).flatMap PV.cells ++ (m.map e).flatMap PV.cells)], ?_, ⟨by simp, fun n hn => ?_⟩, .inr ⟨h.length, (l.map e).flatMap PV.cells ++ (m.map e).flatMap PV.cells, hb, by simp, ?_, ?_, ?_⟩⟩
  ·intro st hst
   have h1 : l.length + m.length ≤ 2147483648 := by omega
   simp only [happv, hc, hh3, List.length_map, h1, hcl, hct, he.cellsDem, hby]
   simp
  ·rw [List.getElem?_append_left (by simp; omega), List.getElem?_set_ne (by omega)]
  ·have : (h.set k .gone).length = h.length := by simp
   rw [← this, List.getElem?_append_right (Nat.le_refl _)]
   simp
  ·rw [List.length_append, List.length_append, he.cellsLen, he.cellsLen, Nat.add_mul]; omega
  ·rw [List.map_append, List.flatMap_append, List.take_of_length_le (by rw [List.length_append, List.length_append, he.cellsLen, he.cellsLen, Nat.add_mul]; omega)]
end
theorem RowOf.cp {α : Type} {e : α → PV} {sz : Nat} {h : List PObj} {b : Nat} {v : PV} {l : List α} (hv : RowOf e sz h b v l) : cp v = some v ∧ tkv v = some (v, false) ∧ dem v = v := by
 rcases hv with ⟨rfl, _⟩ | ⟨k, cs, _, rfl, _⟩ <;> exact ⟨rfl, rfl, rfl⟩
section
variable {L : Nat → Option PFunc} {α : Type} {e : α → PV} {sz by' gr : Nat} {z : List PV} (he : Enc e sz) (hby : by' ≤ 16384)
theorem grow0 {sz by' : Nat} {z : List PV} (hf : L gr = some (growF sz by' z)) (h : List PObj) : callL L gr [.nils, .int .i64 0] h = some (.nils, h) := by
 refine callL_wp hf rfl ?_
 have hw0 : IntKind.i64.wrap (-IntKind.i64.wrap 0) = 0 := by decide
 simp [growF, hw0]
theorem growN {sz by' : Nat} {z : List PV} (hby : by' ≤ 16384) (hf : L gr = some (growF sz by' z)) (n : Nat) (h0 : 0 < n) (hn : n ≤ 4500) (h : List PObj) : ∃ cs, callL L gr [.nils, .int .i64 n] h = some (.rowp h.length sz true 0, h ++ [.cells cs]) := by
 have h0i : (0 : Int) < n := by omega
 have hni : (n : Int) ≤ 2147483648 := by omega
 have hneg : ¬ (n : Int) < 0 := by omega
 have hw00 : IntKind.i64.wrap 0 = 0 := by decide
 have hw : IntKind.i64.wrap (n : Int) = n := by
  have := wrap_succ (n - 1) (by omega)
  have e : ((n - 1 : Nat) : Int) + 1 = n := by omega
  rw [e] at this
  rw [this]
  omega
 refine ⟨(List.replicate n (z.map dem)).flatten, ?_⟩
 refine callL_wp hf rfl ?_
 simp [growF, h0i, hni, hneg, h0, hw, hw00, hby]
theorem cat_l0 (gs : List (List α)) (hg : gs.length ≤ 1500) (hn : countL gs ≤ 4500) (h : List PObj) (V0 V1 V3 V4 V5 V9 V10 V11 : PV) (g : Nat) {Q : PExit → St → Prop}
  (ok : ∀ y3, Q (.exit 0) ⟨[V0, V1, .int .i64 (countL gs), y3, V4, V5, .list false (eLists e gs), .int .i64 gs.length, .int .i64 gs.length, V9, V10, V11], [], g, h⟩) :
  wpL L catL0 ⟨[V0, V1, .int .i64 0, V3, V4, V5, .list false (eLists e gs), .int .i64 gs.length, .int .i64 0, V9, V10, V11], [], g, h⟩ Q := by
 rw [catL0]
 refine loop_rel gs.length (fun j st => ∃ y3, st = ⟨[V0, V1, .int .i64 (countL (gs.take j)), y3, V4, V5, .list false (eLists e gs), .int .i64 gs.length, .int .i64 j, V9, V10, V11], [], g, h⟩) ?_ ?_ ⟨_, by simp [countL, total]; rfl⟩
 ·rintro j hj st ⟨y3, rfl⟩ ih
  have hw := wrap_succ j (by omega)
  have ht := countL_snoc gs j hj
  have hle := countL_le gs (j + 1)
  obtain ⟨A, hA⟩ : ∃ A, A = countL (gs.take j) := ⟨_, rfl⟩
  obtain ⟨B, hB⟩ : ∃ B, B = countL (gs.take (j + 1)) := ⟨_, rfl⟩
  rw [← hA, ← hB] at ht
  rw [← hB] at hle
  have hws : IntKind.i64.wrap ((A : Int) + gs[j].length) = B := by
   have := wrap_nat (A + gs[j].length) (by omega)
   rw [show (A : Int) + gs[j].length = ((A + gs[j].length : Nat) : Int) by omega, this, ht]
  have hjg : j < (eLists e gs).length := by simpa [eLists] using hj
  have hgj : (eLists e gs)[j]? = some (.list false (gs[j].map e)) := by simp [eLists, hj]
  rw [← hA]
  rw [← hB] at ih
  obtain ⟨GS, hGS⟩ : ∃ GS, GS = eLists e gs := ⟨_, rfl⟩
  rw [← hGS] at ih hjg hgj ⊢
  have hge : GS[j] = .list false (gs[j].map e) := (List.getElem?_eq_some_iff.1 hgj).2
  have hcl : ∀ es, (PV.list false es).cells = [.list false es] := fun _ => rfl
  have hBn : ¬ (B : Int) < 0 := by omega
  simp [hj, hjg, hgj, hw, hws, hge, hcl, hBn]
  exact ih _ ⟨_, rfl⟩
 ·rintro st ⟨y3, rfl⟩
  rw [List.take_length]
  simp
  exact ok _
include he hby
theorem cat_l1 (gs : List (List α)) (hg : gs.length ≤ 1500) (hn : countL gs ≤ 4500) (h : List PObj) (b : Nat) (hb : b ≤ h.length) (V4 : PV) (hV4 : RowOf e sz h b V4 []) (V0 V1 V2 V3 V5 V6 V7 V8 : PV) (g : Nat) {Q : PExit → St → Prop}
  (ok : ∀ h' v y5, Kp b h h' → RowOf e sz h' b v gs.flatten → Q (.exit 2) ⟨[V0, V1, V2, V3, v, y5, V6, V7, V8, .list false (eLists e gs), .int .i64 gs.length, .int .i64 gs.length], [], g, h'⟩) :
  wpL L (catL1 sz by') ⟨[V0, V1, V2, V3, V4, V5, V6, V7, V8, .list false (eLists e gs), .int .i64 gs.length, .int .i64 0], [], g, h⟩ Q := by
 rw [catL1]
 refine loop_rel gs.length (fun j st => ∃ v y5 h', st = ⟨[V0, V1, V2, V3, v, y5, V6, V7, V8, .list false (eLists e gs), .int .i64 gs.length, .int .i64 j], [], g, h'⟩ ∧ Kp b h h' ∧ RowOf e sz h' b v (gs.take j).flatten) ?_ ?_ ⟨_, _, h, rfl, Kp.refl _ _, hV4⟩
 ·rintro j hj st ⟨v, y5, h', rfl, hkp, hv⟩ ih
  have hw := wrap_succ j (by omega)
  have ht := countL_snoc gs j hj
  have hle := countL_le gs (j + 1)
  have hfl : (gs.take (j + 1)).flatten = (gs.take j).flatten ++ gs[j] := by
   rw [take_snoc hj, List.flatten_append]; simp
  obtain ⟨v', h'', hap, hkx, hv'⟩ := he.happ hby h' b (Nat.le_trans hb hkp.1) v _ gs[j] hv (by rw [countL_flat]; omega)
  have hgj : (eLists e gs)[j]? = some (.list false (gs[j].map e)) := by simp [eLists, hj]
  have hjg : j < (eLists e gs).length := by simpa [eLists] using hj
  obtain ⟨GS, hGS⟩ : ∃ GS, GS = eLists e gs := ⟨_, rfl⟩
  rw [← hGS] at ih hjg hgj ⊢
  have hge : GS[j] = .list false (gs[j].map e) := (List.getElem?_eq_some_iff.1 hgj).2
  have hcl : ∀ es, (PV.list false es).cells = [.list false es] := fun _ => rfl
  have hc := hv.cp
  have hc' := hv'.cp
  rw [← hfl] at hv'
  simp [hj, hjg, hgj, hw, hge, hcl, hc.1, hc.2.1, hc.2.2, hap, hc'.1, hc'.2.1, hc'.2.2]
  exact ih _ ⟨v', _, h'', rfl, hkp.trans hkx, hv'⟩
 ·rintro st ⟨v, y5, h', rfl, hkp, hv⟩
  rw [List.take_length] at hv
  simp
  exact ok h' v y5 hkp hv
theorem cat_keep {k : Nat} (hf : L k = some (catF sz by' gr (.keep 1))) (hgr : L gr = some (growF sz by' z)) (gs : List (List α)) (hg : gs.length ≤ 1500) (hn : countL gs ≤ 4500) (o : Bool) (h : List PObj) : ∃ v h', callL L k [.list o (eLists e gs)] h = some (v, h') ∧ Kp h.length h h' ∧ RowOf e sz h' h.length v gs.flatten := by
 suffices H : ∃ r, callL L k [.list o (eLists e gs)] h = some r ∧ Kp h.length h r.2 ∧ RowOf e sz r.2 h.length r.1 gs.flatten from by
  obtain ⟨⟨v, h'⟩, h1, h2, h3⟩ := H
  exact ⟨v, h', h1, h2, h3⟩
 refine callL_wpP hf rfl ?_
 have hgl : (eLists e gs).length = gs.length := by simp [eLists]
 simp [catF, hgl]
 refine cat_l0 gs hg hn h _ _ _ _ _ _ _ _ _ ?_
 intro y3
 by_cases h0 : countL gs = 0
 ·have hgr := grow0 hgr h
  have h0i : (countL gs : Int) = 0 := by omega
  simp [h0i, hgr, hgl]
  refine cat_l1 he hby gs hg hn h h.length (Nat.le_refl _) .nils (.inl ⟨rfl, rfl⟩) _ _ _ _ _ _ _ _ _ ?_
  intro h' v y5 hk hv
  have hc := hv.cp
  simp [hc.1, hc.2.1, hc.2.2, endP]
  exact ⟨hk, hv⟩
 ·obtain ⟨cs, hgr⟩ := growN hby hgr (countL gs) (by omega) hn h
  simp [hgr, hgl]
  refine cat_l1 he hby gs hg hn _ h.length (by simp) (.rowp h.length sz true 0) (.inr ⟨h.length, cs, Nat.le_refl _, rfl, by simp, by simp, by simp⟩) _ _ _ _ _ _ _ _ _ ?_
  intro h' v y5 hk hv
  have hc := hv.cp
  simp [hc.1, hc.2.1, hc.2.2, endP]
  exact ⟨(Kp.app (Nat.le_refl _)).trans hk, hv⟩
theorem cat_list {k : Nat} (hf : L k = some (catF sz by' gr (.var 1))) (hgr : L gr = some (growF sz by' z)) (gs : List (List α)) (hg : gs.length ≤ 1500) (hn : countL gs ≤ 4500) (o : Bool) (h : List PObj) : ∃ h', callL L k [.list o (eLists e gs)] h = some (.list false (gs.flatten.map e), h') := by
 suffices H : ∃ r, callL L k [.list o (eLists e gs)] h = some r ∧ r.1 = .list false (gs.flatten.map e) from by
  obtain ⟨⟨v, h'⟩, h1, h2⟩ := H
  simp only at h2; subst h2
  exact ⟨h', h1⟩
 refine callL_wpP hf rfl ?_
 have hgl : (eLists e gs).length = gs.length := by simp [eLists]
 obtain ⟨F, hF⟩ : ∃ F, F = gs.flatten := ⟨_, rfl⟩
 rw [← hF]
 simp [catF, hgl]
 refine cat_l0 gs hg hn h _ _ _ _ _ _ _ _ _ ?_
 intro y3
 by_cases h0 : countL gs = 0
 ·have hgr := grow0 hgr h
  have h0i : (countL gs : Int) = 0 := by omega
  simp [h0i, hgr, hgl]
  refine cat_l1 he hby gs hg hn h h.length (Nat.le_refl _) .nils (.inl ⟨rfl, rfl⟩) _ _ _ _ _ _ _ _ _ ?_
  intro h' v y5 hk hv
  rw [← hF] at hv
  rcases hv with ⟨rfl, hn⟩ | ⟨k, cs, _, rfl, hc, hl, ht⟩
  ·simp [endP, hn]
  ·simp [endP, hc, he.els _ _ ht]
 ·obtain ⟨cs, hgr⟩ := growN hby hgr (countL gs) (by omega) hn h
  simp [hgr, hgl]
  refine cat_l1 he hby gs hg hn _ h.length (by simp) (.rowp h.length sz true 0) (.inr ⟨h.length, cs, Nat.le_refl _, rfl, by simp, by simp, by simp⟩) _ _ _ _ _ _ _ _ _ ?_
  intro h' v y5 hk hv
  rw [← hF] at hv
  rcases hv with ⟨rfl, hn⟩ | ⟨k, cs, _, rfl, hc, hl, ht⟩
  ·simp [endP, hn]
  ·simp [endP, hc, he.els _ _ ht]
end
theorem encDecl : Enc eDecl 3 := ⟨fun _ => rfl, fun _ => rfl, fun _ => rfl, by decide⟩
theorem encExpr : Enc eExpr 6 := ⟨fun x => by rw [eExpr_def]; rfl, fun x => by simp, fun x => by simp, by decide⟩
theorem encTrn : Enc eTrn 8 := ⟨fun _ => rfl, fun _ => rfl, fun x => by simp, by decide⟩
end PI.Sc
set_option maxRecDepth 100000
set_option linter.unusedSimpArgs false
set_option linter.unusedVariables false
namespace PI.Sc
open Go (IntKind BinOp UnOp)
open Short
structure Takes (L : Nat → Option PFunc) (kf : Nat) (cs : List PV) (Inv : List Expr → List PObj → Prop) : Prop where
 run : ∀ e l h, e.parts ≤ 1500 → EW e → Inv l h → ∃ h', callL L kf (eExpr e :: cs) h = some (.tuple [], h') ∧ Inv (l ++ [e]) h'
section
variable {L : Nat → Option PFunc} (hL : ∀ k f, LS k = some f → L k = some f) {kf : Nat} {cs : List PV} {Inv : List Expr → List PObj → Prop} (hT : Takes L kf cs Inv)
include hL
theorem cat_trn (a b : List Trn) (hn : a.length + b.length ≤ 4500) (o : Bool) (h : List PObj) : ∃ h', callL L 112 [.list o [.list false (a.map eTrn), .list false (b.map eTrn)]] h = some (.list false ((a ++ b).map eTrn), h') := by
 have := cat_list encTrn (by decide) (k := 112) (by' := 88) (gr := 140) (hL 112 _ rfl) (hL 140 _ rfl) [a, b] (by simp) (by simp [countL, total]; omega) o h
 simpa [eLists] using this
theorem cat_expr (a b : List Expr) (hn : a.length + b.length ≤ 4500) (o : Bool) (h : List PObj) : ∃ h', callL L 80 [.list o [.list false (a.map eExpr), .list false (b.map eExpr)]] h = some (.list false ((a ++ b).map eExpr), h') := by
 have := cat_list encExpr (by decide) (k := 80) (by' := 72) (gr := 113) (hL 80 _ rfl) (hL 113 _ rfl) [a, b] (by simp) (by simp [countL, total]; omega) o h
 simpa [eLists] using this
include hT
theorem sc_ex_l1 (ts : List Trn) (hl : ts.length ≤ 4500) (hw : ∀ t ∈ ts, XW t.cond) (l : List Expr) (h : List PObj) (hi : Inv l h) (V0 V1 V3 V4 V5 V6 V7 V8 V9 V10 V11 V12 V13 V14 V15 : PV) (g : Nat) {Q : PExit → St → Prop}
  (ok : ∀ y6 g' h', Inv (l ++ ts.map (·.cond)) h' → Q (.exit 6) ⟨[V0, V1, .func kf [] cs, V3, V4, V5, y6, V7, V8, V9, V10, V11, V12, V13, V14, V15, .list false (ts.map eTrn), .int .i64 ts.length, .int .i64 ts.length], [], g', h'⟩) :
  wpL L f_scope_expressions_l1 ⟨[V0, V1, .func kf [] cs, V3, V4, V5, V6, V7, V8, V9, V10, V11, V12, V13, V14, V15, .list false (ts.map eTrn), .int .i64 ts.length, .int .i64 0], [], g, h⟩ Q := by
 have _ := hL
 rw [f_scope_expressions_l1]
 refine loop_rel ts.length (fun j st => ∃ y6 g' h', st = ⟨[V0, V1, .func kf [] cs, V3, V4, V5, y6, V7, V8, V9, V10, V11, V12, V13, V14, V15, .list false (ts.map eTrn), .int .i64 ts.length, .int .i64 j], [], g', h'⟩ ∧ Inv (l ++ (ts.take j).map (·.cond)) h') ?_ ?_ ⟨_, _, h, rfl, by simpa using hi⟩
 ·rintro j hj st ⟨y6, g', h', rfl, hi⟩ ih
  have hwr := wrap_succ j (by omega)
  have hx := hw _ (List.getElem_mem hj)
  obtain ⟨h2, hc, hi2⟩ := hT.run ts[j].cond _ h' hx.parts hx.ew hi
  simp [hj, hwr, hc]
  exact ih _ ⟨_, _, h2, rfl, by rw [take_snoc hj, List.map_append, ← List.append_assoc]; exact hi2⟩
 ·rintro st ⟨y6, g', h', rfl, hi⟩
  rw [List.take_length] at hi
  simp
  exact ok _ _ _ hi
def ExRun (L : Nat → Option PFunc) (kf : Nat) (cs : List PV) (Inv : List Expr → List PObj → Prop) (s : State) : Prop := ∀ l h, Inv l h → ∃ h', callL L 79 [.list false (s.eqs.map eEqn), .list false (s.autos.map eAuto), .func kf [] cs] h = some (.tuple [], h') ∧ Inv (l ++ (s.eqs.map (·.right) ++ rightsA s.autos)) h'
theorem sc_ex1 (eqs : List Eqn) (autos : List (List State)) (hq : eqs.length ≤ 1500) (hqw : ∀ q ∈ eqs, QW q) (ha : AsW autos) (hrec : ∀ a ∈ autos, ∀ x ∈ a, ExRun L kf cs Inv x) (l : List Expr) (h : List PObj) (hi : Inv l h) :
  ∃ h', callL L 79 [.list false (eqs.map eEqn), .list false (autos.map eAuto), .func kf [] cs] h = some (.tuple [], h') ∧ Inv (l ++ (eqs.map (·.right) ++ rightsA autos)) h' := by
 suffices H : ∃ r, callL L 79 [.list false (eqs.map eEqn), .list false (autos.map eAuto), .func kf [] cs] h = some r ∧ r.1 = .tuple [] ∧ Inv (l ++ (eqs.map (·.right) ++ rightsA autos)) r.2 by
  obtain ⟨⟨v, h'⟩, h1, h2, h3⟩ := H
  simp only at h2; subst h2
  exact ⟨h', h1, h3⟩
 refine callL_wpP (hL 79 _ rfl) rfl ?_
 simp [f_scope_expressions]
 rw [f_scope_expressions_l0]
 refine loop_rel eqs.length (fun j st => ∃ y3 g h', st = ⟨[.list false (eqs.map eEqn), .list false (autos.map eAuto), .func kf [] cs, y3, .dead, .dead, .dead, .list false (eqs.map eEqn), .int .i64 eqs.length, .int .i64 j, .dead, .dead, .dead, .dead, .dead, .dead, .dead, .dead, .dead], [], g, h'⟩ ∧ Inv (l ++ (eqs.take j).map (·.right)) h') ?_ ?_ ⟨_, _, h, rfl, by simpa using hi⟩
 ·rintro j hj st ⟨y3, g, h', rfl, hi⟩ ih
  have hwr := wrap_succ j (by omega)
  have hx := (hqw _ (List.getElem_mem hj)).right
  obtain ⟨h2, hc, hi2⟩ := hT.run eqs[j].right _ h' hx.parts hx.ew hi
  simp [hj, hwr, hc]
  exact ih _ ⟨_, _, h2, rfl, by rw [take_snoc hj, List.map_append, ← List.append_assoc]; exact hi2⟩
 ·rintro st ⟨y3, g, h', rfl, hi⟩
  rw [List.take_length] at hi
  simp
  rw [f_scope_expressions_l3]
  refine loop_rel autos.length (fun j st => ∃ acc y4 y5 y6 y13 y14 y15 y16 y17 y18 g h', st = ⟨[.list false (eqs.map eEqn), .list false (autos.map eAuto), .func kf [] cs, y3, y4, y5, y6, .list false (eqs.map eEqn), .int .i64 eqs.length, .int .i64 eqs.length, .list false (autos.map eAuto), .int .i64 autos.length, .int .i64 j, y13, y14, y15, y16, y17, y18], [], g, h'⟩ ∧ Inv acc h' ∧ acc ++ rightsA (autos.drop j) = l ++ (eqs.map (·.right) ++ rightsA autos)) ?_ ?_ ⟨_, _, _, _, _, _, _, _, _, _, _, h', rfl, hi, by simp⟩
  ·rintro j hj st ⟨acc, y4, y5, y6, y13, y14, y15, y16, y17, y18, g, h', rfl, hi, hd⟩ ih
   have hwr := wrap_succ j (by have := ha.len; omega)
   rw [List.drop_eq_getElem_cons hj] at hd
   have hmem := List.getElem_mem hj
   have hal := ha.as _ hmem
   have hss := ha.ss _ hmem
   have hre := hrec _ hmem
   simp only [rightsA] at hd
   simp [hj]
   rw [f_scope_expressions_l2]
   refine loop_rel autos[j].length (fun i st => ∃ acc y5 y6 y16 y17 y18 g4 g h', st = ⟨[.list false (eqs.map eEqn), .list false (autos.map eAuto), .func kf [] cs, y3, .loc g4 (eAuto autos[j]).cells, y5, y6, .list false (eqs.map eEqn), .int .i64 eqs.length, .int .i64 eqs.length, .list false (autos.map eAuto), .int .i64 autos.length, .int .i64 j, .list false (autos[j].map eState), .int .i64 autos[j].length, .int .i64 i, y16, y17, y18], [], g, h'⟩ ∧ Inv acc h' ∧ acc ++ (rightsL (autos[j].drop i) ++ rightsA (autos.drop (j + 1))) = l ++ (eqs.map (·.right) ++ rightsA autos)) ?_ ?_ ⟨acc, _, _, _, _, _, _, _, h', rfl, hi, by simpa using hd⟩
   ·rintro i hi' st ⟨acc, y5, y6, y16, y17, y18, g4, g, h', rfl, hi, hd⟩ ih2
    have hwi := wrap_succ i (by omega)
    rw [List.drop_eq_getElem_cons hi'] at hd
    obtain ⟨x, hx⟩ : ∃ x, x = autos[j][i] := ⟨_, rfl⟩
    have hsw := hss _ (List.getElem_mem hi')
    have hxr := hre _ (List.getElem_mem hi')
    rw [← hx] at hd hsw hxr
    simp only [rightsL, rightsS_eq] at hd
    obtain ⟨h2, hc, hi2⟩ := hxr _ h' hi
    obtain ⟨hq', hcat⟩ := cat_trn hL x.unl x.til (by have := hsw.unl; have := hsw.til; omega) false []
    simp at hcat
    simp [hj, hi', ← hx, hc, hcat]
    have hl12 : x.unl.length + x.til.length = (x.unl ++ x.til).length := by simp
    have hla : x.unl.map eTrn ++ x.til.map eTrn = (x.unl ++ x.til).map eTrn := by simp
    have hli : (x.unl.length : Int) + x.til.length = ((x.unl ++ x.til).length : Nat) := by simp
    rw [hla, hli]
    refine sc_ex_l1 hL hT (x.unl ++ x.til) (by have := hsw.unl; have := hsw.til; simp; omega) (fun t ht => (List.mem_append.1 ht).elim (hsw.us t) (hsw.ts t)) _ h2 hi2 _ _ _ _ _ _ _ _ _ _ _ _ _ _ _ _ ?_
    intro y6' g' h3 hi3
    simp [hwi]
    exact ih2 _ ⟨_, _, _, _, _, _, _, _, h3, rfl, hi3, by simpa using hd⟩
   ·rintro st ⟨acc, y5, y6, y16, y17, y18, g4, g, h', rfl, hi, hd⟩
    rw [List.drop_eq_nil_of_le (Nat.le_refl _)] at hd
    simp only [rightsL, List.nil_append] at hd
    simp [hj, hwr]
    exact ih _ ⟨acc, _, _, _, _, _, _, _, _, _, _, h', rfl, hi, hd⟩
  ·rintro st ⟨acc, y4, y5, y6, y13, y14, y15, y16, y17, y18, g, h', rfl, hi, hd⟩
   rw [List.drop_eq_nil_of_le (Nat.le_refl _)] at hd
   simp only [rightsA, List.append_nil] at hd
   rw [← hd]
   simp [endP, resultV, resultsOf, shutRes]
   exact hi
theorem sc_exS (s : State) (hs : SW s) : ExRun L kf cs Inv s := by
 induction s using State.ind with
 | h s ih =>
   intro l h hi
   exact sc_ex1 hL hT s.eqs s.autos hs.eqs hs.es hs.asW (fun a ha x hx => ih a ha x hx (hs.ss a ha x hx)) l h hi
theorem sc_every (n : Node) (hn : NW n) (l : List Expr) (h : List PObj) (hi : Inv l h) : ∃ h', callL L 37 [eNode n, .func kf [] cs] h = some (.tuple [], h') ∧ Inv (l ++ nodeExprs n) h' := by
 suffices H : ∃ r, callL L 37 [eNode n, .func kf [] cs] h = some r ∧ r.1 = .tuple [] ∧ Inv (l ++ nodeExprs n) r.2 by
  obtain ⟨⟨v, h'⟩, h1, h2, h3⟩ := H
  simp only at h2; subst h2
  exact ⟨h', h1, h3⟩
 obtain ⟨h2, hc, hi2⟩ := sc_ex1 hL hT n.eqs n.autos hn.eqs hn.es hn.autos (fun a ha x hx => sc_exS hL hT x (hn.autos.ss a ha x hx)) l h hi
 obtain ⟨hq', hcat⟩ := cat_expr hL n.assume n.ensure (by have := hn.assume; have := hn.ensure; omega) false []
 refine callL_wpP (hL 37 _ rfl) rfl ?_
 simp at hcat
 simp [f_scope_every, hc, hcat]
 obtain ⟨M, hM⟩ : ∃ M, M = n.assume ++ n.ensure := ⟨_, rfl⟩
 have hla : n.assume.map eExpr ++ n.ensure.map eExpr = M.map eExpr := by rw [hM]; simp
 have hli : (n.assume.length : Int) + n.ensure.length = (M.length : Nat) := by rw [hM]; simp
 have hMw : ∀ e ∈ M, XW e := fun e he => by rw [hM] at he; exact (List.mem_append.1 he).elim (hn.as e) (hn.gs e)
 have hMl : M.length ≤ 3000 := by rw [hM]; have := hn.assume; have := hn.ensure; simp; omega
 rw [hla, hli]
 have he : l ++ nodeExprs n = l ++ (n.eqs.map (·.right) ++ rightsA n.autos) ++ M := by rw [hM]; simp [nodeExprs]
 rw [he]
 generalize l ++ (n.eqs.map (·.right) ++ rightsA n.autos) = l2 at *
 rw [f_scope_every_l0]
 refine loop_rel M.length (fun j st => ∃ y3 g h', st = ⟨[eNode n, .func kf [] cs, .loc 0 (eNode n).cells, y3, .list false (M.map eExpr), .int .i64 M.length, .int .i64 j], [], g, h'⟩ ∧ Inv (l2 ++ M.take j) h') ?_ ?_ ⟨_, _, h2, rfl, by simpa using hi2⟩
 ·rintro j hj st ⟨y3, g, h', rfl, hi⟩ ih
  have hwr := wrap_succ j (by omega)
  have hx := hMw _ (List.getElem_mem hj)
  obtain ⟨h2, hc, hi2⟩ := hT.run M[j] _ h' hx.parts hx.ew hi
  simp [hj, hwr, hc]
  exact ih _ ⟨_, _, h2, rfl, by rw [take_snoc hj, ← List.append_assoc]; exact hi2⟩
 ·rintro st ⟨y3, g, h', rfl, hi⟩
  rw [List.take_length] at hi
  simp [endP, resultV, resultsOf, shutRes]
  exact hi
end
end PI.Sc
set_option maxRecDepth 100000
set_option linter.unusedSimpArgs false
set_option linter.unusedVariables false
namespace PI.Sc
open Go (IntKind BinOp UnOp)
open Short
def eNats (l : List Nat) : List PV := l.map fun n : Nat => .int .i64 n
end PI.Sc
set_option maxRecDepth 100000
set_option linter.unusedSimpArgs false
set_option linter.unusedVariables false
namespace PI.Sc
open Go (IntKind BinOp UnOp)
open Short
section
variable {L : Nat → Option PFunc} (hL : ∀ k f, LS k = some f → L k = some f)
include hL
theorem range_inv {V l : List PV} {g : Nat} {h : List PObj} {Q : PExit → St → Prop} {x : PX} {kb : Nat} {caps : List PX} {cs : List PV} (e : Expr) (he : EW e) (hx : rd ⟨V, l, g, h⟩ x = some (.func 114 [] [.cptr (eExpr e).cells])) (hc : rdAll ⟨V, l, g, h⟩ caps = some cs) (hcs : ∀ p ∈ cs, cp p = some p)
  (I : List Expr → List PObj → Prop) (l0 : List Expr) (h0 : I l0 (h ++ [.loop true]))
  (step : ∀ x ∈ e.list, ∀ l h', I l h' → ∃ h'', outL L kb (.ptr h.length 0 :: (cs ++ [eExpr x])) h' = some (.val (.bool true), h'') ∧ I (l ++ [x]) h'')
  (last : ∀ h', I (l0 ++ e.list) h' → h'[h.length]? = some (.loop true) ∧ Q .normal ⟨V, l, g, h'.set h.length .gone⟩) : wpL L (.rangeF x kb caps) ⟨V, l, g, h⟩ Q := by
 obtain ⟨y, hy⟩ : ∃ y : Expr → List PObj → Option (Out × List PObj), ∀ x h', y x h' = match outL L kb (.ptr h.length 0 :: (cs ++ [eExpr x])) h' with
  | some (.val (.bool b), h'') => some (.val (.bool b), h'')
  | _ => none := ⟨_, fun _ _ => rfl⟩
 have key : ∀ (m : List Expr), (∀ x ∈ m, x ∈ e.list) → ∀ l h', I l h' → ∃ h'', eachRun y m h' = some (.val (.bool true), h'') ∧ I (l ++ m) h'' := by
  intro m
  induction m with
  | nil => intro _ l h' hi; exact ⟨h', rfl, by simpa using hi⟩
  | cons z m ih =>
    intro hm l h' hi
    obtain ⟨h2, h3, h4⟩ := step z (hm z (by simp)) l h' hi
    obtain ⟨h5, h6, h7⟩ := ih (fun x hx => hm x (by simp [hx])) _ h2 h4
    refine ⟨h5, ?_, by simpa using h7⟩
    simp only [eachRun, hy, h3]
    exact h6
 obtain ⟨h', h1, h2⟩ := key e.list (fun _ h => h) l0 _ h0
 obtain ⟨h3, h4⟩ := last h' h2
 refine pr_range hL e he hx hc hcs y ?_ ?_ _ h1 ?_
 ·intro x _ h' r hr
  rw [hy] at hr
  split at hr
  ·rename_i ho; rw [ho]; exact hr
  ·simp at hr
 ·intro x h' r hr
  rw [hy] at hr
  split at hr
  ·exact .inl ⟨_, _, (Option.some.inj hr).symm⟩
  ·simp at hr
 ·simp only [overK, h3]; exact h4
end
def CallsH (p : Prog) (n : Nat) (l : List Nat) (h : List PObj) : Prop := h[0]? = some (.cells (eProg p).cells) ∧ ∃ rv, h[1]? = some (.cells [rv]) ∧ ((rv = .list true [] ∧ l = []) ∨ ∃ k, 2 ≤ k ∧ k ≠ n ∧ rv = .rowp k 1 false l.length ∧ h[k]? = some (.cells (eNats l)))
end PI.Sc
set_option maxRecDepth 100000
set_option linter.unusedSimpArgs false
set_option linter.unusedVariables false
namespace PI.Sc
open Go (IntKind BinOp UnOp)
open Short
section
variable {L : Nat → Option PFunc}
def roundBP (n : Nat) (P : Out × List PObj → Prop) : PExit → St → Prop
 | .normal, st => st.heap[n]? = some (.loop false) ∧ P (.val (.bool true), st.heap.set n (.loop true))
 | .boom v, st => P (.boom v, st.heap)
 | .exit id, st => st.heap[n]? = some (.loop false) ∧ P (.val (.bool false), st.heap.set n (.over (some id)))
 | .ret, st => st.heap[n]? = some (.loop false) ∧ P (.val (.bool false), st.heap.set n (.over none))
 | .after .., _ => False
@[simp] theorem roundBP_normal {V l : List PV} {g : Nat} {h : List PObj} (n : Nat) (P : Out × List PObj → Prop) : roundBP n P .normal ⟨V, l, g, h⟩ = (h[n]? = some (.loop false) ∧ P (.val (.bool true), h.set n (.loop true))) := rfl
@[simp] theorem roundBP_boom {V l : List PV} {g : Nat} {h : List PObj} (n : Nat) (P : Out × List PObj → Prop) (v : PV) : roundBP n P (.boom v) ⟨V, l, g, h⟩ = P (.boom v, h) := rfl
def roundAP (L : Nat → Option PFunc) (b : PC) (n : Nat) (P : Out × List PObj → Prop) : PExit → St → Prop
 | .normal, st => st.heap[n]? = some (.loop true) ∧ wpL L b { st with heap := st.heap.set n (.loop false) } (roundBP n P)
 | _, _ => False
@[simp] theorem roundAP_normal {V l : List PV} {g : Nat} {h : List PObj} (b : PC) (n : Nat) (P : Out × List PObj → Prop) : roundAP L b n P .normal ⟨V, l, g, h⟩ = (h[n]? = some (.loop true) ∧ wpL L b ⟨V, l, g, h.set n (.loop false)⟩ (roundBP n P)) := rfl
theorem outL_roundP {k : Nat} {f : PFunc} {a b : PC} {n : Nat} {as : List PV} {hp : List PObj} {P : Out × List PObj → Prop} (hf : L k = some f) (hcode : f.code = .round a b) (hl : as.length + 1 = f.params) (hn : hp[n]? = some (.loop true))
  (hw : wpL L a ⟨as.map dem ++ List.replicate (f.nv - as.length) .dead, [], 0, hp⟩ (roundAP L b n P)) (hs : f.split = false := by rfl) (hpr : f.prim = none := by rfl) : ∃ r, outL L k (.ptr n 0 :: as) hp = some r ∧ P r := by
 rw [wpL_iff] at hw
 obtain ⟨e, st, h1, h2⟩ := hw
 have key : ∀ r, runRound (fun c st => evL L c st) f.nv a b (.ptr n 0 :: as) hp = some r → outL L k (.ptr n 0 :: as) hp = some r := by
  intro r hr
  refine outL_of hf (by simpa using hl) ?_ hs hpr
  unfold runOut
  rw [hcode]
  exact hr
 cases e with
 | normal =>
   obtain ⟨h3, h4⟩ := h2
   rw [wpL_iff] at h4
   obtain ⟨e2, st2, h5, h6⟩ := h4
   cases e2 with
   | normal => exact ⟨_, key _ (by simp only [runRound, hn, h1, h3, h5, h6.1]), h6.2⟩
   | boom v => exact ⟨_, key _ (by simp only [runRound, hn, h1, h3, h5]), h6⟩
   | exit id => exact ⟨_, key _ (by simp only [runRound, hn, h1, h3, h5, h6.1]), h6.2⟩
   | ret => exact ⟨_, key _ (by simp only [runRound, hn, h1, h3, h5, h6.1]), h6.2⟩
   | after kd cs v => exact h6.elim
 | exit id => exact h2.elim
 | ret => exact h2.elim
 | boom v => exact h2.elim
 | after kd cs v => exact h2.elim
end
theorem CallsH.gone {p : Prog} {n : Nat} {l : List Nat} {h : List PObj} (hh : CallsH p n l h) (hn : 2 ≤ n) : CallsH p (h.set n .gone).length l (h.set n .gone) := by
 obtain ⟨h0, rv, h1, hr⟩ := hh
 refine ⟨by rw [List.getElem?_set_ne (by omega)]; exact h0, rv, by rw [List.getElem?_set_ne (by omega)]; exact h1, ?_⟩
 rcases hr with h | ⟨k, e1, e2, e3, e4⟩
 ·exact .inl h
 ·have := (List.getElem?_eq_some_iff.1 e4).1
  exact .inr ⟨k, e1, by simp; omega, e3, by rw [List.getElem?_set_ne (Ne.symm e2)]; exact e4⟩
theorem CallsH.loop {p : Prog} {l : List Nat} {h : List PObj} (hh : CallsH p h.length l h) : CallsH p h.length l (h ++ [.loop true]) := by
 obtain ⟨h0, rv, h1, hr⟩ := hh
 have b0 := (List.getElem?_eq_some_iff.1 h0).1
 have b1 := (List.getElem?_eq_some_iff.1 h1).1
 refine ⟨by rw [List.getElem?_append_left b0]; exact h0, rv, by rw [List.getElem?_append_left b1]; exact h1, ?_⟩
 rcases hr with h | ⟨k, e1, e2, e3, e4⟩
 ·exact .inl h
 ·have := (List.getElem?_eq_some_iff.1 e4).1
  exact .inr ⟨k, e1, e2, e3, by rw [List.getElem?_append_left this]; exact e4⟩
theorem CallsH.push {p : Prog} {n m q : Nat} {l : List Nat} {H : List PObj} {vs : List PV} (hn2 : 2 ≤ n) (hm : m = H.length) (hq : q = l.length) (hv : vs = eNats l) (h0 : H[0]? = some (.cells (eProg p).cells)) (hn : H[n]? = some (.loop false)) :
  ((H ++ [PObj.cells vs]).set 1 (PObj.cells [.rowp m 1 false q]))[n]? = some (.loop false) ∧ CallsH p n l (((H ++ [PObj.cells vs]).set 1 (PObj.cells [.rowp m 1 false q])).set n (.loop true)) ∧ (((H ++ [PObj.cells vs]).set 1 (PObj.cells [.rowp m 1 false q])).set n (.loop true))[n]? = some (.loop true) := by
 subst hm hq hv
 have hlt := (List.getElem?_eq_some_iff.1 hn).1
 refine ⟨?_, ⟨?_, _, ?_, .inr ⟨H.length, by omega, by omega, rfl, ?_⟩⟩, ?_⟩
 ·rw [List.getElem?_set_ne (by omega), List.getElem?_append_left hlt]; exact hn
 ·rw [List.getElem?_set_ne (by omega), List.getElem?_set_ne (by omega), List.getElem?_append_left (by omega)]; exact h0
 ·rw [List.getElem?_set_ne (by omega), List.getElem?_set_self (by simp; omega)]
 ·rw [List.getElem?_set_ne (by omega), List.getElem?_set_ne (by omega), List.getElem?_append_right (Nat.le_refl _)]; simp
 ·rw [List.getElem?_set_self (by simp; omega)]
end PI.Sc
set_option maxRecDepth 100000
set_option linter.unusedSimpArgs false
set_option linter.unusedVariables false
namespace PI.Sc
open Go (IntKind BinOp UnOp)
open Short
structure KN (h : List PObj) (S : List Str) : Prop where
 map : ∃ l, h[0]? = some (.map (bmE l)) ∧ ∀ x, x ∈ l ↔ x ∈ S
 box : h[1]? = some (.cells [.map (some 0)])
theorem KN.congr {h : List PObj} {S T : List Str} (k : KN h S) (he : ∀ x, x ∈ S ↔ x ∈ T) : KN h T := by
 obtain ⟨⟨l, h0, hm⟩, h1⟩ := k
 exact ⟨⟨l, h0, fun x => (hm x).trans (he x)⟩, h1⟩
theorem KN.add {h : List PObj} {S : List Str} (k : KN h S) (x : Str) : ∃ l r, h[0]? = some (.map (bmE l)) ∧ mfind false [.s] (.str x) (bmE l) 0 = some r ∧ KN (h.set 0 (.map (entered (bmE l) (.str x) (.bool true) r))) (S ++ [x]) := by
 obtain ⟨⟨l, h0, hm⟩, h1⟩ := k
 obtain ⟨r, hr, _, he⟩ := find_bm x l
 have hlt := (List.getElem?_eq_some_iff.1 h0).1
 refine ⟨l, r, h0, hr, ⟨⟨putB l x, by rw [he, List.getElem?_set_self hlt], fun y => ?_⟩, by rw [List.getElem?_set_ne (by decide)]; exact h1⟩⟩
 rw [mem_putB, hm, List.mem_append, List.mem_singleton]
def gathered (l : List Decl) : List Str := l.flatMap fun d => d.name :: d.clock.map (·.name)
theorem mem_gathered (l : List Decl) (x : Str) : x ∈ gathered l ↔ x ∈ declaredN l := by
 simp only [gathered, declaredN, dnames, List.mem_flatMap, List.mem_append, List.mem_map, List.mem_cons]
 constructor
 ·rintro ⟨d, hd, rfl | ⟨o, ho, rfl⟩⟩
  ·exact .inl ⟨d, hd, rfl⟩
  ·exact .inr ⟨d, hd, o, ho, rfl⟩
 ·rintro (⟨d, hd, rfl⟩ | ⟨d, hd, o, ho, rfl⟩)
  ·exact ⟨d, hd, .inl rfl⟩
  ·exact ⟨d, hd, .inr ⟨o, ho, rfl⟩⟩
section
variable {L : Nat → Option PFunc} (hL : ∀ k f, LS k = some f → L k = some f)
include hL
theorem sc_gather (l : List Decl) (hl : l.length ≤ 4500) (hcl : ∀ d ∈ l, d.clock.length ≤ 1500) (o : Bool) (S : List Str) (h : List PObj) (hk : KN h S) : ∃ h', callL L 86 [.map (some 0), .list o (l.map eDecl)] h = some (.tuple [], h') ∧ KN h' (S ++ gathered l) := by
 suffices H : ∃ r, callL L 86 [.map (some 0), .list o (l.map eDecl)] h = some r ∧ r.1 = .tuple [] ∧ KN r.2 (S ++ gathered l) by
  obtain ⟨⟨v, h'⟩, h1, h2, h3⟩ := H
  simp only at h2; subst h2
  exact ⟨h', h1, h3⟩
 refine callL_wpP (hL 86 _ rfl) rfl ?_
 simp [f_scope_gather]
 rw [f_scope_gather_l1]
 refine loop_rel l.length (fun j st => ∃ y2 y3 y7 y8 y9 g h', st = ⟨[.map (some 0), .list false (l.map eDecl), y2, y3, .list false (l.map eDecl), .int .i64 l.length, .int .i64 j, y7, y8, y9], [], g, h'⟩ ∧ KN h' (S ++ gathered (l.take j))) ?_ ?_ ⟨_, _, _, _, _, _, h, rfl, by simpa [gathered] using hk⟩
 ·rintro j hj st ⟨y2, y3, y7, y8, y9, g, h', rfl, hk⟩ ih
  have hw := wrap_succ j (by omega)
  have hcj := hcl _ (List.getElem_mem hj)
  obtain ⟨m, r, h0, hr, hk2⟩ := hk.add l[j].name
  simp [hj, h0, hr, mget]
  rw [f_scope_gather_l0]
  refine loop_rel l[j].clock.length (fun i st => ∃ y3 g1 g h', st = ⟨[.map (some 0), .list false (l.map eDecl), .loc g1 (eDecl l[j]).cells, y3, .list false (l.map eDecl), .int .i64 l.length, .int .i64 j, .list false (l[j].clock.map eOn), .int .i64 l[j].clock.length, .int .i64 i], [], g, h'⟩ ∧ KN h' (S ++ gathered (l.take j) ++ l[j].name :: (l[j].clock.take i).map (·.name))) ?_ ?_ ⟨_, _, _, _, rfl, by simpa using hk2⟩
  ·rintro i hi st ⟨y3, g1, g, h', rfl, hk⟩ ih2
   have hwi := wrap_succ i (by omega)
   obtain ⟨m, r, h0, hr, hk2⟩ := hk.add l[j].clock[i].name
   simp [hj, hi, h0, hr, mget, hwi]
   have e : S ++ gathered (l.take j) ++ l[j].name :: (l[j].clock.take (i + 1)).map (·.name) = S ++ gathered (l.take j) ++ l[j].name :: (l[j].clock.take i).map (·.name) ++ [l[j].clock[i].name] := by
    rw [take_snoc hi, List.map_append, List.append_assoc (S ++ gathered (l.take j))]; rfl
   exact ih2 _ ⟨_, _, _, _, rfl, by rw [e]; exact hk2⟩
  ·rintro st ⟨y3, g1, g, h', rfl, hk⟩
   rw [List.take_length] at hk
   simp [hw]
   have e : gathered (l.take (j + 1)) = gathered (l.take j) ++ l[j].name :: l[j].clock.map (·.name) := by unfold gathered; rw [take_snoc hj, List.flatMap_append, List.flatMap_singleton]
   exact ih _ ⟨_, _, _, _, _, _, h', rfl, by rw [e, ← List.append_assoc]; exact hk⟩
 ·rintro st ⟨y2, y3, y7, y8, y9, g, h', rfl, hk⟩
  rw [List.take_length] at hk
  simp [endP, resultV, resultsOf, shutRes]
  exact hk
def StatesRun (L : Nat → Option PFunc) (s : State) : Prop := ∀ S h, KN h S → ∃ h', callL L 87 [.map (some 0), .list false (s.eqs.map eEqn), .list false (s.autos.map eAuto)] h = some (.tuple [], h') ∧ KN h' (S ++ (s.eqs.flatMap (·.left) ++ insideA s.autos))
theorem sc_names1 (eqs : List Eqn) (autos : List (List State)) (hq : eqs.length ≤ 1500) (hql : ∀ q ∈ eqs, q.left.length ≤ 1500) (ha : AsW autos) (hrec : ∀ a ∈ autos, ∀ x ∈ a, StatesRun L x) (S : List Str) (h : List PObj) (hk : KN h S) :
  ∃ h', callL L 87 [.map (some 0), .list false (eqs.map eEqn), .list false (autos.map eAuto)] h = some (.tuple [], h') ∧ KN h' (S ++ (eqs.flatMap (·.left) ++ insideA autos)) := by
 suffices H : ∃ r, callL L 87 [.map (some 0), .list false (eqs.map eEqn), .list false (autos.map eAuto)] h = some r ∧ r.1 = .tuple [] ∧ KN r.2 (S ++ (eqs.flatMap (·.left) ++ insideA autos)) by
  obtain ⟨⟨v, h'⟩, h1, h2, h3⟩ := H
  simp only at h2; subst h2
  exact ⟨h', h1, h3⟩
 refine callL_wpP (hL 87 _ rfl) rfl ?_
 simp [f_scope_states]
 rw [f_scope_states_l1]
 refine loop_rel eqs.length (fun j st => ∃ y3 y4 y10 y11 y12 g h', st = ⟨[.map (some 0), .list false (eqs.map eEqn), .list false (autos.map eAuto), y3, y4, .dead, .dead, .list false (eqs.map eEqn), .int .i64 eqs.length, .int .i64 j, y10, y11, y12, .dead, .dead, .dead, .dead, .dead, .dead], [], g, h'⟩ ∧ KN h' (S ++ (eqs.take j).flatMap (·.left))) ?_ ?_ ⟨_, _, _, _, _, _, h, rfl, by simpa using hk⟩
 ·rintro j hj st ⟨y3, y4, y10, y11, y12, g, h', rfl, hk⟩ ih
  have hw := wrap_succ j (by omega)
  have hlj := hql _ (List.getElem_mem hj)
  simp [hj]
  rw [f_scope_states_l0]
  refine loop_rel eqs[j].left.length (fun i st => ∃ y4 g1 g h', st = ⟨[.map (some 0), .list false (eqs.map eEqn), .list false (autos.map eAuto), .loc g1 (eEqn eqs[j]).cells, y4, .dead, .dead, .list false (eqs.map eEqn), .int .i64 eqs.length, .int .i64 j, .list false (eqs[j].left.map .str), .int .i64 eqs[j].left.length, .int .i64 i, .dead, .dead, .dead, .dead, .dead, .dead], [], g, h'⟩ ∧ KN h' (S ++ (eqs.take j).flatMap (·.left) ++ eqs[j].left.take i)) ?_ ?_ ⟨_, _, _, h', rfl, by simpa using hk⟩
  ·rintro i hi st ⟨y4, g1, g, h', rfl, hk⟩ ih2
   have hwi := wrap_succ i (by omega)
   obtain ⟨m, r, h0, hr, hk2⟩ := hk.add eqs[j].left[i]
   simp [hj, hi, h0, hr, mget, hwi]
   exact ih2 _ ⟨_, _, _, _, rfl, by rw [take_snoc hi, ← List.append_assoc]; exact hk2⟩
  ·rintro st ⟨y4, g1, g, h', rfl, hk⟩
   rw [List.take_length] at hk
   simp [hw]
   exact ih _ ⟨_, _, _, _, _, _, h', rfl, by rw [flatLeft_take hj, ← List.append_assoc]; exact hk⟩
 ·rintro st ⟨y3, y4, y10, y11, y12, g, h', rfl, hk⟩
  rw [List.take_length] at hk
  simp
  rw [f_scope_states_l3]
  refine loop_rel autos.length (fun j st => ∃ acc y5 y6 y16 y17 y18 g h', st = ⟨[.map (some 0), .list false (eqs.map eEqn), .list false (autos.map eAuto), y3, y4, y5, y6, .list false (eqs.map eEqn), .int .i64 eqs.length, .int .i64 eqs.length, y10, y11, y12, .list false (autos.map eAuto), .int .i64 autos.length, .int .i64 j, y16, y17, y18], [], g, h'⟩ ∧ KN h' acc ∧ ∀ x, x ∈ acc ++ insideA (autos.drop j) ↔ x ∈ S ++ (eqs.flatMap (·.left) ++ insideA autos)) ?_ ?_ ⟨_, _, _, _, _, _, _, h', rfl, hk, by simp⟩
  ·rintro j hj st ⟨acc, y5, y6, y16, y17, y18, g, h', rfl, hk, hd⟩ ih
   have hwr := wrap_succ j (by have := ha.len; omega)
   rw [List.drop_eq_getElem_cons hj] at hd
   have hmem := List.getElem_mem hj
   have hal := ha.as _ hmem
   have hss := ha.ss _ hmem
   have hre := hrec _ hmem
   simp only [insideA] at hd
   simp [hj]
   rw [f_scope_states_l2]
   refine loop_rel autos[j].length (fun i st => ∃ acc y6 g1 g h', st = ⟨[.map (some 0), .list false (eqs.map eEqn), .list false (autos.map eAuto), y3, y4, .loc g1 (eAuto autos[j]).cells, y6, .list false (eqs.map eEqn), .int .i64 eqs.length, .int .i64 eqs.length, y10, y11, y12, .list false (autos.map eAuto), .int .i64 autos.length, .int .i64 j, .list false (autos[j].map eState), .int .i64 autos[j].length, .int .i64 i], [], g, h'⟩ ∧ KN h' acc ∧ ∀ x, x ∈ acc ++ (insideL (autos[j].drop i) ++ insideA (autos.drop (j + 1))) ↔ x ∈ S ++ (eqs.flatMap (·.left) ++ insideA autos)) ?_ ?_ ⟨acc, _, _, _, h', rfl, hk, by simpa using hd⟩
   ·rintro i hi st ⟨acc, y6, g1, g, h', rfl, hk, hd⟩ ih2
    have hwi := wrap_succ i (by omega)
    rw [List.drop_eq_getElem_cons hi] at hd
    obtain ⟨x, hx⟩ : ∃ x, x = autos[j][i] := ⟨_, rfl⟩
    have hsw := hss _ (List.getElem_mem hi)
    have hxr := hre _ (List.getElem_mem hi)
    rw [← hx] at hd hsw hxr
    simp only [insideL, insideS_eq] at hd
    obtain ⟨m, r, h0, hr, hk2⟩ := hk.add x.name
    obtain ⟨h3, c3, k3⟩ := sc_gather hL x.locals (by have := hsw.locals; omega) (fun d hd => (hsw.ls d hd).clock) false _ _ hk2
    obtain ⟨h4, c4, k4⟩ := hxr _ _ k3
    simp [hj, hi, ← hx, h0, hr, mget, c3, c4, hwi]
    refine ih2 _ ⟨_, _, _, _, h4, rfl, k4, fun y => ?_⟩
    have := hd y
    simp only [List.mem_append, List.mem_cons, List.mem_singleton, mem_gathered] at this ⊢
    rw [← this]
    simp only [or_assoc, List.not_mem_nil, or_false, false_or]
   ·rintro st ⟨acc, y6, g1, g, h', rfl, hk, hd⟩
    rw [List.drop_eq_nil_of_le (Nat.le_refl _)] at hd
    simp only [insideL, List.nil_append] at hd
    simp [hj, hwr]
    exact ih _ ⟨acc, _, _, _, _, _, _, h', rfl, hk, hd⟩
  ·rintro st ⟨acc, y5, y6, y16, y17, y18, g, h', rfl, hk, hd⟩
   rw [List.drop_eq_nil_of_le (Nat.le_refl _)] at hd
   simp only [insideA, List.append_nil] at hd
   simp [endP, resultV, resultsOf, shutRes]
   exact hk.congr hd
theorem sc_namesS (s : State) (hs : SW s) : StatesRun L s := by
 induction s using State.ind with
 | h s ih =>
   intro S h hk
   exact sc_names1 hL s.eqs s.autos hs.eqs (fun q hq => (hs.es q hq).left) hs.asW (fun a ha x hx => ih a ha x hx (hs.ss a ha x hx)) S h hk
end
end PI.Sc
set_option maxRecDepth 100000
set_option linter.unusedSimpArgs false
set_option linter.unusedVariables false
namespace PI.Sc
open Go (IntKind BinOp UnOp)
open Short
section
variable {L : Nat → Option PFunc} (hL : ∀ k f, LS k = some f → L k = some f)
include hL
theorem sc_clone (l : List On) (hl : l.length ≤ 1500) (o : Bool) (h : List PObj) : ∃ r, callL L 34 [.list o (l.map eOn)] h = some (.list r (l.map eOn), h) := by
 refine ⟨true, ?_⟩
 refine callL_split (hL 34 _ rfl) rfl rfl ?_ ?_
 ·intro hv
  cases l with
  | nil => simp at hv
  | cons x l =>
    rw [List.length_cons] at hl
    have h1 : l.length + 1 ≤ 9223372036854775807 := by omega
    have h2 : (l.length + 1) * 32 ≤ 140737488355328 := by omega
    have h3 : l.length + 1 ≤ 2147483648 := by omega
    simp [f_slices_Clone_api_On, h1, h2, h3]
 ·intro hv
  cases l with
  | nil => simp [f_slices_Clone_api_On]
  | cons x l => simp at hv
end
end PI.Sc
set_option maxRecDepth 100000
set_option linter.unusedSimpArgs false
set_option linter.unusedVariables false
namespace PI.Sc
open Go (IntKind BinOp UnOp)
open Short
section
variable {L : Nat → Option PFunc} (hL : ∀ k f, LS k = some f → L k = some f)
include hL
theorem sc_concat (gs : List (List Decl)) (hg : gs.length ≤ 1500) (hn : countL gs ≤ 4500) (o : Bool) (h : List PObj) : ∃ v h', callL L 33 [.list o (eLists eDecl gs)] h = some (v, h') ∧ Kp h.length h h' ∧ RowOf eDecl 3 h' h.length v gs.flatten :=
 cat_keep encDecl (by decide) (k := 33) (by' := 48) (gr := 74) (hL 33 _ rfl) (hL 74 _ rfl) gs hg hn o h
theorem row_at (l : List Decl) (cs : List PV) (hc : cs.take (l.length * 3) = (l.map eDecl).flatMap PV.cells) (hl : l.length * 3 ≤ cs.length) (j : Nat) (hj : j < l.length) :
  j * 3 + 3 ≤ cs.length ∧ List.map dem (List.take 3 (List.drop (j * 3) cs)) = [.str l[j].name, .int .i64 l[j].type, .list false (l[j].clock.map eOn)] ∧ cs.set (j * 3 + 2) (.list false (l[j].clock.map eOn)) = cs := by
 have _ := hL
 have he := encDecl.els l cs hc
 obtain ⟨_, hg⟩ := rowEls_get he
 have h1 := hg j (eDecl l[j]) (by simp [hj])
 simp only [Nat.zero_add, loadFrom, if_true] at h1
 have hb : j * 3 + 3 ≤ cs.length := by omega
 rw [if_pos hb, eDecl_def] at h1
 simp only [Option.some.injEq, PV.agg.injEq] at h1
 refine ⟨hb, h1, ?_⟩
 have hlt : j * 3 + 2 < cs.length := by omega
 have hx : cs[j * 3 + 2]? = some (.list false (l[j].clock.map eOn)) := by
  have hflat : ∀ (l : List Decl) (j : Nat) (hj : j < l.length), ((l.map eDecl).flatMap PV.cells)[j * 3 + 2]? = some (.list false (l[j].clock.map eOn)) := by
   intro l
   induction l with
   | nil => intro j hj; simp at hj
   | cons x l ih =>
     intro j hj
     rw [List.map_cons, List.flatMap_cons]
     cases j with
     | zero => rfl
     | succ j =>
       have := ih j (by simpa using hj)
       have e : (j + 1) * 3 + 2 = (eDecl x).cells.length + (j * 3 + 2) := by show _ = 3 + _; omega
       rw [e, List.getElem?_append_right (by omega), Nat.add_sub_cancel_left]
       simpa using this
  have := hflat l j hj
  rw [← hc, List.getElem?_take_of_lt (by omega)] at this
  exact this
 obtain ⟨h2, h3⟩ := List.getElem?_eq_some_iff.1 hx
 rw [← h3]; exact List.set_getElem_self h2
theorem sc_vars (n : Node) (h1 : n.ins.length ≤ 1500) (h2 : n.outs.length ≤ 1500) (h3 : n.locals.length ≤ 1500) (hd : ∀ d ∈ vars n, d.clock.length ≤ 1500) : ∃ h', callL L 11 [eNode n] [] = some (.list false ((vars n).map eDecl), h') := by
 suffices H : ∃ r, callL L 11 [eNode n] [] = some r ∧ r.1 = .list false ((vars n).map eDecl) by
  obtain ⟨⟨v, h'⟩, h1, h2⟩ := H
  simp only at h2; subst h2
  exact ⟨h', h1⟩
 obtain ⟨v, h', hc, _, hr⟩ := sc_concat hL [n.ins, n.outs, n.locals] (by simp) (by simp [countL, total]; omega) false []
 have hf : [n.ins, n.outs, n.locals].flatten = vars n := by simp [vars]
 rw [hf] at hr
 have hx : eLists eDecl [n.ins, n.outs, n.locals] = [.list false (n.ins.map eDecl), .list false (n.outs.map eDecl), .list false (n.locals.map eDecl)] := rfl
 rw [hx] at hc
 have hvl : (vars n).length ≤ 4500 := by simp [vars]; omega
 obtain ⟨D, hD⟩ : ∃ D, D = vars n := ⟨_, rfl⟩
 rw [← hD] at hr hd hvl ⊢
 refine callL_wpP (hL 11 _ rfl) rfl ?_
 rcases hr with ⟨rfl, rfl⟩ | ⟨k, cs, _, rfl, hk, hl, ht⟩
 ·simp [f_scope_Vars, hc]
  rw [f_scope_Vars_l0, wpL_loop]
  simp [endP]
 ·simp [f_scope_Vars, hc]
  rw [f_scope_Vars_l0]
  refine loop_rel D.length (fun j st => ∃ y4 y5 g, st = ⟨[eNode n, .loc 0 (eNode n).cells, .list true [], .rowp k 3 true D.length, y4, y5, .rowp k 3 true D.length, .int .i64 D.length, .int .i64 j], [], g, h'⟩) ?_ ?_ ⟨_, _, _, rfl⟩
  ·rintro j hj st ⟨y4, y5, g, rfl⟩ ih
   have hw := wrap_succ j (by omega)
   obtain ⟨r1, r2, r3⟩ := row_at hL D cs ht hl j hj
   obtain ⟨o, hcl⟩ := sc_clone hL D[j].clock (hd _ (List.getElem_mem hj)) false []
   have hset : h'.set k (.cells cs) = h' := set_back hk
   have r4 : j * 3 + 2 < cs.length := by omega
   simp [hj, hw, hk, r1, r2, r3, r4, hcl, hset]
   exact ih _ ⟨_, _, _, rfl⟩
  ·rintro st ⟨y4, y5, g, rfl⟩
   simp [endP, hk, encDecl.els _ _ ht]
end
end PI.Sc
set_option maxRecDepth 100000
set_option linter.unusedSimpArgs false
set_option linter.unusedVariables false
namespace PI.Sc
open Go (IntKind BinOp UnOp)
open Short
theorem KN.gone {n : Nat} {S : List Str} {h : List PObj} (hk : KN h S) (hn : 2 ≤ n) (o : PObj) : KN (h.set n o) S := by
 obtain ⟨⟨l, h0, hm⟩, h1⟩ := hk
 exact ⟨⟨l, by rw [List.getElem?_set_ne (by omega)]; exact h0, hm⟩, by rw [List.getElem?_set_ne (by omega)]; exact h1⟩
theorem KN.loop {S : List Str} {h : List PObj} (hk : KN h S) (o : PObj) : KN (h ++ [o]) S := by
 obtain ⟨⟨l, h0, hm⟩, h1⟩ := hk
 have b0 := (List.getElem?_eq_some_iff.1 h0).1
 have b1 := (List.getElem?_eq_some_iff.1 h1).1
 exact ⟨⟨l, by rw [List.getElem?_append_left b0]; exact h0, hm⟩, by rw [List.getElem?_append_left b1]; exact h1⟩
section
variable {L : Nat → Option PFunc} (hL : ∀ k f, LS k = some f → L k = some f)
include hL
theorem sc_nameRound (n : Nat) (hn2 : 2 ≤ n) (x : Expr) (S : List Str) (h : List PObj) (hk : KN h S) (hlp : h[n]? = some (.loop true)) :
  ∃ h', outL L 188 [.ptr n 0, .ptr 1 0, eExpr x] h = some (.val (.bool true), h') ∧ KN h' (S ++ namesIn [x]) ∧ h'[n]? = some (.loop true) := by
 suffices H : ∃ r, outL L 188 [.ptr n 0, .ptr 1 0, eExpr x] h = some r ∧ r.1 = .val (.bool true) ∧ KN r.2 (S ++ namesIn [x]) ∧ r.2[n]? = some (.loop true) by
  obtain ⟨⟨v, h'⟩, h1, h2, h3⟩ := H
  simp only at h2; subst h2
  exact ⟨h', h1, h3⟩
 have hlt := (List.getElem?_eq_some_iff.1 hlp).1
 refine outL_roundP (as := [.ptr 1 0, eExpr x]) (hL 188 _ rfl) rfl rfl hlp ?_
 have HK := hk.gone hn2 (.loop false)
 obtain ⟨H, hH⟩ : ∃ H, H = h.set n (.loop false) := ⟨_, rfl⟩
 rw [← hH] at HK
 have Hn : H[n]? = some (.loop false) := by rw [hH, List.getElem?_set_self hlt]
 have Hl : n < H.length := by rw [hH]; simpa using hlt
 have same : KN (H.set n (.loop true)) S ∧ (H.set n (.loop true))[n]? = some (.loop true) := ⟨HK.gone hn2 _, by rw [List.getElem?_set_self Hl]⟩
 have hcn : counts x.kind = !decide (x.kind = 1 ∨ x.kind = 3 ∨ x.kind = 4 ∨ x.kind = 5 ∨ x.kind = 6 ∨ x.kind = 7 ∨ x.kind = 11) := rfl
 by_cases hc : counts x.kind = true
 ·have hc' := hc
  rw [hcn] at hc'
  simp only [Bool.not_eq_true', decide_eq_false_iff_not] at hc'
  have c1 : ¬ x.kind = 1 := by omega
  have c3 : ¬ x.kind = 3 := by omega
  have c4 : ¬ x.kind = 4 := by omega
  have c5 : ¬ x.kind = 5 := by omega
  have c6 : ¬ x.kind = 6 := by omega
  have c7 : ¬ x.kind = 7 := by omega
  have c11 : ¬ x.kind = 11 := by omega
  have hnm : namesIn [x] = [x.name] := by simp [namesIn, hc]
  rw [hnm]
  obtain ⟨m, r, h0, hr, hk2⟩ := HK.add x.name
  have h1 := HK.box
  have e1 : ∀ o, (H.set 0 o)[n]? = some (.loop false) := fun o => by rw [List.getElem?_set_ne (by omega)]; exact Hn
  simp [f_scope_known_1_0, hlp, ← hH, c1, c3, c4, c5, c6, c7, c11, h0, h1, hr, mget, e1]
  exact ⟨hk2.gone hn2 _, by simp [Hl]⟩
 ·have hc' := hc
  rw [hcn] at hc'
  simp only [Bool.not_eq_true', decide_eq_false_iff_not, Classical.not_not] at hc'
  have hnm : namesIn [x] = [] := by simp [namesIn, hc]
  rw [hnm, List.append_nil]
  by_cases c1 : x.kind = 1
  ·simp [f_scope_known_1_0, hlp, ← hH, c1, Hn]
   exact same
  by_cases c3 : x.kind = 3
  ·simp [f_scope_known_1_0, hlp, ← hH, c3, Hn]
   exact same
  by_cases c4 : x.kind = 4
  ·simp [f_scope_known_1_0, hlp, ← hH, c4, Hn]
   exact same
  by_cases c5 : x.kind = 5
  ·simp [f_scope_known_1_0, hlp, ← hH, c5, Hn]
   exact same
  by_cases c6 : x.kind = 6
  ·simp [f_scope_known_1_0, hlp, ← hH, c6, Hn]
   exact same
  by_cases c7 : x.kind = 7
  ·simp [f_scope_known_1_0, hlp, ← hH, c7, Hn]
   exact same
  have c11 : x.kind = 11 := by omega
  simp [f_scope_known_1_0, hlp, ← hH, c11, Hn]
  exact same
theorem sc_nameOne (e : Expr) (he : EW e) (S : List Str) (h : List PObj) (hk : KN h S) : ∃ h', callL L 88 [eExpr e, .ptr 1 0] h = some (.tuple [], h') ∧ KN h' (S ++ exprNames e) := by
 suffices H : ∃ r, callL L 88 [eExpr e, .ptr 1 0] h = some r ∧ r.1 = .tuple [] ∧ KN r.2 (S ++ exprNames e) by
  obtain ⟨⟨v, h'⟩, h1, h2, h3⟩ := H
  simp only at h2; subst h2
  exact ⟨h', h1, h3⟩
 have b1 := (List.getElem?_eq_some_iff.1 hk.box).1
 have hE := pr_Each hL e h
 refine callL_wpP (hL 88 _ rfl) rfl ?_
 simp [f_scope_known_1, hE]
 refine range_inv hL e he (cs := [.ptr 1 0]) (by simp) (by simp) (by simp) (fun m h' => KN h' (S ++ namesIn m) ∧ h'[h.length]? = some (.loop true)) [] ⟨by simpa [namesIn] using hk.loop _, by simp⟩ ?_ ?_
 ·rintro x hx m h' ⟨h1, h2⟩
  obtain ⟨h3, h4, h5, h6⟩ := sc_nameRound hL h.length (by omega) x _ h' h1 h2
  exact ⟨h3, h4, by rw [namesIn_app, ← List.append_assoc]; exact h5, h6⟩
 ·rintro h' ⟨h1, h2⟩
  refine ⟨h2, ?_⟩
  simp [endP, resultV, resultsOf, shutRes]
  exact h1.gone (by omega) _
theorem sc_known (p : Prog) (hw : PW p) : ∃ h', callL L 43 [eProg p] [] = some (.map (some 0), h') ∧ KN h' (allNames p) := by
 suffices H : ∃ r, callL L 43 [eProg p] [] = some r ∧ r.1 = .map (some 0) ∧ KN r.2 (allNames p) by
  obtain ⟨⟨v, h'⟩, h1, h2, h3⟩ := H
  simp only at h2; subst h2
  exact ⟨h', h1, h3⟩
 refine callL_wpP (hL 43 _ rfl) rfl ?_
 have hcm : (PV.map none).cells = [.map none] := rfl
 simp [f_scope_known, hcm]
 rw [f_scope_known_l1]
 refine loop_rel p.enums.length (fun j st => ∃ y4 y5 y10 y11 y12 g h', st = ⟨[eProg p, .loc 0 (eProg p).cells, .map none, .ptr 1 0, y4, y5, .dead, .list false (p.enums.map eEnum), .int .i64 p.enums.length, .int .i64 j, y10, y11, y12, .dead, .dead, .dead], [], g, h'⟩ ∧ KN h' ((p.enums.take j).flatMap fun u => u.name :: u.tags)) ?_ ?_ ⟨_, _, _, _, _, _, [.map [], .cells [.map (some 0)]], rfl, ⟨⟨[], rfl, by simp⟩, rfl⟩⟩
 ·rintro j hj st ⟨y4, y5, y10, y11, y12, g, h', rfl, hk⟩ ih
  have hwr := wrap_succ j (by have := hw.enums; omega)
  have htl := hw.tags _ (List.getElem_mem hj)
  obtain ⟨m, r, h0, hr, hk2⟩ := hk.add p.enums[j].name
  have h1 := hk.box
  simp [hj, h0, h1, hr, mget]
  rw [f_scope_known_l0]
  refine loop_rel p.enums[j].tags.length (fun i st => ∃ y5 g1 g h', st = ⟨[eProg p, .loc 0 (eProg p).cells, .map none, .ptr 1 0, .loc g1 (eEnum p.enums[j]).cells, y5, .dead, .list false (p.enums.map eEnum), .int .i64 p.enums.length, .int .i64 j, .list false (p.enums[j].tags.map .str), .int .i64 p.enums[j].tags.length, .int .i64 i, .dead, .dead, .dead], [], g, h'⟩ ∧ KN h' ((p.enums.take j).flatMap (fun u => u.name :: u.tags) ++ p.enums[j].name :: p.enums[j].tags.take i)) ?_ ?_ ⟨_, _, _, _, rfl, by simpa using hk2⟩
  ·rintro i hi st ⟨y5, g1, g, h', rfl, hk⟩ ih2
   have hwi := wrap_succ i (by omega)
   obtain ⟨m, r, h0, hr, hk2⟩ := hk.add p.enums[j].tags[i]
   have h1 := hk.box
   simp [hj, hi, h0, h1, hr, mget, hwi]
   have e : (p.enums.take j).flatMap (fun u => u.name :: u.tags) ++ p.enums[j].name :: p.enums[j].tags.take (i + 1) = (p.enums.take j).flatMap (fun u => u.name :: u.tags) ++ p.enums[j].name :: p.enums[j].tags.take i ++ [p.enums[j].tags[i]] := by
    rw [take_snoc hi, List.append_assoc]; rfl
   exact ih2 _ ⟨_, _, _, _, rfl, by rw [e]; exact hk2⟩
  ·rintro st ⟨y5, g1, g, h', rfl, hk⟩
   rw [List.take_length] at hk
   simp [hwr]
   exact ih _ ⟨_, _, _, _, _, _, h', rfl, by rw [take_snoc hj, List.flatMap_append, List.flatMap_singleton]; exact hk⟩
 ·rintro st ⟨y4, y5, y10, y11, y12, g, h', rfl, hk⟩
  rw [List.take_length] at hk
  simp
  rw [f_scope_known_l2]
  refine loop_rel p.nodes.length (fun j st => ∃ y6 g h', st = ⟨[eProg p, .loc 0 (eProg p).cells, .map none, .ptr 1 0, y4, y5, y6, .list false (p.enums.map eEnum), .int .i64 p.enums.length, .int .i64 p.enums.length, y10, y11, y12, .list false (p.nodes.map eNode), .int .i64 p.nodes.length, .int .i64 j], [], g, h'⟩ ∧ KN h' (p.enums.flatMap (fun u => u.name :: u.tags) ++ (p.nodes.take j).flatMap nodeNames)) ?_ ?_ ⟨_, _, h', rfl, by simpa using hk⟩
  ·rintro j hj st ⟨y6, g, h', rfl, hk⟩ ih
   have hwr := wrap_succ j (by have := hw.nodes; omega)
   obtain ⟨N, hN⟩ : ∃ N, N = p.nodes[j] := ⟨_, rfl⟩
   have hn := hw.ns _ (List.getElem_mem hj)
   rw [← hN] at hn
   have hcl : ∀ d ∈ vars N, d.clock.length ≤ 1500 := by
    intro d hd
    unfold vars at hd
    rcases List.mem_append.1 hd with hd | hd
    ·rcases List.mem_append.1 hd with hd | hd
     ·exact (hn.is d hd).clock
     ·exact (hn.os d hd).clock
    ·exact (hn.ls d hd).clock
   have hvl : (vars N).length ≤ 4500 := by have := hn.ins; have := hn.outs; have := hn.locals; simp [vars]; omega
   obtain ⟨hv', v1⟩ := sc_vars hL N hn.ins hn.outs hn.locals hcl
   obtain ⟨m, r, h0, hr, hk2⟩ := hk.add N.name
   obtain ⟨h3, c3, k3⟩ := sc_gather hL (vars N) hvl hcl false _ _ hk2
   obtain ⟨h4, c4, k4⟩ := sc_names1 hL N.eqs N.autos hn.eqs (fun q hq => (hn.es q hq).left) hn.autos (fun a ha x hx => sc_namesS hL x (hn.autos.ss a ha x hx)) _ _ k3
   obtain ⟨T, hT⟩ : ∃ T, T = p.enums.flatMap (fun u => u.name :: u.tags) ++ (p.nodes.take j).flatMap nodeNames ++ [N.name] ++ gathered (vars N) ++ (N.eqs.flatMap (·.left) ++ insideA N.autos) := ⟨_, rfl⟩
   rw [← hT] at k4
   have hTk : Takes L 88 [.ptr 1 0] (fun E h => KN h (T ++ E.flatMap exprNames)) := ⟨fun e l h _ he hi => by
    obtain ⟨h', h1, h2⟩ := sc_nameOne hL e he _ h hi
    exact ⟨h', h1, by rw [List.flatMap_append, List.flatMap_singleton, ← List.append_assoc]; exact h2⟩⟩
   obtain ⟨h5, c5, k5⟩ := sc_every hL hTk N hn [] h4 (by simpa using k4)
   have h1 := hk.box
   have b2 := hk2.box
   have b3 := k3.box
   simp [hj, ← hN, h0, h1, hr, mget, v1, b2, b3, c3, c4, c5, hwr]
   refine ih _ ⟨_, _, h5, rfl, k5.congr fun y => ?_⟩
   rw [take_snoc hj, ← hN, List.flatMap_append (xs := p.nodes.take j), List.flatMap_singleton, hT]
   have e1 : nodeNames N = N.name :: declaredN (vars N) ++ (N.eqs.flatMap (·.left) ++ insideA N.autos) ++ (nodeExprs N).flatMap exprNames := rfl
   rw [e1]
   simp only [List.nil_append, List.mem_append, List.mem_cons, List.mem_singleton, mem_gathered, or_assoc, List.not_mem_nil, or_false, false_or]
  ·rintro st ⟨y6, g, h', rfl, hk⟩
   rw [List.take_length] at hk
   have h1 := hk.box
   simp [endP, h1]
   exact hk
theorem itoa_run (n : Nat) (hn : n ≤ 1000000) (h : List PObj) : callL L 44 [.int .i64 n] h = some (.str (Go.Lib.decDigits n), h) := by
 rw [callL_prim (hL 44 _ rfl) rfl rfl]
 have h1 : -9223372036854775808 ≤ (n : Int) ∧ (n : Int) ≤ 9223372036854775807 := by omega
 have h2 : Go.Lib.itoa (n : Int) = Go.Lib.decDigits n := by
  unfold Go.Lib.itoa
  rw [if_neg (by omega)]; rfl
 have hx : pItoa [.int .i64 n] h = some (.str (Go.Lib.decDigits n), h) := by
  simp only [pItoa]
  rw [if_pos h1, h2]
 have hm : [PV.int .i64 n].map dem = [PV.int .i64 n] := rfl
 rw [hm, hx]; rfl
theorem sc_fresh (p : Prog) (hw : PW p) (hp : parts p ≤ 1500) (base : Str) (hb : base.length ≤ 50) : ∃ h', callL L 19 [eProg p, .str base] [] = some (.str (fresh p base), h') := by
 suffices H : ∃ r, callL L 19 [eProg p, .str base] [] = some r ∧ r.1 = .str (fresh p base) by
  obtain ⟨⟨v, h'⟩, h1, h2⟩ := H
  simp only at h2; subst h2
  exact ⟨h', h1⟩
 obtain ⟨h', hc, hk⟩ := sc_known hL p hw
 obtain ⟨⟨l, h0, hm⟩, _⟩ := hk
 have hal := allNames_le p
 obtain ⟨m, m1, m2, hin, hout, hf⟩ := fresh_least p base
 rw [hf]
 have key : ∀ k : Nat, k ≤ 1600 → callL L 44 [.int .i64 k] [] = some (.str (Go.Lib.decDigits k), []) ∧ base.length + 1 ≤ 4611686018427387904 ∧ base.length + 1 + (Go.Lib.decDigits k).length ≤ 4611686018427387904 ∧ base.length + ((Go.Lib.decDigits k).length + 1) ≤ 4611686018427387904 := by
  intro k hk
  have := dec_len 3 k (by have : (10 : Nat) ^ (3 + 1) = 10000 := rfl; omega)
  exact ⟨itoa_run hL k (by omega) [], by omega, by omega, by omega⟩
 refine callL_wpP (hL 19 _ rfl) rfl ?_
 simp [f_scope_Fresh, hc]
 rw [f_scope_Fresh_l0]
 refine loop_rel (m - 1) (fun j st => ∃ y6, st = ⟨[eProg p, .str base, .loc 0 (eProg p).cells, .str [], .map (some 0), .int .i64 (j + 1 : Nat), y6], [], 1, h'⟩) ?_ ?_ ⟨_, rfl⟩
 ·rintro j hj st ⟨y6, rfl⟩ ih
  obtain ⟨k1, k2, k3, k4⟩ := key (j + 1) (by omega)
  have hw1 := wrap_succ (j + 1) (by omega)
  have hin := hin (j + 1) (by omega) (by omega)
  have hx : withNo base (j + 1) = base ++ 95 :: Go.Lib.decDigits (j + 1) := rfl
  obtain ⟨r, hr, hr2, _⟩ := find_bm (withNo base (j + 1)) l
  rw [if_pos ((hm _).2 hin)] at hr2
  rw [hx] at hr
  cases r with
  | none => simp at hr2
  | some q =>
    obtain ⟨i, v⟩ := q
    simp only [Option.map_some, Option.some.injEq] at hr2
    subst hr2
    try simp at k1
    try simp at hw1
    have hj1 : ((j + 1 + 1 : Nat) : Int) = (j : Int) + 1 + 1 := by omega
    rw [hj1] at ih
    simp [k1, k2, k3, k4, hw1, h0, hr, mget]
    exact ih _ ⟨_, rfl⟩
 ·rintro st ⟨y6, rfl⟩
  have hmm : m - 1 + 1 = m := by omega
  rw [hmm]
  obtain ⟨k1, k2, k3, k4⟩ := key m (by omega)
  have hx : withNo base m = base ++ 95 :: Go.Lib.decDigits m := rfl
  obtain ⟨r, hr, hr2, _⟩ := find_bm (withNo base m) l
  rw [if_neg (fun hh => hout ((hm _).1 hh))] at hr2
  simp only [Option.map_eq_none_iff] at hr2
  subst hr2
  rw [hx] at hr
  simp [k1, k2, k3, k4, h0, hr, mget, endP, hx]
end
end PI.Sc
set_option maxRecDepth 100000
set_option linter.unusedSimpArgs false
set_option linter.unusedVariables false
namespace PI.Sc
open Go (IntKind BinOp UnOp)
open Short
theorem law_fresh (p : Prog) (hp : PF p) (base : Str) : ∃ h', callL LS 2 [eProg p, .str base] [] = some (.bool true, h') := by
 have hL : ∀ k f, LS k = some f → LS k = some f := fun _ _ h => h
 refine ⟨[], ?_⟩
 have hh := law_heavy hL p hp []
 have hlv := law_lives
 refine callL_wp rfl rfl ?_
 cases hv : heavy p with
 | true =>
   rw [hv] at hh
   simp [f_law10_ScopeFresh, hh, hlv]
 | false =>
   rw [hv] at hh
   by_cases hb : 50 < base.length
   ·have hbi : (50 : Int) < base.length := by omega
    simp [f_law10_ScopeFresh, hh, hlv, hb, hbi]
   ·have hbi : ¬ (50 : Int) < base.length := by omega
    have hs : parts p ≤ 1500 := by unfold heavy at hv; simp at hv; omega
    have hw := hp.pw hs
    obtain ⟨h1, c1⟩ := sc_fresh hL p hw hs base (by omega)
    have c2 := ref_fresh hL p hw hs base (by omega) []
    have c3 := ref_all hL p hw hs []
    have hal := allNames_le p
    have c4 := ref_has' hL (allNames p) (by omega) (fresh p base) false []
    have hn := fresh_new p base
    simp [hn] at c4
    simp [f_law10_ScopeFresh, hh, hlv, hb, hbi, c1, c2, c3, c4]
end PI.Sc
