import Derived.Test.YtljbhgpanekomaaGreatDoorPiScLaw1
import Derived.Test.YtljbhgpanekomaaGreatDoorPiScRun18
import Derived.Test.YtljbhgpanekomaaGreatDoorPiScRun18
import Derived.Test.YtljbhgpanekomaaGreatDoorPiScRun18
import Derived.Test.YtljbhgpanekomaaGreatDoorPiScLaw1
set_option maxRecDepth 100000
set_option linter.unusedSimpArgs false
set_option linter.unusedVariables false
namespace PI.Sc
open Go (IntKind BinOp UnOp)
open Short
@[simp] theorem free_nats (l : List Nat) : refFrees (eNats l) = true := frees_map (fun _ => rfl) l
section
variable {L : Nat → Option PFunc} (hL : ∀ k f, LS k = some f → L k = some f)
include hL
theorem law_ints (a : List Nat) (ha : a.length ≤ 1500) (o1 o2 : Bool) (h : List PObj) : callL L 16 [.list o1 (eNats a), .list o2 (eNats a)] h = some (.bool true, h) := by
 refine callL_wp (hL 16 _ rfl) rfl ?_
 have hl : (eNats a).length = a.length := by simp [eNats]
 simp [f_law10_ints, hl]
 refine loop_go a.length (fun i (_ : Unit) => [(3, .int .i64 i)]) (fun _ _ => h) () ?_ ?_ rfl rfl
 ·intro i hi _ ih
  have hw := wrap_succ i (by omega)
  have hg : (eNats a)[i]? = some (.int .i64 (a[i] : Nat)) := by simp [eNats, hi]
  have hge : (eNats a)[i]'(by omega) = .int .i64 (a[i] : Nat) := by simp [eNats]
  simp [hi, hl, hw, hg, hge]
  simpa using ih ()
 ·intro _
  simp [hl]
end
theorem callsAt_len (p : Prog) (hl : p.nodes.length ≤ 1500) (i : Int) : (callsAt p i).length ≤ 1500 := by
 unfold callsAt
 split
 ·refine Nat.le_trans (List.length_filter_le _ _) (by simpa using hl)
 ·simp
theorem law_nodes (p : Prog) (hp : PF p) (i : Int) : ∃ h', callL LS 1 [eProg p, .int .i64 i] [] = some (.bool true, h') := by
 have hL : ∀ k f, LS k = some f → LS k = some f := fun _ _ h => h
 refine ⟨[], ?_⟩
 have hh := law_heavy hL p hp []
 have hlv := law_lives
 refine callL_wp rfl rfl ?_
 cases hv : heavy p with
 | true =>
   rw [hv] at hh
   simp [f_law10_ScopeNodes, hh, hlv]
 | false =>
   rw [hv] at hh
   have hs : parts p ≤ 1500 := by unfold heavy at hv; simp at hv; omega
   have hw := hp.pw hs
   have hnp := node_parts hs
   have hcalls : ∀ i, (∃ o h', callL LS 17 [eProg p, .int .i64 i] [] = some (.list o (eNats (callsAt p i)), h')) ∧ ∃ o, callL LS 18 [eProg p, .int .i64 i] [] = some (.list o (eNats (callsAt p i)), []) := fun i =>
    ⟨sc_calls hL p hw.ns hw.nodes i, ref_calls hL p (fun n hn => ⟨hw.ns n hn, hnp n hn⟩) hw.nodes i []⟩
   obtain ⟨⟨o1, h1, c1⟩, o2, c2⟩ := hcalls i
   have hi := law_ints hL (callsAt p i) (callsAt_len p hw.nodes i) false false []
   simp [f_law10_ScopeNodes, hh]
   rw [f_law10_ScopeNodes_l0]
   refine loop_rel p.nodes.length (fun j st => st = ⟨[eProg p, .int .i64 i, .loc 0 (eProg p).cells, .bool false, .int .i64 j], [], 1, []⟩) ?_ ?_ rfl
   ·rintro j hj st rfl ih
    have hwr := wrap_succ j (by have := hw.nodes; omega)
    obtain ⟨N, hN⟩ : ∃ N, N = p.nodes[j] := ⟨_, rfl⟩
    have hn := hw.ns _ (List.getElem_mem hj)
    have hnp := hnp _ (List.getElem_mem hj)
    rw [← hN] at hn hnp
    have hcl : ∀ d ∈ vars N, d.clock.length ≤ 1500 := by
     intro d hd
     unfold vars at hd
     rcases List.mem_append.1 hd with hd | hd
     ·rcases List.mem_append.1 hd with hd | hd
      ·exact (hn.is d hd).clock
      ·exact (hn.os d hd).clock
     ·exact (hn.ls d hd).clock
    have hvl : (vars N).length ≤ 4500 := by have := hn.ins; have := hn.outs; have := hn.locals; simp [vars]; omega
    obtain ⟨h2, v1⟩ := sc_vars hL N hn.ins hn.outs hn.locals hcl
    have v2 := ref_vars hL N hn.ins hn.outs hn.locals []
    have v3 := ref_samedecls hL (vars N) (vars N) (by omega) (by omega) (fun d hd => by have := hcl d hd; omega) (fun d hd => by have := hcl d hd; omega) false false []
    have d1 := sc_Defined hL N hn hnp []
    have d2 := ref_defined hL N hn hnp []
    have hdl : (defined N).length ≤ 1500 := by
     have h1 := definedA_len (lefts N.eqs) N.autos
     have h2 := lefts_len N.eqs
     have e : N.parts = 1 + total Decl.parts N.ins + total Decl.parts N.outs + total Decl.parts N.locals + total Eqn.parts N.eqs + total (fun e => 1 + Expr.parts e) N.assume + total (fun e => 1 + Expr.parts e) N.ensure + partsA N.autos := rfl
     unfold defined; omega
    have d3 := ref_samenames hL (defined N) (defined N) (by omega) (by omega) false false []
    obtain ⟨⟨o3, h3, c3⟩, o4, c4⟩ := hcalls j
    have hi := law_ints hL (callsAt p j) (callsAt_len p hw.nodes j) false false []
    simp at v3 d3
    simp [hj, ← hN, hwr, v1, v2, v3, d1, d2, d3, c3, c4, hi]
    exact ih _ rfl
   ·rintro st rfl
    simp [c1, c2, hi, hlv]
end PI.Sc
