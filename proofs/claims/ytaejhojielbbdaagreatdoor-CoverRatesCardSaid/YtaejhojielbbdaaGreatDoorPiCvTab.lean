/-
  The calls of lives() whose results are known, as tables: each row is run by the kernel, over the tables ahead of it; lives() is true.
-/
import Derived.Test.YtaejhojielbbdaaGreatDoorPiCvCode
import Derived.Test.YtaejhojielbbdaaGreatDoorPiMemo
set_option linter.unusedVariables false
set_option linter.unusedSimpArgs false
set_option maxRecDepth 100000
namespace PI.Sc
def i (n : Int) : PV := .int .i64 n
def w0 : PV := (.tuple [(.bool false),(i 0)])
def w1 : PV := (.list false [(i 1),(i 0)])
def w2 : PV := (.list false [(i 0),(i 1)])
def w3 : PV := (.agg [(.str [120]),(i 2),(.list false [])])
def w4 : PV := (.agg [(.str [103,111,97,108,95,49]),(i 1),(.list false [])])
def w5 : PV := (.agg [(.str [103,111,97,108,95,50]),(i 1),(.list false [])])
def w6 : PV := (.agg [(.str [103,111,97,108,95,51]),(i 1),(.list false [])])
def w7 : PV := (.agg [(.str [103,111,97,108,95,52]),(i 1),(.list false [])])
def w8 : PV := (.agg [(.str [103,111,97,108,95,53]),(i 1),(.list false [])])
def w9 : PV := (.agg [(.str [118,95,49]),(i 1),(.list false [])])
def w10 : PV := (.agg [(.str [118,95,50]),(i 1),(.list false [])])
def w11 : PV := (.agg [(i 2),(i 0),(i 0),(i 0),(.str [97]),(.list false [])])
def w12 : PV := (.agg [(i 2),(i 0),(i 0),(i 0),(.str [98]),(.list false [])])
def w13 : PObj := (.cells [(i 2),(i 0),(i 0),(i 0),(.str [97]),(.list false []),(.list true []),(.func 303 [] []),(.bool false),(i 0),(i 0),(.list true []),(.list true []),(i 0),.nilptr])
def w14 : PObj := (.cells [(i 2),(i 0),(i 0),(i 0),(.str [98]),(.list false []),(.list true []),(.func 303 [] []),(.bool false),(i 0),(i 0),(.list true []),(.list true []),(i 0),.nilptr])
def w15 : PObj := (.cells [(i 1),(i 0),(i 2),(i 1),(.str []),(.list false []),(.list true []),(.func 302 [] []),(.bool false),(i 0),(i 0),(.list true []),(.list true []),(i 0),.nilptr])
def w16 : PObj := (.cells [(i 1),(i 0),(i 2),(i 2),(.str []),(.list false []),(.list true []),(.func 302 [] []),(.bool false),(i 0),(i 0),(.list true []),(.list true []),(i 0),.nilptr])
def w17 : PObj := (.cells [(i 2),(i 0),(i 0),(i 0),(.str [118,95,49]),(.list false []),(.list true []),(.func 303 [] []),(.bool false),(i 0),(i 0),(.list true []),(.list true []),(i 0),.nilptr])
def w18 : PObj := (.cells [(i 2),(i 0),(i 0),(i 0),(.str [118,95,50]),(.list false []),(.list true []),(.func 303 [] []),(.bool false),(i 0),(i 0),(.list true []),(.list true []),(i 0),.nilptr])
def w19 : PObj := (.cells [(i 2),(i 0),(i 0),(i 0),(.str [118,95,51]),(.list false []),(.list true []),(.func 303 [] []),(.bool false),(i 0),(i 0),(.list true []),(.list true []),(i 0),.nilptr])
def w20 : PV := (.tuple [(.agg [(i 0),(i 0)]),(i 0)])
def w21 : PV := (.list false [(.agg [(i 1),(i 1)]),(.agg [(i 1),(i 0)]),(.agg [(i 1),(i 1)]),(.agg [(i 1),(i 0)]),(.agg [(i 1),(i 1)]),(.agg [(i 1),(i 1)]),(.agg [(i 1),(i 0)])])
def w22 : PV := (.list false [(.agg [(i 1),(i 2)]),(.agg [(i 1),(i 1)]),(.agg [(i 1),(i 0)]),(.agg [(i 1),(i 1)]),(.agg [(i 1),(i 0)]),(.agg [(i 1),(i 0)]),(.agg [(i 1),(i 1)])])
def w23 : PObj := (.cells [(i 0),(.list false [(.ptr 1 0),(.ptr 8 0),(.ptr 12 0),(.ptr 14 0),(.ptr 15 0),(.ptr 16 0),(.ptr 18 0),(.ptr 19 0),(.ptr 20 0),(.ptr 22 0)]),(.list false []),(.list true []),(.list false []),(.list false [])])
def w24 : PV := (.list false [(.agg [(.str [97]),(i 1),(.list false [])]),(.agg [(.str [98]),(i 1),(.list false [])])])
def w25 : PV := (.list false [w9,w10,(.agg [(.str [118,95,51]),(i 1),(.list false [])])])
def w26 : PV := (.list false [(.agg [(i 2),(i 0),(i 0),(i 0),(.str [118,95,49]),(.list false [])])])
def w27 : PV := (.agg [(.list false [(.str [103,111,97,108,95,50])]),(i 2),(i 0),(i 0),(i 0),(.str [118,95,49]),(.list false [])])
def w28 : PV := (.agg [(.list false [(.str [118,95,50])]),(i 2),(i 0),(i 0),(i 0),(.str [97]),(.list false [])])
def w29 : PV := (.list false [(.agg [(i 2),(i 0),(i 0),(i 0),(.str [118,95,50]),(.list false [])])])
def w30 : PV := (.agg [(.list false [(.str [103,111,97,108,95,52])]),(i 2),(i 0),(i 0),(i 0),(.str [118,95,50]),(.list false [])])
def w31 : PV := (.agg [(.list false [(.str [118,95,51])]),(i 2),(i 0),(i 0),(i 0),(.str [98]),(.list false [])])
def w32 : PV := (.list false [(.agg [(i 2),(i 0),(i 0),(i 0),(.str [118,95,51]),(.list false [])])])
def w33 : PV := (.list false [w3,w4,w5,w6,w7])
def w34 : PV := (.agg [(.list false [(.str [103,111,97,108,95,49])]),(i 3),(i 1),(i 0),(i 0),(.str []),w26])
def w35 : PV := (.agg [(.list false [(.str [103,111,97,108,95,51])]),(i 3),(i 1),(i 0),(i 0),(.str []),w29])
def w36 : PV := (.agg [(.list false [(.str [103,111,97,108,95,53])]),(i 3),(i 1),(i 0),(i 0),(.str []),w32])
def w37 : PObj := (.cells [(i 3),(i 1),(i 0),(i 0),(.str []),(.list false [w12]),(.list true [(.ptr 5 0)]),(.func 311 [] []),(.bool false),(i 0),(i 0),(.list true []),(.list true []),(i 0),.nilptr])
def w38 : PObj := (.cells [(i 3),(i 1),(i 0),(i 0),(.str []),(.list false [w12]),(.list true [(.ptr 11 0)]),(.func 311 [] []),(.bool false),(i 0),(i 0),(.list true []),(.list true []),(i 0),.nilptr])
def w39 : PObj := (.cells [(i 3),(i 1),(i 0),(i 0),(.str []),w26,(.list true [(.ptr 13 0)]),(.func 311 [] []),(.bool false),(i 0),(i 0),(.list true []),(.list true []),(i 0),.nilptr])
def w40 : PObj := (.cells [(i 3),(i 1),(i 0),(i 0),(.str []),w29,(.list true [(.ptr 17 0)]),(.func 311 [] []),(.bool false),(i 0),(i 0),(.list true []),(.list true []),(i 0),.nilptr])
def w41 : PObj := (.cells [(i 3),(i 1),(i 0),(i 0),(.str []),w32,(.list true [(.ptr 21 0)]),(.func 311 [] []),(.bool false),(i 0),(i 0),(.list true []),(.list true []),(i 0),.nilptr])
def w42 : PV := (.list false [w11,(.agg [(i 3),(i 1),(i 0),(i 0),(.str []),(.list false [w12])])])
def w43 : PV := (.agg [(i 3),(i 3),(i 0),(i 0),(.str []),w42])
def w44 : PV := (.agg [(.list false [(.str [118,95,49])]),(i 3),(i 3),(i 0),(i 0),(.str []),w42])
def w45 : PObj := (.cells [(i 3),(i 3),(i 0),(i 0),(.str []),w42,(.list true [(.ptr 3 0),(.ptr 4 0)]),(.func 311 [] []),(.bool false),(i 0),(i 0),(.list true []),(.list true []),(i 0),.nilptr])
def w46 : PObj := (.cells [(i 3),(i 3),(i 0),(i 0),(.str []),w42,(.list true [(.ptr 9 0),(.ptr 10 0)]),(.func 311 [] []),(.bool false),(i 0),(i 0),(.list true []),(.list true []),(i 0),.nilptr])
def w47 : PV := (.list false [w43,(.agg [(i 1),(i 0),(i 2),(i 1),(.str []),(.list false [])]),(.agg [(i 1),(i 0),(i 2),(i 2),(.str []),(.list false [])])])
def w48 : PV := (.agg [(.list false [(.str [120])]),(i 4),(i 0),(i 0),(i 0),(.str []),w47])
def w49 : PObj := (.cells [(i 4),(i 0),(i 0),(i 0),(.str []),w47,(.list true [(.ptr 2 0),(.ptr 6 0),(.ptr 7 0)]),(.func 304 [] []),(.bool false),(i 0),(i 0),(.list true []),(.list true []),(i 0),.nilptr])
def w50 : PV := (.list false [w48,w44,w34,w27,w28,w35,w30,w31,w36,(.agg [(.list false [(.str [103,111,97,108,95,54])]),(i 2),(i 0),(i 0),(i 0),(.str [118,95,51]),(.list false [])])])
def w51 : PV := (.agg [(.str [102]),w24,(.list false [w3]),(.list false []),(.list false [w48]),(.list false []),(.list false []),(.list false [])])
def w52 : PV := (.list false [(.agg [(.str [102]),w24,(.list false [w3,w4,w5,w6,w7,w8,(.agg [(.str [103,111,97,108,95,54]),(i 1),(.list false [])])]),w25,w50,(.list false []),(.list false []),(.list false [])])])
def w53 : PV := (.agg [(.list false []),w52])
def w54 : PV := (.agg [(.list false []),(.list false [w51])])
def HA : List PObj := [(.cells [(.list false []),w52,(i 0),(.ptr 23 0),(i 0),(.map none),(i 0),(i 0),(i 0),(i 0)]),w49,w45,w13,w37,w14,w15,w16,w46,w13,w38,w14,w39,w17,w17,w13,w40,w18,w18,w14,w41,w19,w19,w23]
def HB : List PObj := [(.cells [(.list false []),w52,(i 0),(.ptr 23 0),(i 1),(.map (some 42)),(i 1),(i 1),(i 1),(i 1)]),w49,w45,w13,w37,w14,w15,w16,w46,w13,w38,w14,w39,w17,w17,w13,w40,w18,w18,w14,w41,w19,w19,w23,(.cells [(.list false []),w52,(.list true [])]),(.map [((.str [97]), (.ptr 27 0)),((.str [98]), (.ptr 28 0)),((.str [120]), (.ptr 29 0)),((.str [103,111,97,108,95,49]), (.ptr 30 0)),((.str [103,111,97,108,95,50]), (.ptr 31 0)),((.str [103,111,97,108,95,51]), (.ptr 32 0)),((.str [103,111,97,108,95,52]), (.ptr 33 0)),((.str [103,111,97,108,95,53]), (.ptr 34 0)),((.str [103,111,97,108,95,54]), (.ptr 35 0)),((.str [118,95,49]), (.ptr 36 0)),((.str [118,95,50]), (.ptr 37 0)),((.str [118,95,51]), (.ptr 38 0))]),(.cells [(.ptr 24 0),.nilptr,(.ptr 23 0),w50,(.list false []),(.map (some 25)),(.rowp 39 1 false 10),(.rowp 40 1 false 0),(.rowp 41 1 false 0)]),(.cells [(.str [97]),(i 1),(.list false []),(i 1),(i 1),(.bool false),(.bool true)]),(.cells [(.str [98]),(i 1),(.list false []),(i 1),(i 0),(.bool false),(.bool true)]),(.cells [(.str [120]),(i 2),(.list false []),(i 1),(i 1),(.bool false),(.bool true)]),(.cells [(.str [103,111,97,108,95,49]),(i 1),(.list false []),(i 1),(i 0),(.bool false),(.bool true)]),(.cells [(.str [103,111,97,108,95,50]),(i 1),(.list false []),(i 1),(i 1),(.bool false),(.bool true)]),(.cells [(.str [103,111,97,108,95,51]),(i 1),(.list false []),(i 1),(i 0),(.bool false),(.bool true)]),(.cells [(.str [103,111,97,108,95,52]),(i 1),(.list false []),(i 1),(i 1),(.bool false),(.bool true)]),(.cells [(.str [103,111,97,108,95,53]),(i 1),(.list false []),(i 1),(i 1),(.bool false),(.bool true)]),(.cells [(.str [103,111,97,108,95,54]),(i 1),(.list false []),(i 1),(i 0),(.bool false),(.bool true)]),(.cells [(.str [118,95,49]),(i 1),(.list false []),(i 1),(i 1),(.bool false),(.bool true)]),(.cells [(.str [118,95,50]),(i 1),(.list false []),(i 1),(i 1),(.bool false),(.bool true)]),(.cells [(.str [118,95,51]),(i 1),(.list false []),(i 1),(i 0),(.bool false),(.bool true)]),(.cells [(.bool true),(.bool true),(.bool true),(.bool true),(.bool true),(.bool true),(.bool true),(.bool true),(.bool true),(.bool true)]),(.cells []),(.cells []),.sblob,.gone]
def T0 : Tabl := fun _ => none
theorem ok0 : TabOK LC T0 0 := TabOK.nil
def h71_0 : List PObj := ((call (ovr LC T0) 300 71 [w53] []).getD (.dead, [])).2
theorem r71_0 : call (ovr LC T0) 300 71 [w53] [] = some (w20, h71_0) := row_of (by decide +kernel)
def h71_1 : List PObj := ((call (ovr LC T0) 300 71 [w54] []).getD (.dead, [])).2
theorem r71_1 : call (ovr LC T0) 300 71 [w54] [] = some (w20, h71_1) := row_of (by decide +kernel)
def t71 : List Rowt := [([w53], [], w20, h71_0), ([w54], [], w20, h71_1)]
def T1 : Tabl := fun j => if j = 71 then some (tabG t71) else T0 j
theorem ok1 : TabOK LC T1 300 := TabOK.add (f := f_scope_Check) ok0 rfl rfl rfl rfl rfl (List.forall_mem_cons.2 ⟨⟨rfl, r71_0⟩, List.forall_mem_cons.2 ⟨⟨rfl, r71_1⟩, fun _ h => by cases h⟩⟩)
def h44_0 : List PObj := ((call (ovr LC T1) 300 44 [w53] []).getD (.dead, [])).2
theorem r44_0 : call (ovr LC T1) 300 44 [w53] [] = some (w20, h44_0) := row_of (by decide +kernel)
def h44_1 : List PObj := ((call (ovr LC T1) 300 44 [w54] []).getD (.dead, [])).2
theorem r44_1 : call (ovr LC T1) 300 44 [w54] [] = some (w20, h44_1) := row_of (by decide +kernel)
def t44 : List Rowt := [([w53], [], w20, h44_0), ([w54], [], w20, h44_1)]
def T2 : Tabl := fun j => if j = 44 then some (tabG t44) else T1 j
theorem ok2 : TabOK LC T2 600 := TabOK.add (f := f_types_Check) ok1 rfl rfl rfl rfl rfl (List.forall_mem_cons.2 ⟨⟨rfl, r44_0⟩, List.forall_mem_cons.2 ⟨⟨rfl, r44_1⟩, fun _ h => by cases h⟩⟩)
def h45_0 : List PObj := ((call (ovr LC T2) 300 45 [w53] []).getD (.dead, [])).2
theorem r45_0 : call (ovr LC T2) 300 45 [w53] [] = some ((.tuple [w53,(i 0)]), h45_0) := row_of (by decide +kernel)
def h45_1 : List PObj := ((call (ovr LC T2) 300 45 [w54] []).getD (.dead, [])).2
theorem r45_1 : call (ovr LC T2) 300 45 [w54] [] = some ((.tuple [w54,(i 0)]), h45_1) := row_of (by decide +kernel)
def t45 : List Rowt := [([w53], [], (.tuple [w53,(i 0)]), h45_0), ([w54], [], (.tuple [w54,(i 0)]), h45_1)]
def T3 : Tabl := fun j => if j = 45 then some (tabG t45) else T2 j
theorem ok3 : TabOK LC T3 900 := TabOK.add (f := f_modes_Expand) ok2 rfl rfl rfl rfl rfl (List.forall_mem_cons.2 ⟨⟨rfl, r45_0⟩, List.forall_mem_cons.2 ⟨⟨rfl, r45_1⟩, fun _ h => by cases h⟩⟩)
def h46_0 : List PObj := ((call (ovr LC T3) 300 46 [w53] []).getD (.dead, [])).2
theorem r46_0 : call (ovr LC T3) 300 46 [w53] [] = some (w20, h46_0) := row_of (by decide +kernel)
def h46_1 : List PObj := ((call (ovr LC T3) 300 46 [w54] []).getD (.dead, [])).2
theorem r46_1 : call (ovr LC T3) 300 46 [w54] [] = some (w20, h46_1) := row_of (by decide +kernel)
def t46 : List Rowt := [([w53], [], w20, h46_0), ([w54], [], w20, h46_1)]
def T4 : Tabl := fun j => if j = 46 then some (tabG t46) else T3 j
theorem ok4 : TabOK LC T4 1200 := TabOK.add (f := f_clocks_Check) ok3 rfl rfl rfl rfl rfl (List.forall_mem_cons.2 ⟨⟨rfl, r46_0⟩, List.forall_mem_cons.2 ⟨⟨rfl, r46_1⟩, fun _ h => by cases h⟩⟩)
def h47_0 : List PObj := ((call (ovr LC T4) 300 47 [w53] []).getD (.dead, [])).2
theorem r47_0 : call (ovr LC T4) 300 47 [w53] [] = some (w20, h47_0) := row_of (by decide +kernel)
def h47_1 : List PObj := ((call (ovr LC T4) 300 47 [w54] []).getD (.dead, [])).2
theorem r47_1 : call (ovr LC T4) 300 47 [w54] [] = some (w20, h47_1) := row_of (by decide +kernel)
def t47 : List Rowt := [([w53], [], w20, h47_0), ([w54], [], w20, h47_1)]
def T5 : Tabl := fun j => if j = 47 then some (tabG t47) else T4 j
theorem ok5 : TabOK LC T5 1500 := TabOK.add (f := f_cause_Check) ok4 rfl rfl rfl rfl rfl (List.forall_mem_cons.2 ⟨⟨rfl, r47_0⟩, List.forall_mem_cons.2 ⟨⟨rfl, r47_1⟩, fun _ h => by cases h⟩⟩)
def h23_0 : List PObj := ((call (ovr LC T5) 300 23 [w54,(i 0),w11] []).getD (.dead, [])).2
theorem r23_0 : call (ovr LC T5) 300 23 [w54,(i 0),w11] [] = some (w0, h23_0) := row_of (by decide +kernel)
def h23_1 : List PObj := ((call (ovr LC T5) 300 23 [w54,(i 0),w12] []).getD (.dead, [])).2
theorem r23_1 : call (ovr LC T5) 300 23 [w54,(i 0),w12] [] = some (w0, h23_1) := row_of (by decide +kernel)
def h23_2 : List PObj := ((call (ovr LC T5) 300 23 [w54,(i 0),w43] []).getD (.dead, [])).2
theorem r23_2 : call (ovr LC T5) 300 23 [w54,(i 0),w43] [] = some (w0, h23_2) := row_of (by decide +kernel)
def t23 : List Rowt := [([w54,(i 0),w11], [], w0, h23_0), ([w54,(i 0),w12], [], w0, h23_1), ([w54,(i 0),w43], [], w0, h23_2)]
def T6 : Tabl := fun j => if j = 23 then some (tabG t23) else T5 j
theorem ok6 : TabOK LC T6 1800 := TabOK.add (f := f_starts_Of) ok5 rfl rfl rfl rfl rfl (List.forall_mem_cons.2 ⟨⟨rfl, r23_0⟩, List.forall_mem_cons.2 ⟨⟨rfl, r23_1⟩, List.forall_mem_cons.2 ⟨⟨rfl, r23_2⟩, fun _ h => by cases h⟩⟩⟩)
def h24_0 : List PObj := ((call (ovr LC T6) 300 24 [(.agg [(.list false []),(.list false [(.agg [(.str [102]),w24,(.list false [w3,w4,w5,w6,w7,w8]),w25,(.list false [w48,w44,w34,w27,w28,w35,w30,w31,w36]),(.list false []),(.list false []),(.list false [])])])]),(.str [103,111,97,108])] []).getD (.dead, [])).2
theorem r24_0 : call (ovr LC T6) 300 24 [(.agg [(.list false []),(.list false [(.agg [(.str [102]),w24,(.list false [w3,w4,w5,w6,w7,w8]),w25,(.list false [w48,w44,w34,w27,w28,w35,w30,w31,w36]),(.list false []),(.list false []),(.list false [])])])]),(.str [103,111,97,108])] [] = some ((.str [103,111,97,108,95,54]), h24_0) := row_of (by decide +kernel)
def h24_1 : List PObj := ((call (ovr LC T6) 300 24 [(.agg [(.list false []),(.list false [(.agg [(.str [102]),w24,w33,w25,(.list false [w48,w44,w34,w27,w28,w35,w30,w31]),(.list false []),(.list false []),(.list false [])])])]),(.str [103,111,97,108])] []).getD (.dead, [])).2
theorem r24_1 : call (ovr LC T6) 300 24 [(.agg [(.list false []),(.list false [(.agg [(.str [102]),w24,w33,w25,(.list false [w48,w44,w34,w27,w28,w35,w30,w31]),(.list false []),(.list false []),(.list false [])])])]),(.str [103,111,97,108])] [] = some ((.str [103,111,97,108,95,53]), h24_1) := row_of (by decide +kernel)
def h24_2 : List PObj := ((call (ovr LC T6) 300 24 [(.agg [(.list false []),(.list false [(.agg [(.str [102]),w24,w33,(.list false [w9,w10]),(.list false [w48,w44,w34,w27,w28,w35,w30]),(.list false []),(.list false []),(.list false [])])])]),(.str [118])] []).getD (.dead, [])).2
theorem r24_2 : call (ovr LC T6) 300 24 [(.agg [(.list false []),(.list false [(.agg [(.str [102]),w24,w33,(.list false [w9,w10]),(.list false [w48,w44,w34,w27,w28,w35,w30]),(.list false []),(.list false []),(.list false [])])])]),(.str [118])] [] = some ((.str [118,95,51]), h24_2) := row_of (by decide +kernel)
def h24_3 : List PObj := ((call (ovr LC T6) 300 24 [(.agg [(.list false []),(.list false [(.agg [(.str [102]),w24,(.list false [w3,w4,w5,w6]),(.list false [w9,w10]),(.list false [w48,w44,w34,w27,w28,w35]),(.list false []),(.list false []),(.list false [])])])]),(.str [103,111,97,108])] []).getD (.dead, [])).2
theorem r24_3 : call (ovr LC T6) 300 24 [(.agg [(.list false []),(.list false [(.agg [(.str [102]),w24,(.list false [w3,w4,w5,w6]),(.list false [w9,w10]),(.list false [w48,w44,w34,w27,w28,w35]),(.list false []),(.list false []),(.list false [])])])]),(.str [103,111,97,108])] [] = some ((.str [103,111,97,108,95,52]), h24_3) := row_of (by decide +kernel)
def h24_4 : List PObj := ((call (ovr LC T6) 300 24 [(.agg [(.list false []),(.list false [(.agg [(.str [102]),w24,(.list false [w3,w4,w5]),(.list false [w9,w10]),(.list false [w48,w44,w34,w27,w28]),(.list false []),(.list false []),(.list false [])])])]),(.str [103,111,97,108])] []).getD (.dead, [])).2
theorem r24_4 : call (ovr LC T6) 300 24 [(.agg [(.list false []),(.list false [(.agg [(.str [102]),w24,(.list false [w3,w4,w5]),(.list false [w9,w10]),(.list false [w48,w44,w34,w27,w28]),(.list false []),(.list false []),(.list false [])])])]),(.str [103,111,97,108])] [] = some ((.str [103,111,97,108,95,51]), h24_4) := row_of (by decide +kernel)
def h24_5 : List PObj := ((call (ovr LC T6) 300 24 [(.agg [(.list false []),(.list false [(.agg [(.str [102]),w24,(.list false [w3,w4,w5]),(.list false [w9]),(.list false [w48,w44,w34,w27]),(.list false []),(.list false []),(.list false [])])])]),(.str [118])] []).getD (.dead, [])).2
theorem r24_5 : call (ovr LC T6) 300 24 [(.agg [(.list false []),(.list false [(.agg [(.str [102]),w24,(.list false [w3,w4,w5]),(.list false [w9]),(.list false [w48,w44,w34,w27]),(.list false []),(.list false []),(.list false [])])])]),(.str [118])] [] = some ((.str [118,95,50]), h24_5) := row_of (by decide +kernel)
def h24_6 : List PObj := ((call (ovr LC T6) 300 24 [(.agg [(.list false []),(.list false [(.agg [(.str [102]),w24,(.list false [w3,w4]),(.list false [w9]),(.list false [w48,w44,w34]),(.list false []),(.list false []),(.list false [])])])]),(.str [103,111,97,108])] []).getD (.dead, [])).2
theorem r24_6 : call (ovr LC T6) 300 24 [(.agg [(.list false []),(.list false [(.agg [(.str [102]),w24,(.list false [w3,w4]),(.list false [w9]),(.list false [w48,w44,w34]),(.list false []),(.list false []),(.list false [])])])]),(.str [103,111,97,108])] [] = some ((.str [103,111,97,108,95,50]), h24_6) := row_of (by decide +kernel)
def h24_7 : List PObj := ((call (ovr LC T6) 300 24 [(.agg [(.list false []),(.list false [(.agg [(.str [102]),w24,(.list false [w3]),(.list false [w9]),(.list false [w48,w44]),(.list false []),(.list false []),(.list false [])])])]),(.str [103,111,97,108])] []).getD (.dead, [])).2
theorem r24_7 : call (ovr LC T6) 300 24 [(.agg [(.list false []),(.list false [(.agg [(.str [102]),w24,(.list false [w3]),(.list false [w9]),(.list false [w48,w44]),(.list false []),(.list false []),(.list false [])])])]),(.str [103,111,97,108])] [] = some ((.str [103,111,97,108,95,49]), h24_7) := row_of (by decide +kernel)
def h24_8 : List PObj := ((call (ovr LC T6) 300 24 [w54,(.str [118])] []).getD (.dead, [])).2
theorem r24_8 : call (ovr LC T6) 300 24 [w54,(.str [118])] [] = some ((.str [118,95,49]), h24_8) := row_of (by decide +kernel)
def t24 : List Rowt := [([(.agg [(.list false []),(.list false [(.agg [(.str [102]),w24,(.list false [w3,w4,w5,w6,w7,w8]),w25,(.list false [w48,w44,w34,w27,w28,w35,w30,w31,w36]),(.list false []),(.list false []),(.list false [])])])]),(.str [103,111,97,108])], [], (.str [103,111,97,108,95,54]), h24_0), ([(.agg [(.list false []),(.list false [(.agg [(.str [102]),w24,w33,w25,(.list false [w48,w44,w34,w27,w28,w35,w30,w31]),(.list false []),(.list false []),(.list false [])])])]),(.str [103,111,97,108])], [], (.str [103,111,97,108,95,53]), h24_1), ([(.agg [(.list false []),(.list false [(.agg [(.str [102]),w24,w33,(.list false [w9,w10]),(.list false [w48,w44,w34,w27,w28,w35,w30]),(.list false []),(.list false []),(.list false [])])])]),(.str [118])], [], (.str [118,95,51]), h24_2), ([(.agg [(.list false []),(.list false [(.agg [(.str [102]),w24,(.list false [w3,w4,w5,w6]),(.list false [w9,w10]),(.list false [w48,w44,w34,w27,w28,w35]),(.list false []),(.list false []),(.list false [])])])]),(.str [103,111,97,108])], [], (.str [103,111,97,108,95,52]), h24_3), ([(.agg [(.list false []),(.list false [(.agg [(.str [102]),w24,(.list false [w3,w4,w5]),(.list false [w9,w10]),(.list false [w48,w44,w34,w27,w28]),(.list false []),(.list false []),(.list false [])])])]),(.str [103,111,97,108])], [], (.str [103,111,97,108,95,51]), h24_4), ([(.agg [(.list false []),(.list false [(.agg [(.str [102]),w24,(.list false [w3,w4,w5]),(.list false [w9]),(.list false [w48,w44,w34,w27]),(.list false []),(.list false []),(.list false [])])])]),(.str [118])], [], (.str [118,95,50]), h24_5), ([(.agg [(.list false []),(.list false [(.agg [(.str [102]),w24,(.list false [w3,w4]),(.list false [w9]),(.list false [w48,w44,w34]),(.list false []),(.list false []),(.list false [])])])]),(.str [103,111,97,108])], [], (.str [103,111,97,108,95,50]), h24_6), ([(.agg [(.list false []),(.list false [(.agg [(.str [102]),w24,(.list false [w3]),(.list false [w9]),(.list false [w48,w44]),(.list false []),(.list false []),(.list false [])])])]),(.str [103,111,97,108])], [], (.str [103,111,97,108,95,49]), h24_7), ([w54,(.str [118])], [], (.str [118,95,49]), h24_8)]
def T7 : Tabl := fun j => if j = 24 then some (tabG t24) else T6 j
theorem ok7 : TabOK LC T7 2100 := TabOK.add (f := f_scope_Fresh) ok6 rfl rfl rfl rfl rfl (List.forall_mem_cons.2 ⟨⟨rfl, r24_0⟩, List.forall_mem_cons.2 ⟨⟨rfl, r24_1⟩, List.forall_mem_cons.2 ⟨⟨rfl, r24_2⟩, List.forall_mem_cons.2 ⟨⟨rfl, r24_3⟩, List.forall_mem_cons.2 ⟨⟨rfl, r24_4⟩, List.forall_mem_cons.2 ⟨⟨rfl, r24_5⟩, List.forall_mem_cons.2 ⟨⟨rfl, r24_6⟩, List.forall_mem_cons.2 ⟨⟨rfl, r24_7⟩, List.forall_mem_cons.2 ⟨⟨rfl, r24_8⟩, fun _ h => by cases h⟩⟩⟩⟩⟩⟩⟩⟩⟩)
def h13_0 : List PObj := ((call (ovr LC T7) 300 13 [w54] []).getD (.dead, [])).2
theorem r13_0 : call (ovr LC T7) 300 13 [w54] [] = some ((.tuple [w54,(i 0)]), h13_0) := row_of (by decide +kernel)
def t13 : List Rowt := [([w54], [], (.tuple [w54,(i 0)]), h13_0)]
def T8 : Tabl := fun j => if j = 13 then some (tabG t13) else T7 j
theorem ok8 : TabOK LC T8 2400 := TabOK.add (f := f_accept_Plain) ok7 rfl rfl rfl rfl rfl (List.forall_mem_cons.2 ⟨⟨rfl, r13_0⟩, fun _ h => by cases h⟩)
def h8_0 : List PObj := ((call (ovr LC T8) 300 8 [w54,(.str [102])] []).getD (.dead, [])).2
theorem r8_0 : call (ovr LC T8) 300 8 [w54,(.str [102])] [] = some ((.tuple [w54,(i 0),(i 0)]), h8_0) := row_of (by decide +kernel)
def t8 : List Rowt := [([w54,(.str [102])], [], (.tuple [w54,(i 0),(i 0)]), h8_0)]
def T9 : Tabl := fun j => if j = 8 then some (tabG t8) else T8 j
theorem ok9 : TabOK LC T9 2700 := TabOK.add (f := f_cover_plain) ok8 rfl rfl rfl rfl rfl (List.forall_mem_cons.2 ⟨⟨rfl, r8_0⟩, fun _ h => by cases h⟩)
def h9_0 : List PObj := ((call (ovr LC T9) 300 9 [w51] []).getD (.dead, [])).2
theorem r9_0 : call (ovr LC T9) 300 9 [w51] [] = some ((.list false [(.agg [(i 3),(i 3),(i 0),(i 0),(.str []),w42,(.list false []),(i 1),(.str [102]),(i 0),(i 0),(.bool true)]),(.agg [(i 2),(i 0),(i 0),(i 0),(.str [97]),(.list false []),(.list false []),(i 2),(.str [102]),(i 0),(i 0),(.bool true)]),(.agg [(i 2),(i 0),(i 0),(i 0),(.str [98]),(.list false []),(.list false []),(i 2),(.str [102]),(i 0),(i 1),(.bool true)])]), h9_0) := row_of (by decide +kernel)
def t9 : List Rowt := [([w51], [], (.list false [(.agg [(i 3),(i 3),(i 0),(i 0),(.str []),w42,(.list false []),(i 1),(.str [102]),(i 0),(i 0),(.bool true)]),(.agg [(i 2),(i 0),(i 0),(i 0),(.str [97]),(.list false []),(.list false []),(i 2),(.str [102]),(i 0),(i 0),(.bool true)]),(.agg [(i 2),(i 0),(i 0),(i 0),(.str [98]),(.list false []),(.list false []),(i 2),(.str [102]),(i 0),(i 1),(.bool true)])]), h9_0)]
def T10 : Tabl := fun j => if j = 9 then some (tabG t9) else T9 j
theorem ok10 : TabOK LC T10 3000 := TabOK.add (f := f_cover_parts) ok9 rfl rfl rfl rfl rfl (List.forall_mem_cons.2 ⟨⟨rfl, r9_0⟩, fun _ h => by cases h⟩)
def h11_0 : List PObj := ((call (ovr LC T10) 300 11 [w54,(.str [102])] []).getD (.dead, [])).2
theorem r11_0 : call (ovr LC T10) 300 11 [w54,(.str [102])] [] = some ((.tuple [w53,(i 0)]), h11_0) := row_of (by decide +kernel)
def t11 : List Rowt := [([w54,(.str [102])], [], (.tuple [w53,(i 0)]), h11_0)]
def T11 : Tabl := fun j => if j = 11 then some (tabG t11) else T10 j
theorem ok11 : TabOK LC T11 3300 := TabOK.add (f := f_cover_Probe) ok10 rfl rfl rfl rfl rfl (List.forall_mem_cons.2 ⟨⟨rfl, r11_0⟩, fun _ h => by cases h⟩)
def h4_0 : List PObj := ((call (ovr LC T11) 300 4 [w54,(.str [102])] []).getD (.dead, [])).2
theorem r4_0 : call (ovr LC T11) 300 4 [w54,(.str [102])] [] = some ((.tuple [(.list false [(.agg [(i 1),(.str [102]),(i 0),(i 0),(.bool true)]),(.agg [(i 1),(.str [102]),(i 0),(i 0),(.bool false)]),(.agg [(i 2),(.str [102]),(i 0),(i 0),(.bool true)]),(.agg [(i 2),(.str [102]),(i 0),(i 0),(.bool false)]),(.agg [(i 2),(.str [102]),(i 0),(i 1),(.bool true)]),(.agg [(i 2),(.str [102]),(i 0),(i 1),(.bool false)])]),(i 0)]), h4_0) := row_of (by decide +kernel)
def t4 : List Rowt := [([w54,(.str [102])], [], (.tuple [(.list false [(.agg [(i 1),(.str [102]),(i 0),(i 0),(.bool true)]),(.agg [(i 1),(.str [102]),(i 0),(i 0),(.bool false)]),(.agg [(i 2),(.str [102]),(i 0),(i 0),(.bool true)]),(.agg [(i 2),(.str [102]),(i 0),(i 0),(.bool false)]),(.agg [(i 2),(.str [102]),(i 0),(i 1),(.bool true)]),(.agg [(i 2),(.str [102]),(i 0),(i 1),(.bool false)])]),(i 0)]), h4_0)]
def T12 : Tabl := fun j => if j = 4 then some (tabG t4) else T11 j
theorem ok12 : TabOK LC T12 3600 := TabOK.add (f := f_cover_Goals) ok11 rfl rfl rfl rfl rfl (List.forall_mem_cons.2 ⟨⟨rfl, r4_0⟩, fun _ h => by cases h⟩)
theorem r28_0 : call (ovr LC T12) 300 28 [(.ptr 0 0),w1] HA = some ((.tuple [w21,(i 0)]), HB) := by decide +kernel
def h28_1 : List PObj := ((call (ovr LC T12) 300 28 [(.ptr 0 0),w2] HB).getD (.dead, [])).2
theorem r28_1 : call (ovr LC T12) 300 28 [(.ptr 0 0),w2] HB = some ((.tuple [w22,(i 0)]), h28_1) := row_of (by decide +kernel)
def t28 : List Rowt := [([(.ptr 0 0),w1], HA, (.tuple [w21,(i 0)]), HB), ([(.ptr 0 0),w2], HB, (.tuple [w22,(i 0)]), h28_1)]
def T13 : Tabl := fun j => if j = 28 then some (tabG t28) else T12 j
theorem ok13 : TabOK LC T13 3900 := TabOK.add (f := f_sim_Sim_Step) ok12 rfl rfl rfl rfl rfl (List.forall_mem_cons.2 ⟨⟨rfl, r28_0⟩, List.forall_mem_cons.2 ⟨⟨rfl, r28_1⟩, fun _ h => by cases h⟩⟩)
def h12_0 : List PObj := ((call (ovr LC T13) 300 12 [w53,(.str [102]),(.list false [w1,w2])] []).getD (.dead, [])).2
theorem r12_0 : call (ovr LC T13) 300 12 [w53,(.str [102]),(.list false [w1,w2])] [] = some ((.tuple [(.list false [w21,w22]),(i 0)]), h12_0) := row_of (by decide +kernel)
def h12_1 : List PObj := ((call (ovr LC T13) 300 12 [w53,(.str [102]),(.list false [w1])] []).getD (.dead, [])).2
theorem r12_1 : call (ovr LC T13) 300 12 [w53,(.str [102]),(.list false [w1])] [] = some ((.tuple [(.list false [w21]),(i 0)]), h12_1) := row_of (by decide +kernel)
def t12 : List Rowt := [([w53,(.str [102]),(.list false [w1,w2])], [], (.tuple [(.list false [w21,w22]),(i 0)]), h12_0), ([w53,(.str [102]),(.list false [w1])], [], (.tuple [(.list false [w21]),(i 0)]), h12_1)]
def T14 : Tabl := fun j => if j = 12 then some (tabG t12) else T13 j
theorem ok14 : TabOK LC T14 4200 := TabOK.add (f := f_sim_Run) ok13 rfl rfl rfl rfl rfl (List.forall_mem_cons.2 ⟨⟨rfl, r12_0⟩, List.forall_mem_cons.2 ⟨⟨rfl, r12_1⟩, fun _ h => by cases h⟩⟩)
def h6_0 : List PObj := ((call (ovr LC T14) 300 6 [w54,(.str [102]),(.list false [w1,w2])] []).getD (.dead, [])).2
theorem r6_0 : call (ovr LC T14) 300 6 [w54,(.str [102]),(.list false [w1,w2])] [] = some ((.tuple [(.list false [(.bool true),(.bool true),(.bool true),(.bool true),(.bool true),(.bool true)]),(i 0)]), h6_0) := row_of (by decide +kernel)
def h6_1 : List PObj := ((call (ovr LC T14) 300 6 [w54,(.str [102]),(.list false [w1])] []).getD (.dead, [])).2
theorem r6_1 : call (ovr LC T14) 300 6 [w54,(.str [102]),(.list false [w1])] [] = some ((.tuple [(.list false [(.bool true),(.bool false),(.bool true),(.bool false),(.bool false),(.bool true)]),(i 0)]), h6_1) := row_of (by decide +kernel)
def t6 : List Rowt := [([w54,(.str [102]),(.list false [w1,w2])], [], (.tuple [(.list false [(.bool true),(.bool true),(.bool true),(.bool true),(.bool true),(.bool true)]),(i 0)]), h6_0), ([w54,(.str [102]),(.list false [w1])], [], (.tuple [(.list false [(.bool true),(.bool false),(.bool true),(.bool false),(.bool false),(.bool true)]),(i 0)]), h6_1)]
def T15 : Tabl := fun j => if j = 6 then some (tabG t6) else T14 j
theorem ok15 : TabOK LC T15 4500 := TabOK.add (f := f_cover_Hits) ok14 rfl rfl rfl rfl rfl (List.forall_mem_cons.2 ⟨⟨rfl, r6_0⟩, List.forall_mem_cons.2 ⟨⟨rfl, r6_1⟩, fun _ h => by cases h⟩⟩)
theorem lives_run : (call (ovr LC T15) 300 1 [] []).map (·.1) = some (.bool true) := by decide +kernel
theorem lives_call : ∃ m h, call LC m 1 [] [] = some (.bool true, h) := ⟨_, _, call_ovr (f := f_law45_lives) ok15 rfl rfl (row_of lives_run)⟩
end PI.Sc
