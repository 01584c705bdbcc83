/-
  New of the node, and the page's example: calls whose results are known, as tables, each row by the kernel over the tables ahead of it.
-/
import Derived.Test.YtmfkoljiknjcmaaGreatDoorPiSsTok
import Derived.Test.YtmfkoljiknjcmaaGreatDoorPiMemo
set_option linter.constructorNameAsVariable false
set_option linter.unusedVariables false
set_option linter.unusedSimpArgs false
set_option maxRecDepth 100000
namespace PI.Sc
open Fast
def PS:PV:=(.agg [(.list false []),(.list false [(.agg [(.str [102]),(.list false [(.agg [(.str [99]),(i 1),(.list false [])]),(.agg [(.str [97]),(i 2),(.list false [])])]),(.list false [(.agg [(.str [120]),(i 2),(.list false [])])]),(.list false [(.agg [(.str [121]),(i 2),(.list false [(.agg [(.str [99]),(i 1),(i 1)])])])]),(.list false [(.agg [(.list false [(.str [121])]),(i 8),(i 0),(i 1),(i 1),(.str [99]),(.list false [(.agg [(i 2),(i 0),(i 0),(i 0),(.str [97]),(.list false [])])])]),(.agg [(.list false [(.str [120])]),(i 9),(i 0),(i 1),(i 0),(.str [99]),(.list false [(.agg [(i 1),(i 0),(i 2),(i 0),(.str []),(.list false [])]),(.agg [(i 2),(i 0),(i 0),(i 0),(.str [121]),(.list false [])])])])]),(.list false []),(.list false []),(.list false [])])])])
noncomputable section
def okR(o:Option (PV×List PObj))(r:PV):Bool:=match o with|some q=>eqV q.1 r|none=>false
def hpF(L:Nat->Option PFunc)(k:Nat)(args:List PV):List PObj:=((callF trR L 300 k args []).getD (.dead,[])).2
theorem rowF{L:Nat->Option PFunc}{k:Nat}{args:List PV}{r:PV}(hr:okR (callF trR L 300 k args []) r=true):call L 300 k args []=some (r,hpF L k args):=by cases a:callF trR L 300 k args []with|none=>rw[a]at hr;cases hr|some q=>rw[a]at hr;have e:q.1=r:=eqV_ok hr;refine callF_ok trR_ok ?_;rw[a,hpF,a,<-e];rfl
def T0:Tabl:=λ_=>none
theorem ok0:TabOK LB T0 0:=TabOK.nil
theorem t58_0:okR (callF trR (ovr LB T0) 300 58 [PS] []) (.tuple [(.agg [(i 0),(i 0)]),(i 0)])=true:=by decide+kernel
theorem t58_1:okR (callF trR (ovr LB T0) 300 58 [PD] []) (.tuple [(.agg [(i 0),(i 0)]),(i 0)])=true:=by decide+kernel
def t58:List Rowt:=[([PS],[],(.tuple [(.agg [(i 0),(i 0)]),(i 0)]),hpF (ovr LB T0) 58 [PS]),([PD],[],(.tuple [(.agg [(i 0),(i 0)]),(i 0)]),hpF (ovr LB T0) 58 [PD])]
def T1:Tabl:=λj=>if j=58 then some (tabG t58)else T0 j
theorem ok1:TabOK LB T1 300:=TabOK.add (f:=f_shape_Check) ok0 rfl rfl rfl rfl rfl (List.forall_mem_cons.2 ⟨⟨rfl,rowF t58_0⟩,List.forall_mem_cons.2 ⟨⟨rfl,rowF t58_1⟩,λ_ h=>by cases h⟩⟩)
theorem t48_0:okR (callF trR (ovr LB T1) 300 48 [PS] []) (.tuple [(.agg [(i 0),(i 0)]),(i 0)])=true:=by decide+kernel
theorem t48_1:okR (callF trR (ovr LB T1) 300 48 [PD] []) (.tuple [(.agg [(i 0),(i 0)]),(i 0)])=true:=by decide+kernel
def t48:List Rowt:=[([PS],[],(.tuple [(.agg [(i 0),(i 0)]),(i 0)]),hpF (ovr LB T1) 48 [PS]),([PD],[],(.tuple [(.agg [(i 0),(i 0)]),(i 0)]),hpF (ovr LB T1) 48 [PD])]
def T2:Tabl:=λj=>if j=48 then some (tabG t48)else T1 j
theorem ok2:TabOK LB T2 600:=TabOK.add (f:=f_scope_Check) ok1 rfl rfl rfl rfl rfl (List.forall_mem_cons.2 ⟨⟨rfl,rowF t48_0⟩,List.forall_mem_cons.2 ⟨⟨rfl,rowF t48_1⟩,λ_ h=>by cases h⟩⟩)
theorem t31_0:okR (callF trR (ovr LB T2) 300 31 [PS] []) (.tuple [(.agg [(i 0),(i 0)]),(i 0)])=true:=by decide+kernel
theorem t31_1:okR (callF trR (ovr LB T2) 300 31 [PD] []) (.tuple [(.agg [(i 0),(i 0)]),(i 0)])=true:=by decide+kernel
def t31:List Rowt:=[([PS],[],(.tuple [(.agg [(i 0),(i 0)]),(i 0)]),hpF (ovr LB T2) 31 [PS]),([PD],[],(.tuple [(.agg [(i 0),(i 0)]),(i 0)]),hpF (ovr LB T2) 31 [PD])]
def T3:Tabl:=λj=>if j=31 then some (tabG t31)else T2 j
theorem ok3:TabOK LB T3 900:=TabOK.add (f:=f_types_Check) ok2 rfl rfl rfl rfl rfl (List.forall_mem_cons.2 ⟨⟨rfl,rowF t31_0⟩,List.forall_mem_cons.2 ⟨⟨rfl,rowF t31_1⟩,λ_ h=>by cases h⟩⟩)
theorem t59_0:okR (callF trR (ovr LB T3) 300 59 [PS] []) PS=true:=by decide+kernel
theorem t59_1:okR (callF trR (ovr LB T3) 300 59 [PD] []) PD=true:=by decide+kernel
def t59:List Rowt:=[([PS],[],PS,hpF (ovr LB T3) 59 [PS]),([PD],[],PD,hpF (ovr LB T3) 59 [PD])]
def T4:Tabl:=λj=>if j=59 then some (tabG t59)else T3 j
theorem ok4:TabOK LB T4 1200:=TabOK.add (f:=f_modes_copied) ok3 rfl rfl rfl rfl rfl (List.forall_mem_cons.2 ⟨⟨rfl,rowF t59_0⟩,List.forall_mem_cons.2 ⟨⟨rfl,rowF t59_1⟩,λ_ h=>by cases h⟩⟩)
theorem t32_0:okR (callF trR (ovr LB T4) 300 32 [PS] []) (.tuple [PS,(i 0)])=true:=by decide+kernel
theorem t32_1:okR (callF trR (ovr LB T4) 300 32 [PD] []) (.tuple [PD,(i 0)])=true:=by decide+kernel
def t32:List Rowt:=[([PS],[],(.tuple [PS,(i 0)]),hpF (ovr LB T4) 32 [PS]),([PD],[],(.tuple [PD,(i 0)]),hpF (ovr LB T4) 32 [PD])]
def T5:Tabl:=λj=>if j=32 then some (tabG t32)else T4 j
theorem ok5:TabOK LB T5 1500:=TabOK.add (f:=f_modes_Expand) ok4 rfl rfl rfl rfl rfl (List.forall_mem_cons.2 ⟨⟨rfl,rowF t32_0⟩,List.forall_mem_cons.2 ⟨⟨rfl,rowF t32_1⟩,λ_ h=>by cases h⟩⟩)
theorem t33_0:okR (callF trR (ovr LB T5) 300 33 [PS] []) (.tuple [(.agg [(i 0),(i 0)]),(i 0)])=true:=by decide+kernel
theorem t33_1:okR (callF trR (ovr LB T5) 300 33 [PD] []) (.tuple [(.agg [(i 0),(i 0)]),(i 0)])=true:=by decide+kernel
def t33:List Rowt:=[([PS],[],(.tuple [(.agg [(i 0),(i 0)]),(i 0)]),hpF (ovr LB T5) 33 [PS]),([PD],[],(.tuple [(.agg [(i 0),(i 0)]),(i 0)]),hpF (ovr LB T5) 33 [PD])]
def T6:Tabl:=λj=>if j=33 then some (tabG t33)else T5 j
theorem ok6:TabOK LB T6 1800:=TabOK.add (f:=f_clocks_Check) ok5 rfl rfl rfl rfl rfl (List.forall_mem_cons.2 ⟨⟨rfl,rowF t33_0⟩,List.forall_mem_cons.2 ⟨⟨rfl,rowF t33_1⟩,λ_ h=>by cases h⟩⟩)
theorem t34_0:okR (callF trR (ovr LB T6) 300 34 [PS] []) (.tuple [(.agg [(i 0),(i 0)]),(i 0)])=true:=by decide+kernel
theorem t34_1:okR (callF trR (ovr LB T6) 300 34 [PD] []) (.tuple [(.agg [(i 0),(i 0)]),(i 0)])=true:=by decide+kernel
def t34:List Rowt:=[([PS],[],(.tuple [(.agg [(i 0),(i 0)]),(i 0)]),hpF (ovr LB T6) 34 [PS]),([PD],[],(.tuple [(.agg [(i 0),(i 0)]),(i 0)]),hpF (ovr LB T6) 34 [PD])]
def T7:Tabl:=λj=>if j=34 then some (tabG t34)else T6 j
theorem ok7:TabOK LB T7 2100:=TabOK.add (f:=f_cause_Check) ok6 rfl rfl rfl rfl rfl (List.forall_mem_cons.2 ⟨⟨rfl,rowF t34_0⟩,List.forall_mem_cons.2 ⟨⟨rfl,rowF t34_1⟩,λ_ h=>by cases h⟩⟩)
theorem t36_0:okR (callF trR (ovr LB T7) 300 36 [PS] []) PS=true:=by decide+kernel
theorem t36_1:okR (callF trR (ovr LB T7) 300 36 [PD] []) PD=true:=by decide+kernel
def t36:List Rowt:=[([PS],[],PS,hpF (ovr LB T7) 36 [PS]),([PD],[],PD,hpF (ovr LB T7) 36 [PD])]
def T8:Tabl:=λj=>if j=36 then some (tabG t36)else T7 j
theorem ok8:TabOK LB T8 2400:=TabOK.add (f:=f_sim_program) ok7 rfl rfl rfl rfl rfl (List.forall_mem_cons.2 ⟨⟨rfl,rowF t36_0⟩,List.forall_mem_cons.2 ⟨⟨rfl,rowF t36_1⟩,λ_ h=>by cases h⟩⟩)
def H0:List PObj:=(heapC true false).map λo=>match o with|PObj.cells a=>PObj.cells (a.map λv=>match v with|PV.iface _ _=>i 0|v=>v)|o=>o
theorem new_k:(match callF trR (ovr LB T8) 300 13 [PD,.str [102]] []with|some q=>eqV q.1 (.tuple [.ptr 0 0,i 0])&&eqHp q.2 H0|none=>false)=true:=by decide+kernel
theorem new_call:callL LB 13 [PD,.str [102]] []=some (.tuple [.ptr 0 0,i 0],H0):=by have h:=new_k;cases a:callF trR (ovr LB T8) 300 13 [PD,.str [102]] []with|none=>rw[a]at h;cases h|some q=>rw[a]at h;simp only[Bool.and_eq_true]at h;have e:q=(.tuple [.ptr 0 0,i 0],H0):=Prod.ext (eqV_ok h.1) (eqHp_ok h.2);rw[e]at a;exact callL_iff.2 ⟨_,call_ovr (f:=f_sim_New) ok8 rfl rfl (callF_ok trR_ok a)⟩
theorem awake_k:okR (callF trR (ovr LB T8) 300 12 [] []) (.bool true)=true:=by decide+kernel
theorem awake_call:∃h,callL LB 12 [] []=some (.bool true,h):=⟨_,callL_iff.2 ⟨_,call_ovr (f:=f_law17_awake) ok8 rfl rfl (rowF awake_k)⟩⟩
theorem delays_k:okR (callF trR LB 300 2 [] []) PD=true:=by decide+kernel
theorem delays_call:∃h,callL LB 2 [] []=some (PD,h):=⟨_,callL_iff.2 ⟨_,rowF delays_k⟩⟩
end
end PI.Sc
