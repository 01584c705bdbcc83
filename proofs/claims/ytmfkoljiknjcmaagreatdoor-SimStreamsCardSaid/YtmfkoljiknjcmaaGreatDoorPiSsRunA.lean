/-
  The runs of an instant, by the kernel (first part).
-/
import Derived.Test.YtmfkoljiknjcmaaGreatDoorPiSsTok
set_option linter.constructorNameAsVariable false
set_option linter.unusedVariables false
set_option linter.unusedSimpArgs false
set_option maxRecDepth 100000
namespace PI.Sc
open Fast
theorem run_tfttt:good true false true true true (execS trR (LT true) 300 stepA (entry true false true true))=true:=by decide+kernel
theorem run_tfttf:good true false true true false (execS trR (LT true) 300 stepA (entry true false true false))=true:=by decide+kernel
theorem run_tftft:good true false true false true (execS trR (LT true) 300 stepA (entry true false false true))=true:=by decide+kernel
theorem run_tftff:good true false true false false (execS trR (LT true) 300 stepA (entry true false false false))=true:=by decide+kernel
theorem run_ftttt:good false true true true true (execS trR (LT true) 300 stepA (entry false true true true))=true:=by decide+kernel
theorem run_ftttf:good false true true true false (execS trR (LT true) 300 stepA (entry false true true false))=true:=by decide+kernel
theorem run_fttft:good false true true false true (execS trR (LT true) 300 stepA (entry false true false true))=true:=by decide+kernel
theorem run_fttff:good false true true false false (execS trR (LT true) 300 stepA (entry false true false false))=true:=by decide+kernel
theorem run_ftftt:good false true false true true (execS trR (LT false) 300 stepA (entry false true true true))=true:=by decide+kernel
theorem run_ftftf:good false true false true false (execS trR (LT false) 300 stepA (entry false true true false))=true:=by decide+kernel
end PI.Sc
