/-
  The runs of an instant, by the kernel (second part).
-/
import Derived.Test.YtmfkoljiknjcmaaGreatDoorPiSsTok
set_option linter.constructorNameAsVariable false
set_option linter.unusedVariables false
set_option linter.unusedSimpArgs false
set_option maxRecDepth 100000
namespace PI.Sc
open Fast
theorem run_ftfft:good false true false false true (execS trR (LT false) 300 stepA (entry false true false true))=true:=by decide+kernel
theorem run_ftfff:good false true false false false (execS trR (LT false) 300 stepA (entry false true false false))=true:=by decide+kernel
theorem run_ffttt:good false false true true true (execS trR (LT true) 300 stepA (entry false false true true))=true:=by decide+kernel
theorem run_ffttf:good false false true true false (execS trR (LT true) 300 stepA (entry false false true false))=true:=by decide+kernel
theorem run_fftft:good false false true false true (execS trR (LT true) 300 stepA (entry false false false true))=true:=by decide+kernel
theorem run_fftff:good false false true false false (execS trR (LT true) 300 stepA (entry false false false false))=true:=by decide+kernel
theorem run_ffftt:good false false false true true (execS trR (LT false) 300 stepA (entry false false true true))=true:=by decide+kernel
theorem run_ffftf:good false false false true false (execS trR (LT false) 300 stepA (entry false false true false))=true:=by decide+kernel
theorem run_fffft:good false false false false true (execS trR (LT false) 300 stepA (entry false false false true))=true:=by decide+kernel
theorem run_fffff:good false false false false false (execS trR (LT false) 300 stepA (entry false false false false))=true:=by decide+kernel
end PI.Sc
