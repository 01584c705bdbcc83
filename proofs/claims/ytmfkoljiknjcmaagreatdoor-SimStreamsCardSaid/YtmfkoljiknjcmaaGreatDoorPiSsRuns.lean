/-
  The runs of an instant, all of them.
-/
import Derived.Test.YtmfkoljiknjcmaaGreatDoorPiSsRunA
import Derived.Test.YtmfkoljiknjcmaaGreatDoorPiSsRunB
set_option linter.constructorNameAsVariable false
set_option linter.unusedVariables false
set_option linter.unusedSimpArgs false
namespace PI.Sc
open Fast
theorem runs:∀f u e c d:Bool,(f=true->u=false/\e=true)->good f u e c d (execS trR (LT e) 300 stepA (entry f u c d))=true|true,true,true,true,true,h=>absurd (h rfl) (by simp)|true,true,true,true,false,h=>absurd (h rfl) (by simp)|true,true,true,false,true,h=>absurd (h rfl) (by simp)|true,true,true,false,false,h=>absurd (h rfl) (by simp)|true,true,false,true,true,h=>absurd (h rfl) (by simp)|true,true,false,true,false,h=>absurd (h rfl) (by simp)|true,true,false,false,true,h=>absurd (h rfl) (by simp)|true,true,false,false,false,h=>absurd (h rfl) (by simp)|true,false,true,true,true,_=>run_tfttt|true,false,true,true,false,_=>run_tfttf|true,false,true,false,true,_=>run_tftft|true,false,true,false,false,_=>run_tftff|true,false,false,true,true,h=>absurd (h rfl) (by simp)|true,false,false,true,false,h=>absurd (h rfl) (by simp)|true,false,false,false,true,h=>absurd (h rfl) (by simp)|true,false,false,false,false,h=>absurd (h rfl) (by simp)|false,true,true,true,true,_=>run_ftttt|false,true,true,true,false,_=>run_ftttf|false,true,true,false,true,_=>run_fttft|false,true,true,false,false,_=>run_fttff|false,true,false,true,true,_=>run_ftftt|false,true,false,true,false,_=>run_ftftf|false,true,false,false,true,_=>run_ftfft|false,true,false,false,false,_=>run_ftfff|false,false,true,true,true,_=>run_ffttt|false,false,true,true,false,_=>run_ffttf|false,false,true,false,true,_=>run_fftft|false,false,true,false,false,_=>run_fftff|false,false,false,true,true,_=>run_ffftt|false,false,false,true,false,_=>run_ffftf|false,false,false,false,true,_=>run_fffft|false,false,false,false,false,_=>run_fffff
end PI.Sc
