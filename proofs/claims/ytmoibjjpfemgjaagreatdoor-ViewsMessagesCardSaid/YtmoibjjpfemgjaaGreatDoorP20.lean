/- Parts of the proofs of the statement, joined and made short: EC0. -/
import Derived.Test.YtmoibjjpfemgjaaGreatDoorP3
import Derived.Test.YtmoibjjpfemgjaaGreatDoorProg
import Derived.KernelRfl
set_option linter.unusedVariables false
set_option linter.unusedSimpArgs false
set_option linter.unusedSectionVars false
namespace Go.Am
open Go.Proofs
def glob0:List Dat:=[.str [99,111,110,115,116],.bool true,.bool false,.bool false,.bool false,.bool true,.bool false,.bool false,.str [99,111,112,121],.bool true,.bool true,.bool false,.bool false,.bool false,.bool false,.bool false,.str [99,97,108,99],.bool true,.bool true,.bool true,.bool false,.bool false,.bool true,.bool false,.str [106,117,109,112],.bool false,.bool false,.bool false,.bool false,.bool true,.bool false,.bool false,.str [98,114,97,110,99,104],.bool false,.bool true,.bool false,.bool false,.bool true,.bool false,.bool false,.str [97,115,115,101,114,116],.bool false,.bool true,.bool false,.bool false,.bool false,.bool false,.bool false,.str [115,116,111,112],.bool false,.bool false,.bool false,.bool false,.bool false,.bool false,.bool false,.str [108,111,97,100],.bool true,.bool false,.bool false,.bool true,.bool false,.bool false,.bool true,.str [115,116,111,114,101],.bool false,.bool true,.bool false,.bool true,.bool false,.bool false,.bool true,.str [115,119,97,112],.bool true,.bool true,.bool false,.bool true,.bool false,.bool false,.bool true,.str [102,101,116,99,104,97,100,100],.bool true,.bool true,.bool false,.bool true,.bool false,.bool false,.bool true,.str [99,97,115],.bool true,.bool true,.bool true,.bool true,.bool false,.bool false,.bool true,.str [102,101,110,99,101],.bool false,.bool false,.bool false,.bool false,.bool false,.bool false,.bool false,.str [97,119,97,105,116],.bool true,.bool true,.bool false,.bool true,.bool false,.bool true,.bool true,.str [108,111,99,107],.bool false,.bool false,.bool false,.bool true,.bool false,.bool false,.bool false,.str [117,110,108,111,99,107],.bool false,.bool false,.bool false,.bool true,.bool false,.bool false,.bool false,.str [116,114,121,108,111,99,107],.bool true,.bool false,.bool false,.bool true,.bool false,.bool false,.bool false,.str [119,97,105,116],.bool false,.bool false,.bool false,.bool true,.bool true,.bool false,.bool false,.str [115,105,103,110,97,108],.bool false,.bool false,.bool false,.bool true,.bool false,.bool false,.bool false,.str [98,114,111,97,100,99,97,115,116],.bool false,.bool false,.bool false,.bool true,.bool false,.bool false,.bool false,.str [115,112,97,119,110],.bool true,.bool true,.bool false,.bool true,.bool false,.bool false,.bool false,.str [106,111,105,110],.bool false,.bool true,.bool false,.bool false,.bool false,.bool false,.bool false]
def glob1:List Dat:=[.str [97,100,100],.str [115,117,98],.str [109,117,108],.str [97,110,100],.str [111,114],.str [120,111,114],.str [101,113],.str [110,101],.str [108,116],.str [108,101]]
noncomputable instance:Glob where
 tab:=fun g=>match g with|0=>some glob0|1=>some glob1|_=>none
 lps:=fun f=>match Tryz.prog.funcs[f]? with
  |some fn=>match fn.body with
   |some c=>match rfs c with
    |[st]=>some (fn.ntmps,st)
    |_=>none
   |none=>none
  |none=>none
noncomputable def cF (f:FuncId) (k:Bool) (fn:AFun):Option AFun:=cFun Tryz.prog (annF Tryz.prog f fn) k f
noncomputable def cL (f:FuncId) (lp:ALoop):Option ALoop:=cLoop Tryz.prog (annL Tryz.prog f lp) f
end Go.Am
