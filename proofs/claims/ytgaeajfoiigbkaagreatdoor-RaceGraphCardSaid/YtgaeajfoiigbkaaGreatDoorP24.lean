/- Parts of the proofs of the statement, joined and made short: ACode1. -/
import Derived.Test.YtgaeajfoiigbkaaGreatDoorP23
set_option linter.unusedVariables false
set_option linter.unusedSimpArgs false
set_option linter.unusedSectionVars false
namespace Go.Am
open Go.Proofs
def ann15 : Ann:=[A 0 [] [] [],A 1 [] [] [],A 2 [1] [] [],A 3 [1,2,3] [] [],A 4 [1,2,3,4,5] [] [],A 5 [2,3,4,5,6,7] [] [],A 6 [2,3,4,5,6,7,9] [] []]
theorem ok15 : (cFun Tryz.prog ann15 false 15).isSome = true:=by kernel_rfl
noncomputable def fn15 : AFun:=getF (cFun Tryz.prog ann15 false 15)
theorem c15 : cFun Tryz.prog ann15 false 15 = some fn15:=zaa7 ok15
def ann16 : Ann:=[A 0 [0] [] [],A 1 [1] [] [],A 2 [1,4,5] [] [],A 3 [5] [] [],A 4 [1,4] [] [(0,⟨.o,[]⟩)],A 5 [1,4,6] [] [],A 6 [1,4,6,19,20,21] [1,4,6,19] [],A 7 [1,4,6,19,20,21] [] [],A 8 [1,4,6,7,8,19,20,21] [] [],A 9 [1,4,6,7,8,9,19,20,21] [1,4,6,8,19] [],A 11 [1,4,6,7,8,9,19,20,21] [] [],A 12 [1,4,6,7,8,9,19,20,21] [] [(5,⟨.o,[]⟩)],A 10 [1,4,6,7,8,9,19,20,21] [] [],A 13 [1,4,6,19,20,21] [] [],A 14 [6] [] []]
theorem ok16 : (cFun Tryz.prog ann16 false 16).isSome = true:=by kernel_rfl
noncomputable def fn16 : AFun:=getF (cFun Tryz.prog ann16 false 16)
theorem c16 : cFun Tryz.prog ann16 false 16 = some fn16:=zaa7 ok16
def ann18 : Ann:=[A 0 [0,1] [] [],A 1 [0,1] [] [],A 2 [] [] [],A 3 [0,1] [] [],A 4 [0,1,5] [] [],A 6 [0,1,5] [] [],A 7 [] [] [],A 5 [0,1,5] [] [],A 8 [] [] []]
theorem ok18 : (cFun Tryz.prog ann18 false 18).isSome = true:=by kernel_rfl
noncomputable def fn18 : AFun:=getF (cFun Tryz.prog ann18 false 18)
theorem c18 : cFun Tryz.prog ann18 false 18 = some fn18:=zaa7 ok18
def ann20 : Ann:=[A 0 [0] [] [],A 1 [0] [] [],A 2 [] [] [],A 3 [0] [] [(0,⟨.o,[]⟩)],A 4 [0,3] [] [],A 5 [0,3,9,10] [0,3] [],A 6 [0,3,9,10] [] [],A 7 [0,3,4,9,10] [] [(5,⟨.o,[]⟩)],A 8 [0,3,9,10] [] [],A 9 [3] [] []]
theorem ok20 : (cFun Tryz.prog ann20 false 20).isSome = true:=by kernel_rfl
noncomputable def fn20 : AFun:=getF (cFun Tryz.prog ann20 false 20)
theorem c20 : cFun Tryz.prog ann20 false 20 = some fn20:=zaa7 ok20
def ann31 : Ann:=[A 0 [0,1,2] [] [],A 1 [2,3,4] [] [],A 2 [8,9] [] [],A 3 [9] [] [],A 4 [8] [] [],A 5 [10] [] [(0,⟨.o,[]⟩)],A 6 [10,11] [] [],A 7 [10,11,28,29,30] [10,11,28] [],A 8 [10,11,28,29,30] [] [],A 9 [10,11,12,13,28,29,30] [] [],A 10 [10,11,12,13,14,28,29,30] [10,11,13,28] [],A 12 [10,11,12,13,14,28,29,30] [] [],A 13 [10,11,12,13,14,28,29,30] [] [(5,⟨.o,[]⟩)],A 11 [10,11,12,13,14,28,29,30] [] [],A 14 [10,11,28,29,30] [] [],A 15 [11] [] []]
theorem ok31 : (cFun Tryz.prog ann31 false 31).isSome = true:=by kernel_rfl
noncomputable def fn31 : AFun:=getF (cFun Tryz.prog ann31 false 31)
theorem c31 : cFun Tryz.prog ann31 false 31 = some fn31:=zaa7 ok31
def ann32 : Ann:=[A 0 [] [] [],A 1 [0] [] [],A 2 [0,1] [] [],A 3 [0,1,2] [] []]
theorem ok32 : (cFun Tryz.prog ann32 false 32).isSome = true:=by kernel_rfl
noncomputable def fn32 : AFun:=getF (cFun Tryz.prog ann32 false 32)
theorem c32 : cFun Tryz.prog ann32 false 32 = some fn32:=zaa7 ok32
def ann33 : Ann:=[A 0 [0,1,2] [] [],A 1 [2,3,4] [] [],A 2 [3,4,8,9] [] [],A 3 [9] [] [],A 4 [3,4,8] [] [],A 5 [3,4,25,26,27] [3,4,25] [],A 6 [3,4,25,26,27] [] [],A 7 [3,4,11,25,26,27] [] [],A 8 [3,4,12,13,25,26,27] [] [],A 9 [13] [] [],A 10 [3,4,12,25,26,27] [] [],A 11 [] [] [],A 12 [3,4,25,26,27] [] [],A 13 [] [] []]
theorem ok33 : (cFun Tryz.prog ann33 false 33).isSome = true:=by kernel_rfl
noncomputable def fn33 : AFun:=getF (cFun Tryz.prog ann33 false 33)
theorem c33 : cFun Tryz.prog ann33 false 33 = some fn33:=zaa7 ok33
def ann34 : Ann:=[A 0 [0] [] [],A 1 [1,2] [] [(2,⟨.d,[1]⟩)]]
theorem ok34 : (cFun Tryz.prog ann34 false 34).isSome = true:=by kernel_rfl
noncomputable def fn34 : AFun:=getF (cFun Tryz.prog ann34 false 34)
theorem c34 : cFun Tryz.prog ann34 false 34 = some fn34:=zaa7 ok34
def ann35 : Ann:=[A 0 [0,1] [] [],A 1 [2,3] [] [],A 2 [] [] [],A 3 [2,3] [] []]
theorem ok35 : (cFun Tryz.prog ann35 false 35).isSome = true:=by kernel_rfl
noncomputable def fn35 : AFun:=getF (cFun Tryz.prog ann35 false 35)
theorem c35 : cFun Tryz.prog ann35 false 35 = some fn35:=zaa7 ok35
def ann40 : Ann:=[A 0 [0] [] [],A 1 [0] [] [(5,⟨.d,[1]⟩)]]
theorem ok40 : (cFun Tryz.prog ann40 false 40).isSome = true:=by kernel_rfl
noncomputable def fn40 : AFun:=getF (cFun Tryz.prog ann40 false 40)
theorem c40 : cFun Tryz.prog ann40 false 40 = some fn40:=zaa7 ok40
def ann41 : Ann:=[A 0 [0,1] [] [],A 1 [0,1] [] [],A 2 [0,1,5] [] [],A 3 [] [] [],A 4 [0,1,5] [] [],A 5 [0,1,5] [] [],A 6 [0,1,5] [] [],A 7 [0,5,6] [0,5] [],A 9 [0,5,6] [] [],A 10 [0,5,6,7] [] [],A 11 [0,6,7] [] [],A 12 [0,6,7] [] [],A 13 [6,8] [] [],A 14 [8] [] [],A 15 [6] [] [],A 8 [0,5,6] [] [],A 16 [] [] []]
theorem ok41 : (cFun Tryz.prog ann41 false 41).isSome = true:=by kernel_rfl
noncomputable def fn41 : AFun:=getF (cFun Tryz.prog ann41 false 41)
theorem c41 : cFun Tryz.prog ann41 false 41 = some fn41:=zaa7 ok41
def ann45 : Ann:=[A 0 [0] [] [],A 1 [0] [] [],A 2 [0,3] [] [],A 3 [0,3,4,5,6] [] [],A 4 [0,3,4,5,6,7] [] [],A 5 [0,3,4,5,6,7,32,33,34] [0,3,4,5,6,7,32] [],A 6 [0,3,4,5,6,7,32,33,34] [] [],A 7 [0,3,4,5,6,7,8,9,32,33,34] [] [],A 8 [0,3,4,5,6,7,8,9,10,32,33,34] [] [],A 9 [0,3,4,5,6,7,8,9,10,11,32,33,34] [] [],A 10 [0,3,4,5,6,7,8,9,10,11,12,13,32,33,34] [] [],A 11 [0,3,4,5,6,7,8,9,10,11,12,32,33,34] [] [(2,⟨.d,[1000]⟩)],A 12 [0,3,4,5,6,7,8,9,10,11,32,33,34] [] [],A 13 [0,3,4,5,6,7,8,9,10,11,32,33,34,52,53,54] [0,3,4,5,6,7,9,10,11,32,52] [],A 14 [0,3,4,5,6,7,8,9,10,11,32,33,34,52,53,54] [] [],A 15 [0,3,4,5,6,7,8,9,10,11,15,32,33,34,52,53,54] [] [],A 16 [0,3,4,5,6,7,8,9,10,11,15,16,17,32,33,34,52,53,54] [] [],A 17 [0,3,4,5,6,7,8,9,10,11,15,16,32,33,34,52,53,54] [] [(2,⟨.d,[1000]⟩)],A 18 [0,3,4,5,6,7,8,9,10,11,15,32,33,34,52,53,54] [] [],A 19 [0,3,4,5,6,7,8,9,10,11,32,33,34,52,53,54] [] [],A 20 [0,3,4,5,6,7,8,9,10,11,32,33,34] [] [],A 21 [0,3,4,5,6,7,8,9,10,11,32,33,34,75,76,77] [] [],A 22 [0,3,4,5,6,7,8,9,10,11,32,33,34,75,76,77] [] [],A 23 [0,3,4,5,6,7,8,9,10,11,19,32,33,34,75,76,77] [] [(2,⟨.d,[1000]⟩)],A 24 [0,3,4,5,6,7,8,9,10,11,32,33,34,75,76,77] [] [],A 25 [0,3,4,5,6,7,8,9,10,11,32,33,34] [] [],A 26 [0,3,4,5,6,7,8,9,10,11,32,33,34,86] [] [],A 27 [0,3,4,5,6,7,8,9,10,11,32,33,34] [] [],A 28 [0,3,4,5,6,7,8,9,10,11,20,21,32,33,34] [] [],A 29 [0,3,4,5,6,7,8,9,10,11,20,32,33,34] [] [(2,⟨.d,[1000]⟩)],A 30 [0,3,4,5,6,7,8,9,10,11,32,33,34] [] [],A 31 [0,3,4,5,6,7,8,9,10,11,32,33,34,103,104,105] [] [],A 32 [0,3,4,5,6,7,8,9,10,11,32,33,34,103,104,105] [] [],A 33 [0,3,4,5,6,7,8,9,10,11,23,32,33,34,103,104,105] [] [(2,⟨.d,[1000]⟩)],A 34 [0,3,4,5,6,7,8,9,10,11,32,33,34,103,104,105] [] [],A 35 [0,3,4,5,6,7,8,9,10,11,32,33,34,86] [] [],A 36 [0,3,4,5,6,7,8,9,10,11,32,33,34] [] [],A 37 [0,3,4,5,6,7,8,9,10,11,32,33,34,115,116] [] [],A 38 [0,3,4,5,6,7,8,9,10,11,32,33,34,115,116] [] [],A 39 [0,3,4,5,6,7,8,9,10,11,24,32,33,34,115,116] [] [],A 40 [0,3,4,5,6,7,8,9,10,11,24,32,33,34,115,116] [] [(2,⟨.d,[1000]⟩)],A 41 [0,3,4,5,6,7,8,9,10,11,32,33,34,115,116] [] [],A 42 [0,3,4,5,6,7,8,9,10,11,32,33,34] [] [],A 43 [0,3,4,5,6,7,8,9,10,11,32,33,34,153,154,155] [] [],A 44 [0,3,4,5,6,7,8,9,10,11,32,33,34,153,154,155] [] [],A 45 [0,3,4,5,6,7,8,9,10,11,26,32,33,34,153,154,155] [] [(2,⟨.d,[1000]⟩)],A 46 [0,3,4,5,6,7,8,9,10,11,32,33,34,153,154,155] [] [],A 47 [0,3,4,5,6,7,8,9,10,32,33,34] [] [(8,⟨.o,[]⟩)],A 48 [0,3,4,5,6,7,8,9,32,33,34] [] [],A 49 [0,3,4,5,6,7,8,9,32,33,34] [] [],A 50 [0,3,4,5,6,7,8,9,32,33,34] [] [(9,⟨.o,[]⟩)],A 51 [0,3,4,5,6,7,32,33,34] [] [],A 52 [7] [] []]
theorem ok45 : (cFun Tryz.prog ann45 false 45).isSome = true:=by kernel_rfl
noncomputable def fn45 : AFun:=getF (cFun Tryz.prog ann45 false 45)
theorem c45 : cFun Tryz.prog ann45 false 45 = some fn45:=zaa7 ok45
def ann48 : Ann:=[A 0 [0,1,2] [] [],A 1 [2,3,4,6] [] [],A 2 [2,6,8,9] [] [],A 3 [6,9] [] [],A 4 [2,6,8] [] []]
theorem ok48 : (cFun Tryz.prog ann48 false 48).isSome = true:=by kernel_rfl
noncomputable def fn48 : AFun:=getF (cFun Tryz.prog ann48 false 48)
theorem c48 : cFun Tryz.prog ann48 false 48 = some fn48:=zaa7 ok48
def ann49 : Ann:=[A 0 [0,1,2] [] [],A 1 [3,4,5] [] [],A 2 [5,7,8] [] [],A 3 [] [] [(0,⟨.o,[]⟩)],A 4 [5,7] [] []]
theorem ok49 : (cFun Tryz.prog ann49 true 49).isSome = true:=by kernel_rfl
noncomputable def fn49 : AFun:=getF (cFun Tryz.prog ann49 true 49)
theorem c49 : cFun Tryz.prog ann49 true 49 = some fn49:=zaa7 ok49
def ann51 : Ann:=[A 0 [0,1] [] [],A 1 [0,1] [] []]
theorem ok51 : (cFun Tryz.prog ann51 false 51).isSome = true:=by kernel_rfl
noncomputable def fn51 : AFun:=getF (cFun Tryz.prog ann51 false 51)
theorem c51 : cFun Tryz.prog ann51 false 51 = some fn51:=zaa7 ok51
def ann52 : Ann:=[A 0 [0,1,2] [] [],A 1 [2,3,4,6] [] [],A 2 [2,6,8,9] [] [],A 3 [6,9] [] [],A 4 [2,6,8] [] [],A 5 [6] [] [],A 6 [2,6,8] [] [],A 7 [2,6,8,10] [6,8,10] [(1,⟨.d,[0]⟩)],A 8 [2,6,8,10,11,12,13] [] [],A 9 [6,13] [] [],A 10 [2,6,8,10,11,12] [] [],A 11 [2,6,8,10,11,12] [] [(4,⟨.o,[]⟩)],A 12 [2,6,8,10,12] [] [],A 13 [2,6,8,10,12] [] [],A 14 [6] [] [],A 15 [2,6,8,10,12] [] [],A 16 [6,10] [] []]
theorem ok52 : (cFun Tryz.prog ann52 false 52).isSome = true:=by kernel_rfl
noncomputable def fn52 : AFun:=getF (cFun Tryz.prog ann52 false 52)
theorem c52 : cFun Tryz.prog ann52 false 52 = some fn52:=zaa7 ok52
def ann53 : Ann:=[A 0 [0,1] [] [],A 1 [1,2,4] [] [],A 2 [4] [] [],A 3 [1,4] [] [(1,⟨.d,[1000]⟩)]]
theorem ok53 : (cFun Tryz.prog ann53 false 53).isSome = true:=by kernel_rfl
noncomputable def fn53 : AFun:=getF (cFun Tryz.prog ann53 false 53)
theorem c53 : cFun Tryz.prog ann53 false 53 = some fn53:=zaa7 ok53
def ann61 : Ann:=[A 0 [0] [] [],A 1 [1] [] [],A 2 [1,4] [] [],A 3 [1,4] [] [],A 4 [1,4] [] [],A 5 [1,4] [] [],A 6 [1,4] [] [],A 7 [1,4] [] [],A 8 [1] [] [],A 9 [] [] []]
theorem ok61 : (cFun Tryz.prog ann61 false 61).isSome = true:=by kernel_rfl
noncomputable def fn61 : AFun:=getF (cFun Tryz.prog ann61 false 61)
theorem c61 : cFun Tryz.prog ann61 false 61 = some fn61:=zaa7 ok61
def ann62 : Ann:=[A 0 [0] [] [],A 1 [1] [] []]
theorem ok62 : (cFun Tryz.prog ann62 false 62).isSome = true:=by kernel_rfl
noncomputable def fn62 : AFun:=getF (cFun Tryz.prog ann62 false 62)
theorem c62 : cFun Tryz.prog ann62 false 62 = some fn62:=zaa7 ok62
def ann70 : Ann:=[A 0 [0,1] [] [],A 1 [0,1] [] [(2,⟨.d,[1]⟩)]]
theorem ok70 : (cFun Tryz.prog ann70 false 70).isSome = true:=by kernel_rfl
noncomputable def fn70 : AFun:=getF (cFun Tryz.prog ann70 false 70)
theorem c70 : cFun Tryz.prog ann70 false 70 = some fn70:=zaa7 ok70
def ann71 : Ann:=[A 0 [0] [] [],A 1 [1] [] []]
theorem ok71 : (cFun Tryz.prog ann71 false 71).isSome = true:=by kernel_rfl
noncomputable def fn71 : AFun:=getF (cFun Tryz.prog ann71 false 71)
theorem c71 : cFun Tryz.prog ann71 false 71 = some fn71:=zaa7 ok71
def ann72 : Ann:=[A 0 [0] [] [],A 1 [1] [] [],A 2 [] [] [],A 3 [1] [] [],A 4 [1,3] [] [],A 5 [] [] [],A 6 [1,3] [] [],A 7 [] [] [],A 8 [1,3] [] [],A 9 [] [] [],A 10 [1,3] [] [],A 11 [] [] [],A 12 [1] [] [],A 13 [1] [] [],A 14 [1] [] []]
theorem ok72 : (cFun Tryz.prog ann72 false 72).isSome = true:=by kernel_rfl
noncomputable def fn72 : AFun:=getF (cFun Tryz.prog ann72 false 72)
theorem c72 : cFun Tryz.prog ann72 false 72 = some fn72:=zaa7 ok72
def ann73 : Ann:=[A 0 [0] [] [],A 1 [1] [] [],A 2 [] [] [],A 3 [1] [] [],A 4 [7] [] [],A 5 [7] [] [],A 6 [7] [] [],A 7 [7] [] [],A 8 [] [] [],A 9 [] [] []]
theorem ok73 : (cFun Tryz.prog ann73 false 73).isSome = true:=by kernel_rfl
noncomputable def fn73 : AFun:=getF (cFun Tryz.prog ann73 false 73)
theorem c73 : cFun Tryz.prog ann73 false 73 = some fn73:=zaa7 ok73
def ann75 : Ann:=[A 0 [0] [] [],A 1 [1] [] [],A 2 [] [] [],A 3 [1] [] [],A 4 [7] [] [],A 5 [7] [] [],A 6 [7] [] [],A 7 [] [] [],A 8 [] [] []]
theorem ok75 : (cFun Tryz.prog ann75 false 75).isSome = true:=by kernel_rfl
noncomputable def fn75 : AFun:=getF (cFun Tryz.prog ann75 false 75)
theorem c75 : cFun Tryz.prog ann75 false 75 = some fn75:=zaa7 ok75
def ann76 : Ann:=[A 0 [0] [] [],A 1 [0] [] [],A 2 [0] [] [],A 3 [0] [] []]
theorem ok76 : (cFun Tryz.prog ann76 false 76).isSome = true:=by kernel_rfl
noncomputable def fn76 : AFun:=getF (cFun Tryz.prog ann76 false 76)
theorem c76 : cFun Tryz.prog ann76 false 76 = some fn76:=zaa7 ok76
def ann84 : Ann:=[A 0 [0,1,2] [] []]
theorem ok84 : (cFun Tryz.prog ann84 false 84).isSome = true:=by kernel_rfl
noncomputable def fn84 : AFun:=getF (cFun Tryz.prog ann84 false 84)
theorem c84 : cFun Tryz.prog ann84 false 84 = some fn84:=zaa7 ok84
def ann85 : Ann:=[A 0 [0,1] [] [],A 1 [0,1] [] [],A 2 [] [] [],A 3 [0,1] [] []]
theorem ok85 : (cFun Tryz.prog ann85 false 85).isSome = true:=by kernel_rfl
noncomputable def fn85 : AFun:=getF (cFun Tryz.prog ann85 false 85)
theorem c85 : cFun Tryz.prog ann85 false 85 = some fn85:=zaa7 ok85
def ann86 : Ann:=[A 0 [0] [] [],A 1 [1] [] [],A 2 [1,4] [] [],A 3 [1,4] [] [],A 4 [1,4] [] [],A 5 [1] [] [],A 6 [1,4] [] [],A 7 [1] [] [],A 8 [1,4] [] [],A 9 [1,4] [] [],A 10 [1,4] [] [],A 11 [1] [] [],A 12 [] [] []]
theorem ok86 : (cFun Tryz.prog ann86 false 86).isSome = true:=by kernel_rfl
noncomputable def fn86 : AFun:=getF (cFun Tryz.prog ann86 false 86)
theorem c86 : cFun Tryz.prog ann86 false 86 = some fn86:=zaa7 ok86
def ann87 : Ann:=[A 0 [0,1,2] [] [],A 1 [0,1,2] [] [],A 2 [0,1,2,7] [] [],A 3 [] [] [],A 4 [0,1,2] [] [(0,⟨.o,[]⟩)],A 5 [0,1,2,8] [] [],A 6 [0,1,8,9] [0,1,8] [],A 7 [0,1,8,9] [] [],A 8 [0,1,8,9] [] [(3,⟨.o,[]⟩)],A 9 [0,1,8,9] [] [],A 10 [0,1,8,9] [] [],A 11 [8] [] []]
theorem ok87 : (cFun Tryz.prog ann87 false 87).isSome = true:=by kernel_rfl
noncomputable def fn87 : AFun:=getF (cFun Tryz.prog ann87 false 87)
theorem c87 : cFun Tryz.prog ann87 false 87 = some fn87:=zaa7 ok87
def ann88 : Ann:=[A 0 [0,1] [] [],A 1 [0,1] [] [],A 2 [] [] [],A 3 [0,1] [] []]
theorem ok88 : (cFun Tryz.prog ann88 false 88).isSome = true:=by kernel_rfl
noncomputable def fn88 : AFun:=getF (cFun Tryz.prog ann88 false 88)
theorem c88 : cFun Tryz.prog ann88 false 88 = some fn88:=zaa7 ok88
def ann90 : Ann:=[A 0 [0,1] [] [],A 1 [2,3,4] [] [],A 2 [2,3,4,6] [] [],A 3 [4,6] [] [],A 4 [2,3,4] [] [],A 5 [2,3,4,9] [] [],A 6 [4,9] [] [],A 7 [2,3,4] [] [],A 8 [4] [] [],A 9 [2,3,4] [] []]
theorem ok90 : (cFun Tryz.prog ann90 false 90).isSome = true:=by kernel_rfl
noncomputable def fn90 : AFun:=getF (cFun Tryz.prog ann90 false 90)
theorem c90 : cFun Tryz.prog ann90 false 90 = some fn90:=zaa7 ok90
def ann91 : Ann:=[A 0 [0,1] [] [],A 1 [1,2,4,5] [] [],A 2 [1,2,4,5,6,7] [] [],A 3 [4,5,7] [] [],A 4 [1,2,4,5,6] [] [],A 5 [4,5] [] [],A 6 [1,2,4,5,6] [] [],A 7 [1,2,4,5,6,8] [] [],A 8 [4,5,8,29] [] [],A 9 [4,5,8,9] [] [],A 10 [4,5,9] [] [],A 11 [8,9] [] [(5,⟨.o,[]⟩)],A 12 [8,9] [] [],A 13 [4,5,8] [] [],A 1000000 [4,5,8] [91] []]
theorem ok91 : (cFun Tryz.prog ann91 false 91).isSome = true:=by kernel_rfl
noncomputable def fn91 : AFun:=getF (cFun Tryz.prog ann91 false 91)
theorem c91 : cFun Tryz.prog ann91 false 91 = some fn91:=zaa7 ok91
theorem okl91 : (cLoop Tryz.prog ann91 91).isSome = true:=by kernel_rfl
noncomputable def lp91 : ALoop:=getF (cLoop Tryz.prog ann91 91)
theorem cl91 : cLoop Tryz.prog ann91 91 = some lp91:=zaa7 okl91
def ann92 : Ann:=[A 0 [0,1] [] [],A 1 [2,3] [] [],A 2 [2,3] [] [],A 3 [2,3] [] []]
theorem ok92 : (cFun Tryz.prog ann92 true 92).isSome = true:=by kernel_rfl
noncomputable def fn92 : AFun:=getF (cFun Tryz.prog ann92 true 92)
theorem c92 : cFun Tryz.prog ann92 true 92 = some fn92:=zaa7 ok92
def ann97 : Ann:=[A 0 [0,1] [] [],A 1 [0,1] [] []]
theorem ok97 : (cFun Tryz.prog ann97 false 97).isSome = true:=by kernel_rfl
noncomputable def fn97 : AFun:=getF (cFun Tryz.prog ann97 false 97)
theorem c97 : cFun Tryz.prog ann97 false 97 = some fn97:=zaa7 ok97
def ann99 : Ann:=[A 0 [0] [] [],A 1 [0] [] [],A 2 [0,5,6,7] [0,5] [],A 3 [0,5,6,7] [] [],A 4 [0,3,4,5,6,7] [] [],A 5 [] [] [],A 6 [0,5,6,7] [] [],A 7 [] [] []]
theorem ok99 : (cFun Tryz.prog ann99 false 99).isSome = true:=by kernel_rfl
noncomputable def fn99 : AFun:=getF (cFun Tryz.prog ann99 false 99)
theorem c99 : cFun Tryz.prog ann99 false 99 = some fn99:=zaa7 ok99
def ann100 : Ann:=[A 0 [0,1] [] [],A 1 [0,1] [] [],A 2 [0,1,5] [] [],A 3 [1,5,8,9,10] [1,8] [],A 4 [1,5,8,9,10] [] [],A 5 [1,5,7,8,9,10] [] [],A 6 [1,5,7,8,9,10] [] [],A 7 [1,5,7,8,9,10] [] [],A 8 [] [] [],A 9 [1,5,7,8,9,10] [] [],A 10 [] [] [],A 11 [1,5,8,9,10] [] [],A 12 [] [] []]
theorem ok100 : (cFun Tryz.prog ann100 false 100).isSome = true:=by kernel_rfl
noncomputable def fn100 : AFun:=getF (cFun Tryz.prog ann100 false 100)
theorem c100 : cFun Tryz.prog ann100 false 100 = some fn100:=zaa7 ok100
def ann101 : Ann:=[A 0 [0,1] [] [],A 1 [2,3] [] [],A 2 [2,3,7] [] [],A 3 [7] [] [],A 4 [2,3] [] []]
theorem ok101 : (cFun Tryz.prog ann101 true 101).isSome = true:=by kernel_rfl
noncomputable def fn101 : AFun:=getF (cFun Tryz.prog ann101 true 101)
theorem c101 : cFun Tryz.prog ann101 true 101 = some fn101:=zaa7 ok101
def ann102 : Ann:=[A 0 [0] [] [],A 1 [0] [] [],A 2 [] [] [],A 3 [0] [] [],A 4 [] [] [],A 5 [0] [] [(1,⟨.d,[0]⟩)],A 6 [0,5,6] [] [],A 7 [0,6] [] [],A 8 [6] [] [],A 9 [0] [] [(1,⟨.d,[0]⟩)]]
theorem ok102 : (cFun Tryz.prog ann102 false 102).isSome = true:=by kernel_rfl
noncomputable def fn102 : AFun:=getF (cFun Tryz.prog ann102 false 102)
theorem c102 : cFun Tryz.prog ann102 false 102 = some fn102:=zaa7 ok102
def ann103 : Ann:=[A 0 [0] [] [],A 1 [1] [] [],A 2 [1,3] [] [],A 3 [] [] [],A 4 [1,3] [] [],A 5 [1,3,4] [] [],A 6 [1,3,4,41,42,43] [1,41] [],A 7 [1,3,4,41,42,43] [] [],A 8 [1,3,4,5,6,41,42,43] [] [],A 9 [1,3,4,5,6,7,41,42,43] [] [],A 10 [1,3,4,6,7,41,42,43] [] [],A 11 [] [] [],A 12 [1,3,4,5,6,7,41,42,43] [] [],A 13 [1,3,4,5,6,7,41,42,43] [] [],A 14 [] [] [],A 15 [1,3,4,6,41,42,43] [] [],A 16 [1,3,4,41,42,43] [] [],A 17 [1,3,4,41,42,43] [] [],A 18 [1,3,4] [] [],A 19 [1,3,4,8] [] [],A 20 [1,3,4,8,102,103,104] [] [],A 21 [1,3,4,8,102,103,104] [] [],A 22 [1,3,4,8,9,10,102,103,104] [] [],A 23 [1,3,4,8,9,102,103,104,109,110,111] [] [],A 24 [1,3,4,8,9,102,103,104,109,110,111] [] [],A 25 [1,3,4,8,9,12,102,103,104,109,110,111] [] [],A 26 [] [] [],A 27 [1,3,4,8,9,12,102,103,104,109,110,111] [] [],A 28 [1,3,4,8,9,102,103,104,109,110,111] [] [],A 29 [1,3,4,8,102,103,104] [] [],A 30 [4,8] [] []]
theorem ok103 : (cFun Tryz.prog ann103 false 103).isSome = true:=by kernel_rfl
noncomputable def fn103 : AFun:=getF (cFun Tryz.prog ann103 false 103)
theorem c103 : cFun Tryz.prog ann103 false 103 = some fn103:=zaa7 ok103
def ann118 : Ann:=[A 0 [0,1] [] [],A 1 [0,1] [] [],A 2 [0,1,7,8] [] [],A 3 [0,1,7,8] [] [],A 4 [0,1,5,7,8] [] [],A 5 [5] [] [],A 6 [0,1,7,8] [] [],A 7 [] [] []]
theorem ok118 : (cFun Tryz.prog ann118 false 118).isSome = true:=by kernel_rfl
noncomputable def fn118 : AFun:=getF (cFun Tryz.prog ann118 false 118)
theorem c118 : cFun Tryz.prog ann118 false 118 = some fn118:=zaa7 ok118
def ann119 : Ann:=[A 0 [0] [] [],A 1 [0] [] []]
theorem ok119 : (cFun Tryz.prog ann119 false 119).isSome = true:=by kernel_rfl
noncomputable def fn119 : AFun:=getF (cFun Tryz.prog ann119 false 119)
theorem c119 : cFun Tryz.prog ann119 false 119 = some fn119:=zaa7 ok119
def ann129 : Ann:=[A 0 [0,1] [] [],A 1 [0,1] [] [(0,⟨.o,[]⟩)],A 2 [0,1,5] [] [],A 3 [0,1,5,6,7] [0,1,5] [],A 7 [0,1,5,6,7] [] [],A 8 [0,1,5,6,7] [] [(6,⟨.o,[]⟩)],A 9 [0,1,5,6,7] [] [],A 10 [0,1,5,6,7] [] [],A 11 [0,1,5,6,7] [] [],A 12 [0,1,5,6,7] [] [(6,⟨.o,[]⟩)],A 13 [0,1,5,6,7] [] [],A 14 [0,1,5,6,7] [] [],A 15 [0,1,5,6,7] [] [(6,⟨.o,[]⟩)],A 16 [0,1,5,6,7] [] [],A 4 [0,1,5,6,7] [] [(19,⟨.o,[]⟩)],A 5 [0,1,5,6,7] [] [],A 6 [0,1,5,6,7] [] [],A 17 [0,1,5,6,7] [] [(4,⟨.o,[]⟩)],A 18 [1,5,7] [] [(4,⟨.o,[]⟩)]]
theorem ok129 : (cFun Tryz.prog ann129 false 129).isSome = true:=by kernel_rfl
noncomputable def fn129 : AFun:=getF (cFun Tryz.prog ann129 false 129)
theorem c129 : cFun Tryz.prog ann129 false 129 = some fn129:=zaa7 ok129
def ann130 : Ann:=[A 0 [0,1] [] [],A 1 [0,1] [] [],A 2 [1,7,8,9] [7] [],A 3 [1,7,8,9] [] [],A 4 [1,6,7,8,9] [] [],A 5 [6] [] [],A 6 [1,7,8,9] [] [],A 7 [] [] []]
theorem ok130 : (cFun Tryz.prog ann130 false 130).isSome = true:=by kernel_rfl
noncomputable def fn130 : AFun:=getF (cFun Tryz.prog ann130 false 130)
theorem c130 : cFun Tryz.prog ann130 false 130 = some fn130:=zaa7 ok130
def ann131 : Ann:=[A 0 [0,1] [] [],A 1 [0,1] [] [(3,⟨.o,[]⟩)],A 2 [0,1,5] [] [],A 3 [0,1,5,6] [] [],A 4 [1,5,6,13,14,15] [5,13] [],A 5 [1,5,6,13,14,15] [] [],A 6 [1,5,6,8,13,14,15] [] [],A 7 [1,5,8,13,14,15] [] [],A 8 [1,5,6,8,13,14,15] [] [],A 9 [1,5,6,8,13,14,15] [] [],A 10 [1,5,6,8,13,14,15] [] [(4,⟨.o,[]⟩)],A 11 [1,5,6,8,13,14,15] [] [(3,⟨.o,[]⟩)],A 12 [1,5,6,13,14,15] [] [],A 13 [1,5,6] [] [],A 14 [1,5] [] [(4,⟨.o,[]⟩)],A 15 [5] [] []]
theorem ok131 : (cFun Tryz.prog ann131 false 131).isSome = true:=by kernel_rfl
noncomputable def fn131 : AFun:=getF (cFun Tryz.prog ann131 false 131)
theorem c131 : cFun Tryz.prog ann131 false 131 = some fn131:=zaa7 ok131
def ann136 : Ann:=[A 0 [0] [] [],A 1 [1] [] [],A 2 [1,5,6] [] [],A 3 [1,6] [] [],A 4 [1,5,6] [] [],A 5 [1,6] [] [],A 6 [1,5,6] [] [],A 7 [1,6] [] [],A 8 [5,6] [] [],A 9 [5,6] [] [],A 10 [] [] []]
theorem ok136 : (cFun Tryz.prog ann136 false 136).isSome = true:=by kernel_rfl
noncomputable def fn136 : AFun:=getF (cFun Tryz.prog ann136 false 136)
theorem c136 : cFun Tryz.prog ann136 false 136 = some fn136:=zaa7 ok136
def ann137 : Ann:=[A 0 [0] [] [],A 1 [1] [] [],A 2 [] [] [],A 3 [1] [] [],A 4 [] [] [],A 5 [] [] []]
theorem ok137 : (cFun Tryz.prog ann137 false 137).isSome = true:=by kernel_rfl
noncomputable def fn137 : AFun:=getF (cFun Tryz.prog ann137 false 137)
theorem c137 : cFun Tryz.prog ann137 false 137 = some fn137:=zaa7 ok137
def ann138 : Ann:=[A 0 [0] [] [],A 1 [1,2] [] [],A 2 [1,2] [] [],A 3 [1,2] [] []]
theorem ok138 : (cFun Tryz.prog ann138 true 138).isSome = true:=by kernel_rfl
noncomputable def fn138 : AFun:=getF (cFun Tryz.prog ann138 true 138)
theorem c138 : cFun Tryz.prog ann138 true 138 = some fn138:=zaa7 ok138
def ann139 : Ann:=[A 0 [0,1,2] [] [],A 1 [3,4,5] [] []]
theorem ok139 : (cFun Tryz.prog ann139 false 139).isSome = true:=by kernel_rfl
noncomputable def fn139 : AFun:=getF (cFun Tryz.prog ann139 false 139)
theorem c139 : cFun Tryz.prog ann139 false 139 = some fn139:=zaa7 ok139
def ann141 : Ann:=[A 0 [0,1] [] [],A 1 [2,3] [] [],A 2 [] [] [(0,⟨.o,[]⟩)],A 3 [2,3] [] [(0,⟨.o,[]⟩)],A 4 [2,3,5] [] [],A 5 [2,3,5,15,16,17] [2,3,5,15] [],A 6 [2,3,5,15,16,17] [] [],A 7 [2,3,5,7,15,16,17] [] [],A 8 [2,3,5,7,8,9,15,16,17] [] [],A 9 [2,3,5,7,15,16,17] [] [(4,⟨.o,[]⟩)],A 10 [2,3,5,15,16,17] [] [],A 11 [5] [] []]
theorem ok141 : (cFun Tryz.prog ann141 true 141).isSome = true:=by kernel_rfl
noncomputable def fn141 : AFun:=getF (cFun Tryz.prog ann141 true 141)
theorem c141 : cFun Tryz.prog ann141 true 141 = some fn141:=zaa7 ok141
def ann142 : Ann:=[A 0 [0,1] [] [],A 1 [0,1] [] [],A 2 [0,1,7,8] [] [],A 3 [0,1,7,8] [] [],A 4 [0,1,5,7,8] [] [],A 5 [5] [] [],A 6 [0,1,7,8] [] [],A 7 [] [] []]
theorem ok142 : (cFun Tryz.prog ann142 false 142).isSome = true:=by kernel_rfl
noncomputable def fn142 : AFun:=getF (cFun Tryz.prog ann142 false 142)
theorem c142 : cFun Tryz.prog ann142 false 142 = some fn142:=zaa7 ok142
def ann143 : Ann:=[A 0 [0] [] [],A 1 [0,2] [] [(5,⟨.d,[0]⟩)]]
theorem ok143 : (cFun Tryz.prog ann143 false 143).isSome = true:=by kernel_rfl
noncomputable def fn143 : AFun:=getF (cFun Tryz.prog ann143 false 143)
theorem c143 : cFun Tryz.prog ann143 false 143 = some fn143:=zaa7 ok143
def ann144 : Ann:=[A 0 [0,1] [] [],A 1 [2,3,4] [] [],A 2 [4,6,7] [] [],A 3 [4,7] [] [],A 4 [4,6] [] []]
theorem ok144 : (cFun Tryz.prog ann144 false 144).isSome = true:=by kernel_rfl
noncomputable def fn144 : AFun:=getF (cFun Tryz.prog ann144 false 144)
theorem c144 : cFun Tryz.prog ann144 false 144 = some fn144:=zaa7 ok144
def ann145 : Ann:=[A 0 [0] [] [],A 1 [0] [] [],A 2 [0,4] [] [],A 3 [0,4,5] [0,4] [],A 4 [0,4] [] [(1,⟨.d,[0]⟩)],A 5 [] [] [],A 6 [0,4] [] [(1,⟨.d,[0]⟩)],A 7 [0,4,6,7] [] [],A 8 [7] [] [],A 9 [0,4,6] [] [],A 10 [0,4] [] [],A 11 [0,4,5] [] [(2,⟨.d,[1,0]⟩)],A 12 [0,4,5,8,9] [] [],A 13 [8,9] [] []]
theorem ok145 : (cFun Tryz.prog ann145 false 145).isSome = true:=by kernel_rfl
noncomputable def fn145 : AFun:=getF (cFun Tryz.prog ann145 false 145)
theorem c145 : cFun Tryz.prog ann145 false 145 = some fn145:=zaa7 ok145
def ann146 : Ann:=[A 0 [0] [] [],A 1 [0] [] [(0,⟨.o,[]⟩)],A 2 [0,3] [] [],A 3 [3,9,10,11] [3,9] [],A 4 [3,9,10,11] [] [],A 5 [3,5,9,10,11] [] [(4,⟨.o,[]⟩)],A 6 [3,9,10,11] [] [],A 7 [3] [] []]
theorem ok146 : (cFun Tryz.prog ann146 false 146).isSome = true:=by kernel_rfl
noncomputable def fn146 : AFun:=getF (cFun Tryz.prog ann146 false 146)
theorem c146 : cFun Tryz.prog ann146 false 146 = some fn146:=zaa7 ok146
def ann160 : Ann:=[A 0 [0] [] [],A 1 [1,3] [] [],A 2 [1,3,16,17,18] [1,3,16] [],A 3 [1,3,16,17,18] [] [],A 4 [1,3,5,16,17,18] [] [],A 5 [1,3,6,16,17,18] [] [],A 6 [3,6] [] [],A 7 [1,3,16,17,18] [] [],A 8 [1,3] [] [],A 9 [3,8,9] [] []]
theorem ok160 : (cFun Tryz.prog ann160 false 160).isSome = true:=by kernel_rfl
noncomputable def fn160 : AFun:=getF (cFun Tryz.prog ann160 false 160)
theorem c160 : cFun Tryz.prog ann160 false 160 = some fn160:=zaa7 ok160
def ann161 : Ann:=[A 0 [0] [] [],A 1 [1,3] [] [],A 2 [1,3,4] [] [],A 3 [3,4] [] [],A 4 [1,3,4] [] [],A 5 [3,4,32,33,34] [3,4,32] [],A 6 [3,4,32,33,34] [] [],A 7 [3,4,6,32,33,34] [] [],A 8 [3,4] [] [],A 9 [3,4,32,33,34] [] [],A 10 [3,4] [] []]
theorem ok161 : (cFun Tryz.prog ann161 false 161).isSome = true:=by kernel_rfl
noncomputable def fn161 : AFun:=getF (cFun Tryz.prog ann161 false 161)
theorem c161 : cFun Tryz.prog ann161 false 161 = some fn161:=zaa7 ok161
def ann162 : Ann:=[A 0 [0] [] [],A 1 [1,2,3] [] [(2,⟨.d,[1]⟩)],A 2 [1,2,3,4] [] [],A 3 [1,2,3,4,13,14] [] [],A 4 [1,2,3,4,5,14] [] [],A 5 [1,2,3,4,5,6] [] [],A 6 [1,2,3,5,6] [] [],A 7 [2,3,5,7] [] [],A 8 [2,3,5,7] [] [],A 9 [2,3,4] [] [],A 10 [2,3,4] [] [],A 11 [2,3] [] [],A 1000000 [1,2,3,4] [162] []]
theorem ok162 : (cFun Tryz.prog ann162 false 162).isSome = true:=by kernel_rfl
noncomputable def fn162 : AFun:=getF (cFun Tryz.prog ann162 false 162)
theorem c162 : cFun Tryz.prog ann162 false 162 = some fn162:=zaa7 ok162
theorem okl162 : (cLoop Tryz.prog ann162 162).isSome = true:=by kernel_rfl
noncomputable def lp162 : ALoop:=getF (cLoop Tryz.prog ann162 162)
theorem cl162 : cLoop Tryz.prog ann162 162 = some lp162:=zaa7 okl162
def ann163 : Ann:=[A 0 [0] [] [],A 1 [1,3] [] [],A 2 [1,3,4] [] [],A 3 [3,4] [] [],A 4 [1,3,4] [] [],A 5 [1,3,4,20,21,22] [1,3,4,20] [],A 6 [1,3,4,20,21,22] [] [],A 7 [1,3,4,6,20,21,22] [] [],A 8 [3,4] [] [],A 9 [1,3,4,6,20,21,22] [] [],A 10 [3,4] [] [],A 11 [1,3,4,20,21,22] [] [],A 12 [3,4] [] []]
theorem ok163 : (cFun Tryz.prog ann163 false 163).isSome = true:=by kernel_rfl
noncomputable def fn163 : AFun:=getF (cFun Tryz.prog ann163 false 163)
theorem c163 : cFun Tryz.prog ann163 false 163 = some fn163:=zaa7 ok163
def ann165 : Ann:=[A 0 [0,1] [] [],A 1 [1,2,4] [] [],A 2 [1,2,4,6] [] [],A 3 [4,6] [] [],A 4 [1,2,4] [] [],A 5 [1,2,4,7,8] [] [],A 6 [4,8] [] [],A 7 [1,2,4,7] [] [],A 8 [1,2,4,9] [] [],A 9 [1,2,4,9,33,34,35] [2,4,9,33] [],A 10 [1,2,4,9,33,34,35] [] [],A 11 [1,2,4,9,10,11,33,34,35] [] [],A 12 [1,2,4,9,12,13,33,34,35] [] [],A 13 [4,13] [] [],A 14 [1,2,4,9,12,33,34,35] [] [(4,⟨.o,[]⟩)],A 15 [1,2,4,9,33,34,35] [] [],A 16 [4,9] [] []]
theorem ok165 : (cFun Tryz.prog ann165 true 165).isSome = true:=by kernel_rfl
noncomputable def fn165 : AFun:=getF (cFun Tryz.prog ann165 true 165)
theorem c165 : cFun Tryz.prog ann165 true 165 = some fn165:=zaa7 ok165
def ann166 : Ann:=[A 0 [0,1,2,3] [] [],A 1 [0,2,3,10,11,12] [0,2,3,10] [],A 2 [0,2,3,10,11,12] [] [],A 3 [0,2,3,6,10,11,12] [] [],A 4 [0,2,3,7,8,9,10,11,12] [] [],A 5 [0,2,3,7,10,11,12] [] [],A 6 [0,2,3,10,11,12] [] []]
theorem ok166 : (cFun Tryz.prog ann166 false 166).isSome = true:=by kernel_rfl
noncomputable def fn166 : AFun:=getF (cFun Tryz.prog ann166 false 166)
theorem c166 : cFun Tryz.prog ann166 false 166 = some fn166:=zaa7 ok166
def ann167 : Ann:=[A 0 [0,1,2] [] [],A 1 [2,3,4,6,7] [] [],A 2 [2,3,4,6,7] [] [],A 3 [2,3,4,6,7] [] []]
theorem ok167 : (cFun Tryz.prog ann167 false 167).isSome = true:=by kernel_rfl
noncomputable def fn167 : AFun:=getF (cFun Tryz.prog ann167 false 167)
theorem c167 : cFun Tryz.prog ann167 false 167 = some fn167:=zaa7 ok167
def ann170 : Ann:=[A 0 [0,1,2] [] [],A 1 [1,3,5] [] [],A 2 [] [] [],A 3 [1,3,5] [] [],A 4 [1,3,5,21,22,23] [3,5,21] [],A 5 [1,3,5,21,22,23] [] [],A 6 [1,3,5,7,8,21,22,23] [] [],A 7 [] [] [],A 8 [1,3,5,21,22,23] [] [],A 9 [] [] []]
theorem ok170 : (cFun Tryz.prog ann170 false 170).isSome = true:=by kernel_rfl
noncomputable def fn170 : AFun:=getF (cFun Tryz.prog ann170 false 170)
theorem c170 : cFun Tryz.prog ann170 false 170 = some fn170:=zaa7 ok170
def ann171 : Ann:=[A 0 [0,1] [] [],A 1 [2,3,4] [] [],A 2 [4] [] [],A 3 [2,3,4] [] []]
theorem ok171 : (cFun Tryz.prog ann171 false 171).isSome = true:=by kernel_rfl
noncomputable def fn171 : AFun:=getF (cFun Tryz.prog ann171 false 171)
theorem c171 : cFun Tryz.prog ann171 false 171 = some fn171:=zaa7 ok171
def ann172 : Ann:=[A 0 [0,1,2] [] [],A 1 [3,4,5] [] [],A 2 [3,4,5,14] [] [],A 3 [3,4,5] [] [],A 4 [4,5,7] [] [],A 5 [9] [] [],A 6 [3,4,5,14] [] [],A 7 [3,5] [] [],A 8 [3,4,5,14] [] [],A 9 [3,4,5] [] [],A 10 [3,4,5,49] [] [],A 11 [3,4] [] [],A 12 [3,5,49] [] [],A 13 [3,5] [] [],A 14 [3,4,5,14] [] [],A 15 [3,4,5] [] [],A 16 [3,11,12] [] [],A 17 [] [] []]
theorem ok172 : (cFun Tryz.prog ann172 false 172).isSome = true:=by kernel_rfl
noncomputable def fn172 : AFun:=getF (cFun Tryz.prog ann172 false 172)
theorem c172 : cFun Tryz.prog ann172 false 172 = some fn172:=zaa7 ok172
def ann173 : Ann:=[A 0 [0,1,2,3] [] [],A 1 [0,1,2,3,8] [] [],A 2 [0,1,2,3,8,9] [0] [],A 3 [0,1,2,3,8,9,10] [] [],A 4 [0,1,2] [] [(3,⟨.d,[0]⟩)],A 5 [0,1,2,3,8,9,10] [] [],A 6 [0,1,2] [] [(3,⟨.d,[0]⟩)],A 7 [0,1,2,3,8,9,10] [] [],A 8 [0,1,2,3,8,9,10] [] [(3,⟨.d,[0]⟩)],A 9 [0,1,2,3,8,9,10] [] [],A 10 [0,1,2,3,8,9,10] [] [],A 11 [0,1,2,3,8,9,10,11,12] [] [],A 12 [0,1,2,3,8,9,10,11] [] [(3,⟨.d,[0]⟩)],A 13 [0,1,2,3,8,9,10,11] [] [],A 14 [0,1,2,3,8,9,10,11] [] [],A 15 [0,1,2,3,8,9,10,11,12] [] [],A 16 [0,1,2,3,8,9,10,11] [] [(3,⟨.d,[0]⟩)],A 17 [0,1,2,3,8,9,10,11] [] [],A 18 [0,1,2,3,8,9,11] [] [(4,⟨.d,[0]⟩)],A 19 [0,2,3,8,9,13] [] [],A 20 [0,1,2,3,10,11] [] [(4,⟨.d,[0]⟩)],A 21 [0,1,2,3,10,14,15] [] [],A 22 [0,1,2,3,9,10,14] [] [],A 23 [0,1,2,3,9,10,14,16,17] [] [],A 24 [0,1,2,3,9,14,16,17,18] [] [],A 25 [0,1,2,3,9,14,16,18] [] [],A 26 [0,1,2,3,8,9,14] [] [(4,⟨.d,[0]⟩)],A 27 [0,2,3,8,9,14] [] [],A 28 [0,1,2,3,9,14,17,18] [] [],A 29 [0,1,2,3,8,9,14] [] [(5,⟨.d,[0]⟩)],A 30 [0,1,3,8,9,14] [] []]
theorem ok173 : (cFun Tryz.prog ann173 false 173).isSome = true:=by kernel_rfl
noncomputable def fn173 : AFun:=getF (cFun Tryz.prog ann173 false 173)
theorem c173 : cFun Tryz.prog ann173 false 173 = some fn173:=zaa7 ok173
def ann174 : Ann:=[A 0 [0] [] [],A 1 [0] [] [],A 2 [0] [] []]
theorem ok174 : (cFun Tryz.prog ann174 false 174).isSome = true:=by kernel_rfl
noncomputable def fn174 : AFun:=getF (cFun Tryz.prog ann174 false 174)
theorem c174 : cFun Tryz.prog ann174 false 174 = some fn174:=zaa7 ok174
def ann175 : Ann:=[A 0 [0] [] [],A 1 [0] [] [],A 2 [0,3] [0] [],A 4 [0,3] [] [],A 5 [0,3,4] [] [(7,⟨.d,[0]⟩),(11,⟨.f,[]⟩)],A 6 [0,3,4] [] [],A 7 [0,3,4,5,6] [] [],A 8 [0,3,4,5] [] [(12,⟨.d,[0]⟩),(15,⟨.f,[]⟩)],A 9 [0,3,4] [] [],A 10 [] [] [],A 11 [0,3] [] [],A 3 [0,3] [] [],A 12 [] [] []]
theorem ok175 : (cFun Tryz.prog ann175 false 175).isSome = true:=by kernel_rfl
noncomputable def fn175 : AFun:=getF (cFun Tryz.prog ann175 false 175)
theorem c175 : cFun Tryz.prog ann175 false 175 = some fn175:=zaa7 ok175
def ann176 : Ann:=[A 0 [0] [] [],A 1 [0,2] [] [(1,⟨.d,[0]⟩)],A 2 [0,2,4] [] [],A 3 [0,2,5,6] [] [],A 4 [2,6] [] [],A 5 [0,2,5] [] [(2,⟨.d,[0]⟩)]]
theorem ok176 : (cFun Tryz.prog ann176 true 176).isSome = true:=by kernel_rfl
noncomputable def fn176 : AFun:=getF (cFun Tryz.prog ann176 true 176)
theorem c176 : cFun Tryz.prog ann176 true 176 = some fn176:=zaa7 ok176
def ann177 : Ann:=[A 0 [0,1] [] [],A 1 [0,3] [] [(5,⟨.d,[0]⟩)],A 2 [0,3,6,7] [] [],A 3 [7] [] [],A 4 [0,3,6] [0,3,6] [],A 5 [0,3,6,8] [] [],A 6 [0] [] [],A 7 [0] [] [(1,⟨.d,[0]⟩)],A 8 [0,3,6,8] [] [],A 9 [0,3,6,8] [] [(2,⟨.d,[1,0]⟩)],A 10 [0,3,6,9] [] [],A 11 [0] [] [],A 12 [] [] [],A 13 [0,3,6,9] [] [(4,⟨.f,[]⟩)],A 14 [0,3,6] [] [],A 15 [] [] [],A 16 [0,3,6] [] [(11,⟨.d,[0]⟩),(13,⟨.f,[]⟩),(14,⟨.r,[]⟩)],A 17 [0,3,6] [] [(2,⟨.d,[0]⟩)],A 18 [0,3,6,7] [] [],A 19 [7] [] [],A 20 [0,3,6] [] [],A 21 [0,3,6,7] [] [],A 22 [7] [] []]
theorem ok177 : (cFun Tryz.prog ann177 false 177).isSome = true:=by kernel_rfl
noncomputable def fn177 : AFun:=getF (cFun Tryz.prog ann177 false 177)
theorem c177 : cFun Tryz.prog ann177 false 177 = some fn177:=zaa7 ok177
def ann187 : Ann:=[A 0 [0] [] [],A 1 [1] [] [(0,⟨.o,[]⟩)],A 2 [1,3] [] [],A 3 [3,7,8,9] [3,7] [],A 4 [3,7,8,9] [] [],A 5 [3,5,7,8,9] [] [(4,⟨.o,[]⟩)],A 6 [3,7,8,9] [] [],A 7 [3] [] []]
theorem ok187 : (cFun Tryz.prog ann187 false 187).isSome = true:=by kernel_rfl
noncomputable def fn187 : AFun:=getF (cFun Tryz.prog ann187 false 187)
theorem c187 : cFun Tryz.prog ann187 false 187 = some fn187:=zaa7 ok187
def ann188 : Ann:=[A 0 [0] [] [],A 1 [0] [] [],A 2 [0,6,7,8] [] [],A 3 [0,6,7,8] [] [],A 4 [0,4,5,6,7,8] [] [],A 5 [4] [] [],A 6 [0,4,5,6,7,8] [] [],A 7 [4] [] [],A 8 [0,6,7,8] [] [],A 9 [] [] []]
theorem ok188 : (cFun Tryz.prog ann188 false 188).isSome = true:=by kernel_rfl
noncomputable def fn188 : AFun:=getF (cFun Tryz.prog ann188 false 188)
theorem c188 : cFun Tryz.prog ann188 false 188 = some fn188:=zaa7 ok188
def ann189 : Ann:=[A 0 [0] [] [],A 1 [1] [] [(0,⟨.o,[]⟩)],A 2 [1,3] [] [],A 3 [3,7,8,9] [3,7] [],A 4 [3,7,8,9] [] [],A 5 [3,5,7,8,9] [] [(4,⟨.o,[]⟩)],A 6 [3,7,8,9] [] [],A 7 [3] [] []]
theorem ok189 : (cFun Tryz.prog ann189 false 189).isSome = true:=by kernel_rfl
noncomputable def fn189 : AFun:=getF (cFun Tryz.prog ann189 false 189)
theorem c189 : cFun Tryz.prog ann189 false 189 = some fn189:=zaa7 ok189
def ann190 : Ann:=[A 0 [0] [] [],A 1 [0] [] []]
theorem ok190 : (cFun Tryz.prog ann190 false 190).isSome = true:=by kernel_rfl
noncomputable def fn190 : AFun:=getF (cFun Tryz.prog ann190 false 190)
theorem c190 : cFun Tryz.prog ann190 false 190 = some fn190:=zaa7 ok190
def ann191 : Ann:=[A 0 [0,1] [] [],A 1 [0,1] [] [],A 2 [0,1,7,8] [] [],A 3 [0,1,7,8] [] [],A 4 [0,1,5,7,8] [] [],A 5 [5] [] [],A 6 [0,1,7,8] [] [],A 7 [] [] []]
theorem ok191 : (cFun Tryz.prog ann191 false 191).isSome = true:=by kernel_rfl
noncomputable def fn191 : AFun:=getF (cFun Tryz.prog ann191 false 191)
theorem c191 : cFun Tryz.prog ann191 false 191 = some fn191:=zaa7 ok191
def ann192 : Ann:=[A 0 [0] [] [],A 1 [1] [] []]
theorem ok192 : (cFun Tryz.prog ann192 false 192).isSome = true:=by kernel_rfl
noncomputable def fn192 : AFun:=getF (cFun Tryz.prog ann192 false 192)
theorem c192 : cFun Tryz.prog ann192 false 192 = some fn192:=zaa7 ok192
def ann193 : Ann:=[A 0 [0] [] [],A 1 [1] [] []]
theorem ok193 : (cFun Tryz.prog ann193 false 193).isSome = true:=by kernel_rfl
noncomputable def fn193 : AFun:=getF (cFun Tryz.prog ann193 false 193)
theorem c193 : cFun Tryz.prog ann193 false 193 = some fn193:=zaa7 ok193
def ann194 : Ann:=[A 0 [0,1,2] [] [],A 1 [2,3,4] [] [],A 2 [2,3,4,7] [] [],A 3 [7] [] [],A 4 [2,3,4] [] [],A 5 [2,3,4,8] [] [],A 6 [] [] [],A 7 [2,3,4] [] [],A 8 [] [] [],A 9 [2,4] [] [],A 10 [] [] [],A 11 [] [] []]
theorem ok194 : (cFun Tryz.prog ann194 false 194).isSome = true:=by kernel_rfl
noncomputable def fn194 : AFun:=getF (cFun Tryz.prog ann194 false 194)
theorem c194 : cFun Tryz.prog ann194 false 194 = some fn194:=zaa7 ok194
def ann195 : Ann:=[A 0 [0,1] [] [],A 1 [1,2] [] [],A 2 [1,5] [] [],A 3 [5] [] [],A 4 [1] [] [],A 5 [] [] [],A 6 [] [] []]
theorem ok195 : (cFun Tryz.prog ann195 false 195).isSome = true:=by kernel_rfl
noncomputable def fn195 : AFun:=getF (cFun Tryz.prog ann195 false 195)
theorem c195 : cFun Tryz.prog ann195 false 195 = some fn195:=zaa7 ok195
def ann196 : Ann:=[A 0 [0] [] [],A 1 [1,2] [] [],A 2 [1,2,4] [] [],A 3 [2,4] [] [],A 4 [1,2] [] [(3,⟨.o,[]⟩)],A 5 [1,2,7] [] [],A 6 [1,2,7,26,27,28] [1,2,7,26] [],A 7 [1,2,7,26,27,28] [] [],A 8 [1,2,7,9,26,27,28] [] [(5,⟨.o,[]⟩)],A 9 [1,2,7,26,27,28] [] [],A 10 [1,2,7] [] [],A 11 [2,7,42,43] [2,7] [],A 12 [2,7,42,43] [] [(3,⟨.o,[]⟩)],A 13 [2,7,42,43] [] [],A 14 [2,7] [] []]
theorem ok196 : (cFun Tryz.prog ann196 true 196).isSome = true:=by kernel_rfl
noncomputable def fn196 : AFun:=getF (cFun Tryz.prog ann196 true 196)
theorem c196 : cFun Tryz.prog ann196 true 196 = some fn196:=zaa7 ok196
def ann197 : Ann:=[A 0 [0,1,2,3,4] [] [],A 1 [1,2,3,4,5,10] [] [],A 2 [1,2,3,4,5,10,12] [] [],A 3 [10,12] [] [],A 4 [1,2,3,4,5,10] [] [],A 5 [10] [] [],A 6 [1,2,3,4,5,10] [] [],A 7 [10] [] [],A 8 [1,2,3,4,5,10] [] [],A 9 [10] [] [],A 10 [1,2,3,4,5,10] [] [],A 11 [1,4,5,10,13] [] [],A 12 [1,5,10,13] [] []]
theorem ok197 : (cFun Tryz.prog ann197 false 197).isSome = true:=by kernel_rfl
noncomputable def fn197 : AFun:=getF (cFun Tryz.prog ann197 false 197)
theorem c197 : cFun Tryz.prog ann197 false 197 = some fn197:=zaa7 ok197
def ann199 : Ann:=[A 0 [0,1,2,3] [] [],A 1 [1,3,4,6,8,9] [] [],A 2 [1,3,4,6,8,9,11] [] [],A 3 [8,9,11] [] [],A 4 [1,3,4,6,8,9] [] [],A 5 [8,9] [] [],A 6 [1,3,4,6,8,9] [] [],A 7 [1,3,4,6,8,9,12,13,14] [] [],A 8 [8,9] [] [],A 9 [1,3,4,6,8,9,12,13] [] [],A 10 [1,3,4,6,8,9,12,13,15] [] [],A 11 [1,3,4,8,9,12,13,15,16] [] [],A 12 [1,3,4,8,9,12,13,15,16,17,18,19] [] [],A 13 [8,9] [] [],A 14 [1,3,4,8,9,12,13,15,16,17,18] [] [],A 15 [1,3,4,8,9,12,13,15,16,18] [] [],A 16 [1,3,4,8,9,12,13,15,16,18] [] [],A 17 [1,3,4,8,9,12,15,16,18,19] [] [],A 18 [8,9,19] [] [],A 19 [1,3,4,8,9,12,15,16,18] [] [],A 20 [3,8,9,15,16,19,20] [] [],A 21 [8,9,19] [] [],A 22 [3,8,9,15,16,20] [] [],A 23 [8,9,15,16,20,21] [] [],A 24 [8,9,15,16] [] []]
theorem ok199 : (cFun Tryz.prog ann199 true 199).isSome = true:=by kernel_rfl
noncomputable def fn199 : AFun:=getF (cFun Tryz.prog ann199 true 199)
theorem c199 : cFun Tryz.prog ann199 true 199 = some fn199:=zaa7 ok199
def ann200 : Ann:=[A 0 [0] [] [],A 1 [1] [] [],A 2 [3] [] []]
theorem ok200 : (cFun Tryz.prog ann200 false 200).isSome = true:=by kernel_rfl
noncomputable def fn200 : AFun:=getF (cFun Tryz.prog ann200 false 200)
theorem c200 : cFun Tryz.prog ann200 false 200 = some fn200:=zaa7 ok200
def ann201 : Ann:=[A 0 [0,1] [] [],A 1 [2,3] [] []]
theorem ok201 : (cFun Tryz.prog ann201 false 201).isSome = true:=by kernel_rfl
noncomputable def fn201 : AFun:=getF (cFun Tryz.prog ann201 false 201)
theorem c201 : cFun Tryz.prog ann201 false 201 = some fn201:=zaa7 ok201
def ann202 : Ann:=[A 0 [0,1,2] [] [],A 1 [1,3,5] [] []]
theorem ok202 : (cFun Tryz.prog ann202 false 202).isSome = true:=by kernel_rfl
noncomputable def fn202 : AFun:=getF (cFun Tryz.prog ann202 false 202)
theorem c202 : cFun Tryz.prog ann202 false 202 = some fn202:=zaa7 ok202
def ann205 : Ann:=[A 0 [0] [] [],A 1 [0] [] [],A 2 [] [] [],A 3 [0] [] []]
theorem ok205 : (cFun Tryz.prog ann205 false 205).isSome = true:=by kernel_rfl
noncomputable def fn205 : AFun:=getF (cFun Tryz.prog ann205 false 205)
theorem c205 : cFun Tryz.prog ann205 false 205 = some fn205:=zaa7 ok205
def ann207 : Ann:=[A 0 [0,1] [] [],A 1 [2,3,4] [] [],A 2 [3,4,6] [] [],A 3 [4] [] [],A 4 [3,4,6] [] []]
theorem ok207 : (cFun Tryz.prog ann207 false 207).isSome = true:=by kernel_rfl
noncomputable def fn207 : AFun:=getF (cFun Tryz.prog ann207 false 207)
theorem c207 : cFun Tryz.prog ann207 false 207 = some fn207:=zaa7 ok207
def ann208 : Ann:=[A 0 [0,1] [] [],A 1 [1,2] [] [],A 2 [1,2,6] [] [],A 3 [6] [] [],A 4 [1,2] [] []]
theorem ok208 : (cFun Tryz.prog ann208 false 208).isSome = true:=by kernel_rfl
noncomputable def fn208 : AFun:=getF (cFun Tryz.prog ann208 false 208)
theorem c208 : cFun Tryz.prog ann208 false 208 = some fn208:=zaa7 ok208
def ann211 : Ann:=[A 0 [0,1] [] [],A 1 [0,3] [] [(2,⟨.d,[1]⟩)],A 2 [6] [] []]
theorem ok211 : (cFun Tryz.prog ann211 false 211).isSome = true:=by kernel_rfl
noncomputable def fn211 : AFun:=getF (cFun Tryz.prog ann211 false 211)
theorem c211 : cFun Tryz.prog ann211 false 211 = some fn211:=zaa7 ok211
def ann212 : Ann:=[A 0 [0,1,2] [] [],A 1 [0,1,2,6] [] [],A 3 [0,1,2,6] [] [],A 4 [0,1,2,6,7] [] [],A 6 [0,1,2,6,7] [] [],A 5 [0,1,2,6,7] [] [],A 2 [0,1,2,6] [] []]
theorem ok212 : (cFun Tryz.prog ann212 false 212).isSome = true:=by kernel_rfl
noncomputable def fn212 : AFun:=getF (cFun Tryz.prog ann212 false 212)
theorem c212 : cFun Tryz.prog ann212 false 212 = some fn212:=zaa7 ok212
def ann218 : Ann:=[A 0 [0,1] [] [],A 1 [0,1] [] []]
theorem ok218 : (cFun Tryz.prog ann218 false 218).isSome = true:=by kernel_rfl
noncomputable def fn218 : AFun:=getF (cFun Tryz.prog ann218 false 218)
theorem c218 : cFun Tryz.prog ann218 false 218 = some fn218:=zaa7 ok218
def ann222 : Ann:=[A 0 [0] [] [],A 1 [0,2] [] [],A 2 [0] [] [],A 3 [0] [] [],A 4 [0,2] [] [],A 5 [0,2] [] [],A 6 [0,2] [] [],A 7 [0,2] [] [],A 8 [0,2] [] [],A 9 [0,2] [] [],A 10 [0,2] [] []]
theorem ok222 : (cFun Tryz.prog ann222 false 222).isSome = true:=by kernel_rfl
noncomputable def fn222 : AFun:=getF (cFun Tryz.prog ann222 false 222)
theorem c222 : cFun Tryz.prog ann222 false 222 = some fn222:=zaa7 ok222
def ann223 : Ann:=[A 0 [0] [] [],A 1 [0] [] [],A 2 [] [] [],A 3 [0] [] [(0,⟨.f,[]⟩),(2,⟨.r,[]⟩)]]
theorem ok223 : (cFun Tryz.prog ann223 true 223).isSome = true:=by kernel_rfl
noncomputable def fn223 : AFun:=getF (cFun Tryz.prog ann223 true 223)
theorem c223 : cFun Tryz.prog ann223 true 223 = some fn223:=zaa7 ok223
def ann224 : Ann:=[A 0 [0,1] [] [],A 1 [0,1] [] [],A 2 [0,1,6] [] [],A 3 [0,1,6,7,8] [] [],A 4 [0,1,6,7,8] [] [],A 5 [0,1,6,7,8,9] [] [],A 6 [0,1,6,8,9] [] [],A 7 [0,1,6,7,9] [] [],A 8 [0,1,6,7] [] []]
theorem ok224 : (cFun Tryz.prog ann224 false 224).isSome = true:=by kernel_rfl
noncomputable def fn224 : AFun:=getF (cFun Tryz.prog ann224 false 224)
theorem c224 : cFun Tryz.prog ann224 false 224 = some fn224:=zaa7 ok224
def ann225 : Ann:=[A 0 [0,1,2] [] [],A 1 [0,1,2] [] [],A 2 [0,1,2] [] [],A 3 [0,1,2,7] [] [],A 4 [0] [] [],A 5 [0,1,2,7] [] [],A 6 [0,1,2,7,8] [] [],A 7 [0,2] [] [(2,⟨.o,[]⟩)],A 8 [0,1,2,7,8] [] [],A 9 [0,1,2,7,8] [] [(8,⟨.o,[]⟩)],A 10 [0,1,2,7,9] [] [],A 11 [0,1,7,9] [] [],A 12 [9] [] [],A 13 [0,1,2,7,8] [] [],A 14 [0,1,2,7,8] [] [],A 15 [0,1,2,7] [] [],A 16 [0,1,2] [] [],A 17 [0] [] [],A 18 [0,1,2,7,8] [] [],A 19 [0,1,7] [] [(4,⟨.d,[0]⟩)],A 20 [0] [] []]
theorem ok225 : (cFun Tryz.prog ann225 true 225).isSome = true:=by kernel_rfl
noncomputable def fn225 : AFun:=getF (cFun Tryz.prog ann225 true 225)
theorem c225 : cFun Tryz.prog ann225 true 225 = some fn225:=zaa7 ok225
def ann226 : Ann:=[A 0 [0] [] [],A 1 [0] [] [],A 2 [] [] [(0,⟨.o,[]⟩)],A 3 [0] [] [(0,⟨.o,[]⟩),(2,⟨.o,[]⟩)]]
theorem ok226 : (cFun Tryz.prog ann226 true 226).isSome = true:=by kernel_rfl
noncomputable def fn226 : AFun:=getF (cFun Tryz.prog ann226 true 226)
theorem c226 : cFun Tryz.prog ann226 true 226 = some fn226:=zaa7 ok226
def ann227 : Ann:=[A 0 [0,1] [] [],A 1 [1,2,4] [] [],A 2 [4,6,7] [] []]
theorem ok227 : (cFun Tryz.prog ann227 false 227).isSome = true:=by kernel_rfl
noncomputable def fn227 : AFun:=getF (cFun Tryz.prog ann227 false 227)
theorem c227 : cFun Tryz.prog ann227 false 227 = some fn227:=zaa7 ok227
def ann228 : Ann:=[A 0 [0,1] [] [],A 1 [0,3,4] [] [],A 2 [0,3,4,6] [] [],A 3 [0,3,4,6,7] [] [],A 4 [4] [] [],A 5 [0,3,4,6,7] [] [],A 6 [0,3,4,6,7] [] [],A 7 [0,3,4,6,7] [] []]
theorem ok228 : (cFun Tryz.prog ann228 true 228).isSome = true:=by kernel_rfl
noncomputable def fn228 : AFun:=getF (cFun Tryz.prog ann228 true 228)
theorem c228 : cFun Tryz.prog ann228 true 228 = some fn228:=zaa7 ok228
def ann229 : Ann:=[A 0 [0,1] [] [],A 1 [2,3] [] []]
theorem ok229 : (cFun Tryz.prog ann229 true 229).isSome = true:=by kernel_rfl
noncomputable def fn229 : AFun:=getF (cFun Tryz.prog ann229 true 229)
theorem c229 : cFun Tryz.prog ann229 true 229 = some fn229:=zaa7 ok229
def ann230 : Ann:=[A 0 [0] [] [],A 1 [0] [] [(1,⟨.d,[0]⟩)],A 2 [0,3] [] [],A 3 [0,3,4,5] [] [],A 4 [5] [] [],A 5 [0,3,4] [] [],A 6 [0,3,33,34,35] [0,3,33] [],A 7 [0,3,33,34,35] [] [],A 8 [0,3,7,33,34,35] [] [],A 9 [0,3,7,8,33,34,35] [] [],A 10 [0,3,7,8,9,10,33,34,35] [] [],A 11 [10] [] [],A 12 [0,3,7,8,9,33,34,35] [] [(2,⟨.d,[1]⟩)],A 13 [0,3,7,8,33,34,35] [] [(20,⟨.d,[3]⟩)],A 14 [0,3,8,10,11,33,34,35] [] [],A 15 [10] [] [],A 16 [0,3,8,11,33,34,35] [] [],A 17 [0,3,33,34,35] [] [],A 18 [] [] []]
theorem ok230 : (cFun Tryz.prog ann230 false 230).isSome = true:=by kernel_rfl
noncomputable def fn230 : AFun:=getF (cFun Tryz.prog ann230 false 230)
theorem c230 : cFun Tryz.prog ann230 false 230 = some fn230:=zaa7 ok230
def ann231 : Ann:=[A 0 [0,1] [] [],A 1 [0,1] [] [(2,⟨.d,[1]⟩)],A 2 [0,1,5] [] [],A 3 [0] [] [],A 4 [0,1,5] [] [],A 5 [0,1,5,6] [] [],A 7 [0,1,5,6] [] [],A 8 [0,1,5,6,7] [] [],A 9 [0,1,5,6,7] [] [],A 10 [0,1,5,6] [] [],A 6 [0,1,5,6] [] [],A 11 [0,5] [] [],A 12 [0,5] [] []]
theorem ok231 : (cFun Tryz.prog ann231 false 231).isSome = true:=by kernel_rfl
noncomputable def fn231 : AFun:=getF (cFun Tryz.prog ann231 false 231)
theorem c231 : cFun Tryz.prog ann231 false 231 = some fn231:=zaa7 ok231
def ann232 : Ann:=[A 0 [0,1] [] [],A 1 [0,1] [] []]
theorem ok232 : (cFun Tryz.prog ann232 false 232).isSome = true:=by kernel_rfl
noncomputable def fn232 : AFun:=getF (cFun Tryz.prog ann232 false 232)
theorem c232 : cFun Tryz.prog ann232 false 232 = some fn232:=zaa7 ok232
end Go.Am
