/- Parts of the proofs of the statement, joined and made short: ACode2. -/
import Derived.Test.YtgaeajfoiigbkaaGreatDoorP24
set_option linter.unusedVariables false
set_option linter.unusedSimpArgs false
set_option linter.unusedSectionVars false
namespace Go.Am
open Go.Proofs
def ann233 : Ann:=[A 0 [0] [] [],A 1 [1,2] [] [],A 2 [1,2,3] [] [],A 3 [2,3,10,11,12] [2,3,10] [],A 4 [2,3,10,11,12] [] [],A 5 [2,3,5,10,11,12] [] [(3,⟨.d,[0]⟩),(4,⟨.f,[]⟩),(5,⟨.r,[]⟩)],A 6 [2,3,10,11,12] [] [],A 7 [2,3] [] []]
theorem ok233 : (cFun Tryz.prog ann233 true 233).isSome = true:=by kernel_rfl
noncomputable def fn233 : AFun:=getF (cFun Tryz.prog ann233 true 233)
theorem c233 : cFun Tryz.prog ann233 true 233 = some fn233:=zaa7 ok233
def ann234 : Ann:=[A 0 [0,1,2,3] [] [],A 1 [3,4,5,6,8,9] [] [],A 2 [3,6,8,9,11,12] [] [],A 3 [8,9,12] [] [],A 4 [3,6,8,9,11] [] []]
theorem ok234 : (cFun Tryz.prog ann234 false 234).isSome = true:=by kernel_rfl
noncomputable def fn234 : AFun:=getF (cFun Tryz.prog ann234 false 234)
theorem c234 : cFun Tryz.prog ann234 false 234 = some fn234:=zaa7 ok234
def ann237 : Ann:=[A 0 [0] [] [],A 1 [0] [] [],A 2 [] [] [],A 3 [0] [] [],A 4 [0,19,20] [] [],A 5 [0,19,20] [] [],A 6 [0,3,19,20] [] [],A 7 [] [] [],A 8 [0,19,20] [] [],A 9 [] [] []]
theorem ok237 : (cFun Tryz.prog ann237 false 237).isSome = true:=by kernel_rfl
noncomputable def fn237 : AFun:=getF (cFun Tryz.prog ann237 false 237)
theorem c237 : cFun Tryz.prog ann237 false 237 = some fn237:=zaa7 ok237
def ann238 : Ann:=[A 0 [0,1] [] [],A 1 [0,1] [] []]
theorem ok238 : (cFun Tryz.prog ann238 false 238).isSome = true:=by kernel_rfl
noncomputable def fn238 : AFun:=getF (cFun Tryz.prog ann238 false 238)
theorem c238 : cFun Tryz.prog ann238 false 238 = some fn238:=zaa7 ok238
def ann239 : Ann:=[A 0 [0,1] [] [],A 1 [0,8,9,10] [0,8] [],A 2 [0,8,9,10] [] [],A 3 [0,3,4,8,9,10] [] [],A 4 [0,3,8,9,10,16,17,18] [0,8,16] [],A 5 [0,3,8,9,10,16,17,18] [] [],A 6 [0,3,5,6,8,9,10,16,17,18] [] [],A 7 [0,3,8,9,10,16,17,18] [] [],A 8 [0,8,9,10] [] []]
theorem ok239 : (cFun Tryz.prog ann239 false 239).isSome = true:=by kernel_rfl
noncomputable def fn239 : AFun:=getF (cFun Tryz.prog ann239 false 239)
theorem c239 : cFun Tryz.prog ann239 false 239 = some fn239:=zaa7 ok239
def ann240 : Ann:=[A 0 [0] [] [],A 1 [1] [] [],A 2 [] [] [],A 3 [1] [] [],A 4 [1,3] [] [],A 5 [1,3,19,20] [] [],A 6 [1,3,19,20] [] [],A 7 [1,3,4,5,19,20] [] [],A 8 [] [] [],A 9 [1,3,19,20] [] [],A 10 [1,3] [] [],A 11 [1,3,39,40] [] [],A 12 [1,3,39,40] [] [],A 13 [1,3,6,7,39,40] [] [],A 14 [] [] [],A 15 [1,3,39,40] [] [],A 16 [1,3] [] [],A 17 [] [] [],A 18 [1,3] [] [],A 19 [] [] [],A 20 [1] [] [],A 21 [] [] [],A 22 [] [] []]
theorem ok240 : (cFun Tryz.prog ann240 false 240).isSome = true:=by kernel_rfl
noncomputable def fn240 : AFun:=getF (cFun Tryz.prog ann240 false 240)
theorem c240 : cFun Tryz.prog ann240 false 240 = some fn240:=zaa7 ok240
def ann241 : Ann:=[A 0 [0,1] [] [],A 1 [1,2] [] [],A 2 [2,5] [] [],A 3 [2,5] [] [],A 4 [2,5] [] [],A 5 [2,5] [] [],A 6 [2,5] [] [],A 7 [2,5] [] [],A 8 [2] [] [],A 9 [2,5] [] [],A 10 [2,5] [] [],A 11 [2,5] [] [],A 12 [2] [] [],A 13 [2,5] [] [],A 14 [2,5] [] [],A 15 [2,5] [] [],A 16 [2] [] [],A 17 [2,5] [] [],A 18 [2] [] [],A 19 [] [] []]
theorem ok241 : (cFun Tryz.prog ann241 false 241).isSome = true:=by kernel_rfl
noncomputable def fn241 : AFun:=getF (cFun Tryz.prog ann241 false 241)
theorem c241 : cFun Tryz.prog ann241 false 241 = some fn241:=zaa7 ok241
def ann242 : Ann:=[A 0 [0,1] [] [],A 1 [1,2] [] [],A 2 [1,5] [] [],A 3 [5] [] [],A 4 [1] [] [],A 5 [] [] [],A 6 [] [] []]
theorem ok242 : (cFun Tryz.prog ann242 false 242).isSome = true:=by kernel_rfl
noncomputable def fn242 : AFun:=getF (cFun Tryz.prog ann242 false 242)
theorem c242 : cFun Tryz.prog ann242 false 242 = some fn242:=zaa7 ok242
def ann243 : Ann:=[A 0 [0] [] [],A 1 [0] [] [],A 2 [] [] [],A 3 [0] [] [],A 4 [0,8] [] [],A 5 [0,8] [] [],A 6 [0,3,8] [] [],A 7 [3] [] [],A 8 [0,8] [] [],A 9 [4,5,8] [] [],A 10 [] [] [],A 11 [4,8] [] [],A 12 [0,8] [] [],A 13 [] [] []]
theorem ok243 : (cFun Tryz.prog ann243 false 243).isSome = true:=by kernel_rfl
noncomputable def fn243 : AFun:=getF (cFun Tryz.prog ann243 false 243)
theorem c243 : cFun Tryz.prog ann243 false 243 = some fn243:=zaa7 ok243
def ann244 : Ann:=[A 0 [0] [] [],A 1 [0] [] []]
theorem ok244 : (cFun Tryz.prog ann244 false 244).isSome = true:=by kernel_rfl
noncomputable def fn244 : AFun:=getF (cFun Tryz.prog ann244 false 244)
theorem c244 : cFun Tryz.prog ann244 false 244 = some fn244:=zaa7 ok244
def ann245 : Ann:=[A 0 [0,1,2] [] [],A 1 [1,3,5,6] [] [],A 2 [1,3,5,6] [] [],A 4 [1,3,5,6,7] [3,5,6] [],A 5 [1,3,5,6,7,8,9] [] [],A 6 [5,6] [] [],A 7 [1,3,5,6,7,8] [] [],A 8 [1,5,6,8] [] [],A 9 [1,5,6,10] [] [],A 10 [5,6,10] [] [],A 11 [1,5,6] [] [],A 12 [5,6] [] [],A 13 [5,6] [] [],A 14 [1,3,5,6,7,8] [] [],A 15 [5,6] [] [],A 16 [1,3,5,6,7,8] [] [],A 17 [1,3,5,6,7,8] [] [],A 18 [1,3,5,6,7,11] [] [],A 19 [5,6] [] [],A 3 [1,3,5,6,7] [] []]
theorem ok245 : (cFun Tryz.prog ann245 false 245).isSome = true:=by kernel_rfl
noncomputable def fn245 : AFun:=getF (cFun Tryz.prog ann245 false 245)
theorem c245 : cFun Tryz.prog ann245 false 245 = some fn245:=zaa7 ok245
def ann250 : Ann:=[A 0 [0,1,2] [] [],A 1 [2,3,4,6,7] [] [],A 2 [3,4,6,7,9,10] [] [],A 3 [6,7] [] [],A 4 [3,4,6,7,9] [] [],A 5 [4,6,7,9,10,11] [] []]
theorem ok250 : (cFun Tryz.prog ann250 false 250).isSome = true:=by kernel_rfl
noncomputable def fn250 : AFun:=getF (cFun Tryz.prog ann250 false 250)
theorem c250 : cFun Tryz.prog ann250 false 250 = some fn250:=zaa7 ok250
def ann251 : Ann:=[A 0 [0,1,2] [] [],A 1 [3,4,5,6] [] [],A 2 [3,4,5,6,7] [] [],A 4 [3,4,5,6,7,16] [] [],A 5 [6,7] [] [],A 6 [3,4,5,6,7,16] [] [],A 7 [6,7] [] [],A 8 [3,4,5,6,7,16] [] [],A 9 [6,7] [] [],A 10 [3,4,5,6,7,16] [] [],A 11 [3,5,6,7] [] [],A 12 [3,5,6,7] [] [],A 13 [3,4,5,6,7,16] [] [],A 14 [4,5,6,7] [] [],A 15 [3,4,5,6,7,16] [] [],A 16 [3,5,6,7] [] [],A 17 [3,5,6,7] [] [],A 18 [3,4,5,6,7,16] [] [],A 19 [3,5,6,7] [] [],A 20 [3,5,6,7] [] [],A 21 [3,4,5,6,7,16] [] [],A 22 [4,6,7] [] [],A 23 [4,6,7] [] [],A 24 [3,4,5,6,7,16] [] [],A 25 [4,5,6,7] [] [],A 26 [4,5,6,7] [] [],A 3 [3,4,5,6,7] [] [],A 27 [6,7] [] []]
theorem ok251 : (cFun Tryz.prog ann251 true 251).isSome = true:=by kernel_rfl
noncomputable def fn251 : AFun:=getF (cFun Tryz.prog ann251 true 251)
theorem c251 : cFun Tryz.prog ann251 true 251 = some fn251:=zaa7 ok251
def ann252 : Ann:=[A 0 [0] [] [],A 1 [1,2] [] [],A 2 [1,2,3] [] [(3,⟨.o,[]⟩)],A 3 [1,2,3] [] [],A 4 [1,2,3] [] [],A 5 [1,2,3,22,23] [1,2,3] [],A 6 [1,2,3,22,23] [] [],A 7 [1,2,3,4,22,23] [] [(12,⟨.f,[]⟩)],A 8 [1,2,3,22,23] [] [],A 9 [1,2,3] [] [(3,⟨.o,[]⟩)],A 10 [1,2,3] [] [],A 11 [1,2,3] [] [],A 12 [1,2,3,51,52] [1,2,3] [],A 13 [1,2,3,51,52] [] [],A 14 [1,2,3,5,51,52] [] [(12,⟨.f,[]⟩)],A 15 [1,2,3,51,52] [] [],A 16 [2,3] [] []]
theorem ok252 : (cFun Tryz.prog ann252 true 252).isSome = true:=by kernel_rfl
noncomputable def fn252 : AFun:=getF (cFun Tryz.prog ann252 true 252)
theorem c252 : cFun Tryz.prog ann252 true 252 = some fn252:=zaa7 ok252
def ann253 : Ann:=[A 0 [0,1,2,3] [] [],A 1 [4,5,6,7,8] [] [],A 2 [4,5,6,7,8,11] [] [],A 3 [4,5,6,7,8,11,12] [] [],A 4 [4,5,6,7,8,11,12,14] [] [],A 5 [4,5,7,8,11,12,14] [] [],A 6 [4,5,7,8,11,12,14] [] [],A 7 [4,5,7,8,11,12,14] [] [],A 8 [4,5,7,8,11,12,14] [] [],A 9 [4,5,7,8,11,12,14] [] [],A 10 [4,5,7,8,11,12,14] [] [],A 11 [4,5,7,8,11,12,14] [] [],A 12 [4,5,7,8,11,12,14] [] [],A 13 [4,7,8,11,12,14] [] [],A 14 [4,7,8,11,12,14] [] [],A 15 [4,7,8,11,12,14] [] [],A 16 [4,6,7,8] [] [],A 17 [4,6,7,8,11] [] [],A 18 [4,6,8,11,12] [] [],A 19 [4,8,11] [] [],A 20 [4,7,8,12] [] [],A 21 [4,7,8,11] [] [],A 22 [4,5,7,8,11,12] [] [],A 23 [4,5,7,8] [] [],A 24 [4,5,7,8,12] [] [],A 25 [4,5,7,8,12] [] [],A 26 [4,5,7,8,12] [] [],A 27 [4,5,7,8,11,12] [] [],A 28 [4,5,7,8,12] [] [],A 29 [4,5,8,12] [] [],A 30 [4,7,8,12] [] [],A 31 [4,7,8,12] [] [],A 32 [4,7,8,11] [] [],A 33 [4,8,11,12] [] []]
theorem ok253 : (cFun Tryz.prog ann253 false 253).isSome = true:=by kernel_rfl
noncomputable def fn253 : AFun:=getF (cFun Tryz.prog ann253 false 253)
theorem c253 : cFun Tryz.prog ann253 false 253 = some fn253:=zaa7 ok253
def ann254 : Ann:=[A 0 [0] [] [],A 1 [1,2] [] [(9,⟨.f,[]⟩)],A 2 [1,2,3] [] [],A 3 [2,3,21,22,23] [2,3,21] [],A 4 [2,3,21,22,23] [] [],A 5 [2,3,4,5,21,22,23] [] [(6,⟨.f,[]⟩)],A 6 [2,3,21,22,23] [] [],A 7 [2,3] [] []]
theorem ok254 : (cFun Tryz.prog ann254 true 254).isSome = true:=by kernel_rfl
noncomputable def fn254 : AFun:=getF (cFun Tryz.prog ann254 true 254)
theorem c254 : cFun Tryz.prog ann254 true 254 = some fn254:=zaa7 ok254
def ann256 : Ann:=[A 0 [0,1,2,3] [] [],A 1 [1,3,4,6,8] [] [],A 2 [1,3,4,6,8,10] [] [],A 3 [8,10] [] [],A 4 [1,3,4,6,8] [] [],A 5 [8] [] [],A 6 [1,3,4,6,8] [] [],A 7 [8] [] [],A 8 [1,3,4,6,8] [] [],A 9 [8] [] [],A 10 [1,3,4,6,8] [] [],A 11 [1,3,4,6,8,11] [] [],A 12 [1,3,4,6,8,11] [] [],A 13 [1,3,4,6,8,11,13,14] [] [],A 14 [1,3,4,6,8,11,13] [] [],A 15 [1,3,4,6,8,11] [] [],A 16 [1,4,6,8,11] [] [],A 17 [1,3,4,6,8,11] [] [],A 18 [1,3,4,6,8,11,68] [] [],A 19 [1,4,6,8,11,68] [] [],A 20 [1,4,6,8,11,68] [] [],A 21 [1,4,6,8,68] [] [],A 22 [1,3,4,6,8,11] [] [],A 23 [1,4,6,8,11] [] [],A 24 [1,4,6,8,11] [] [],A 25 [1,4,6,8] [] [],A 26 [1,4,6,8] [] [],A 27 [1,4,6,8] [] []]
theorem ok256 : (cFun Tryz.prog ann256 false 256).isSome = true:=by kernel_rfl
noncomputable def fn256 : AFun:=getF (cFun Tryz.prog ann256 false 256)
theorem c256 : cFun Tryz.prog ann256 false 256 = some fn256:=zaa7 ok256
def ann257 : Ann:=[A 0 [0] [] [],A 1 [1] [] [],A 2 [] [] [],A 3 [1] [] [],A 4 [1,35,36,37] [] [],A 5 [1,35,36,37] [] [],A 6 [1,4,35,36,37] [] [],A 7 [] [] [],A 8 [1,35,36,37] [] [],A 9 [1] [] [],A 10 [1,49,50,51] [] [],A 11 [1,49,50,51] [] [],A 12 [1,6,49,50,51] [] [],A 13 [] [] [],A 14 [1,49,50,51] [] [],A 15 [1] [] [],A 16 [1,7] [] [],A 17 [7,62,63,64] [7,62] [],A 18 [7,62,63,64] [] [],A 19 [7,9,62,63,64] [] [(2,⟨.o,[]⟩)],A 20 [7,62,63,64] [] [],A 21 [7] [] [],A 22 [7,72,73,74] [] [],A 23 [7,72,73,74] [] [],A 24 [7,10,11,72,73,74] [] [],A 25 [] [] [],A 26 [7,72,73,74] [] [],A 27 [] [] []]
theorem ok257 : (cFun Tryz.prog ann257 false 257).isSome = true:=by kernel_rfl
noncomputable def fn257 : AFun:=getF (cFun Tryz.prog ann257 false 257)
theorem c257 : cFun Tryz.prog ann257 false 257 = some fn257:=zaa7 ok257
def ann258 : Ann:=[A 0 [0,1,2] [] [],A 1 [1,3,5] [] [],A 2 [] [] [],A 3 [1,3,5] [] [],A 4 [1,5,7,8] [] [],A 5 [1,5,7,8,21] [] [],A 6 [1,5,7,8,21] [] [],A 7 [1,5,7,8] [] [],A 8 [] [] [],A 9 [1,5] [] [],A 10 [5,7,8,21] [] [],A 11 [5,7,8] [] [],A 12 [5,7,8,21] [] [],A 13 [5,7,8] [] [],A 14 [] [] [],A 15 [5,7] [] [],A 16 [5,7,92] [] [],A 17 [5,7] [] [],A 18 [5,7,92] [] [],A 19 [7] [] [],A 20 [5,7] [] [],A 21 [] [] []]
theorem ok258 : (cFun Tryz.prog ann258 false 258).isSome = true:=by kernel_rfl
noncomputable def fn258 : AFun:=getF (cFun Tryz.prog ann258 false 258)
theorem c258 : cFun Tryz.prog ann258 false 258 = some fn258:=zaa7 ok258
def ann264 : Ann:=[A 0 [0,1,2] [] [],A 1 [1,2,3] [] [],A 2 [] [] [],A 3 [1,2] [] [],A 4 [] [] [],A 5 [] [] []]
theorem ok264 : (cFun Tryz.prog ann264 false 264).isSome = true:=by kernel_rfl
noncomputable def fn264 : AFun:=getF (cFun Tryz.prog ann264 false 264)
theorem c264 : cFun Tryz.prog ann264 false 264 = some fn264:=zaa7 ok264
def ann266 : Ann:=[A 0 [0,1] [] [],A 1 [0,1] [] [],A 2 [0,1,7,8] [] [],A 3 [0,1,7,8] [] [],A 4 [0,1,5,7,8] [] [],A 5 [5] [] [],A 6 [0,1,7,8] [] [],A 7 [] [] []]
theorem ok266 : (cFun Tryz.prog ann266 false 266).isSome = true:=by kernel_rfl
noncomputable def fn266 : AFun:=getF (cFun Tryz.prog ann266 false 266)
theorem c266 : cFun Tryz.prog ann266 false 266 = some fn266:=zaa7 ok266
def ann267 : Ann:=[A 0 [0,1] [] [],A 1 [1,2] [] []]
theorem ok267 : (cFun Tryz.prog ann267 false 267).isSome = true:=by kernel_rfl
noncomputable def fn267 : AFun:=getF (cFun Tryz.prog ann267 false 267)
theorem c267 : cFun Tryz.prog ann267 false 267 = some fn267:=zaa7 ok267
def ann273 : Ann:=[A 0 [0] [] [],A 1 [0] [] []]
theorem ok273 : (cFun Tryz.prog ann273 false 273).isSome = true:=by kernel_rfl
noncomputable def fn273 : AFun:=getF (cFun Tryz.prog ann273 false 273)
theorem c273 : cFun Tryz.prog ann273 false 273 = some fn273:=zaa7 ok273
def ann277 : Ann:=[A 0 [0,1,2,3,4] [] [],A 1 [3,4,5,6,7] [] [],A 2 [3,5,6,7,11,12] [] [],A 3 [] [] [(0,⟨.o,[]⟩)],A 4 [3,5,6,7,11] [] [],A 5 [3,5,6,7,11,13] [] [],A 6 [5,6,7,11,13,29,30,31] [5,6,7,11,13,29] [],A 7 [5,6,7,11,13,29,30,31] [] [],A 8 [5,6,7,11,13,15,29,30,31] [] [],A 9 [5,6,7,11,13,15,29,30,31] [] [],A 10 [5,6,7,11,13,15,16,17,29,30,31] [] [],A 11 [5,6,7,11,13,15,29,30,31] [] [],A 12 [5,6,7,11,13,29,30,31] [] [],A 13 [13] [] [(1,⟨.d,[0]⟩),(2,⟨.d,[0]⟩)]]
theorem ok277 : (cFun Tryz.prog ann277 true 277).isSome = true:=by kernel_rfl
noncomputable def fn277 : AFun:=getF (cFun Tryz.prog ann277 true 277)
theorem c277 : cFun Tryz.prog ann277 true 277 = some fn277:=zaa7 ok277
def ann278 : Ann:=[A 0 [0,1,2] [] [],A 1 [2,3,4] [] [],A 2 [3,4,8,9] [] [],A 3 [9] [] [],A 4 [3,4,8] [] [],A 5 [] [] [],A 6 [8] [] [],A 7 [8,10] [] [],A 8 [8,10,11] [] [],A 9 [8,10,11,38,39,40] [8,10,11,38] [],A 10 [8,10,11,38,39,40] [] [],A 11 [8,10,11,12,13,38,39,40] [] [],A 12 [8,10,11,12,13,14,38,39,40] [] [],A 13 [8,11,12,13,14,52] [] [],A 14 [8,11,12,13,14,15] [] [],A 15 [8,11,12,14,15] [] [],A 16 [11,12,14,15] [] [(2,⟨.o,[]⟩),(4,⟨.o,[]⟩),(8,⟨.o,[]⟩),(11,⟨.o,[]⟩)],A 17 [8,10,11,38,39,40] [] [],A 18 [11] [] [],A 1000000 [8,11,12,13,14] [278] []]
theorem ok278 : (cFun Tryz.prog ann278 false 278).isSome = true:=by kernel_rfl
noncomputable def fn278 : AFun:=getF (cFun Tryz.prog ann278 false 278)
theorem c278 : cFun Tryz.prog ann278 false 278 = some fn278:=zaa7 ok278
theorem okl278 : (cLoop Tryz.prog ann278 278).isSome = true:=by kernel_rfl
noncomputable def lp278 : ALoop:=getF (cLoop Tryz.prog ann278 278)
theorem cl278 : cLoop Tryz.prog ann278 278 = some lp278:=zaa7 okl278
def ann279 : Ann:=[A 0 [0,1,2,3] [] [],A 1 [2,3,4,5] [] [],A 2 [2,3,4,5,10,11] [] [],A 3 [11] [] [],A 4 [2,3,4,5,10] [] [],A 5 [2,3,4,5,10,11,12] [] [],A 6 [11] [] [],A 7 [2,3,4,5,10,12] [] [],A 8 [3,4,5,12,13] [] [],A 9 [3,4,5,12,13,14] [] [],A 10 [3,4,5,12,13,14,53,54,55] [3,4,5,12,13,14,53] [],A 11 [3,4,5,12,13,14,53,54,55] [] [],A 12 [3,4,5,12,13,14,16,53,54,55] [] [],A 13 [3,4,5,12,13,14,16,53,54,55] [] [],A 14 [3,4,5,12,13,14,16,17,18,53,54,55] [] [(4,⟨.d,[1]⟩)],A 15 [3,4,5,12,13,14,16,53,54,55] [] [(3,⟨.o,[]⟩)],A 16 [3,4,5,12,13,14,53,54,55] [] [],A 17 [14] [] [(1,⟨.d,[0]⟩)],A 18 [14] [] []]
theorem ok279 : (cFun Tryz.prog ann279 false 279).isSome = true:=by kernel_rfl
noncomputable def fn279 : AFun:=getF (cFun Tryz.prog ann279 false 279)
theorem c279 : cFun Tryz.prog ann279 false 279 = some fn279:=zaa7 ok279
def ann280 : Ann:=[A 0 [0,1] [] [],A 1 [0,1] [] [(2,⟨.d,[1]⟩)]]
theorem ok280 : (cFun Tryz.prog ann280 false 280).isSome = true:=by kernel_rfl
noncomputable def fn280 : AFun:=getF (cFun Tryz.prog ann280 false 280)
theorem c280 : cFun Tryz.prog ann280 false 280 = some fn280:=zaa7 ok280
def ann281 : Ann:=[A 0 [0,1] [] [],A 1 [0,1] [] []]
theorem ok281 : (cFun Tryz.prog ann281 false 281).isSome = true:=by kernel_rfl
noncomputable def fn281 : AFun:=getF (cFun Tryz.prog ann281 false 281)
theorem c281 : cFun Tryz.prog ann281 false 281 = some fn281:=zaa7 ok281
def ann282 : Ann:=[A 0 [0,1,2,3,4] [] [],A 1 [2,4,5,6,8,10] [] [],A 2 [2,4,5,6,8,10,14] [] [],A 3 [10,14] [] [],A 4 [2,4,5,6,8,10] [] [(1,⟨.d,[0]⟩)],A 5 [10] [] [],A 6 [2,4,5,6,8,10] [] [],A 7 [10] [] [],A 8 [2,4,5,6,8,10] [] [],A 9 [2,4,5,6,8,10,16] [] [],A 10 [10,16] [] [],A 11 [2,4,5,6,8,10] [] [(1,⟨.d,[0]⟩)],A 12 [2,4,5,6,10,17] [] [],A 13 [4,10,17,18] [] [(4,⟨.d,[1,2]⟩)],A 14 [10,17,19] [] []]
theorem ok282 : (cFun Tryz.prog ann282 true 282).isSome = true:=by kernel_rfl
noncomputable def fn282 : AFun:=getF (cFun Tryz.prog ann282 true 282)
theorem c282 : cFun Tryz.prog ann282 true 282 = some fn282:=zaa7 ok282
def ann283 : Ann:=[A 0 [0,1] [] [],A 1 [0,1] [] [],A 2 [0,1,7,8] [] [],A 3 [0,1,7,8] [] [],A 4 [0,1,5,7,8] [] [],A 5 [5] [] [],A 6 [0,1,7,8] [] [],A 7 [] [] []]
theorem ok283 : (cFun Tryz.prog ann283 false 283).isSome = true:=by kernel_rfl
noncomputable def fn283 : AFun:=getF (cFun Tryz.prog ann283 false 283)
theorem c283 : cFun Tryz.prog ann283 false 283 = some fn283:=zaa7 ok283
def ann284 : Ann:=[A 0 [0] [] [],A 1 [0] [] []]
theorem ok284 : (cFun Tryz.prog ann284 false 284).isSome = true:=by kernel_rfl
noncomputable def fn284 : AFun:=getF (cFun Tryz.prog ann284 false 284)
theorem c284 : cFun Tryz.prog ann284 false 284 = some fn284:=zaa7 ok284
def ann285 : Ann:=[A 0 [0,1] [] [],A 1 [0,1] [] [],A 2 [0,1,7,8] [] [],A 3 [0,1,7,8] [] [],A 4 [0,1,5,7,8] [] [],A 5 [5] [] [],A 6 [0,1,7,8] [] [],A 7 [] [] []]
theorem ok285 : (cFun Tryz.prog ann285 false 285).isSome = true:=by kernel_rfl
noncomputable def fn285 : AFun:=getF (cFun Tryz.prog ann285 false 285)
theorem c285 : cFun Tryz.prog ann285 false 285 = some fn285:=zaa7 ok285
def ann286 : Ann:=[A 0 [0] [] [],A 1 [0] [] []]
theorem ok286 : (cFun Tryz.prog ann286 false 286).isSome = true:=by kernel_rfl
noncomputable def fn286 : AFun:=getF (cFun Tryz.prog ann286 false 286)
theorem c286 : cFun Tryz.prog ann286 false 286 = some fn286:=zaa7 ok286
def ann287 : Ann:=[A 0 [0] [] [],A 1 [1,2] [] []]
theorem ok287 : (cFun Tryz.prog ann287 false 287).isSome = true:=by kernel_rfl
noncomputable def fn287 : AFun:=getF (cFun Tryz.prog ann287 false 287)
theorem c287 : cFun Tryz.prog ann287 false 287 = some fn287:=zaa7 ok287
def ann290 : Ann:=[A 0 [0,1,2] [] [],A 1 [1,2,3,6] [] [],A 2 [3,6] [] []]
theorem ok290 : (cFun Tryz.prog ann290 false 290).isSome = true:=by kernel_rfl
noncomputable def fn290 : AFun:=getF (cFun Tryz.prog ann290 false 290)
theorem c290 : cFun Tryz.prog ann290 false 290 = some fn290:=zaa7 ok290
def ann291 : Ann:=[A 0 [0] [] [],A 1 [0] [] []]
theorem ok291 : (cFun Tryz.prog ann291 false 291).isSome = true:=by kernel_rfl
noncomputable def fn291 : AFun:=getF (cFun Tryz.prog ann291 false 291)
theorem c291 : cFun Tryz.prog ann291 false 291 = some fn291:=zaa7 ok291
def ann292 : Ann:=[A 0 [0,1] [] [],A 1 [2,3] [] [],A 2 [] [] [],A 3 [2,3] [] [],A 4 [2,3,5] [] [],A 5 [2,3,5,14] [] [],A 6 [2,5,14] [] [],A 7 [2,14] [] [],A 8 [2,3] [] [],A 9 [2,5] [] [],A 10 [] [] [],A 11 [2] [] [],A 12 [7] [] [],A 13 [] [] [],A 14 [] [] []]
theorem ok292 : (cFun Tryz.prog ann292 false 292).isSome = true:=by kernel_rfl
noncomputable def fn292 : AFun:=getF (cFun Tryz.prog ann292 false 292)
theorem c292 : cFun Tryz.prog ann292 false 292 = some fn292:=zaa7 ok292
def ann297 : Ann:=[A 0 [0,1,2] [] [],A 1 [1,2,3,6] [] [],A 2 [1,2,3,6,8] [] [],A 3 [6,8] [] [],A 4 [1,2,3,6] [] [],A 5 [6] [] [],A 6 [1,2,3,6] [] [],A 7 [1,2,6,9] [] [],A 8 [6,9] [] []]
theorem ok297 : (cFun Tryz.prog ann297 true 297).isSome = true:=by kernel_rfl
noncomputable def fn297 : AFun:=getF (cFun Tryz.prog ann297 true 297)
theorem c297 : cFun Tryz.prog ann297 true 297 = some fn297:=zaa7 ok297
def ann303 : Ann:=[A 0 [0,1,2,3] [] [],A 1 [4,5,6,7,8] [] [],A 2 [5,6,7,8,9] [] [],A 3 [5,6,7,8,9] [] [],A 4 [5,6,7,8,9] [] [],A 5 [5,6,7,8,9] [] [],A 6 [5,6,7,8,9,26] [] [],A 7 [5,6,7,8,9,26] [] [],A 8 [5,6,7,8,9,26] [] [],A 9 [5,6,7,8,9,26] [] [],A 10 [5,6,7,8,9,26] [] [],A 11 [7,8] [] [],A 12 [7,8] [] [],A 13 [5,6,7,8] [] [],A 14 [5,6,7,8] [] [],A 15 [5,6,7,8] [] [],A 16 [5,6,7,8,9] [] [],A 17 [5,6,7,8,9] [] [],A 18 [5,6,7,8] [] [],A 19 [7,8] [] [],A 20 [7,8] [] []]
theorem ok303 : (cFun Tryz.prog ann303 true 303).isSome = true:=by kernel_rfl
noncomputable def fn303 : AFun:=getF (cFun Tryz.prog ann303 true 303)
theorem c303 : cFun Tryz.prog ann303 true 303 = some fn303:=zaa7 ok303
def ann311 : Ann:=[A 0 [0] [] [],A 1 [0] [] [(2,⟨.o,[]⟩)],A 2 [0,3] [] [],A 3 [3] [] []]
theorem ok311 : (cFun Tryz.prog ann311 true 311).isSome = true:=by kernel_rfl
noncomputable def fn311 : AFun:=getF (cFun Tryz.prog ann311 true 311)
theorem c311 : cFun Tryz.prog ann311 true 311 = some fn311:=zaa7 ok311
def ann312 : Ann:=[A 0 [0] [] [],A 1 [1] [] [],A 2 [] [] [],A 3 [1] [] []]
theorem ok312 : (cFun Tryz.prog ann312 false 312).isSome = true:=by kernel_rfl
noncomputable def fn312 : AFun:=getF (cFun Tryz.prog ann312 false 312)
theorem c312 : cFun Tryz.prog ann312 false 312 = some fn312:=zaa7 ok312
def ann316 : Ann:=[A 0 [0] [] [],A 1 [0] [] [],A 2 [0,3] [] [],A 4 [0,3] [] [],A 5 [] [] [],A 3 [0,3] [] [],A 6 [] [] []]
theorem ok316 : (cFun Tryz.prog ann316 false 316).isSome = true:=by kernel_rfl
noncomputable def fn316 : AFun:=getF (cFun Tryz.prog ann316 false 316)
theorem c316 : cFun Tryz.prog ann316 false 316 = some fn316:=zaa7 ok316
def ann317 : Ann:=[A 0 [0,1,2] [] [],A 1 [1,3,5] [] [],A 2 [1,3,5,7] [] [],A 3 [] [] [],A 4 [1,3,5,7] [] [],A 5 [1,3,5,7,51,52] [] [],A 6 [1,3,5,7,51,52] [] [],A 7 [1,3,5,7,9,51,52] [] [],A 8 [] [] [],A 9 [1,3,5,7,51,52] [] [],A 10 [1,3,5,7] [] [],A 11 [] [] [],A 12 [3,5] [] [],A 13 [3,5,95,96,97] [] [],A 14 [3,5,95,96,97] [] [],A 15 [3,5,11,95,96,97] [] [],A 16 [] [] [],A 17 [3,5,95,96,97] [] [],A 18 [3,5] [] [],A 19 [] [] [],A 20 [3,5] [] [],A 21 [5,12,13] [] []]
theorem ok317 : (cFun Tryz.prog ann317 false 317).isSome = true:=by kernel_rfl
noncomputable def fn317 : AFun:=getF (cFun Tryz.prog ann317 false 317)
theorem c317 : cFun Tryz.prog ann317 false 317 = some fn317:=zaa7 ok317
def ann321 : Ann:=[A 0 [0,1,2,3] [] [],A 1 [3,4,5,6,8] [] [],A 2 [3,6,8,10,11] [] [],A 3 [8] [] [],A 4 [3,6,8,10] [] []]
theorem ok321 : (cFun Tryz.prog ann321 false 321).isSome = true:=by kernel_rfl
noncomputable def fn321 : AFun:=getF (cFun Tryz.prog ann321 false 321)
theorem c321 : cFun Tryz.prog ann321 false 321 = some fn321:=zaa7 ok321
def ann322 : Ann:=[A 0 [0,1] [] [],A 1 [2,3] [] [],A 2 [] [] [],A 3 [2,3] [] []]
theorem ok322 : (cFun Tryz.prog ann322 false 322).isSome = true:=by kernel_rfl
noncomputable def fn322 : AFun:=getF (cFun Tryz.prog ann322 false 322)
theorem c322 : cFun Tryz.prog ann322 false 322 = some fn322:=zaa7 ok322
def ann323 : Ann:=[A 0 [0] [] [],A 1 [0] [] [(1,⟨.d,[0]⟩)],A 2 [3] [] [(1,⟨.d,[0]⟩)],A 3 [3] [] []]
noncomputable def fn323 : AFun:=getF (cFun Tryz.prog ann323 true 323)
def ann324 : Ann:=[A 0 [0] [] [],A 1 [1] [] []]
theorem ok324 : (cFun Tryz.prog ann324 false 324).isSome = true:=by kernel_rfl
noncomputable def fn324 : AFun:=getF (cFun Tryz.prog ann324 false 324)
theorem c324 : cFun Tryz.prog ann324 false 324 = some fn324:=zaa7 ok324
def ann325 : Ann:=[A 0 [0,1,2] [] [],A 1 [2,3,4,6] [] [],A 2 [2,3,4,6,8,9] [] []]
theorem ok325 : (cFun Tryz.prog ann325 false 325).isSome = true:=by kernel_rfl
noncomputable def fn325 : AFun:=getF (cFun Tryz.prog ann325 false 325)
theorem c325 : cFun Tryz.prog ann325 false 325 = some fn325:=zaa7 ok325
def ann326 : Ann:=[A 0 [0] [] [],A 1 [1] [] [],A 2 [1,3] [] [],A 3 [1,3,19,20,21] [] [],A 4 [1,3,19,20,21] [] [],A 5 [1,3,5,19,20,21] [] [],A 6 [1,3,19,20,21] [] [],A 7 [1,3] [] [(0,⟨.o,[]⟩)],A 8 [1,3,6] [] [],A 9 [1,3,6,35,36,37] [1,3,6,35] [],A 10 [1,3,6,35,36,37] [] [],A 11 [1,3,6,8,35,36,37] [] [],A 12 [1,3,6,8,9,10,35,36,37] [] [],A 13 [1,3,6,9,35,36,37] [] [(3,⟨.o,[]⟩)],A 14 [1,3,6,35,36,37] [] [],A 15 [6] [] []]
theorem ok326 : (cFun Tryz.prog ann326 false 326).isSome = true:=by kernel_rfl
noncomputable def fn326 : AFun:=getF (cFun Tryz.prog ann326 false 326)
theorem c326 : cFun Tryz.prog ann326 false 326 = some fn326:=zaa7 ok326
def ann327 : Ann:=[A 0 [0,1] [] [],A 1 [1,2] [] [(0,⟨.o,[]⟩)],A 2 [1,2,5] [] [],A 3 [2,5,12,13,14] [2,5,12] [],A 4 [2,5,12,13,14] [] [],A 5 [2,5,7,12,13,14] [] [(9,⟨.o,[]⟩)],A 6 [2,5,12,13,14] [] [],A 7 [5] [] []]
theorem ok327 : (cFun Tryz.prog ann327 false 327).isSome = true:=by kernel_rfl
noncomputable def fn327 : AFun:=getF (cFun Tryz.prog ann327 false 327)
theorem c327 : cFun Tryz.prog ann327 false 327 = some fn327:=zaa7 ok327
def ann328 : Ann:=[A 0 [0,1,2] [] [],A 1 [3,4,5] [] []]
theorem ok328 : (cFun Tryz.prog ann328 false 328).isSome = true:=by kernel_rfl
noncomputable def fn328 : AFun:=getF (cFun Tryz.prog ann328 false 328)
theorem c328 : cFun Tryz.prog ann328 false 328 = some fn328:=zaa7 ok328
def ann329 : Ann:=[A 0 [0,1,2,3,4] [] [],A 1 [1,2,3,4,5] [] [(0,⟨.o,[]⟩),(5,⟨.o,[]⟩),(7,⟨.o,[]⟩)],A 2 [3,4,5,11] [] [],A 3 [] [] [],A 4 [3,5,11] [] [],A 5 [3,5,12,13] [] [],A 6 [] [] [],A 7 [3,5,12] [] [],A 8 [3,46,47,48] [] [],A 9 [3,46,47,48] [] [],A 10 [3,15,46,47,48] [] [],A 11 [] [] [],A 12 [3,46,47,48] [] [],A 13 [] [] []]
theorem ok329 : (cFun Tryz.prog ann329 false 329).isSome = true:=by kernel_rfl
noncomputable def fn329 : AFun:=getF (cFun Tryz.prog ann329 false 329)
theorem c329 : cFun Tryz.prog ann329 false 329 = some fn329:=zaa7 ok329
def ann330 : Ann:=[A 0 [0] [] [],A 1 [0] [] [],A 2 [0,3] [] [],A 3 [0,3,9,10,11] [] [],A 4 [0,3,9,10,11] [] [],A 5 [0,3,5,9,10,11] [] [],A 6 [0,3,9,10,11] [] [],A 7 [0,3,9,10,11] [] [],A 8 [0,3,9,10,11] [] [],A 9 [0,3] [] [(1,⟨.d,[0]⟩)],A 10 [0,6] [] [],A 11 [6,25,26,27] [6,25] [],A 12 [6,25,26,27] [] [],A 13 [6,8,25,26,27] [] [(2,⟨.o,[]⟩)],A 14 [6,25,26,27] [] [],A 15 [6] [] []]
theorem ok330 : (cFun Tryz.prog ann330 false 330).isSome = true:=by kernel_rfl
noncomputable def fn330 : AFun:=getF (cFun Tryz.prog ann330 false 330)
theorem c330 : cFun Tryz.prog ann330 false 330 = some fn330:=zaa7 ok330
def ann331 : Ann:=[A 0 [0] [] [],A 1 [0] [] [(0,⟨.o,[]⟩)],A 2 [0,3] [] [],A 3 [0,3,4] [] [],A 4 [0,3,4,9,10,11] [0,3,4,9] [],A 5 [0,3,4,9,10,11] [] [],A 6 [0,3,4,5,6,9,10,11] [] [],A 7 [0,3,4,5,6,9,10,11] [] [],A 8 [0,3,4,5,6,9,10,11] [] [],A 9 [0,3,4,5,6,7,9,10,11] [] [(4,⟨.d,[1]⟩)],A 10 [0,3,4,6,9,10,11] [] [(4,⟨.o,[]⟩)],A 11 [0,3,4,9,10,11] [] [],A 12 [3] [] [(1,⟨.d,[0]⟩)],A 13 [3] [] []]
theorem ok331 : (cFun Tryz.prog ann331 true 331).isSome = true:=by kernel_rfl
noncomputable def fn331 : AFun:=getF (cFun Tryz.prog ann331 true 331)
theorem c331 : cFun Tryz.prog ann331 true 331 = some fn331:=zaa7 ok331
def ann332 : Ann:=[A 0 [0,1] [] [],A 1 [1,2] [] []]
theorem ok332 : (cFun Tryz.prog ann332 false 332).isSome = true:=by kernel_rfl
noncomputable def fn332 : AFun:=getF (cFun Tryz.prog ann332 false 332)
theorem c332 : cFun Tryz.prog ann332 false 332 = some fn332:=zaa7 ok332
def ann333 : Ann:=[A 0 [0] [] [],A 1 [1] [] [],A 2 [1,3] [] [],A 3 [1,3] [] [(7,⟨.d,[0]⟩)]]
theorem ok333 : (cFun Tryz.prog ann333 false 333).isSome = true:=by kernel_rfl
noncomputable def fn333 : AFun:=getF (cFun Tryz.prog ann333 false 333)
theorem c333 : cFun Tryz.prog ann333 false 333 = some fn333:=zaa7 ok333
def ann334 : Ann:=[A 0 [0,1,2,3] [] [],A 1 [1,2,3,4] [] [],A 2 [] [] [],A 3 [1,2,3,4] [] [(2,⟨.d,[1000]⟩)],A 4 [2,3,4,9] [] [],A 5 [2,3,4,9,23,24] [2,3,4] [],A 6 [2,3,4,9,23,24] [] [],A 7 [2,3,4,9,10,23,24] [] [],A 8 [2,3,4,9,11,23,24] [] [],A 9 [3,4,11] [] [],A 10 [] [] [],A 11 [3,4,11] [] [],A 12 [3,11,12] [] [(10,⟨.d,[1,2]⟩)],A 13 [2,3,4,9,23,24] [] [],A 14 [2,3] [] [(7,⟨.r,[]⟩)],A 15 [] [] []]
theorem ok334 : (cFun Tryz.prog ann334 false 334).isSome = true:=by kernel_rfl
noncomputable def fn334 : AFun:=getF (cFun Tryz.prog ann334 false 334)
theorem c334 : cFun Tryz.prog ann334 false 334 = some fn334:=zaa7 ok334
def ann335 : Ann:=[A 0 [0,1] [] [],A 1 [1,2] [] [],A 2 [5] [] []]
theorem ok335 : (cFun Tryz.prog ann335 false 335).isSome = true:=by kernel_rfl
noncomputable def fn335 : AFun:=getF (cFun Tryz.prog ann335 false 335)
theorem c335 : cFun Tryz.prog ann335 false 335 = some fn335:=zaa7 ok335
def ann337 : Ann:=[A 0 [0,1,2] [] [],A 1 [2,3,4,6] [] [],A 2 [6] [] [],A 3 [2,3,4,6] [] [],A 4 [4,6,8,9,10] [] [],A 5 [6] [] [],A 6 [4,6,8,9] [] []]
theorem ok337 : (cFun Tryz.prog ann337 false 337).isSome = true:=by kernel_rfl
noncomputable def fn337 : AFun:=getF (cFun Tryz.prog ann337 false 337)
theorem c337 : cFun Tryz.prog ann337 false 337 = some fn337:=zaa7 ok337
def ann345 : Ann:=[A 0 [0,1,2] [] [],A 1 [2,3,4,6] [] [],A 2 [2,3,4,6] [] [],A 3 [2,3,4,6] [] []]
theorem ok345 : (cFun Tryz.prog ann345 false 345).isSome = true:=by kernel_rfl
noncomputable def fn345 : AFun:=getF (cFun Tryz.prog ann345 false 345)
theorem c345 : cFun Tryz.prog ann345 false 345 = some fn345:=zaa7 ok345
def ann346 : Ann:=[A 0 [0,1] [] [],A 1 [2,3] [] [],A 2 [] [] [],A 3 [2,3] [] []]
theorem ok346 : (cFun Tryz.prog ann346 false 346).isSome = true:=by kernel_rfl
noncomputable def fn346 : AFun:=getF (cFun Tryz.prog ann346 false 346)
theorem c346 : cFun Tryz.prog ann346 false 346 = some fn346:=zaa7 ok346
def ann347 : Ann:=[A 0 [0,1] [] [],A 1 [2,3] [] [],A 2 [] [] [],A 3 [2] [] [],A 4 [17] [] [],A 5 [17] [] [],A 6 [17] [] [],A 7 [17] [] [],A 8 [] [] [],A 9 [] [] []]
theorem ok347 : (cFun Tryz.prog ann347 false 347).isSome = true:=by kernel_rfl
noncomputable def fn347 : AFun:=getF (cFun Tryz.prog ann347 false 347)
theorem c347 : cFun Tryz.prog ann347 false 347 = some fn347:=zaa7 ok347
def ann348 : Ann:=[A 0 [0,1] [] [],A 1 [2,3] [] [],A 2 [2,5] [] [],A 3 [5,14,15,16] [5,14] [],A 4 [5,14,15,16] [] [],A 5 [5,7,14,15,16] [] [],A 6 [5,7,14,15,16,20,21,22] [5,7,14,20] [],A 7 [5,7,14,15,16,20,21,22] [] [],A 8 [5,7,9,14,15,16,20,21,22] [] [],A 9 [5,7,9,10,14,15,16,20,21,22] [] [],A 10 [5,7,9,10,14,15,16,20,21,22] [] [],A 11 [] [] [],A 12 [5,7,14,15,16,20,21,22] [] [],A 13 [5,14,15,16] [] [],A 14 [] [] []]
theorem ok348 : (cFun Tryz.prog ann348 false 348).isSome = true:=by kernel_rfl
noncomputable def fn348 : AFun:=getF (cFun Tryz.prog ann348 false 348)
theorem c348 : cFun Tryz.prog ann348 false 348 = some fn348:=zaa7 ok348
def ann351 : Ann:=[A 0 [0,1,2] [] [],A 1 [3,4,5] [] [],A 2 [5,7,8] [] [],A 3 [] [] [],A 4 [5,7] [] [],A 5 [5,7,9] [] [],A 6 [5,9,10] [] [],A 7 [5,9,10,11] [] [],A 9 [5,9,10,11] [] [(8,⟨.d,[1000]⟩)],A 8 [5,9,10,11] [] [],A 10 [5,9,10] [] [],A 11 [9,10,41,42,43] [9,10,41] [],A 12 [9,10,41,42,43] [] [],A 13 [9,10,13,41,42,43] [] [(3,⟨.d,[1000]⟩)],A 14 [9,10,41,42,43] [] [],A 15 [9] [] []]
theorem ok351 : (cFun Tryz.prog ann351 false 351).isSome = true:=by kernel_rfl
noncomputable def fn351 : AFun:=getF (cFun Tryz.prog ann351 false 351)
theorem c351 : cFun Tryz.prog ann351 false 351 = some fn351:=zaa7 ok351
def ann352 : Ann:=[A 0 [0,1] [] [],A 1 [0,1] [] [],A 2 [] [] [],A 3 [0,1] [] [],A 4 [0,1,5] [] [(0,⟨.o,[]⟩)],A 5 [0,1,5,6] [] [],A 6 [0,1,5,6,7] [0,5,6] [],A 8 [0,1,5,6,7] [] [],A 9 [0,1,5,6,7] [] [(3,⟨.o,[]⟩)],A 7 [0,1,5,6,7] [] [],A 10 [6] [] []]
theorem ok352 : (cFun Tryz.prog ann352 false 352).isSome = true:=by kernel_rfl
noncomputable def fn352 : AFun:=getF (cFun Tryz.prog ann352 false 352)
theorem c352 : cFun Tryz.prog ann352 false 352 = some fn352:=zaa7 ok352
def ann353 : Ann:=[A 0 [0,1,2,3] [] [],A 1 [0,3,14,15,16] [0,3,14] [],A 2 [0,3,14,15,16] [] [],A 3 [0,3,6,14,15,16] [] [],A 4 [0,3,14,15,16] [] [],A 5 [0,3] [] [],A 6 [0,25,26,27] [0,25] [],A 7 [0,25,26,27] [] [],A 8 [0,8,25,26,27] [] [],A 9 [0,25,26,27] [] []]
theorem ok353 : (cFun Tryz.prog ann353 false 353).isSome = true:=by kernel_rfl
noncomputable def fn353 : AFun:=getF (cFun Tryz.prog ann353 false 353)
theorem c353 : cFun Tryz.prog ann353 false 353 = some fn353:=zaa7 ok353
def ann354 : Ann:=[A 0 [0,1] [] [],A 1 [0,1] [] [],A 2 [0,1,5] [] [],A 3 [1,5,8,9,10] [] [],A 4 [1,5,8,9,10] [] [],A 5 [1,5,7,8,9,10] [] [],A 6 [1,5,8,9,10] [] [],A 7 [1,5,8,9,10] [] [],A 8 [5] [] []]
theorem ok354 : (cFun Tryz.prog ann354 false 354).isSome = true:=by kernel_rfl
noncomputable def fn354 : AFun:=getF (cFun Tryz.prog ann354 false 354)
theorem c354 : cFun Tryz.prog ann354 false 354 = some fn354:=zaa7 ok354
def ann355 : Ann:=[A 0 [0,1] [] [],A 1 [0,1] [] [],A 2 [0,1] [] [],A 3 [0,1] [] [],A 4 [0,1] [] [],A 5 [0,1] [] [(5,⟨.o,[]⟩)],A 6 [0] [] []]
theorem ok355 : (cFun Tryz.prog ann355 true 355).isSome = true:=by kernel_rfl
noncomputable def fn355 : AFun:=getF (cFun Tryz.prog ann355 true 355)
theorem c355 : cFun Tryz.prog ann355 true 355 = some fn355:=zaa7 ok355
def ann357 : Ann:=[A 0 [0,1] [] [],A 1 [0,1] [] [],A 2 [0,1,8,9,10] [0,1,8] [],A 3 [0,1,8,9,10] [] [],A 4 [0,1,4,5,8,9,10] [] [],A 5 [0,1,5,8,9,10,17,18,19] [0,1,5,8,17] [],A 6 [0,1,5,8,9,10,17,18,19] [] [],A 7 [0,1,5,7,8,9,10,17,18,19] [] [],A 8 [] [] [],A 9 [0,1,5,8,9,10,17,18,19] [] [],A 10 [0,1,5,8,9,10] [] [(3,⟨.d,[0]⟩)],A 11 [] [] [],A 12 [0,1,8,9,10] [] [],A 13 [] [] []]
theorem ok357 : (cFun Tryz.prog ann357 false 357).isSome = true:=by kernel_rfl
noncomputable def fn357 : AFun:=getF (cFun Tryz.prog ann357 false 357)
theorem c357 : cFun Tryz.prog ann357 false 357 = some fn357:=zaa7 ok357
def ann360 : Ann:=[A 0 [0] [] [],A 1 [0] [] [],A 2 [] [] [],A 3 [0] [] [(7,⟨.f,[]⟩)]]
theorem ok360 : (cFun Tryz.prog ann360 true 360).isSome = true:=by kernel_rfl
noncomputable def fn360 : AFun:=getF (cFun Tryz.prog ann360 true 360)
theorem c360 : cFun Tryz.prog ann360 true 360 = some fn360:=zaa7 ok360
def ann363 : Ann:=[A 0 [0] [] [],A 1 [1] [] [],A 2 [1,3] [] [],A 3 [1,3,4] [] [],A 4 [4] [] [],A 5 [1,3,4] [] [],A 6 [] [] [],A 7 [1,3,4] [] [(0,⟨.o,[]⟩)],A 8 [1,3,4,5] [] [],A 9 [1,3,4,5] [] [(5,⟨.o,[]⟩)],A 10 [1,3,4,5] [] [(9,⟨.o,[]⟩)],A 11 [1,4,5] [] [],A 12 [4,5] [] [(3,⟨.o,[]⟩)],A 13 [5] [] []]
theorem ok363 : (cFun Tryz.prog ann363 false 363).isSome = true:=by kernel_rfl
noncomputable def fn363 : AFun:=getF (cFun Tryz.prog ann363 false 363)
theorem c363 : cFun Tryz.prog ann363 false 363 = some fn363:=zaa7 ok363
def ann364 : Ann:=[A 0 [0,1] [] [],A 1 [0,3] [] []]
theorem ok364 : (cFun Tryz.prog ann364 false 364).isSome = true:=by kernel_rfl
noncomputable def fn364 : AFun:=getF (cFun Tryz.prog ann364 false 364)
theorem c364 : cFun Tryz.prog ann364 false 364 = some fn364:=zaa7 ok364
def ann366 : Ann:=[A 0 [0,1,2,3] [] [],A 1 [0,3,6] [] [],A 2 [0,3] [] [(3,⟨.o,[]⟩)]]
theorem ok366 : (cFun Tryz.prog ann366 false 366).isSome = true:=by kernel_rfl
noncomputable def fn366 : AFun:=getF (cFun Tryz.prog ann366 false 366)
theorem c366 : cFun Tryz.prog ann366 false 366 = some fn366:=zaa7 ok366
def ann367 : Ann:=[A 0 [0] [] [],A 1 [0] [] [(2,⟨.f,[]⟩)],A 2 [0,3] [] [],A 3 [0,3,10,11] [0,3] [],A 4 [0,3,10,11] [] [],A 5 [0,3,4,10,11] [] [(6,⟨.o,[]⟩),(8,⟨.f,[]⟩)],A 6 [0,3,4,10,11] [] [],A 7 [3,4,25] [] [],A 8 [3,4,5] [] [(5,⟨.d,[0]⟩)],A 9 [3,4,5] [] [(8,⟨.d,[0]⟩)],A 10 [0,3,10,11] [] [],A 11 [3] [] [],A 1000000 [3,4] [367] []]
theorem ok367 : (cFun Tryz.prog ann367 false 367).isSome = true:=by kernel_rfl
noncomputable def fn367 : AFun:=getF (cFun Tryz.prog ann367 false 367)
theorem c367 : cFun Tryz.prog ann367 false 367 = some fn367:=zaa7 ok367
theorem okl367 : (cLoop Tryz.prog ann367 367).isSome = true:=by kernel_rfl
noncomputable def lp367 : ALoop:=getF (cLoop Tryz.prog ann367 367)
theorem cl367 : cLoop Tryz.prog ann367 367 = some lp367:=zaa7 okl367
def ann368 : Ann:=[A 0 [0,1] [] [],A 1 [0,1] [] []]
theorem ok368 : (cFun Tryz.prog ann368 false 368).isSome = true:=by kernel_rfl
noncomputable def fn368 : AFun:=getF (cFun Tryz.prog ann368 false 368)
theorem c368 : cFun Tryz.prog ann368 false 368 = some fn368:=zaa7 ok368
def ann371 : Ann:=[A 0 [0,1] [] [],A 1 [0,3] [] [],A 2 [0,3,7,8] [] [],A 3 [0,3,7,8] [] [],A 4 [0,3,5,7,8] [] [],A 5 [5] [] [],A 6 [0,3,7,8] [] [],A 7 [] [] []]
theorem ok371 : (cFun Tryz.prog ann371 false 371).isSome = true:=by kernel_rfl
noncomputable def fn371 : AFun:=getF (cFun Tryz.prog ann371 false 371)
theorem c371 : cFun Tryz.prog ann371 false 371 = some fn371:=zaa7 ok371
def ann372 : Ann:=[A 0 [0,1] [] [],A 1 [2,3] [] []]
theorem ok372 : (cFun Tryz.prog ann372 false 372).isSome = true:=by kernel_rfl
noncomputable def fn372 : AFun:=getF (cFun Tryz.prog ann372 false 372)
theorem c372 : cFun Tryz.prog ann372 false 372 = some fn372:=zaa7 ok372
def ann373 : Ann:=[A 0 [0,1] [] []]
theorem ok373 : (cFun Tryz.prog ann373 false 373).isSome = true:=by kernel_rfl
noncomputable def fn373 : AFun:=getF (cFun Tryz.prog ann373 false 373)
theorem c373 : cFun Tryz.prog ann373 false 373 = some fn373:=zaa7 ok373
def ann374 : Ann:=[A 0 [0,1] [] [],A 1 [0,1,6,7] [] [],A 2 [0,1,6,7] [] [],A 3 [0,1,4,6,7] [] [],A 4 [0,1,6,7] [] []]
theorem ok374 : (cFun Tryz.prog ann374 false 374).isSome = true:=by kernel_rfl
noncomputable def fn374 : AFun:=getF (cFun Tryz.prog ann374 false 374)
theorem c374 : cFun Tryz.prog ann374 false 374 = some fn374:=zaa7 ok374
def ann375 : Ann:=[A 0 [0,1,2] [] [],A 1 [0,1,2,5,6] [] [],A 2 [0,1,2,5,6] [] [],A 3 [0,1,2,4,5,6] [] [],A 4 [0,1,2,5,6] [] []]
theorem ok375 : (cFun Tryz.prog ann375 false 375).isSome = true:=by kernel_rfl
noncomputable def fn375 : AFun:=getF (cFun Tryz.prog ann375 false 375)
theorem c375 : cFun Tryz.prog ann375 false 375 = some fn375:=zaa7 ok375
end Go.Am
