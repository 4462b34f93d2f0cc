/- Parts of the proofs of the statement, joined and made short: WC_2. -/
import Derived.Test.YtgaeajfoiigbkaaGreatDoorP9
set_option linter.unusedVariables false
set_option linter.unusedSimpArgs false
set_option linter.unusedSectionVars false
set_option maxRecDepth 100000
set_option maxHeartbeats 2000000
namespace Go.Am.E
open Go.Proofs Go.Rc
attribute [local simp] zja7 Evt.cells run120 run121' run122' run123' run124 run125 run126 run127 objOk resOk entOk zif7 ordered wroteK isVal
theorem v77_9 (ag idx obj mux ent ord rd wr : Int) : K 77 [.dat (Evt.dat ⟨ag,idx,9,obj,mux,ent,ord,rd,wr⟩)] [] = some (.dat (.bool (vld ⟨ag,idx,9,obj,mux,ent,ord,rd,wr⟩)),[]):=by
 refine zha7 (fn:=fn77) rfl rfl ?_
 by_cases h1 : ag < 0
 ·rw [vf (by intro hv; simp [VP] at hv <;> omega)]; simp [h1]
 by_cases h2 : idx < 0
 ·rw [vf (by intro hv; simp [VP] at hv <;> omega)]; simp [h1,h2]
 by_cases h3 : 0 ≤ obj
 rotate_left
 ·rw [vf (by intro hv; simp [VP] at hv <;> omega)]; simp [h1,h2,h3]
 by_cases h4 : obj < 4
 rotate_left
 ·rw [vf (by intro hv; simp [VP] at hv <;> omega)]; simp [h1,h2,h3,h4]
 by_cases h5 : rd = 0
 rotate_left
 ·rw [vf (by intro hv; simp [VP] at hv <;> omega)]; simp [h1,h2,h3,h4,h5]
 subst h5
 by_cases h6 : ent = -1
 rotate_left
 ·rw [vf (by intro hv; simp [VP] at hv <;> omega)]; simp [h1,h2,h3,h4,h6]
 subst h6
 by_cases h7 : ord < 0
 ·rw [vf (by intro hv; simp [VP] at hv <;> omega)]; simp [h1,h2,h3,h4,h7]
 by_cases h8 : 2 < ord
 ·rw [vf (by intro hv; simp [VP] at hv <;> omega)]; simp [h1,h2,h3,h4,h7,h8]
 by_cases h9 : ord = 0
 rotate_left
 ·rw [vf (by intro hv; simp [VP] at hv <;> omega)]; simp [h1,h2,h3,h4,h7,h8,h9]
 subst h9
 by_cases h10 : -2147483648 ≤ wr
 rotate_left
 ·rw [vf (by intro hv; simp [VP] at hv <;> omega)]; simp [h1,h2,h3,h4,h7,h8,h10]
 by_cases h11 : wr ≤ 2147483647
 rotate_left
 ·rw [vf (by intro hv; simp [VP] at hv <;> omega)]; simp [h1,h2,h3,h4,h7,h8,h10,h11]
 by_cases h12 : wr = 0
 rotate_left
 ·rw [vf (by intro hv; simp [VP] at hv <;> omega)]; simp [h1,h2,h3,h4,h7,h8,h10,h11,h12]
 subst h12
 by_cases h13 : mux = -1
 ·subst h13; rw [vt (by simp [VP] <;> omega)]; simp [h1,h2,h3,h4,h7,h8,h10,h11]
 ·rw [vf (by intro hv; simp [VP] at hv <;> omega)]; simp [h1,h2,h3,h4,h7,h8,h10,h11,h13]
theorem v77_10 (ag idx obj mux ent ord rd wr : Int) : K 77 [.dat (Evt.dat ⟨ag,idx,10,obj,mux,ent,ord,rd,wr⟩)] [] = some (.dat (.bool (vld ⟨ag,idx,10,obj,mux,ent,ord,rd,wr⟩)),[]):=by
 refine zha7 (fn:=fn77) rfl rfl ?_
 by_cases h1 : ag < 0
 ·rw [vf (by intro hv; simp [VP] at hv <;> omega)]; simp [h1]
 by_cases h2 : idx < 0
 ·rw [vf (by intro hv; simp [VP] at hv <;> omega)]; simp [h1,h2]
 by_cases h3 : 0 ≤ obj
 rotate_left
 ·rw [vf (by intro hv; simp [VP] at hv <;> omega)]; simp [h1,h2,h3]
 by_cases h4 : obj < 4
 rotate_left
 ·rw [vf (by intro hv; simp [VP] at hv <;> omega)]; simp [h1,h2,h3,h4]
 by_cases h5 : rd = 0
 rotate_left
 ·rw [vf (by intro hv; simp [VP] at hv <;> omega)]; simp [h1,h2,h3,h4,h5]
 subst h5
 by_cases h6 : ent = -1
 rotate_left
 ·rw [vf (by intro hv; simp [VP] at hv <;> omega)]; simp [h1,h2,h3,h4,h6]
 subst h6
 by_cases h7 : ord < 0
 ·rw [vf (by intro hv; simp [VP] at hv <;> omega)]; simp [h1,h2,h3,h4,h7]
 by_cases h8 : 2 < ord
 ·rw [vf (by intro hv; simp [VP] at hv <;> omega)]; simp [h1,h2,h3,h4,h7,h8]
 by_cases h9 : ord = 0
 rotate_left
 ·rw [vf (by intro hv; simp [VP] at hv <;> omega)]; simp [h1,h2,h3,h4,h7,h8,h9]
 subst h9
 by_cases h10 : -2147483648 ≤ wr
 rotate_left
 ·rw [vf (by intro hv; simp [VP] at hv <;> omega)]; simp [h1,h2,h3,h4,h7,h8,h10]
 by_cases h11 : wr ≤ 2147483647
 rotate_left
 ·rw [vf (by intro hv; simp [VP] at hv <;> omega)]; simp [h1,h2,h3,h4,h7,h8,h10,h11]
 by_cases h12 : wr = 0
 rotate_left
 ·rw [vf (by intro hv; simp [VP] at hv <;> omega)]; simp [h1,h2,h3,h4,h7,h8,h10,h11,h12]
 subst h12
 by_cases h13 : mux = -1
 ·subst h13; rw [vt (by simp [VP] <;> omega)]; simp [h1,h2,h3,h4,h7,h8,h10,h11]
 ·rw [vf (by intro hv; simp [VP] at hv <;> omega)]; simp [h1,h2,h3,h4,h7,h8,h10,h11,h13]
theorem v77_11 (ag idx obj mux ent ord rd wr : Int) : K 77 [.dat (Evt.dat ⟨ag,idx,11,obj,mux,ent,ord,rd,wr⟩)] [] = some (.dat (.bool (vld ⟨ag,idx,11,obj,mux,ent,ord,rd,wr⟩)),[]):=by
 refine zha7 (fn:=fn77) rfl rfl ?_
 by_cases h1 : ag < 0
 ·rw [vf (by intro hv; simp [VP] at hv <;> omega)]; simp [h1]
 by_cases h2 : idx < 0
 ·rw [vf (by intro hv; simp [VP] at hv <;> omega)]; simp [h1,h2]
 by_cases h3 : 0 ≤ obj
 rotate_left
 ·rw [vf (by intro hv; simp [VP] at hv <;> omega)]; simp [h1,h2,h3]
 by_cases h4 : obj < 4
 rotate_left
 ·rw [vf (by intro hv; simp [VP] at hv <;> omega)]; simp [h1,h2,h3,h4]
 by_cases h5 : 0 ≤ rd
 rotate_left
 ·rw [vf (by intro hv; simp [VP] at hv <;> omega)]; simp [h1,h2,h3,h4,h5]
 by_cases h6 : rd < 2
 rotate_left
 ·rw [vf (by intro hv; simp [VP] at hv <;> omega)]; simp [h1,h2,h3,h4,h5,h6]
 by_cases h7 : ent = -1
 rotate_left
 ·rw [vf (by intro hv; simp [VP] at hv <;> omega)]; simp [h1,h2,h3,h4,h5,h6,h7]
 subst h7
 by_cases h8 : ord < 0
 ·rw [vf (by intro hv; simp [VP] at hv <;> omega)]; simp [h1,h2,h3,h4,h5,h6,h8]
 by_cases h9 : 2 < ord
 ·rw [vf (by intro hv; simp [VP] at hv <;> omega)]; simp [h1,h2,h3,h4,h5,h6,h8,h9]
 by_cases h10 : ord = 0
 rotate_left
 ·rw [vf (by intro hv; simp [VP] at hv <;> omega)]; simp [h1,h2,h3,h4,h5,h6,h8,h9,h10]
 subst h10
 by_cases h11 : -2147483648 ≤ wr
 rotate_left
 ·rw [vf (by intro hv; simp [VP] at hv <;> omega)]; simp [h1,h2,h3,h4,h5,h6,h8,h9,h11]
 by_cases h12 : wr ≤ 2147483647
 rotate_left
 ·rw [vf (by intro hv; simp [VP] at hv <;> omega)]; simp [h1,h2,h3,h4,h5,h6,h8,h9,h11,h12]
 by_cases h13 : wr = 0
 rotate_left
 ·rw [vf (by intro hv; simp [VP] at hv <;> omega)]; simp [h1,h2,h3,h4,h5,h6,h8,h9,h11,h12,h13]
 subst h13
 by_cases h14 : mux = -1
 ·subst h14; rw [vt (by simp [VP] <;> omega)]; simp [h1,h2,h3,h4,h5,h6,h8,h9,h11,h12]
 ·rw [vf (by intro hv; simp [VP] at hv <;> omega)]; simp [h1,h2,h3,h4,h5,h6,h8,h9,h11,h12,h14]
theorem v77_12 (ag idx obj mux ent ord rd wr : Int) : K 77 [.dat (Evt.dat ⟨ag,idx,12,obj,mux,ent,ord,rd,wr⟩)] [] = some (.dat (.bool (vld ⟨ag,idx,12,obj,mux,ent,ord,rd,wr⟩)),[]):=by
 refine zha7 (fn:=fn77) rfl rfl ?_
 by_cases h1 : ag < 0
 ·rw [vf (by intro hv; simp [VP] at hv <;> omega)]; simp [h1]
 by_cases h2 : idx < 0
 ·rw [vf (by intro hv; simp [VP] at hv <;> omega)]; simp [h1,h2]
 by_cases h3 : 0 ≤ obj
 rotate_left
 ·rw [vf (by intro hv; simp [VP] at hv <;> omega)]; simp [h1,h2,h3]
 by_cases h4 : obj < 4
 rotate_left
 ·rw [vf (by intro hv; simp [VP] at hv <;> omega)]; simp [h1,h2,h3,h4]
 by_cases h5 : rd = 0
 rotate_left
 ·rw [vf (by intro hv; simp [VP] at hv <;> omega)]; simp [h1,h2,h3,h4,h5]
 subst h5
 by_cases h6 : ent = -1
 rotate_left
 ·rw [vf (by intro hv; simp [VP] at hv <;> omega)]; simp [h1,h2,h3,h4,h6]
 subst h6
 by_cases h7 : ord < 0
 ·rw [vf (by intro hv; simp [VP] at hv <;> omega)]; simp [h1,h2,h3,h4,h7]
 by_cases h8 : 2 < ord
 ·rw [vf (by intro hv; simp [VP] at hv <;> omega)]; simp [h1,h2,h3,h4,h7,h8]
 by_cases h9 : ord = 0
 rotate_left
 ·rw [vf (by intro hv; simp [VP] at hv <;> omega)]; simp [h1,h2,h3,h4,h7,h8,h9]
 subst h9
 by_cases h10 : -2147483648 ≤ wr
 rotate_left
 ·rw [vf (by intro hv; simp [VP] at hv <;> omega)]; simp [h1,h2,h3,h4,h7,h8,h10]
 by_cases h11 : wr ≤ 2147483647
 rotate_left
 ·rw [vf (by intro hv; simp [VP] at hv <;> omega)]; simp [h1,h2,h3,h4,h7,h8,h10,h11]
 by_cases h12 : wr = 0
 rotate_left
 ·rw [vf (by intro hv; simp [VP] at hv <;> omega)]; simp [h1,h2,h3,h4,h7,h8,h10,h11,h12]
 subst h12
 by_cases h13 : 0 ≤ mux
 rotate_left
 ·rw [vf (by intro hv; simp [VP] at hv <;> omega)]; simp [h1,h2,h3,h4,h7,h8,h10,h11,h13]
 by_cases h14 : mux < 4
 ·rw [vt (by simp [VP] <;> omega)]; simp [h1,h2,h3,h4,h7,h8,h10,h11,h13,h14]
 ·rw [vf (by intro hv; simp [VP] at hv <;> omega)]; simp [h1,h2,h3,h4,h7,h8,h10,h11,h13,h14]
end Go.Am.E
