/- Parts of the proofs of the statement, joined and made short: WB_1. -/
import Derived.Test.YtgaeajfoiigbkaaGreatDoorP9
set_option linter.unusedVariables false
set_option linter.unusedSimpArgs false
set_option linter.unusedSectionVars false
set_option maxRecDepth 100000
set_option maxHeartbeats 2000000
namespace Go.Am.E
open Go.Proofs Go.Rc
attribute [local simp] zja7 Evt.cells run119 glob0_len
theorem v72_5 (ag idx obj mux ent ord rd wr : Int) : K 72 [.dat (Evt.dat ⟨ag,idx,5,obj,mux,ent,ord,rd,wr⟩)] [] = some (.dat (.bool (vld ⟨ag,idx,5,obj,mux,ent,ord,rd,wr⟩)),[]):=by
 refine zha7 (fn:=fn72) rfl rfl ?_
 by_cases h1 : idx < 0
 ·rw [vf (by intro hv; simp [VP] at hv <;> omega)]; simp [h1,row5]
 by_cases h2 : ag < 0
 ·rw [vf (by intro hv; simp [VP] at hv <;> omega)]; simp [h1,h2,row5]
 by_cases h3 : obj < 0
 ·rw [vf (by intro hv; simp [VP] at hv <;> omega)]; simp [h1,h2,h3,row5]
 by_cases h4 : 7 < obj
 ·rw [vf (by intro hv; simp [VP] at hv <;> omega)]; simp [h1,h2,h3,h4,row5]
 by_cases h5 : rd < -2147483648
 ·rw [vf (by intro hv; simp [VP] at hv <;> omega)]; simp [h1,h2,h3,h4,h5,row5]
 by_cases h6 : 2147483647 < rd
 ·rw [vf (by intro hv; simp [VP] at hv <;> omega)]; simp [h1,h2,h3,h4,h5,h6,row5]
 by_cases h7 : ord < 0
 ·rw [vf (by intro hv; simp [VP] at hv <;> omega)]; simp [h1,h2,h3,h4,h5,h6,h7,row5]
 by_cases h8 : 2 < ord
 ·rw [vf (by intro hv; simp [VP] at hv <;> omega)]; simp [h1,h2,h3,h4,h5,h6,h7,h8,row5]
 by_cases h9 : wr < -2147483648
 ·rw [vf (by intro hv; simp [VP] at hv <;> omega)]; simp [h1,h2,h3,h4,h5,h6,h7,h8,h9,row5]
 by_cases h10 : 2147483647 < wr
 ·rw [vf (by intro hv; simp [VP] at hv <;> omega)]; simp [h1,h2,h3,h4,h5,h6,h7,h8,h9,h10,row5]
 by_cases h11 : ent = -1
 rotate_left
 ·rw [vf (by intro hv; simp [VP] at hv <;> omega)]; simp [h1,h2,h3,h4,h5,h6,h7,h8,h9,h10,h11,row5]
 subst h11
 by_cases h12 : mux = -1
 ·subst h12; rw [vt (by simp [VP] <;> omega)]; simp [h1,h2,h3,h4,h5,h6,h7,h8,h9,h10,row5]
 ·rw [vf (by intro hv; simp [VP] at hv <;> omega)]; simp [h1,h2,h3,h4,h5,h6,h7,h8,h9,h10,h12,row5]
theorem v72_6 (ag idx obj mux ent ord rd wr : Int) : K 72 [.dat (Evt.dat ⟨ag,idx,6,obj,mux,ent,ord,rd,wr⟩)] [] = some (.dat (.bool (vld ⟨ag,idx,6,obj,mux,ent,ord,rd,wr⟩)),[]):=by
 refine zha7 (fn:=fn72) rfl rfl ?_
 by_cases h1 : idx < 0
 ·rw [vf (by intro hv; simp [VP] at hv <;> omega)]; simp [h1,row6]
 by_cases h2 : ag < 0
 ·rw [vf (by intro hv; simp [VP] at hv <;> omega)]; simp [h1,h2,row6]
 by_cases h3 : obj < 0
 ·rw [vf (by intro hv; simp [VP] at hv <;> omega)]; simp [h1,h2,h3,row6]
 by_cases h4 : 7 < obj
 ·rw [vf (by intro hv; simp [VP] at hv <;> omega)]; simp [h1,h2,h3,h4,row6]
 by_cases h5 : rd < -2147483648
 ·rw [vf (by intro hv; simp [VP] at hv <;> omega)]; simp [h1,h2,h3,h4,h5,row6]
 by_cases h6 : 2147483647 < rd
 ·rw [vf (by intro hv; simp [VP] at hv <;> omega)]; simp [h1,h2,h3,h4,h5,h6,row6]
 by_cases h7 : ord < 0
 ·rw [vf (by intro hv; simp [VP] at hv <;> omega)]; simp [h1,h2,h3,h4,h5,h6,h7,row6]
 by_cases h8 : 2 < ord
 ·rw [vf (by intro hv; simp [VP] at hv <;> omega)]; simp [h1,h2,h3,h4,h5,h6,h7,h8,row6]
 by_cases h9 : wr = 0
 rotate_left
 ·rw [vf (by intro hv; simp [VP] at hv <;> omega)]; simp [h1,h2,h3,h4,h5,h6,h7,h8,h9,row6]
 subst h9
 by_cases h10 : ent = -1
 rotate_left
 ·rw [vf (by intro hv; simp [VP] at hv <;> omega)]; simp [h1,h2,h3,h4,h5,h6,h7,h8,h10,row6]
 subst h10
 by_cases h11 : mux = -1
 ·subst h11; rw [vt (by simp [VP] <;> omega)]; simp [h1,h2,h3,h4,h5,h6,h7,h8,row6]
 ·rw [vf (by intro hv; simp [VP] at hv <;> omega)]; simp [h1,h2,h3,h4,h5,h6,h7,h8,h11,row6]
theorem v72_7 (ag idx obj mux ent ord rd wr : Int) : K 72 [.dat (Evt.dat ⟨ag,idx,7,obj,mux,ent,ord,rd,wr⟩)] [] = some (.dat (.bool (vld ⟨ag,idx,7,obj,mux,ent,ord,rd,wr⟩)),[]):=by
 refine zha7 (fn:=fn72) rfl rfl ?_
 by_cases h1 : idx < 0
 ·rw [vf (by intro hv; simp [VP] at hv <;> omega)]; simp [h1,row7]
 by_cases h2 : ag < 0
 ·rw [vf (by intro hv; simp [VP] at hv <;> omega)]; simp [h1,h2,row7]
 by_cases h3 : obj < 0
 ·rw [vf (by intro hv; simp [VP] at hv <;> omega)]; simp [h1,h2,h3,row7]
 by_cases h4 : 0 < obj
 ·rw [vf (by intro hv; simp [VP] at hv <;> omega)]; simp [h1,h2,h3,h4,row7]
 by_cases h5 : rd < 0
 ·rw [vf (by intro hv; simp [VP] at hv <;> omega)]; simp [h1,h2,h3,h4,h5,row7]
 by_cases h6 : 0 < rd
 ·rw [vf (by intro hv; simp [VP] at hv <;> omega)]; simp [h1,h2,h3,h4,h5,h6,row7]
 by_cases h7 : ord = 0
 rotate_left
 ·rw [vf (by intro hv; simp [VP] at hv <;> omega)]; simp [h1,h2,h3,h4,h5,h6,h7,row7]
 subst h7
 by_cases h8 : wr = 0
 rotate_left
 ·rw [vf (by intro hv; simp [VP] at hv <;> omega)]; simp [h1,h2,h3,h4,h5,h6,h8,row7]
 subst h8
 by_cases h9 : ent = -1
 rotate_left
 ·rw [vf (by intro hv; simp [VP] at hv <;> omega)]; simp [h1,h2,h3,h4,h5,h6,h9,row7]
 subst h9
 by_cases h10 : mux = -1
 ·subst h10; rw [vt (by simp [VP] <;> omega)]; simp [h1,h2,h3,h4,h5,h6,row7]
 ·rw [vf (by intro hv; simp [VP] at hv <;> omega)]; simp [h1,h2,h3,h4,h5,h6,h10,row7]
theorem v72_8 (ag idx obj mux ent ord rd wr : Int) : K 72 [.dat (Evt.dat ⟨ag,idx,8,obj,mux,ent,ord,rd,wr⟩)] [] = some (.dat (.bool (vld ⟨ag,idx,8,obj,mux,ent,ord,rd,wr⟩)),[]):=by
 refine zha7 (fn:=fn72) rfl rfl ?_
 by_cases h1 : idx < 0
 ·rw [vf (by intro hv; simp [VP] at hv <;> omega)]; simp [h1,row8]
 by_cases h2 : ag < 0
 ·rw [vf (by intro hv; simp [VP] at hv <;> omega)]; simp [h1,h2,row8]
 by_cases h3 : obj < 0
 ·rw [vf (by intro hv; simp [VP] at hv <;> omega)]; simp [h1,h2,h3,row8]
 by_cases h4 : 7 < obj
 ·rw [vf (by intro hv; simp [VP] at hv <;> omega)]; simp [h1,h2,h3,h4,row8]
 by_cases h5 : rd < -2147483648
 ·rw [vf (by intro hv; simp [VP] at hv <;> omega)]; simp [h1,h2,h3,h4,h5,row8]
 by_cases h6 : 2147483647 < rd
 ·rw [vf (by intro hv; simp [VP] at hv <;> omega)]; simp [h1,h2,h3,h4,h5,h6,row8]
 by_cases h7 : ord < 0
 ·rw [vf (by intro hv; simp [VP] at hv <;> omega)]; simp [h1,h2,h3,h4,h5,h6,h7,row8]
 by_cases h8 : 2 < ord
 ·rw [vf (by intro hv; simp [VP] at hv <;> omega)]; simp [h1,h2,h3,h4,h5,h6,h7,h8,row8]
 by_cases h9 : wr = 0
 rotate_left
 ·rw [vf (by intro hv; simp [VP] at hv <;> omega)]; simp [h1,h2,h3,h4,h5,h6,h7,h8,h9,row8]
 subst h9
 by_cases h10 : ent < -1
 ·rw [vf (by intro hv; simp [VP] at hv <;> omega)]; simp [h1,h2,h3,h4,h5,h6,h7,h8,h10,row8]
 by_cases h11 : mux = -1
 ·subst h11; rw [vt (by simp [VP] <;> omega)]; simp [h1,h2,h3,h4,h5,h6,h7,h8,h10,row8]
 ·rw [vf (by intro hv; simp [VP] at hv <;> omega)]; simp [h1,h2,h3,h4,h5,h6,h7,h8,h10,h11,row8]
end Go.Am.E
