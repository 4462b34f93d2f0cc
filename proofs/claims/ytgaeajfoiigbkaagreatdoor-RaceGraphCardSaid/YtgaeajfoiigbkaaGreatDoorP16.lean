/- Parts of the proofs of the statement, joined and made short: WB_0. -/
import Derived.Test.YtgaeajfoiigbkaaGreatDoorP9
set_option linter.unusedVariables false
set_option linter.unusedSimpArgs false
set_option linter.unusedSectionVars false
set_option maxRecDepth 100000
set_option maxHeartbeats 2000000
namespace Go.Am.E
open Go.Proofs Go.Rc
attribute [local simp] zja7 Evt.cells run119 glob0_len
theorem v72_1 (ag idx obj mux ent ord rd wr : Int) : K 72 [.dat (Evt.dat ⟨ag,idx,1,obj,mux,ent,ord,rd,wr⟩)] [] = some (.dat (.bool (vld ⟨ag,idx,1,obj,mux,ent,ord,rd,wr⟩)),[]):=by
 refine zha7 (fn:=fn72) rfl rfl ?_
 by_cases h1 : idx < 0
 ·rw [vf (by intro hv; simp [VP] at hv <;> omega)]; simp [h1,row1]
 by_cases h2 : ag < 0
 ·rw [vf (by intro hv; simp [VP] at hv <;> omega)]; simp [h1,h2,row1]
 by_cases h3 : obj < 0
 ·rw [vf (by intro hv; simp [VP] at hv <;> omega)]; simp [h1,h2,h3,row1]
 by_cases h4 : 7 < obj
 ·rw [vf (by intro hv; simp [VP] at hv <;> omega)]; simp [h1,h2,h3,h4,row1]
 by_cases h5 : rd < -2147483648
 ·rw [vf (by intro hv; simp [VP] at hv <;> omega)]; simp [h1,h2,h3,h4,h5,row1]
 by_cases h6 : 2147483647 < rd
 ·rw [vf (by intro hv; simp [VP] at hv <;> omega)]; simp [h1,h2,h3,h4,h5,h6,row1]
 by_cases h7 : ord < 0
 ·rw [vf (by intro hv; simp [VP] at hv <;> omega)]; simp [h1,h2,h3,h4,h5,h6,h7,row1]
 by_cases h8 : 2 < ord
 ·rw [vf (by intro hv; simp [VP] at hv <;> omega)]; simp [h1,h2,h3,h4,h5,h6,h7,h8,row1]
 by_cases h9 : wr = 0
 rotate_left
 ·rw [vf (by intro hv; simp [VP] at hv <;> omega)]; simp [h1,h2,h3,h4,h5,h6,h7,h8,h9,row1]
 subst h9
 by_cases h10 : ent < -1
 ·rw [vf (by intro hv; simp [VP] at hv <;> omega)]; simp [h1,h2,h3,h4,h5,h6,h7,h8,h10,row1]
 by_cases h11 : mux = -1
 ·subst h11; rw [vt (by simp [VP] <;> omega)]; simp [h1,h2,h3,h4,h5,h6,h7,h8,h10,row1]
 ·rw [vf (by intro hv; simp [VP] at hv <;> omega)]; simp [h1,h2,h3,h4,h5,h6,h7,h8,h10,h11,row1]
theorem v72_2 (ag idx obj mux ent ord rd wr : Int) : K 72 [.dat (Evt.dat ⟨ag,idx,2,obj,mux,ent,ord,rd,wr⟩)] [] = some (.dat (.bool (vld ⟨ag,idx,2,obj,mux,ent,ord,rd,wr⟩)),[]):=by
 refine zha7 (fn:=fn72) rfl rfl ?_
 by_cases h1 : idx < 0
 ·rw [vf (by intro hv; simp [VP] at hv <;> omega)]; simp [h1,row2]
 by_cases h2 : ag < 0
 ·rw [vf (by intro hv; simp [VP] at hv <;> omega)]; simp [h1,h2,row2]
 by_cases h3 : obj < 0
 ·rw [vf (by intro hv; simp [VP] at hv <;> omega)]; simp [h1,h2,h3,row2]
 by_cases h4 : 7 < obj
 ·rw [vf (by intro hv; simp [VP] at hv <;> omega)]; simp [h1,h2,h3,h4,row2]
 by_cases h5 : rd < 0
 ·rw [vf (by intro hv; simp [VP] at hv <;> omega)]; simp [h1,h2,h3,h4,h5,row2]
 by_cases h6 : 0 < rd
 ·rw [vf (by intro hv; simp [VP] at hv <;> omega)]; simp [h1,h2,h3,h4,h5,h6,row2]
 by_cases h7 : ord < 0
 ·rw [vf (by intro hv; simp [VP] at hv <;> omega)]; simp [h1,h2,h3,h4,h5,h6,h7,row2]
 by_cases h8 : 2 < ord
 ·rw [vf (by intro hv; simp [VP] at hv <;> omega)]; simp [h1,h2,h3,h4,h5,h6,h7,h8,row2]
 by_cases h9 : wr < -2147483648
 ·rw [vf (by intro hv; simp [VP] at hv <;> omega)]; simp [h1,h2,h3,h4,h5,h6,h7,h8,h9,row2]
 by_cases h10 : 2147483647 < wr
 ·rw [vf (by intro hv; simp [VP] at hv <;> omega)]; simp [h1,h2,h3,h4,h5,h6,h7,h8,h9,h10,row2]
 by_cases h11 : ent = -1
 rotate_left
 ·rw [vf (by intro hv; simp [VP] at hv <;> omega)]; simp [h1,h2,h3,h4,h5,h6,h7,h8,h9,h10,h11,row2]
 subst h11
 by_cases h12 : mux = -1
 ·subst h12; rw [vt (by simp [VP] <;> omega)]; simp [h1,h2,h3,h4,h5,h6,h7,h8,h9,h10,row2]
 ·rw [vf (by intro hv; simp [VP] at hv <;> omega)]; simp [h1,h2,h3,h4,h5,h6,h7,h8,h9,h10,h12,row2]
theorem v72_3 (ag idx obj mux ent ord rd wr : Int) : K 72 [.dat (Evt.dat ⟨ag,idx,3,obj,mux,ent,ord,rd,wr⟩)] [] = some (.dat (.bool (vld ⟨ag,idx,3,obj,mux,ent,ord,rd,wr⟩)),[]):=by
 refine zha7 (fn:=fn72) rfl rfl ?_
 by_cases h1 : idx < 0
 ·rw [vf (by intro hv; simp [VP] at hv <;> omega)]; simp [h1,row3]
 by_cases h2 : ag < 0
 ·rw [vf (by intro hv; simp [VP] at hv <;> omega)]; simp [h1,h2,row3]
 by_cases h3 : obj < 0
 ·rw [vf (by intro hv; simp [VP] at hv <;> omega)]; simp [h1,h2,h3,row3]
 by_cases h4 : 7 < obj
 ·rw [vf (by intro hv; simp [VP] at hv <;> omega)]; simp [h1,h2,h3,h4,row3]
 by_cases h5 : rd < 0
 ·rw [vf (by intro hv; simp [VP] at hv <;> omega)]; simp [h1,h2,h3,h4,h5,row3]
 by_cases h6 : 0 < rd
 ·rw [vf (by intro hv; simp [VP] at hv <;> omega)]; simp [h1,h2,h3,h4,h5,h6,row3]
 by_cases h7 : ord < 0
 ·rw [vf (by intro hv; simp [VP] at hv <;> omega)]; simp [h1,h2,h3,h4,h5,h6,h7,row3]
 by_cases h8 : 2 < ord
 ·rw [vf (by intro hv; simp [VP] at hv <;> omega)]; simp [h1,h2,h3,h4,h5,h6,h7,h8,row3]
 by_cases h9 : wr < -2147483648
 ·rw [vf (by intro hv; simp [VP] at hv <;> omega)]; simp [h1,h2,h3,h4,h5,h6,h7,h8,h9,row3]
 by_cases h10 : 2147483647 < wr
 ·rw [vf (by intro hv; simp [VP] at hv <;> omega)]; simp [h1,h2,h3,h4,h5,h6,h7,h8,h9,h10,row3]
 by_cases h11 : ent < 0
 ·rw [vf (by intro hv; simp [VP] at hv <;> omega)]; simp [h1,h2,h3,h4,h5,h6,h7,h8,h9,h10,h11,row3]
 by_cases h12 : mux = -1
 ·subst h12; rw [vt (by simp [VP] <;> omega)]; simp [h1,h2,h3,h4,h5,h6,h7,h8,h9,h10,h11,row3]
 ·rw [vf (by intro hv; simp [VP] at hv <;> omega)]; simp [h1,h2,h3,h4,h5,h6,h7,h8,h9,h10,h11,h12,row3]
theorem v72_4 (ag idx obj mux ent ord rd wr : Int) : K 72 [.dat (Evt.dat ⟨ag,idx,4,obj,mux,ent,ord,rd,wr⟩)] [] = some (.dat (.bool (vld ⟨ag,idx,4,obj,mux,ent,ord,rd,wr⟩)),[]):=by
 refine zha7 (fn:=fn72) rfl rfl ?_
 by_cases h1 : idx < 0
 ·rw [vf (by intro hv; simp [VP] at hv <;> omega)]; simp [h1,row4]
 by_cases h2 : ag < 0
 rotate_left
 ·rw [vf (by intro hv; simp [VP] at hv <;> omega)]; simp [h1,h2,row4]
 by_cases h3 : obj < 0
 ·rw [vf (by intro hv; simp [VP] at hv <;> omega)]; simp [h1,h2,h3,row4]
 by_cases h4 : 7 < obj
 ·rw [vf (by intro hv; simp [VP] at hv <;> omega)]; simp [h1,h2,h3,h4,row4]
 by_cases h5 : rd < 0
 ·rw [vf (by intro hv; simp [VP] at hv <;> omega)]; simp [h1,h2,h3,h4,h5,row4]
 by_cases h6 : 0 < rd
 ·rw [vf (by intro hv; simp [VP] at hv <;> omega)]; simp [h1,h2,h3,h4,h5,h6,row4]
 by_cases h7 : ord = 0
 rotate_left
 ·rw [vf (by intro hv; simp [VP] at hv <;> omega)]; simp [h1,h2,h3,h4,h5,h6,h7,row4]
 subst h7
 by_cases h8 : wr < -2147483648
 ·rw [vf (by intro hv; simp [VP] at hv <;> omega)]; simp [h1,h2,h3,h4,h5,h6,h8,row4]
 by_cases h9 : 2147483647 < wr
 ·rw [vf (by intro hv; simp [VP] at hv <;> omega)]; simp [h1,h2,h3,h4,h5,h6,h8,h9,row4]
 by_cases h10 : ent < 0
 ·rw [vf (by intro hv; simp [VP] at hv <;> omega)]; simp [h1,h2,h3,h4,h5,h6,h8,h9,h10,row4]
 by_cases h11 : mux = -1
 ·subst h11; rw [vt (by simp [VP] <;> omega)]; simp [h1,h2,h3,h4,h5,h6,h8,h9,h10,row4]
 ·rw [vf (by intro hv; simp [VP] at hv <;> omega)]; simp [h1,h2,h3,h4,h5,h6,h8,h9,h10,h11,row4]
end Go.Am.E
