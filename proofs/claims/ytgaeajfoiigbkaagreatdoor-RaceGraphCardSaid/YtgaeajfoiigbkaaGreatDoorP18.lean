/- Parts of the proofs of the statement, joined and made short: WB_2. -/
import Derived.Test.YtgaeajfoiigbkaaGreatDoorP9
set_option linter.unusedVariables false
set_option linter.unusedSimpArgs false
set_option linter.unusedSectionVars false
set_option maxRecDepth 100000
set_option maxHeartbeats 2000000
namespace Go.Am.E
open Go.Proofs Go.Rc
attribute [local simp] zja7 Evt.cells run119 glob0_len
theorem v72_9 (ag idx obj mux ent ord rd wr : Int) : K 72 [.dat (Evt.dat ⟨ag,idx,9,obj,mux,ent,ord,rd,wr⟩)] [] = some (.dat (.bool (vld ⟨ag,idx,9,obj,mux,ent,ord,rd,wr⟩)),[]):=by
 refine zha7 (fn:=fn72) rfl rfl ?_
 by_cases h1 : idx < 0
 ·rw [vf (by intro hv; simp [VP] at hv <;> omega)]; simp [h1,row9]
 by_cases h2 : ag < 0
 ·rw [vf (by intro hv; simp [VP] at hv <;> omega)]; simp [h1,h2,row9]
 by_cases h3 : obj < 0
 ·rw [vf (by intro hv; simp [VP] at hv <;> omega)]; simp [h1,h2,h3,row9]
 by_cases h4 : 3 < obj
 ·rw [vf (by intro hv; simp [VP] at hv <;> omega)]; simp [h1,h2,h3,h4,row9]
 by_cases h5 : rd < 0
 ·rw [vf (by intro hv; simp [VP] at hv <;> omega)]; simp [h1,h2,h3,h4,h5,row9]
 by_cases h6 : 0 < rd
 ·rw [vf (by intro hv; simp [VP] at hv <;> omega)]; simp [h1,h2,h3,h4,h5,h6,row9]
 by_cases h7 : ord = 0
 rotate_left
 ·rw [vf (by intro hv; simp [VP] at hv <;> omega)]; simp [h1,h2,h3,h4,h5,h6,h7,row9]
 subst h7
 by_cases h8 : wr = 0
 rotate_left
 ·rw [vf (by intro hv; simp [VP] at hv <;> omega)]; simp [h1,h2,h3,h4,h5,h6,h8,row9]
 subst h8
 by_cases h9 : ent = -1
 rotate_left
 ·rw [vf (by intro hv; simp [VP] at hv <;> omega)]; simp [h1,h2,h3,h4,h5,h6,h9,row9]
 subst h9
 by_cases h10 : mux = -1
 ·subst h10; rw [vt (by simp [VP] <;> omega)]; simp [h1,h2,h3,h4,h5,h6,row9]
 ·rw [vf (by intro hv; simp [VP] at hv <;> omega)]; simp [h1,h2,h3,h4,h5,h6,h10,row9]
theorem v72_10 (ag idx obj mux ent ord rd wr : Int) : K 72 [.dat (Evt.dat ⟨ag,idx,10,obj,mux,ent,ord,rd,wr⟩)] [] = some (.dat (.bool (vld ⟨ag,idx,10,obj,mux,ent,ord,rd,wr⟩)),[]):=by
 refine zha7 (fn:=fn72) rfl rfl ?_
 by_cases h1 : idx < 0
 ·rw [vf (by intro hv; simp [VP] at hv <;> omega)]; simp [h1,row10]
 by_cases h2 : ag < 0
 ·rw [vf (by intro hv; simp [VP] at hv <;> omega)]; simp [h1,h2,row10]
 by_cases h3 : obj < 0
 ·rw [vf (by intro hv; simp [VP] at hv <;> omega)]; simp [h1,h2,h3,row10]
 by_cases h4 : 3 < obj
 ·rw [vf (by intro hv; simp [VP] at hv <;> omega)]; simp [h1,h2,h3,h4,row10]
 by_cases h5 : rd < 0
 ·rw [vf (by intro hv; simp [VP] at hv <;> omega)]; simp [h1,h2,h3,h4,h5,row10]
 by_cases h6 : 0 < rd
 ·rw [vf (by intro hv; simp [VP] at hv <;> omega)]; simp [h1,h2,h3,h4,h5,h6,row10]
 by_cases h7 : ord = 0
 rotate_left
 ·rw [vf (by intro hv; simp [VP] at hv <;> omega)]; simp [h1,h2,h3,h4,h5,h6,h7,row10]
 subst h7
 by_cases h8 : wr = 0
 rotate_left
 ·rw [vf (by intro hv; simp [VP] at hv <;> omega)]; simp [h1,h2,h3,h4,h5,h6,h8,row10]
 subst h8
 by_cases h9 : ent = -1
 rotate_left
 ·rw [vf (by intro hv; simp [VP] at hv <;> omega)]; simp [h1,h2,h3,h4,h5,h6,h9,row10]
 subst h9
 by_cases h10 : mux = -1
 ·subst h10; rw [vt (by simp [VP] <;> omega)]; simp [h1,h2,h3,h4,h5,h6,row10]
 ·rw [vf (by intro hv; simp [VP] at hv <;> omega)]; simp [h1,h2,h3,h4,h5,h6,h10,row10]
theorem v72_11 (ag idx obj mux ent ord rd wr : Int) : K 72 [.dat (Evt.dat ⟨ag,idx,11,obj,mux,ent,ord,rd,wr⟩)] [] = some (.dat (.bool (vld ⟨ag,idx,11,obj,mux,ent,ord,rd,wr⟩)),[]):=by
 refine zha7 (fn:=fn72) rfl rfl ?_
 by_cases h1 : idx < 0
 ·rw [vf (by intro hv; simp [VP] at hv <;> omega)]; simp [h1,row11]
 by_cases h2 : ag < 0
 ·rw [vf (by intro hv; simp [VP] at hv <;> omega)]; simp [h1,h2,row11]
 by_cases h3 : obj < 0
 ·rw [vf (by intro hv; simp [VP] at hv <;> omega)]; simp [h1,h2,h3,row11]
 by_cases h4 : 3 < obj
 ·rw [vf (by intro hv; simp [VP] at hv <;> omega)]; simp [h1,h2,h3,h4,row11]
 by_cases h5 : rd < 0
 ·rw [vf (by intro hv; simp [VP] at hv <;> omega)]; simp [h1,h2,h3,h4,h5,row11]
 by_cases h6 : 1 < rd
 ·rw [vf (by intro hv; simp [VP] at hv <;> omega)]; simp [h1,h2,h3,h4,h5,h6,row11]
 by_cases h7 : ord = 0
 rotate_left
 ·rw [vf (by intro hv; simp [VP] at hv <;> omega)]; simp [h1,h2,h3,h4,h5,h6,h7,row11]
 subst h7
 by_cases h8 : wr = 0
 rotate_left
 ·rw [vf (by intro hv; simp [VP] at hv <;> omega)]; simp [h1,h2,h3,h4,h5,h6,h8,row11]
 subst h8
 by_cases h9 : ent = -1
 rotate_left
 ·rw [vf (by intro hv; simp [VP] at hv <;> omega)]; simp [h1,h2,h3,h4,h5,h6,h9,row11]
 subst h9
 by_cases h10 : mux = -1
 ·subst h10; rw [vt (by simp [VP] <;> omega)]; simp [h1,h2,h3,h4,h5,h6,row11]
 ·rw [vf (by intro hv; simp [VP] at hv <;> omega)]; simp [h1,h2,h3,h4,h5,h6,h10,row11]
theorem v72_12 (ag idx obj mux ent ord rd wr : Int) : K 72 [.dat (Evt.dat ⟨ag,idx,12,obj,mux,ent,ord,rd,wr⟩)] [] = some (.dat (.bool (vld ⟨ag,idx,12,obj,mux,ent,ord,rd,wr⟩)),[]):=by
 refine zha7 (fn:=fn72) rfl rfl ?_
 by_cases h1 : idx < 0
 ·rw [vf (by intro hv; simp [VP] at hv <;> omega)]; simp [h1,row12]
 by_cases h2 : ag < 0
 ·rw [vf (by intro hv; simp [VP] at hv <;> omega)]; simp [h1,h2,row12]
 by_cases h3 : obj < 0
 ·rw [vf (by intro hv; simp [VP] at hv <;> omega)]; simp [h1,h2,h3,row12]
 by_cases h4 : 3 < obj
 ·rw [vf (by intro hv; simp [VP] at hv <;> omega)]; simp [h1,h2,h3,h4,row12]
 by_cases h5 : rd < 0
 ·rw [vf (by intro hv; simp [VP] at hv <;> omega)]; simp [h1,h2,h3,h4,h5,row12]
 by_cases h6 : 0 < rd
 ·rw [vf (by intro hv; simp [VP] at hv <;> omega)]; simp [h1,h2,h3,h4,h5,h6,row12]
 by_cases h7 : ord = 0
 rotate_left
 ·rw [vf (by intro hv; simp [VP] at hv <;> omega)]; simp [h1,h2,h3,h4,h5,h6,h7,row12]
 subst h7
 by_cases h8 : wr = 0
 rotate_left
 ·rw [vf (by intro hv; simp [VP] at hv <;> omega)]; simp [h1,h2,h3,h4,h5,h6,h8,row12]
 subst h8
 by_cases h9 : ent = -1
 rotate_left
 ·rw [vf (by intro hv; simp [VP] at hv <;> omega)]; simp [h1,h2,h3,h4,h5,h6,h9,row12]
 subst h9
 by_cases h10 : 0 ≤ mux
 rotate_left
 ·rw [vf (by intro hv; simp [VP] at hv <;> omega)]; simp [h1,h2,h3,h4,h5,h6,h10,row12]
 by_cases h11 : mux < 4
 ·rw [vt (by simp [VP] <;> omega)]; simp [h1,h2,h3,h4,h5,h6,h10,h11,row12]
 ·rw [vf (by intro hv; simp [VP] at hv <;> omega)]; simp [h1,h2,h3,h4,h5,h6,h10,h11,row12]
end Go.Am.E
