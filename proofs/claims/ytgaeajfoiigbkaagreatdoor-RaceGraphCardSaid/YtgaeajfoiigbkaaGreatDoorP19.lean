/- Parts of the proofs of the statement, joined and made short: WB_3. -/
import Derived.Test.YtgaeajfoiigbkaaGreatDoorP9
set_option linter.unusedVariables false
set_option linter.unusedSimpArgs false
set_option linter.unusedSectionVars false
set_option maxRecDepth 100000
set_option maxHeartbeats 2000000
namespace Go.Am.E
open Go.Proofs Go.Rc
attribute [local simp] zja7 Evt.cells run119 glob0_len
theorem row17d : List.drop 128 glob0 = [.int .i64 (-1),.bool false,.int .i64 0,.int .i64 0,.bool false,.int .i64 (-2),.int .i64 0,.bool false]:=rfl
theorem row17m : List.drop 128 (List.map AVal.dat glob0) = [.int .i64 (-1),.bool false,.int .i64 0,.int .i64 0,.bool false,.int .i64 (-2),.int .i64 0,.bool false].map AVal.dat:=rfl
theorem v72_13 (ag idx obj mux ent ord rd wr : Int) : K 72 [.dat (Evt.dat ⟨ag,idx,13,obj,mux,ent,ord,rd,wr⟩)] [] = some (.dat (.bool (vld ⟨ag,idx,13,obj,mux,ent,ord,rd,wr⟩)),[]):=by
 refine zha7 (fn:=fn72) rfl rfl ?_
 by_cases h1 : idx < 0
 ·rw [vf (by intro hv; simp [VP] at hv <;> omega)]; simp [h1,row13]
 by_cases h2 : ag < 0
 ·rw [vf (by intro hv; simp [VP] at hv <;> omega)]; simp [h1,h2,row13]
 by_cases h3 : obj < 0
 ·rw [vf (by intro hv; simp [VP] at hv <;> omega)]; simp [h1,h2,h3,row13]
 by_cases h4 : 3 < obj
 ·rw [vf (by intro hv; simp [VP] at hv <;> omega)]; simp [h1,h2,h3,h4,row13]
 by_cases h5 : rd < 0
 ·rw [vf (by intro hv; simp [VP] at hv <;> omega)]; simp [h1,h2,h3,h4,h5,row13]
 by_cases h6 : 0 < rd
 ·rw [vf (by intro hv; simp [VP] at hv <;> omega)]; simp [h1,h2,h3,h4,h5,h6,row13]
 by_cases h7 : ord = 0
 rotate_left
 ·rw [vf (by intro hv; simp [VP] at hv <;> omega)]; simp [h1,h2,h3,h4,h5,h6,h7,row13]
 subst h7
 by_cases h8 : wr = 0
 rotate_left
 ·rw [vf (by intro hv; simp [VP] at hv <;> omega)]; simp [h1,h2,h3,h4,h5,h6,h8,row13]
 subst h8
 by_cases h9 : ent = -1
 rotate_left
 ·rw [vf (by intro hv; simp [VP] at hv <;> omega)]; simp [h1,h2,h3,h4,h5,h6,h9,row13]
 subst h9
 by_cases h10 : mux = -1
 ·subst h10; rw [vt (by simp [VP] <;> omega)]; simp [h1,h2,h3,h4,h5,h6,row13]
 ·rw [vf (by intro hv; simp [VP] at hv <;> omega)]; simp [h1,h2,h3,h4,h5,h6,h10,row13]
theorem v72_14 (ag idx obj mux ent ord rd wr : Int) : K 72 [.dat (Evt.dat ⟨ag,idx,14,obj,mux,ent,ord,rd,wr⟩)] [] = some (.dat (.bool (vld ⟨ag,idx,14,obj,mux,ent,ord,rd,wr⟩)),[]):=by
 refine zha7 (fn:=fn72) rfl rfl ?_
 by_cases h1 : idx < 0
 ·rw [vf (by intro hv; simp [VP] at hv <;> omega)]; simp [h1,row14]
 by_cases h2 : ag < 0
 ·rw [vf (by intro hv; simp [VP] at hv <;> omega)]; simp [h1,h2,row14]
 by_cases h3 : obj < 0
 ·rw [vf (by intro hv; simp [VP] at hv <;> omega)]; simp [h1,h2,h3,row14]
 by_cases h4 : 3 < obj
 ·rw [vf (by intro hv; simp [VP] at hv <;> omega)]; simp [h1,h2,h3,h4,row14]
 by_cases h5 : rd < 0
 ·rw [vf (by intro hv; simp [VP] at hv <;> omega)]; simp [h1,h2,h3,h4,h5,row14]
 by_cases h6 : 1 < rd
 ·rw [vf (by intro hv; simp [VP] at hv <;> omega)]; simp [h1,h2,h3,h4,h5,h6,row14]
 by_cases h7 : ord = 0
 rotate_left
 ·rw [vf (by intro hv; simp [VP] at hv <;> omega)]; simp [h1,h2,h3,h4,h5,h6,h7,row14]
 subst h7
 by_cases h8 : wr = 0
 rotate_left
 ·rw [vf (by intro hv; simp [VP] at hv <;> omega)]; simp [h1,h2,h3,h4,h5,h6,h8,row14]
 subst h8
 by_cases h9 : ent = -1
 rotate_left
 ·rw [vf (by intro hv; simp [VP] at hv <;> omega)]; simp [h1,h2,h3,h4,h5,h6,h9,row14]
 subst h9
 by_cases h10 : mux = -1
 ·subst h10; rw [vt (by simp [VP] <;> omega)]; simp [h1,h2,h3,h4,h5,h6,row14]
 ·rw [vf (by intro hv; simp [VP] at hv <;> omega)]; simp [h1,h2,h3,h4,h5,h6,h10,row14]
theorem v72_15 (ag idx obj mux ent ord rd wr : Int) : K 72 [.dat (Evt.dat ⟨ag,idx,15,obj,mux,ent,ord,rd,wr⟩)] [] = some (.dat (.bool (vld ⟨ag,idx,15,obj,mux,ent,ord,rd,wr⟩)),[]):=by
 refine zha7 (fn:=fn72) rfl rfl ?_
 by_cases h1 : idx < 0
 ·rw [vf (by intro hv; simp [VP] at hv <;> omega)]; simp [h1,row15]
 by_cases h2 : ag < 0
 ·rw [vf (by intro hv; simp [VP] at hv <;> omega)]; simp [h1,h2,row15]
 by_cases h3 : obj < 0
 ·rw [vf (by intro hv; simp [VP] at hv <;> omega)]; simp [h1,h2,h3,row15]
 by_cases h4 : 3 < obj
 ·rw [vf (by intro hv; simp [VP] at hv <;> omega)]; simp [h1,h2,h3,h4,row15]
 by_cases h5 : rd < 0
 ·rw [vf (by intro hv; simp [VP] at hv <;> omega)]; simp [h1,h2,h3,h4,h5,row15]
 by_cases h6 : ord = 0
 rotate_left
 ·rw [vf (by intro hv; simp [VP] at hv <;> omega)]; simp [h1,h2,h3,h4,h5,h6,row15]
 subst h6
 by_cases h7 : wr = 0
 rotate_left
 ·rw [vf (by intro hv; simp [VP] at hv <;> omega)]; simp [h1,h2,h3,h4,h5,h7,row15]
 subst h7
 by_cases h8 : ent = -1
 rotate_left
 ·rw [vf (by intro hv; simp [VP] at hv <;> omega)]; simp [h1,h2,h3,h4,h5,h8,row15]
 subst h8
 by_cases h9 : mux = -1
 ·subst h9; rw [vt (by simp [VP] <;> omega)]; simp [h1,h2,h3,h4,h5,row15]
 ·rw [vf (by intro hv; simp [VP] at hv <;> omega)]; simp [h1,h2,h3,h4,h5,h9,row15]
theorem v72_16 (ag idx obj mux ent ord rd wr : Int) : K 72 [.dat (Evt.dat ⟨ag,idx,16,obj,mux,ent,ord,rd,wr⟩)] [] = some (.dat (.bool (vld ⟨ag,idx,16,obj,mux,ent,ord,rd,wr⟩)),[]):=by
 refine zha7 (fn:=fn72) rfl rfl ?_
 by_cases h1 : idx < 0
 ·rw [vf (by intro hv; simp [VP] at hv <;> omega)]; simp [h1,row16]
 by_cases h2 : ag < 0
 ·rw [vf (by intro hv; simp [VP] at hv <;> omega)]; simp [h1,h2,row16]
 by_cases h3 : obj < 0
 ·rw [vf (by intro hv; simp [VP] at hv <;> omega)]; simp [h1,h2,h3,row16]
 by_cases h4 : rd < 0
 ·rw [vf (by intro hv; simp [VP] at hv <;> omega)]; simp [h1,h2,h3,h4,row16]
 by_cases h5 : 0 < rd
 ·rw [vf (by intro hv; simp [VP] at hv <;> omega)]; simp [h1,h2,h3,h4,h5,row16]
 by_cases h6 : ord = 0
 rotate_left
 ·rw [vf (by intro hv; simp [VP] at hv <;> omega)]; simp [h1,h2,h3,h4,h5,h6,row16]
 subst h6
 by_cases h7 : wr = 0
 rotate_left
 ·rw [vf (by intro hv; simp [VP] at hv <;> omega)]; simp [h1,h2,h3,h4,h5,h7,row16]
 subst h7
 by_cases h8 : ent = -1
 rotate_left
 ·rw [vf (by intro hv; simp [VP] at hv <;> omega)]; simp [h1,h2,h3,h4,h5,h8,row16]
 subst h8
 by_cases h9 : mux = -1
 ·subst h9; rw [vt (by simp [VP] <;> omega)]; simp [h1,h2,h3,h4,h5,row16]
 ·rw [vf (by intro hv; simp [VP] at hv <;> omega)]; simp [h1,h2,h3,h4,h5,h9,row16]
theorem v72_17 (ag idx obj mux ent ord rd wr : Int) : K 72 [.dat (Evt.dat ⟨ag,idx,17,obj,mux,ent,ord,rd,wr⟩)] [] = some (.dat (.bool (vld ⟨ag,idx,17,obj,mux,ent,ord,rd,wr⟩)),[]):=by
 refine zha7 (fn:=fn72) rfl rfl ?_
 by_cases h1 : idx < 0
 ·rw [vf (by intro hv; simp [VP] at hv <;> omega)]; simp [h1,row17,row17d,row17m]
 by_cases h2 : ag < 0
 ·rw [vf (by intro hv; simp [VP] at hv <;> omega)]; simp [h1,h2,row17,row17d,row17m]
 by_cases h3 : obj < 0
 ·rw [vf (by intro hv; simp [VP] at hv <;> omega)]; simp [h1,h2,h3,row17,row17d,row17m]
 by_cases h4 : rd < 0
 ·rw [vf (by intro hv; simp [VP] at hv <;> omega)]; simp [h1,h2,h3,h4,row17,row17d,row17m]
 by_cases h5 : 0 < rd
 ·rw [vf (by intro hv; simp [VP] at hv <;> omega)]; simp [h1,h2,h3,h4,h5,row17,row17d,row17m]
 by_cases h6 : ord = 0
 rotate_left
 ·rw [vf (by intro hv; simp [VP] at hv <;> omega)]; simp [h1,h2,h3,h4,h5,h6,row17,row17d,row17m]
 subst h6
 by_cases h7 : wr = 0
 rotate_left
 ·rw [vf (by intro hv; simp [VP] at hv <;> omega)]; simp [h1,h2,h3,h4,h5,h7,row17,row17d,row17m]
 subst h7
 by_cases h8 : ent = -1
 rotate_left
 ·rw [vf (by intro hv; simp [VP] at hv <;> omega)]; simp [h1,h2,h3,h4,h5,h8,row17,row17d,row17m]
 subst h8
 by_cases h9 : mux = -1
 ·subst h9; rw [vt (by simp [VP] <;> omega)]; simp [h1,h2,h3,h4,h5,row17,row17d,row17m]
 ·rw [vf (by intro hv; simp [VP] at hv <;> omega)]; simp [h1,h2,h3,h4,h5,h9,row17,row17d,row17m]
end Go.Am.E
