/- Parts of the proofs of the statement, joined: VCode1. -/
import Derived.Test.YtkogmedfilgneaaGreatDoorP1

namespace Go.Am
open Go.Proofs

/-! 3: modelcheck/modelchecklaw44.VerdictBugs -/

def ann3 : Ann := [{ id := 0, live := [0, 1, 2] },
  { id := 1, live := [2, 3, 4] },
  { id := 2, live := [] },
  { id := 3, live := [2, 3, 4] },
  { id := 4, live := [2, 3, 4, 7, 8] },
  { id := 5, live := [] },
  { id := 6, live := [2, 3, 4, 7, 8] },
  { id := 7, live := [2, 3, 4, 7, 8, 9] },
  { id := 9, live := [2, 3, 4, 7, 8, 9] },
  { id := 10, live := [] },
  { id := 8, live := [2, 3, 4, 7, 8, 9] },
  { id := 11, live := [2, 3, 4] }]

@[simp] def r3_0 : AReg := ⟨[0, 1, 2], [], [
    ⟨some 3, .box 5 (.t 0), none, false⟩,
    ⟨some 4, .box 5 (.t 1), none, false⟩,
    ⟨some 6, .mv (.c (.dat (.bool false))), none, false⟩], []⟩
@[simp] def r3_1 : AReg := ⟨[2, 3, 4], [], [
    ⟨some 10, .ld 5 true (.t 3), none, false⟩,
    ⟨some 11, .call 6 [((.t 10), false)] true, none, false⟩,
    ⟨some 12, .un .not (.t 11), none, false⟩,
    ⟨some 13, .mv (.t 12), none, false⟩,
    ⟨some 14, .ld 5 true (.t 4), some (13, false), false⟩,
    ⟨some 15, .call 6 [((.t 14), false)] true, some (13, false), false⟩,
    ⟨some 16, .un .not (.t 15), some (13, false), false⟩,
    ⟨some 17, .pick (.t 13) (.c (.dat (.bool true))) (.t 16), none, false⟩], []⟩
@[simp] def r3_2 : AReg := ⟨[], [], [
    ⟨some 18, .call 7 [] true, none, false⟩,
    ⟨some 6, .mv (.t 18), none, false⟩], []⟩
@[simp] def r3_3 : AReg := ⟨[2, 3, 4], [], [
    ⟨some 19, .ld 5 true (.t 3), none, false⟩,
    ⟨some 20, .call 8 [((.t 19), false)] false, none, true⟩,
    ⟨some 21, .ld 5 true (.t 3), none, true⟩,
    ⟨some 22, .call 9 [((.t 21), false)] false, none, false⟩,
    ⟨some 7, .mv (.t 20), none, false⟩,
    ⟨some 8, .mv (.t 22), none, false⟩], [(1, 2)]⟩
@[simp] def r3_4 : AReg := ⟨[2, 3, 4, 7, 8], [], [
    ⟨some 23, .mv (.t 7), none, false⟩,
    ⟨some 24, .len false (.t 23), none, false⟩,
    ⟨some 25, .mv (.t 8), none, false⟩,
    ⟨some 26, .len false (.t 25), none, false⟩,
    ⟨some 27, .bin .int .neq (.t 24) (.t 26), none, false⟩], []⟩
@[simp] def r3_5 : AReg := ⟨[], [], [
    ⟨some 6, .mv (.c (.dat (.bool false))), none, false⟩], []⟩
@[simp] def r3_6 : AReg := ⟨[2, 3, 4, 7, 8], [], [
    ⟨some 9, .mv (.c (.dat (.int .i64 0))), none, false⟩], []⟩
@[simp] def r3_7 : AReg := ⟨[2, 3, 4, 7, 8, 9], [], [
    ⟨some 28, .mv (.t 9), none, false⟩,
    ⟨some 29, .mv (.t 7), none, false⟩,
    ⟨some 30, .len false (.t 29), none, false⟩,
    ⟨some 31, .bin .int .lss (.t 28) (.t 30), none, false⟩], []⟩
@[simp] def r3_8 : AReg := ⟨[2, 3, 4, 7, 8, 9], [], [
    ⟨some 34, .mv (.t 7), none, false⟩,
    ⟨some 35, .mv (.t 9), none, false⟩,
    ⟨some 36, .iAddr 1 (.t 34) (.t 35), none, false⟩,
    ⟨some 37, .ld 1 false (.t 36), none, false⟩,
    ⟨some 38, .mv (.t 8), none, false⟩,
    ⟨some 39, .mv (.t 9), none, false⟩,
    ⟨some 40, .iAddr 1 (.t 38) (.t 39), none, false⟩,
    ⟨some 41, .ld 1 false (.t 40), none, false⟩,
    ⟨some 42, .bin .int .neq (.t 37) (.t 41), none, false⟩], []⟩
@[simp] def r3_9 : AReg := ⟨[], [], [
    ⟨some 6, .mv (.c (.dat (.bool false))), none, false⟩], []⟩
@[simp] def r3_10 : AReg := ⟨[2, 3, 4, 7, 8, 9], [], [
    ⟨some 32, .mv (.t 9), none, false⟩,
    ⟨some 33, .bin .int .add (.t 32) (.c (.dat (.int .i64 1))), none, false⟩,
    ⟨some 9, .mv (.t 33), none, false⟩], []⟩
def l3_0 : AC := .seq (.seq (.reg r3_7) (.cond (.t 31) (.skip) (.exit 0))) (.seq (.block 1 (.seq (.reg r3_8) (.cond (.t 42) (.seq (.reg r3_9) (.ret)) (.skip)))) (.reg r3_10))
@[simp] theorem l3_0e (K : Orc) (s : St) : exec K l3_0 s = exec K (.seq (.seq (.reg r3_7) (.cond (.t 31) (.skip) (.exit 0))) (.seq (.block 1 (.seq (.reg r3_8) (.cond (.t 42) (.seq (.reg r3_9) (.ret)) (.skip)))) (.reg r3_10))) s := rfl
@[simp] def r3_11 : AReg := ⟨[2, 3, 4], [], [
    ⟨some 43, .mv (.t 2), none, false⟩,
    ⟨some 44, .call 10 [((.t 43), false)] true, none, false⟩,
    ⟨some 45, .mv (.t 2), none, false⟩,
    ⟨some 46, .call 11 [((.t 45), false)] true, none, false⟩,
    ⟨some 47, .bin .str .eql (.t 44) (.t 46), none, false⟩,
    ⟨some 48, .mv (.t 47), none, false⟩,
    ⟨some 49, .ld 5 true (.t 3), some (48, true), false⟩,
    ⟨some 50, .ld 5 true (.t 4), some (48, true), false⟩,
    ⟨some 51, .call 12 [((.t 49), false), ((.t 50), false)] true, some (48, true), true⟩,
    ⟨some 52, .ld 5 true (.t 3), some (48, true), true⟩,
    ⟨some 53, .ld 5 true (.t 4), some (48, true), true⟩,
    ⟨some 54, .call 13 [((.t 52), false), ((.t 53), false)] true, some (48, true), false⟩,
    ⟨some 55, .bin .bool .eql (.t 51) (.t 54), some (48, true), false⟩,
    ⟨some 56, .pick (.t 48) (.t 55) (.c (.dat (.bool false))), none, false⟩,
    ⟨some 57, .mv (.t 56), none, false⟩,
    ⟨some 58, .ld 5 true (.t 3), some (57, true), false⟩,
    ⟨some 59, .ld 5 true (.t 3), some (57, true), false⟩,
    ⟨some 60, .call 12 [((.t 58), false), ((.t 59), false)] true, some (57, true), false⟩,
    ⟨some 61, .pick (.t 57) (.t 60) (.c (.dat (.bool false))), none, false⟩,
    ⟨some 62, .mv (.t 61), none, false⟩,
    ⟨some 63, .call 7 [] true, some (62, true), false⟩,
    ⟨some 64, .pick (.t 62) (.t 63) (.c (.dat (.bool false))), none, false⟩,
    ⟨some 6, .mv (.t 64), none, false⟩], [(8, 9), (8, 10)]⟩
@[simp] def fn3 : AFun := ⟨3, [.t 6], false,
  .seq (.reg r3_0) (.seq (.seq (.reg r3_1) (.cond (.t 17) (.seq (.reg r3_2) (.ret)) (.skip))) (.seq (.reg r3_3) (.seq (.seq (.reg r3_4) (.cond (.t 27) (.seq (.reg r3_5) (.ret)) (.skip))) (.seq (.seq (.reg r3_6) (.block 0 (.loop l3_0))) (.seq (.reg r3_11) (.ret)))))), none⟩

theorem c3 : cFun Tryz.prog ann3 false 3 = some fn3 := by kernel_rfl

/-! 6: modelcheck/modelchecklaw44.small -/

def ann6 : Ann := [{ id := 0, live := [0] },
  { id := 1, live := [1] }]

@[simp] def r6_0 : AReg := ⟨[0], [], [
    ⟨some 1, .box 5 (.t 0), none, false⟩,
    ⟨some 2, .mv (.c (.dat (.bool false))), none, false⟩], []⟩
@[simp] def r6_1 : AReg := ⟨[1], [], [
    ⟨some 3, .fAddr 0 (.t 1), none, false⟩,
    ⟨some 4, .ld 1 false (.t 3), none, false⟩,
    ⟨some 5, .len false (.t 4), none, false⟩,
    ⟨some 6, .bin .int .leq (.t 5) (.c (.dat (.int .i64 50))), none, false⟩,
    ⟨some 7, .mv (.t 6), none, false⟩,
    ⟨some 8, .fAddr 1 (.t 1), some (7, true), false⟩,
    ⟨some 9, .ld 1 false (.t 8), some (7, true), false⟩,
    ⟨some 10, .len false (.t 9), some (7, true), false⟩,
    ⟨some 11, .bin .int .leq (.t 10) (.c (.dat (.int .i64 50))), some (7, true), false⟩,
    ⟨some 12, .pick (.t 7) (.t 11) (.c (.dat (.bool false))), none, false⟩,
    ⟨some 13, .mv (.t 12), none, false⟩,
    ⟨some 14, .fAddr 2 (.t 1), some (13, true), false⟩,
    ⟨some 15, .ld 1 false (.t 14), some (13, true), false⟩,
    ⟨some 16, .len false (.t 15), some (13, true), false⟩,
    ⟨some 17, .bin .int .leq (.t 16) (.c (.dat (.int .i64 50))), some (13, true), false⟩,
    ⟨some 18, .pick (.t 13) (.t 17) (.c (.dat (.bool false))), none, false⟩,
    ⟨some 19, .mv (.t 18), none, false⟩,
    ⟨some 20, .fAddr 3 (.t 1), some (19, true), false⟩,
    ⟨some 21, .ld 1 false (.t 20), some (19, true), false⟩,
    ⟨some 22, .len false (.t 21), some (19, true), false⟩,
    ⟨some 23, .bin .int .leq (.t 22) (.c (.dat (.int .i64 50))), some (19, true), false⟩,
    ⟨some 24, .pick (.t 19) (.t 23) (.c (.dat (.bool false))), none, false⟩,
    ⟨some 25, .mv (.t 24), none, false⟩,
    ⟨some 26, .fAddr 4 (.t 1), some (25, true), false⟩,
    ⟨some 27, .ld 1 false (.t 26), some (25, true), false⟩,
    ⟨some 28, .len false (.t 27), some (25, true), false⟩,
    ⟨some 29, .bin .int .leq (.t 28) (.c (.dat (.int .i64 50))), some (25, true), false⟩,
    ⟨some 30, .pick (.t 25) (.t 29) (.c (.dat (.bool false))), none, false⟩,
    ⟨some 2, .mv (.t 30), none, false⟩], []⟩
@[simp] def fn6 : AFun := ⟨1, [.t 2], false,
  .seq (.reg r6_0) (.seq (.reg r6_1) (.ret)), none⟩

theorem c6 : cFun Tryz.prog ann6 false 6 = some fn6 := by kernel_rfl

/-! 7: modelcheck/modelchecklaw44.lives -/

def ann7 : Ann := [{ id := 0, live := [] },
  { id := 1, live := [] },
  { id := 2, live := [1] },
  { id := 3, live := [1, 2] },
  { id := 4, live := [1, 2, 3] },
  { id := 5, live := [1, 3, 4, 5] },
  { id := 6, live := [4, 5, 6, 7] },
  { id := 7, live := [4, 5, 6, 7, 8, 9] },
  { id := 8, live := [] },
  { id := 9, live := [4, 6] }]

@[simp] def r7_0 : AReg := ⟨[], [], [
    ⟨some 0, .mv (.c (.dat (.bool false))), none, false⟩], []⟩
@[simp] def r7_1 : AReg := ⟨[], [], [
    ⟨some 10, .bld [(.dat (.int .i64 0)), (.dat (.int .i64 0))] [(0, 1, (.c (.dat (.int .i64 1)))), (1, 1, (.c (.dat (.int .i64 4))))], none, false⟩,
    ⟨some 1, .alc [(.dat (.int .i64 0)), (.dat (.int .i64 0))], none, false⟩,
    ⟨none, .st false 2 (.t 1) (.t 10), none, false⟩], []⟩
@[simp] def r7_2 : AReg := ⟨[1], [], [
    ⟨some 11, .bld [(.dat (.int .i64 0)), (.dat (.int .i64 0)), (.dat (.int .i64 0)), (.dat (.int .i64 0)), (.dat (.int .i64 0)), (.dat (.int .i64 0)), (.dat (.int .i64 0)), (.dat (.int .i64 0))] [(0, 1, (.c (.dat (.int .i64 15))))], none, false⟩,
    ⟨some 12, .bld [(.dat (.int .i64 0)), (.dat (.int .i64 0)), (.dat (.int .i64 0)), (.dat (.int .i64 0)), (.dat (.int .i64 0)), (.dat (.int .i64 0)), (.dat (.int .i64 0)), (.dat (.int .i64 0))] [(0, 1, (.c (.dat (.int .i64 15)))), (4, 1, (.c (.dat (.int .i64 1))))], none, false⟩,
    ⟨some 13, .bldS .d 8 [(.t 11), (.t 12)], none, false⟩,
    ⟨some 14, .bld [(.dat (.int .i64 0)), (.dat (.int .i64 0)), (.dat (.int .i64 0)), (.dat (.int .i64 0)), (.dat (.int .i64 0)), (.dat (.int .i64 0)), (.dat (.int .i64 0)), (.dat (.int .i64 0))] [(0, 1, (.c (.dat (.int .i64 15)))), (4, 1, (.c (.dat (.int .i64 1))))], none, false⟩,
    ⟨some 15, .bld [(.dat (.int .i64 0)), (.dat (.int .i64 0)), (.dat (.int .i64 0)), (.dat (.int .i64 0)), (.dat (.int .i64 0)), (.dat (.int .i64 0)), (.dat (.int .i64 0)), (.dat (.int .i64 0))] [(0, 1, (.c (.dat (.int .i64 15))))], none, false⟩,
    ⟨some 16, .bldS .d 8 [(.t 14), (.t 15)], none, false⟩,
    ⟨some 17, .call 25 [((.t 13), false), ((.t 16), false)] false, none, false⟩,
    ⟨some 2, .alc [.nils, .nils, .nils, .nils, .nils], none, false⟩,
    ⟨none, .st false 5 (.t 2) (.t 17), none, false⟩], []⟩
@[simp] def r7_3 : AReg := ⟨[1, 2], [], [
    ⟨some 18, .bld [(.dat (.int .i64 0)), (.dat (.int .i64 0)), (.dat (.int .i64 0)), (.dat (.int .i64 0)), (.dat (.int .i64 0)), (.dat (.int .i64 0)), (.dat (.int .i64 0)), (.dat (.int .i64 0))] [(0, 1, (.c (.dat (.int .i64 15))))], none, false⟩,
    ⟨some 19, .bld [(.dat (.int .i64 0)), (.dat (.int .i64 0)), (.dat (.int .i64 0)), (.dat (.int .i64 0)), (.dat (.int .i64 0)), (.dat (.int .i64 0)), (.dat (.int .i64 0)), (.dat (.int .i64 0))] [(0, 1, (.c (.dat (.int .i64 18))))], none, false⟩,
    ⟨some 20, .bldS .d 8 [(.t 18), (.t 19)], none, false⟩,
    ⟨some 21, .bld [(.dat (.int .i64 0)), (.dat (.int .i64 0)), (.dat (.int .i64 0)), (.dat (.int .i64 0)), (.dat (.int .i64 0)), (.dat (.int .i64 0)), (.dat (.int .i64 0)), (.dat (.int .i64 0))] [(0, 1, (.c (.dat (.int .i64 19))))], none, false⟩,
    ⟨some 22, .bldS .d 8 [(.t 21)], none, false⟩,
    ⟨some 23, .call 25 [((.t 20), false), ((.t 22), false)] false, none, false⟩,
    ⟨some 3, .alc [.nils, .nils, .nils, .nils, .nils], none, false⟩,
    ⟨none, .st false 5 (.t 3) (.t 23), none, false⟩], []⟩
@[simp] def r7_4 : AReg := ⟨[1, 2, 3], [], [
    ⟨some 25, .ld 5 true (.t 2), none, false⟩,
    ⟨some 26, .ld 2 true (.t 1), none, false⟩,
    ⟨some 27, .bldS .d 1 [(.c (.dat (.int .i64 0))), (.c (.dat (.int .i64 1)))], none, false⟩,
    ⟨some 28, .call 26 [((.t 25), false), ((.t 26), false), ((.t 27), false)] false, none, false⟩,
    ⟨some 24, .mv (.t 28), none, false⟩,
    ⟨some 29, .ext 0 (.t 24), none, false⟩,
    ⟨some 30, .ext 1 (.t 24), none, false⟩,
    ⟨some 4, .alc [.nils, .nils, .nils, .nils, .nils], none, false⟩,
    ⟨none, .st false 5 (.t 4) (.t 29), none, false⟩,
    ⟨some 5, .mv (.t 30), none, false⟩], []⟩
@[simp] def r7_5 : AReg := ⟨[1, 3, 4, 5], [], [
    ⟨some 32, .ld 5 true (.t 3), none, false⟩,
    ⟨some 33, .ld 2 true (.t 1), none, false⟩,
    ⟨some 34, .bldS .d 1 [(.c (.dat (.int .i64 1))), (.c (.dat (.int .i64 0))), (.c (.dat (.int .i64 0)))], none, false⟩,
    ⟨some 35, .call 26 [((.t 32), false), ((.t 33), false), ((.t 34), false)] false, none, false⟩,
    ⟨some 31, .mv (.t 35), none, false⟩,
    ⟨some 36, .ext 0 (.t 31), none, false⟩,
    ⟨some 37, .ext 1 (.t 31), none, false⟩,
    ⟨some 6, .alc [.nils, .nils, .nils, .nils, .nils], none, false⟩,
    ⟨none, .st false 5 (.t 6) (.t 36), none, false⟩,
    ⟨some 7, .mv (.t 37), none, false⟩], []⟩
@[simp] def r7_6 : AReg := ⟨[4, 5, 6, 7], [], [
    ⟨some 38, .ld 5 true (.t 4), none, false⟩,
    ⟨some 39, .call 8 [((.t 38), false)] false, none, true⟩,
    ⟨some 40, .ld 5 true (.t 6), none, true⟩,
    ⟨some 41, .call 8 [((.t 40), false)] false, none, false⟩,
    ⟨some 8, .mv (.t 39), none, false⟩,
    ⟨some 9, .mv (.t 41), none, false⟩], [(1, 2)]⟩
@[simp] def r7_7 : AReg := ⟨[4, 5, 6, 7, 8, 9], [], [
    ⟨some 42, .mv (.t 5), none, false⟩,
    ⟨some 43, .bin .int .neq (.t 42) (.c (.dat (.int .i64 0))), none, false⟩,
    ⟨some 44, .mv (.t 43), none, false⟩,
    ⟨some 45, .mv (.t 7), some (44, false), false⟩,
    ⟨some 46, .bin .int .neq (.t 45) (.c (.dat (.int .i64 0))), some (44, false), false⟩,
    ⟨some 47, .pick (.t 44) (.c (.dat (.bool true))) (.t 46), none, false⟩,
    ⟨some 48, .mv (.t 47), none, false⟩,
    ⟨some 49, .mv (.t 8), some (48, false), false⟩,
    ⟨some 50, .len false (.t 49), some (48, false), false⟩,
    ⟨some 51, .bin .int .neq (.t 50) (.c (.dat (.int .i64 1))), some (48, false), false⟩,
    ⟨some 52, .pick (.t 48) (.c (.dat (.bool true))) (.t 51), none, false⟩,
    ⟨some 53, .mv (.t 52), none, false⟩,
    ⟨some 54, .mv (.t 8), some (53, false), false⟩,
    ⟨some 55, .iAddr 1 (.t 54) (.c (.dat (.int .i64 0))), some (53, false), false⟩,
    ⟨some 56, .ld 1 false (.t 55), some (53, false), false⟩,
    ⟨some 57, .bin .int .neq (.t 56) (.c (.dat (.int .i64 2))), some (53, false), false⟩,
    ⟨some 58, .pick (.t 53) (.c (.dat (.bool true))) (.t 57), none, false⟩,
    ⟨some 59, .mv (.t 58), none, false⟩,
    ⟨some 60, .mv (.t 9), some (59, false), false⟩,
    ⟨some 61, .len false (.t 60), some (59, false), false⟩,
    ⟨some 62, .bin .int .neq (.t 61) (.c (.dat (.int .i64 2))), some (59, false), false⟩,
    ⟨some 63, .pick (.t 59) (.c (.dat (.bool true))) (.t 62), none, false⟩,
    ⟨some 64, .mv (.t 63), none, false⟩,
    ⟨some 65, .mv (.t 9), some (64, false), false⟩,
    ⟨some 66, .iAddr 1 (.t 65) (.c (.dat (.int .i64 0))), some (64, false), false⟩,
    ⟨some 67, .ld 1 false (.t 66), some (64, false), false⟩,
    ⟨some 68, .bin .int .neq (.t 67) (.c (.dat (.int .i64 2))), some (64, false), false⟩,
    ⟨some 69, .pick (.t 64) (.c (.dat (.bool true))) (.t 68), none, false⟩,
    ⟨some 70, .mv (.t 69), none, false⟩,
    ⟨some 71, .mv (.t 9), some (70, false), false⟩,
    ⟨some 72, .iAddr 1 (.t 71) (.c (.dat (.int .i64 1))), some (70, false), false⟩,
    ⟨some 73, .ld 1 false (.t 72), some (70, false), false⟩,
    ⟨some 74, .bin .int .neq (.t 73) (.c (.dat (.int .i64 3))), some (70, false), false⟩,
    ⟨some 75, .pick (.t 70) (.c (.dat (.bool true))) (.t 74), none, false⟩], []⟩
@[simp] def r7_8 : AReg := ⟨[], [], [
    ⟨some 0, .mv (.c (.dat (.bool false))), none, false⟩], []⟩
@[simp] def r7_9 : AReg := ⟨[4, 6], [], [
    ⟨some 76, .fAddr 1 (.t 4), none, false⟩,
    ⟨some 77, .ld 1 false (.t 76), none, false⟩,
    ⟨some 78, .bldS .d 1 [(.c (.dat (.int .i64 0))), (.c (.dat (.int .i64 1)))], none, false⟩,
    ⟨some 79, .call 19 [((.t 77), false), ((.t 78), false)] true, none, false⟩,
    ⟨some 80, .mv (.t 79), none, false⟩,
    ⟨some 81, .fAddr 2 (.t 4), some (80, true), false⟩,
    ⟨some 82, .ld 1 false (.t 81), some (80, true), false⟩,
    ⟨some 83, .len false (.t 82), some (80, true), false⟩,
    ⟨some 84, .bin .int .eql (.t 83) (.c (.dat (.int .i64 0))), some (80, true), false⟩,
    ⟨some 85, .pick (.t 80) (.t 84) (.c (.dat (.bool false))), none, false⟩,
    ⟨some 86, .mv (.t 85), none, false⟩,
    ⟨some 87, .fAddr 2 (.t 6), some (86, true), false⟩,
    ⟨some 88, .ld 1 false (.t 87), some (86, true), false⟩,
    ⟨some 89, .bldS .d 1 [(.c (.dat (.int .i64 0)))], some (86, true), false⟩,
    ⟨some 90, .call 19 [((.t 88), false), ((.t 89), false)] true, some (86, true), false⟩,
    ⟨some 91, .pick (.t 86) (.t 90) (.c (.dat (.bool false))), none, false⟩,
    ⟨some 92, .mv (.t 91), none, false⟩,
    ⟨some 93, .call 10 [((.c (.dat (.int .i64 3))), false)] true, some (92, true), false⟩,
    ⟨some 94, .bin .str .eql (.t 93) (.c (.dat (.str [108, 111, 115, 116]))), some (92, true), false⟩,
    ⟨some 95, .pick (.t 92) (.t 94) (.c (.dat (.bool false))), none, false⟩,
    ⟨some 96, .mv (.t 95), none, false⟩,
    ⟨some 97, .ld 5 true (.t 4), some (96, true), false⟩,
    ⟨some 98, .ld 5 true (.t 4), some (96, true), false⟩,
    ⟨some 99, .call 12 [((.t 97), false), ((.t 98), false)] true, some (96, true), false⟩,
    ⟨some 100, .pick (.t 96) (.t 99) (.c (.dat (.bool false))), none, false⟩,
    ⟨some 101, .mv (.t 100), none, false⟩,
    ⟨some 102, .ld 5 true (.t 4), some (101, true), false⟩,
    ⟨some 103, .ld 5 true (.t 6), some (101, true), false⟩,
    ⟨some 104, .call 12 [((.t 102), false), ((.t 103), false)] true, some (101, true), false⟩,
    ⟨some 105, .un .not (.t 104), some (101, true), false⟩,
    ⟨some 106, .pick (.t 101) (.t 105) (.c (.dat (.bool false))), none, false⟩,
    ⟨some 0, .mv (.t 106), none, false⟩], []⟩
@[simp] def fn7 : AFun := ⟨0, [.t 0], false,
  .seq (.reg r7_0) (.seq (.reg r7_1) (.seq (.reg r7_2) (.seq (.reg r7_3) (.seq (.reg r7_4) (.seq (.reg r7_5) (.seq (.reg r7_6) (.seq (.seq (.reg r7_7) (.cond (.t 75) (.seq (.reg r7_8) (.ret)) (.skip))) (.seq (.reg r7_9) (.ret))))))))), none⟩

theorem c7 : cFun Tryz.prog ann7 false 7 = some fn7 := by kernel_rfl

/-! 8: modelcheck/verdict.Bugs -/

def ann8 : Ann := [{ id := 0, live := [0] },
  { id := 1, live := [1] },
  { id := 2, live := [1, 3], marks := [(2, { byRef := [1] })] }]

@[simp] def r8_0 : AReg := ⟨[0], [], [
    ⟨some 1, .box 5 (.t 0), none, false⟩,
    ⟨some 2, .mv (.c .nils), none, false⟩], []⟩
@[simp] def r8_1 : AReg := ⟨[1], [], [
    ⟨some 4, .bldS .d 1 [(.c (.dat (.int .i64 1))), (.c (.dat (.int .i64 2))), (.c (.dat (.int .i64 3))), (.c (.dat (.int .i64 4)))], none, false⟩,
    ⟨some 3, .mv (.t 4), none, false⟩], []⟩
@[simp] def r8_2 : AReg := ⟨[1, 3], [], [
    ⟨some 5, .mv (.t 3), none, false⟩,
    ⟨some 6, .mkf 28 [(.t 1)], none, false⟩,
    ⟨some 7, .call 27 [((.t 5), false), ((.t 6), true)] false, none, false⟩,
    ⟨some 2, .mv (.t 7), none, false⟩], []⟩
@[simp] def fn8 : AFun := ⟨1, [.t 2], false,
  .seq (.reg r8_0) (.seq (.reg r8_1) (.seq (.reg r8_2) (.ret))), none⟩

theorem c8 : cFun Tryz.prog ann8 false 8 = some fn8 := by kernel_rfl

/-! 9: modelcheck/modelcheckref44.Bugs -/

def ann9 : Ann := [{ id := 0, live := [0] },
  { id := 1, live := [1], marks := [(0, { md := .o })] },
  { id := 2, live := [1, 3] },
  { id := 3, live := [1, 3], marks := [(2, { md := .o })] },
  { id := 4, live := [1, 3] },
  { id := 5, live := [1, 3], marks := [(2, { md := .o })] },
  { id := 6, live := [1, 3] },
  { id := 7, live := [1, 3], marks := [(2, { md := .o })] },
  { id := 8, live := [1, 3] },
  { id := 9, live := [3], marks := [(2, { md := .o })] },
  { id := 10, live := [3] }]

@[simp] def r9_0 : AReg := ⟨[0], [], [
    ⟨some 1, .box 5 (.t 0), none, false⟩,
    ⟨some 2, .mv (.c .nils), none, false⟩], []⟩
@[simp] def r9_1 : AReg := ⟨[1], [], [
    ⟨some 3, .mvNil .o 1, none, false⟩], []⟩
@[simp] def r9_2 : AReg := ⟨[1, 3], [], [
    ⟨some 4, .fAddr 0 (.t 1), none, false⟩,
    ⟨some 5, .ld 1 false (.t 4), none, false⟩,
    ⟨some 6, .len false (.t 5), none, false⟩,
    ⟨some 7, .bin .int .gtr (.t 6) (.c (.dat (.int .i64 0))), none, false⟩], []⟩
@[simp] def r9_3 : AReg := ⟨[1, 3], [], [
    ⟨some 8, .mv (.t 3), none, false⟩,
    ⟨some 9, .bldS .d 1 [(.c (.dat (.int .i64 1)))], none, false⟩,
    ⟨some 10, .app .o 1 8 (.t 8) (.t 9), none, false⟩,
    ⟨some 3, .mv (.t 10), none, false⟩], []⟩
@[simp] def r9_4 : AReg := ⟨[1, 3], [], [
    ⟨some 11, .fAddr 1 (.t 1), none, false⟩,
    ⟨some 12, .ld 1 false (.t 11), none, false⟩,
    ⟨some 13, .len false (.t 12), none, false⟩,
    ⟨some 14, .bin .int .gtr (.t 13) (.c (.dat (.int .i64 0))), none, false⟩], []⟩
@[simp] def r9_5 : AReg := ⟨[1, 3], [], [
    ⟨some 15, .mv (.t 3), none, false⟩,
    ⟨some 16, .bldS .d 1 [(.c (.dat (.int .i64 2)))], none, false⟩,
    ⟨some 17, .app .o 1 8 (.t 15) (.t 16), none, false⟩,
    ⟨some 3, .mv (.t 17), none, false⟩], []⟩
@[simp] def r9_6 : AReg := ⟨[1, 3], [], [
    ⟨some 18, .fAddr 2 (.t 1), none, false⟩,
    ⟨some 19, .ld 1 false (.t 18), none, false⟩,
    ⟨some 20, .len false (.t 19), none, false⟩,
    ⟨some 21, .bin .int .gtr (.t 20) (.c (.dat (.int .i64 0))), none, false⟩], []⟩
@[simp] def r9_7 : AReg := ⟨[1, 3], [], [
    ⟨some 22, .mv (.t 3), none, false⟩,
    ⟨some 23, .bldS .d 1 [(.c (.dat (.int .i64 3)))], none, false⟩,
    ⟨some 24, .app .o 1 8 (.t 22) (.t 23), none, false⟩,
    ⟨some 3, .mv (.t 24), none, false⟩], []⟩
@[simp] def r9_8 : AReg := ⟨[1, 3], [], [
    ⟨some 25, .fAddr 4 (.t 1), none, false⟩,
    ⟨some 26, .ld 1 false (.t 25), none, false⟩,
    ⟨some 27, .len false (.t 26), none, false⟩,
    ⟨some 28, .bin .int .gtr (.t 27) (.c (.dat (.int .i64 0))), none, false⟩], []⟩
@[simp] def r9_9 : AReg := ⟨[3], [], [
    ⟨some 29, .mv (.t 3), none, false⟩,
    ⟨some 30, .bldS .d 1 [(.c (.dat (.int .i64 4)))], none, false⟩,
    ⟨some 31, .app .o 1 8 (.t 29) (.t 30), none, false⟩,
    ⟨some 3, .mv (.t 31), none, false⟩], []⟩
@[simp] def r9_10 : AReg := ⟨[3], [], [
    ⟨some 32, .mv (.t 3), none, false⟩,
    ⟨some 2, .mv (.t 32), none, false⟩], []⟩
@[simp] def fn9 : AFun := ⟨1, [.t 2], false,
  .seq (.reg r9_0) (.seq (.reg r9_1) (.seq (.seq (.reg r9_2) (.cond (.t 7) (.reg r9_3) (.skip))) (.seq (.seq (.reg r9_4) (.cond (.t 14) (.reg r9_5) (.skip))) (.seq (.seq (.reg r9_6) (.cond (.t 21) (.reg r9_7) (.skip))) (.seq (.seq (.reg r9_8) (.cond (.t 28) (.reg r9_9) (.skip))) (.seq (.reg r9_10) (.ret))))))), none⟩

theorem c9 : cFun Tryz.prog ann9 false 9 = some fn9 := by kernel_rfl

/-! 10: modelcheck/verdict.Name -/

def ann10 : Ann := [{ id := 0, live := [0] },
  { id := 1, live := [0] },
  { id := 2, live := [0, 3] },
  { id := 3, live := [3, 4] },
  { id := 4, live := [3, 4] },
  { id := 5, live := [3, 4] },
  { id := 6, live := [3, 4] },
  { id := 7, live := [] },
  { id := 8, live := [] },
  { id := 9, live := [] },
  { id := 10, live := [] },
  { id := 11, live := [3] },
  { id := 12, live := [3] }]

@[simp] def r10_0 : AReg := ⟨[0], [], [
    ⟨some 2, .mv (.c (.dat (.str []))), none, false⟩], []⟩
@[simp] def r10_1 : AReg := ⟨[0], [], [
    ⟨some 3, .mv (.c (.dat (.str []))), none, false⟩], []⟩
@[simp] def r10_2 : AReg := ⟨[0, 3], [], [
    ⟨some 4, .mv (.t 0), none, false⟩], []⟩
@[simp] def r10_3 : AReg := ⟨[3, 4], [], [
    ⟨some 6, .bin .int .eql (.t 4) (.c (.dat (.int .i64 3))), none, false⟩,
    ⟨some 5, .mv (.t 6), none, false⟩], []⟩
@[simp] def r10_4 : AReg := ⟨[3, 4], [], [
    ⟨some 8, .bin .int .eql (.t 4) (.c (.dat (.int .i64 4))), none, false⟩,
    ⟨some 7, .mv (.t 8), none, false⟩], []⟩
@[simp] def r10_5 : AReg := ⟨[3, 4], [], [
    ⟨some 10, .bin .int .eql (.t 4) (.c (.dat (.int .i64 1))), none, false⟩,
    ⟨some 9, .mv (.t 10), none, false⟩], []⟩
@[simp] def r10_6 : AReg := ⟨[3, 4], [], [
    ⟨some 12, .bin .int .eql (.t 4) (.c (.dat (.int .i64 2))), none, false⟩,
    ⟨some 11, .mv (.t 12), none, false⟩], []⟩
@[simp] def r10_7 : AReg := ⟨[], [], [
    ⟨some 3, .mv (.c (.dat (.str [108, 111, 115, 116]))), none, false⟩], []⟩
@[simp] def r10_8 : AReg := ⟨[], [], [
    ⟨some 3, .mv (.c (.dat (.str [114, 97, 99, 101]))), none, false⟩], []⟩
@[simp] def r10_9 : AReg := ⟨[], [], [
    ⟨some 2, .mv (.c (.dat (.str [97, 115, 115, 101, 114, 116]))), none, false⟩], []⟩
@[simp] def r10_10 : AReg := ⟨[], [], [
    ⟨some 3, .mv (.c (.dat (.str [100, 101, 97, 100, 108, 111, 99, 107]))), none, false⟩], []⟩
@[simp] def r10_11 : AReg := ⟨[3], [], [
    ⟨some 13, .mv (.t 3), none, false⟩,
    ⟨some 2, .mv (.t 13), none, false⟩], []⟩
@[simp] def r10_12 : AReg := ⟨[3], [], [
    ⟨some 14, .mv (.t 3), none, false⟩,
    ⟨some 2, .mv (.t 14), none, false⟩], []⟩
@[simp] def fn10 : AFun := ⟨1, [.t 2], false,
  .seq (.reg r10_0) (.seq (.reg r10_1) (.seq (.seq (.reg r10_2) (.block 0 (.seq (.block 5 (.seq (.block 4 (.seq (.block 3 (.seq (.block 2 (.seq (.block 1 (.seq (.seq (.seq (.reg r10_3) (.cond (.t 5) (.exit 1) (.skip))) (.seq (.seq (.reg r10_4) (.cond (.t 7) (.exit 2) (.skip))) (.seq (.seq (.reg r10_5) (.cond (.t 9) (.exit 3) (.skip))) (.seq (.reg r10_6) (.cond (.t 11) (.exit 4) (.skip)))))) (.exit 5))) (.seq (.reg r10_7) (.exit 0)))) (.seq (.reg r10_8) (.exit 0)))) (.seq (.seq (.reg r10_9) (.ret)) (.exit 0)))) (.reg r10_10))) (.seq (.seq (.reg r10_11) (.ret)) (.exit 0))))) (.seq (.reg r10_12) (.ret)))), none⟩

theorem c10 : cFun Tryz.prog ann10 false 10 = some fn10 := by kernel_rfl

/-! 11: modelcheck/modelcheckref44.Name -/

def ann11 : Ann := [{ id := 0, live := [0] },
  { id := 1, live := [0] },
  { id := 2, live := [3] },
  { id := 3, live := [] },
  { id := 4, live := [3] },
  { id := 5, live := [] },
  { id := 6, live := [3] },
  { id := 7, live := [] },
  { id := 8, live := [3] },
  { id := 9, live := [] },
  { id := 10, live := [] }]

@[simp] def r11_0 : AReg := ⟨[0], [], [
    ⟨some 2, .mv (.c (.dat (.str []))), none, false⟩], []⟩
@[simp] def r11_1 : AReg := ⟨[0], [], [
    ⟨some 3, .mv (.t 0), none, false⟩], []⟩
@[simp] def r11_2 : AReg := ⟨[3], [], [
    ⟨some 5, .bin .int .eql (.t 3) (.c (.dat (.int .i64 1))), none, false⟩,
    ⟨some 4, .mv (.t 5), none, false⟩], []⟩
@[simp] def r11_3 : AReg := ⟨[], [], [
    ⟨some 2, .mv (.c (.dat (.str [97, 115, 115, 101, 114, 116]))), none, false⟩], []⟩
@[simp] def r11_4 : AReg := ⟨[3], [], [
    ⟨some 7, .bin .int .eql (.t 3) (.c (.dat (.int .i64 2))), none, false⟩,
    ⟨some 6, .mv (.t 7), none, false⟩], []⟩
@[simp] def r11_5 : AReg := ⟨[], [], [
    ⟨some 2, .mv (.c (.dat (.str [100, 101, 97, 100, 108, 111, 99, 107]))), none, false⟩], []⟩
@[simp] def r11_6 : AReg := ⟨[3], [], [
    ⟨some 9, .bin .int .eql (.t 3) (.c (.dat (.int .i64 3))), none, false⟩,
    ⟨some 8, .mv (.t 9), none, false⟩], []⟩
@[simp] def r11_7 : AReg := ⟨[], [], [
    ⟨some 2, .mv (.c (.dat (.str [108, 111, 115, 116]))), none, false⟩], []⟩
@[simp] def r11_8 : AReg := ⟨[3], [], [
    ⟨some 11, .bin .int .eql (.t 3) (.c (.dat (.int .i64 4))), none, false⟩,
    ⟨some 10, .mv (.t 11), none, false⟩], []⟩
@[simp] def r11_9 : AReg := ⟨[], [], [
    ⟨some 2, .mv (.c (.dat (.str [114, 97, 99, 101]))), none, false⟩], []⟩
@[simp] def r11_10 : AReg := ⟨[], [], [
    ⟨some 2, .mv (.c (.dat (.str []))), none, false⟩], []⟩
@[simp] def fn11 : AFun := ⟨1, [.t 2], false,
  .seq (.reg r11_0) (.seq (.seq (.reg r11_1) (.block 0 (.seq (.reg r11_2) (.cond (.t 4) (.seq (.reg r11_3) (.ret)) (.seq (.reg r11_4) (.cond (.t 6) (.seq (.reg r11_5) (.ret)) (.seq (.reg r11_6) (.cond (.t 8) (.seq (.reg r11_7) (.ret)) (.seq (.reg r11_8) (.cond (.t 10) (.seq (.reg r11_9) (.ret)) (.skip))))))))))) (.seq (.reg r11_10) (.ret))), none⟩

theorem c11 : cFun Tryz.prog ann11 false 11 = some fn11 := by kernel_rfl

/-! 12: modelcheck/verdict.Equal -/

def ann12 : Ann := [{ id := 0, live := [0, 1] },
  { id := 1, live := [2, 3] },
  { id := 2, live := [] },
  { id := 3, live := [2, 3] }]

@[simp] def r12_0 : AReg := ⟨[0, 1], [], [
    ⟨some 2, .box 5 (.t 0), none, false⟩,
    ⟨some 3, .box 5 (.t 1), none, false⟩,
    ⟨some 4, .mv (.c (.dat (.bool false))), none, false⟩], []⟩
@[simp] def r12_1 : AReg := ⟨[2, 3], [], [
    ⟨some 5, .fAddr 0 (.t 2), none, false⟩,
    ⟨some 6, .ld 1 false (.t 5), none, false⟩,
    ⟨some 7, .fAddr 0 (.t 3), none, false⟩,
    ⟨some 8, .ld 1 false (.t 7), none, false⟩,
    ⟨some 9, .call 29 [((.t 6), false), ((.t 8), false)] true, none, false⟩,
    ⟨some 10, .un .not (.t 9), none, false⟩,
    ⟨some 11, .mv (.t 10), none, false⟩,
    ⟨some 12, .fAddr 1 (.t 2), some (11, false), false⟩,
    ⟨some 13, .ld 1 false (.t 12), some (11, false), false⟩,
    ⟨some 14, .fAddr 1 (.t 3), some (11, false), false⟩,
    ⟨some 15, .ld 1 false (.t 14), some (11, false), false⟩,
    ⟨some 16, .call 29 [((.t 13), false), ((.t 15), false)] true, some (11, false), false⟩,
    ⟨some 17, .un .not (.t 16), some (11, false), false⟩,
    ⟨some 18, .pick (.t 11) (.c (.dat (.bool true))) (.t 17), none, false⟩,
    ⟨some 19, .mv (.t 18), none, false⟩,
    ⟨some 20, .fAddr 2 (.t 2), some (19, false), false⟩,
    ⟨some 21, .ld 1 false (.t 20), some (19, false), false⟩,
    ⟨some 22, .fAddr 2 (.t 3), some (19, false), false⟩,
    ⟨some 23, .ld 1 false (.t 22), some (19, false), false⟩,
    ⟨some 24, .call 29 [((.t 21), false), ((.t 23), false)] true, some (19, false), false⟩,
    ⟨some 25, .un .not (.t 24), some (19, false), false⟩,
    ⟨some 26, .pick (.t 19) (.c (.dat (.bool true))) (.t 25), none, false⟩], []⟩
@[simp] def r12_2 : AReg := ⟨[], [], [
    ⟨some 4, .mv (.c (.dat (.bool false))), none, false⟩], []⟩
@[simp] def r12_3 : AReg := ⟨[2, 3], [], [
    ⟨some 27, .fAddr 3 (.t 2), none, false⟩,
    ⟨some 28, .ld 1 false (.t 27), none, false⟩,
    ⟨some 29, .fAddr 3 (.t 3), none, false⟩,
    ⟨some 30, .ld 1 false (.t 29), none, false⟩,
    ⟨some 31, .call 29 [((.t 28), false), ((.t 30), false)] true, none, false⟩,
    ⟨some 32, .mv (.t 31), none, false⟩,
    ⟨some 33, .fAddr 4 (.t 2), some (32, true), false⟩,
    ⟨some 34, .ld 1 false (.t 33), some (32, true), false⟩,
    ⟨some 35, .fAddr 4 (.t 3), some (32, true), false⟩,
    ⟨some 36, .ld 1 false (.t 35), some (32, true), false⟩,
    ⟨some 37, .call 30 [((.t 34), false), ((.t 36), false)] true, some (32, true), false⟩,
    ⟨some 38, .pick (.t 32) (.t 37) (.c (.dat (.bool false))), none, false⟩,
    ⟨some 4, .mv (.t 38), none, false⟩], []⟩
@[simp] def fn12 : AFun := ⟨2, [.t 4], false,
  .seq (.reg r12_0) (.seq (.seq (.reg r12_1) (.cond (.t 26) (.seq (.reg r12_2) (.ret)) (.skip))) (.seq (.reg r12_3) (.ret))), none⟩

theorem c12 : cFun Tryz.prog ann12 false 12 = some fn12 := by kernel_rfl

/-! 13: modelcheck/modelcheckref44.Equal -/

def ann13 : Ann := [{ id := 0, live := [0, 1] },
  { id := 1, live := [2, 3] },
  { id := 2, live := [] },
  { id := 3, live := [2, 3] },
  { id := 4, live := [2, 3, 5] },
  { id := 6, live := [2, 3, 5] },
  { id := 7, live := [] },
  { id := 5, live := [2, 3, 5] },
  { id := 8, live := [] }]

@[simp] def r13_0 : AReg := ⟨[0, 1], [], [
    ⟨some 2, .box 5 (.t 0), none, false⟩,
    ⟨some 3, .box 5 (.t 1), none, false⟩,
    ⟨some 4, .mv (.c (.dat (.bool false))), none, false⟩], []⟩
@[simp] def r13_1 : AReg := ⟨[2, 3], [], [
    ⟨some 6, .fAddr 0 (.t 2), none, false⟩,
    ⟨some 7, .ld 1 false (.t 6), none, false⟩,
    ⟨some 8, .fAddr 0 (.t 3), none, false⟩,
    ⟨some 9, .ld 1 false (.t 8), none, false⟩,
    ⟨some 10, .call 19 [((.t 7), false), ((.t 9), false)] true, none, false⟩,
    ⟨some 11, .un .not (.t 10), none, false⟩,
    ⟨some 12, .mv (.t 11), none, false⟩,
    ⟨some 13, .fAddr 1 (.t 2), some (12, false), false⟩,
    ⟨some 14, .ld 1 false (.t 13), some (12, false), false⟩,
    ⟨some 15, .fAddr 1 (.t 3), some (12, false), false⟩,
    ⟨some 16, .ld 1 false (.t 15), some (12, false), false⟩,
    ⟨some 17, .call 19 [((.t 14), false), ((.t 16), false)] true, some (12, false), false⟩,
    ⟨some 18, .un .not (.t 17), some (12, false), false⟩,
    ⟨some 19, .pick (.t 12) (.c (.dat (.bool true))) (.t 18), none, false⟩,
    ⟨some 20, .mv (.t 19), none, false⟩,
    ⟨some 21, .fAddr 2 (.t 2), some (20, false), false⟩,
    ⟨some 22, .ld 1 false (.t 21), some (20, false), false⟩,
    ⟨some 23, .fAddr 2 (.t 3), some (20, false), false⟩,
    ⟨some 24, .ld 1 false (.t 23), some (20, false), false⟩,
    ⟨some 25, .call 19 [((.t 22), false), ((.t 24), false)] true, some (20, false), false⟩,
    ⟨some 26, .un .not (.t 25), some (20, false), false⟩,
    ⟨some 27, .pick (.t 20) (.c (.dat (.bool true))) (.t 26), none, false⟩,
    ⟨some 28, .mv (.t 27), none, false⟩,
    ⟨some 29, .fAddr 3 (.t 2), some (28, false), false⟩,
    ⟨some 30, .ld 1 false (.t 29), some (28, false), false⟩,
    ⟨some 31, .fAddr 3 (.t 3), some (28, false), false⟩,
    ⟨some 32, .ld 1 false (.t 31), some (28, false), false⟩,
    ⟨some 33, .call 19 [((.t 30), false), ((.t 32), false)] true, some (28, false), false⟩,
    ⟨some 34, .un .not (.t 33), some (28, false), false⟩,
    ⟨some 35, .pick (.t 28) (.c (.dat (.bool true))) (.t 34), none, false⟩,
    ⟨some 36, .mv (.t 35), none, false⟩,
    ⟨some 37, .fAddr 4 (.t 2), some (36, false), false⟩,
    ⟨some 38, .ld 1 false (.t 37), some (36, false), false⟩,
    ⟨some 39, .len false (.t 38), some (36, false), false⟩,
    ⟨some 40, .fAddr 4 (.t 3), some (36, false), false⟩,
    ⟨some 41, .ld 1 false (.t 40), some (36, false), false⟩,
    ⟨some 42, .len false (.t 41), some (36, false), false⟩,
    ⟨some 43, .bin .int .neq (.t 39) (.t 42), some (36, false), false⟩,
    ⟨some 44, .pick (.t 36) (.c (.dat (.bool true))) (.t 43), none, false⟩], []⟩
@[simp] def r13_2 : AReg := ⟨[], [], [
    ⟨some 4, .mv (.c (.dat (.bool false))), none, false⟩], []⟩
@[simp] def r13_3 : AReg := ⟨[2, 3], [], [
    ⟨some 5, .mv (.c (.dat (.int .i64 0))), none, false⟩], []⟩
@[simp] def r13_4 : AReg := ⟨[2, 3, 5], [], [
    ⟨some 45, .mv (.t 5), none, false⟩,
    ⟨some 46, .fAddr 4 (.t 2), none, false⟩,
    ⟨some 47, .ld 1 false (.t 46), none, false⟩,
    ⟨some 48, .len false (.t 47), none, false⟩,
    ⟨some 49, .bin .int .lss (.t 45) (.t 48), none, false⟩], []⟩
@[simp] def r13_5 : AReg := ⟨[2, 3, 5], [], [
    ⟨some 52, .fAddr 4 (.t 2), none, false⟩,
    ⟨some 53, .ld 1 false (.t 52), none, false⟩,
    ⟨some 54, .mv (.t 5), none, false⟩,
    ⟨some 55, .iAddr 2 (.t 53) (.t 54), none, false⟩,
    ⟨some 56, .ld 2 true (.t 55), none, false⟩,
    ⟨some 57, .fAddr 4 (.t 3), none, false⟩,
    ⟨some 58, .ld 1 false (.t 57), none, false⟩,
    ⟨some 59, .mv (.t 5), none, false⟩,
    ⟨some 60, .iAddr 2 (.t 58) (.t 59), none, false⟩,
    ⟨some 61, .ld 2 true (.t 60), none, false⟩,
    ⟨some 62, .bin (.agg [.int .i64, .int .i64]) .neq (.t 56) (.t 61), none, false⟩], []⟩
@[simp] def r13_6 : AReg := ⟨[], [], [
    ⟨some 4, .mv (.c (.dat (.bool false))), none, false⟩], []⟩
@[simp] def r13_7 : AReg := ⟨[2, 3, 5], [], [
    ⟨some 50, .mv (.t 5), none, false⟩,
    ⟨some 51, .bin .int .add (.t 50) (.c (.dat (.int .i64 1))), none, false⟩,
    ⟨some 5, .mv (.t 51), none, false⟩], []⟩
def l13_0 : AC := .seq (.seq (.reg r13_4) (.cond (.t 49) (.skip) (.exit 0))) (.seq (.block 1 (.seq (.reg r13_5) (.cond (.t 62) (.seq (.reg r13_6) (.ret)) (.skip)))) (.reg r13_7))
@[simp] theorem l13_0e (K : Orc) (s : St) : exec K l13_0 s = exec K (.seq (.seq (.reg r13_4) (.cond (.t 49) (.skip) (.exit 0))) (.seq (.block 1 (.seq (.reg r13_5) (.cond (.t 62) (.seq (.reg r13_6) (.ret)) (.skip)))) (.reg r13_7))) s := rfl
@[simp] def r13_8 : AReg := ⟨[], [], [
    ⟨some 4, .mv (.c (.dat (.bool true))), none, false⟩], []⟩
@[simp] def fn13 : AFun := ⟨2, [.t 4], false,
  .seq (.reg r13_0) (.seq (.seq (.reg r13_1) (.cond (.t 44) (.seq (.reg r13_2) (.ret)) (.skip))) (.seq (.seq (.reg r13_3) (.block 0 (.loop l13_0))) (.seq (.reg r13_8) (.ret)))), none⟩

theorem c13 : cFun Tryz.prog ann13 false 13 = some fn13 := by kernel_rfl

/-! 19: modelcheck/modelcheckref26.Ints -/

def ann19 : Ann := [{ id := 0, live := [0, 1] },
  { id := 1, live := [0, 1] },
  { id := 2, live := [] },
  { id := 3, live := [0, 1] },
  { id := 4, live := [0, 1, 5] },
  { id := 6, live := [0, 1, 5] },
  { id := 7, live := [] },
  { id := 5, live := [0, 1, 5] },
  { id := 8, live := [] }]

@[simp] def r19_0 : AReg := ⟨[0, 1], [], [
    ⟨some 4, .mv (.c (.dat (.bool false))), none, false⟩], []⟩
@[simp] def r19_1 : AReg := ⟨[0, 1], [], [
    ⟨some 6, .mv (.t 0), none, false⟩,
    ⟨some 7, .len false (.t 6), none, false⟩,
    ⟨some 8, .mv (.t 1), none, false⟩,
    ⟨some 9, .len false (.t 8), none, false⟩,
    ⟨some 10, .bin .int .neq (.t 7) (.t 9), none, false⟩], []⟩
@[simp] def r19_2 : AReg := ⟨[], [], [
    ⟨some 4, .mv (.c (.dat (.bool false))), none, false⟩], []⟩
@[simp] def r19_3 : AReg := ⟨[0, 1], [], [
    ⟨some 5, .mv (.c (.dat (.int .i64 0))), none, false⟩], []⟩
@[simp] def r19_4 : AReg := ⟨[0, 1, 5], [], [
    ⟨some 11, .mv (.t 5), none, false⟩,
    ⟨some 12, .mv (.t 0), none, false⟩,
    ⟨some 13, .len false (.t 12), none, false⟩,
    ⟨some 14, .bin .int .lss (.t 11) (.t 13), none, false⟩], []⟩
@[simp] def r19_5 : AReg := ⟨[0, 1, 5], [], [
    ⟨some 17, .mv (.t 0), none, false⟩,
    ⟨some 18, .mv (.t 5), none, false⟩,
    ⟨some 19, .iAddr 1 (.t 17) (.t 18), none, false⟩,
    ⟨some 20, .ld 1 false (.t 19), none, false⟩,
    ⟨some 21, .mv (.t 1), none, false⟩,
    ⟨some 22, .mv (.t 5), none, false⟩,
    ⟨some 23, .iAddr 1 (.t 21) (.t 22), none, false⟩,
    ⟨some 24, .ld 1 false (.t 23), none, false⟩,
    ⟨some 25, .bin .int .neq (.t 20) (.t 24), none, false⟩], []⟩
@[simp] def r19_6 : AReg := ⟨[], [], [
    ⟨some 4, .mv (.c (.dat (.bool false))), none, false⟩], []⟩
@[simp] def r19_7 : AReg := ⟨[0, 1, 5], [], [
    ⟨some 15, .mv (.t 5), none, false⟩,
    ⟨some 16, .bin .int .add (.t 15) (.c (.dat (.int .i64 1))), none, false⟩,
    ⟨some 5, .mv (.t 16), none, false⟩], []⟩
def l19_0 : AC := .seq (.seq (.reg r19_4) (.cond (.t 14) (.skip) (.exit 0))) (.seq (.block 1 (.seq (.reg r19_5) (.cond (.t 25) (.seq (.reg r19_6) (.ret)) (.skip)))) (.reg r19_7))
@[simp] theorem l19_0e (K : Orc) (s : St) : exec K l19_0 s = exec K (.seq (.seq (.reg r19_4) (.cond (.t 14) (.skip) (.exit 0))) (.seq (.block 1 (.seq (.reg r19_5) (.cond (.t 25) (.seq (.reg r19_6) (.ret)) (.skip)))) (.reg r19_7))) s := rfl
@[simp] def r19_8 : AReg := ⟨[], [], [
    ⟨some 4, .mv (.c (.dat (.bool true))), none, false⟩], []⟩
@[simp] def fn19 : AFun := ⟨2, [.t 4], false,
  .seq (.reg r19_0) (.seq (.seq (.reg r19_1) (.cond (.t 10) (.seq (.reg r19_2) (.ret)) (.skip))) (.seq (.seq (.reg r19_3) (.block 0 (.loop l19_0))) (.seq (.reg r19_8) (.ret)))), none⟩

theorem c19 : cFun Tryz.prog ann19 false 19 = some fn19 := by kernel_rfl

/-! 20: modelcheck/race.Source -/

def ann20 : Ann := [{ id := 0, live := [0] },
  { id := 1, live := [0] },
  { id := 2, live := [] },
  { id := 3, live := [0], marks := [(0, { md := .o })] },
  { id := 4, live := [0, 3] },
  { id := 5, live := [0, 3, 9, 10], drop := [0, 3] },
  { id := 6, live := [0, 3, 9, 10] },
  { id := 7, live := [0, 3, 4, 9, 10], marks := [(5, { md := .o })] },
  { id := 8, live := [0, 3, 9, 10] },
  { id := 9, live := [3] }]

@[simp] def r20_0 : AReg := ⟨[0], [], [
    ⟨some 2, .mv (.c .nils), none, false⟩], []⟩
@[simp] def r20_1 : AReg := ⟨[0], [], [
    ⟨some 5, .mv (.t 0), none, false⟩,
    ⟨some 6, .call 40 [((.t 5), false)] true, none, false⟩,
    ⟨some 7, .un .not (.t 6), none, false⟩], []⟩
@[simp] def r20_2 : AReg := ⟨[], [], [
    ⟨some 2, .mv (.c .nils), none, false⟩], []⟩
@[simp] def r20_3 : AReg := ⟨[0], [], [
    ⟨some 3, .mvNil .o 1, none, false⟩], []⟩
@[simp] def r20_4 : AReg := ⟨[0, 3], [], [
    ⟨some 8, .mv (.t 0), none, false⟩,
    ⟨some 9, .len false (.t 8), none, false⟩,
    ⟨some 10, .mv (.c (.dat (.int .i64 0))), none, false⟩], []⟩
@[simp] def r20_5 : AReg := ⟨[0, 3, 9, 10], [0, 3], [
    ⟨some 11, .bin .int .lss (.t 10) (.t 9), none, false⟩], []⟩
@[simp] def r20_6 : AReg := ⟨[0, 3, 9, 10], [], [
    ⟨some 12, .mv (.t 10), none, false⟩,
    ⟨some 4, .mv (.t 12), none, false⟩], []⟩
@[simp] def r20_7 : AReg := ⟨[0, 3, 4, 9, 10], [], [
    ⟨some 13, .mv (.t 3), none, false⟩,
    ⟨some 14, .mv (.t 0), none, false⟩,
    ⟨some 15, .mv (.t 4), none, false⟩,
    ⟨some 16, .call 41 [((.t 14), false), ((.t 15), false)] true, none, false⟩,
    ⟨some 17, .bldS .d 1 [(.t 16)], none, false⟩,
    ⟨some 18, .app .o 1 8 (.t 13) (.t 17), none, false⟩,
    ⟨some 3, .mv (.t 18), none, false⟩], []⟩
@[simp] def r20_8 : AReg := ⟨[0, 3, 9, 10], [], [
    ⟨some 19, .bin .int .add (.t 10) (.c (.dat (.int .i64 1))), none, false⟩,
    ⟨some 10, .mv (.t 19), none, false⟩], []⟩
def l20_0 : AC := .seq (.reg r20_5) (.seq (.cond (.t 11) (.skip) (.exit 0)) (.seq (.block 1 (.seq (.reg r20_6) (.reg r20_7))) (.reg r20_8)))
@[simp] theorem l20_0e (K : Orc) (s : St) : exec K l20_0 s = exec K (.seq (.reg r20_5) (.seq (.cond (.t 11) (.skip) (.exit 0)) (.seq (.block 1 (.seq (.reg r20_6) (.reg r20_7))) (.reg r20_8)))) s := rfl
@[simp] def r20_9 : AReg := ⟨[3], [], [
    ⟨some 20, .mv (.t 3), none, false⟩,
    ⟨some 2, .mv (.t 20), none, false⟩], []⟩
@[simp] def fn20 : AFun := ⟨1, [.t 2], false,
  .seq (.reg r20_0) (.seq (.seq (.reg r20_1) (.cond (.t 7) (.seq (.reg r20_2) (.ret)) (.skip))) (.seq (.reg r20_3) (.seq (.seq (.reg r20_4) (.block 0 (.loop l20_0))) (.seq (.reg r20_9) (.ret))))), none⟩

theorem c20 : cFun Tryz.prog ann20 false 20 = some fn20 := by kernel_rfl

/-! 25: modelcheck/modelchecklaw44.example -/

def ann25 : Ann := [{ id := 0, live := [0, 1] },
  { id := 1, live := [0, 1, 4] }]

@[simp] def r25_0 : AReg := ⟨[0, 1], [], [
    ⟨some 4, .alc [.nils, .nils, .nils, .nils, .nils], none, false⟩], []⟩
@[simp] def r25_1 : AReg := ⟨[0, 1, 4], [], [
    ⟨some 5, .bldS .d 1 [(.c (.dat (.str [109]))), (.c (.dat (.str [110])))], none, false⟩,
    ⟨some 6, .bldS .d 1 [(.c (.dat (.str [99])))], none, false⟩,
    ⟨some 7, .mv (.t 0), none, false⟩,
    ⟨some 8, .bld [(.dat (.str [])), .nils] [(0, 1, (.c (.dat (.str [102])))), (1, 1, (.t 7))], none, false⟩,
    ⟨some 9, .mv (.t 1), none, false⟩,
    ⟨some 10, .bld [(.dat (.str [])), .nils] [(0, 1, (.c (.dat (.str [103])))), (1, 1, (.t 9))], none, false⟩,
    ⟨some 11, .bldS .d 2 [(.t 8), (.t 10)], none, false⟩,
    ⟨some 12, .bld [(.dat (.int .i64 0)), (.dat (.int .i64 0))] [], none, false⟩,
    ⟨some 13, .bld [(.dat (.int .i64 0)), (.dat (.int .i64 0))] [(0, 1, (.c (.dat (.int .i64 1))))], none, false⟩,
    ⟨some 14, .bldS .d 2 [(.t 12), (.t 13)], none, false⟩,
    ⟨some 15, .bld [.nils, .nils, .nils, .nils, .nils] [(1, 1, (.t 5)), (2, 1, (.t 6)), (3, 1, (.t 11)), (4, 1, (.t 14))], none, false⟩,
    ⟨none, .st false 5 (.t 4) (.t 15), none, false⟩], []⟩
@[simp] def fn25 : AFun := ⟨2, [.cell 4 5 true], false,
  .seq (.reg r25_0) (.seq (.reg r25_1) (.ret)), none⟩

theorem c25 : cFun Tryz.prog ann25 false 25 = some fn25 := by kernel_rfl

/-! 26: modelcheck/verdict.Of -/

def ann26 : Ann := [{ id := 0, live := [0, 1, 2] },
  { id := 1, live := [2, 3, 4, 6] },
  { id := 2, live := [2, 3, 4, 6, 8, 9] },
  { id := 3, live := [6, 9] },
  { id := 4, live := [2, 3, 4, 6, 8] },
  { id := 5, live := [6] },
  { id := 6, live := [2, 3, 4, 6, 8] },
  { id := 7, live := [6, 8, 9, 10] },
  { id := 8, live := [6, 9] },
  { id := 9, live := [6, 8, 10] },
  { id := 10, live := [6, 10, 11] },
  { id := 11, live := [6, 11] }]

@[simp] def r26_0 : AReg := ⟨[0, 1, 2], [], [
    ⟨some 3, .box 5 (.t 0), none, false⟩,
    ⟨some 4, .box 2 (.t 1), none, false⟩,
    ⟨some 6, .alc [.nils, .nils, .nils, .nils, .nils], none, false⟩,
    ⟨some 7, .mv (.c (.dat (.int .i64 0))), none, false⟩], []⟩
@[simp] def r26_1 : AReg := ⟨[2, 3, 4, 6], [], [
    ⟨some 13, .ld 5 true (.t 3), none, false⟩,
    ⟨some 14, .ld 2 true (.t 4), none, false⟩,
    ⟨some 15, .mv (.t 2), none, false⟩,
    ⟨some 16, .call 48 [((.t 13), false), ((.t 14), false), ((.t 15), false)] false, none, false⟩,
    ⟨some 12, .mv (.t 16), none, false⟩,
    ⟨some 17, .ext 0 (.t 12), none, false⟩,
    ⟨some 18, .ext 1 (.t 12), none, false⟩,
    ⟨some 8, .alc [.nils, .nils, .nils, .nils, .nils, .nils, .nils], none, false⟩,
    ⟨none, .st false 7 (.t 8) (.t 17), none, false⟩,
    ⟨some 9, .mv (.t 18), none, false⟩], []⟩
@[simp] def r26_2 : AReg := ⟨[2, 3, 4, 6, 8, 9], [], [
    ⟨some 19, .mv (.t 9), none, false⟩,
    ⟨some 20, .bin .int .neq (.t 19) (.c (.dat (.int .i64 0))), none, false⟩], []⟩
@[simp] def r26_3 : AReg := ⟨[6, 9], [], [
    ⟨some 21, .bld [.nils, .nils, .nils, .nils, .nils] [], none, false⟩,
    ⟨some 22, .mv (.t 9), none, false⟩,
    ⟨none, .st false 5 (.t 6) (.t 21), none, false⟩,
    ⟨some 7, .mv (.t 22), none, false⟩], []⟩
@[simp] def r26_4 : AReg := ⟨[2, 3, 4, 6, 8], [], [
    ⟨some 23, .ld 5 true (.t 3), none, false⟩,
    ⟨some 24, .ld 2 true (.t 4), none, false⟩,
    ⟨some 25, .fAddr 1 (.t 8), none, false⟩,
    ⟨some 26, .ld 6 true (.t 25), none, false⟩,
    ⟨some 27, .call 49 [((.t 23), false), ((.t 24), false), ((.t 26), false)] false, none, false⟩,
    ⟨some 28, .len false (.t 27), none, false⟩,
    ⟨some 29, .bin .int .gtr (.t 28) (.c (.dat (.int .i64 0))), none, false⟩], []⟩
@[simp] def r26_5 : AReg := ⟨[6], [], [
    ⟨some 30, .bld [.nils, .nils, .nils, .nils, .nils] [], none, false⟩,
    ⟨none, .st false 5 (.t 6) (.t 30), none, false⟩,
    ⟨some 7, .mv (.c (.dat (.int .i64 30))), none, false⟩], []⟩
@[simp] def r26_6 : AReg := ⟨[2, 3, 4, 6, 8], [], [
    ⟨some 32, .ld 5 true (.t 3), none, false⟩,
    ⟨some 33, .ld 2 true (.t 4), none, false⟩,
    ⟨some 34, .mv (.t 2), none, false⟩,
    ⟨some 35, .call 31 [((.t 32), false), ((.t 33), false), ((.t 34), false)] false, none, false⟩,
    ⟨some 31, .mv (.t 35), none, false⟩,
    ⟨some 36, .ext 0 (.t 31), none, false⟩,
    ⟨some 37, .ext 1 (.t 31), none, false⟩,
    ⟨some 10, .mv (.t 36), none, false⟩,
    ⟨some 9, .mv (.t 37), none, false⟩], []⟩
@[simp] def r26_7 : AReg := ⟨[6, 8, 9, 10], [], [
    ⟨some 38, .mv (.t 9), none, false⟩,
    ⟨some 39, .bin .int .neq (.t 38) (.c (.dat (.int .i64 0))), none, false⟩], []⟩
@[simp] def r26_8 : AReg := ⟨[6, 9], [], [
    ⟨some 40, .bld [.nils, .nils, .nils, .nils, .nils] [], none, false⟩,
    ⟨some 41, .mv (.t 9), none, false⟩,
    ⟨none, .st false 5 (.t 6) (.t 40), none, false⟩,
    ⟨some 7, .mv (.t 41), none, false⟩], []⟩
@[simp] def r26_9 : AReg := ⟨[6, 8, 10], [], [
    ⟨some 42, .fAddr 1 (.t 8), none, false⟩,
    ⟨some 43, .fAddr 0 (.t 42), none, false⟩,
    ⟨some 44, .ld 1 false (.t 43), none, false⟩,
    ⟨some 45, .fAddr 1 (.t 8), none, false⟩,
    ⟨some 46, .fAddr 1 (.t 45), none, false⟩,
    ⟨some 47, .ld 4 true (.t 46), none, false⟩,
    ⟨some 48, .call 50 [((.t 44), false), ((.t 47), false)] false, none, false⟩,
    ⟨some 11, .alc [.nils, .nils, .nils, .nils, .nils], none, false⟩,
    ⟨none, .st false 5 (.t 11) (.t 48), none, false⟩], []⟩
@[simp] def r26_10 : AReg := ⟨[6, 10, 11], [], [
    ⟨some 49, .mv (.t 10), none, false⟩,
    ⟨some 50, .fAddr 4 (.t 11), none, false⟩,
    ⟨none, .st false 1 (.t 50) (.t 49), none, false⟩], []⟩
@[simp] def r26_11 : AReg := ⟨[6, 11], [], [
    ⟨some 51, .ld 5 true (.t 11), none, false⟩,
    ⟨none, .st false 5 (.t 6) (.t 51), none, false⟩,
    ⟨some 7, .mv (.c (.dat (.int .i64 0))), none, false⟩], []⟩
@[simp] def fn26 : AFun := ⟨3, [.cell 6 5 true, .t 7], false,
  .seq (.reg r26_0) (.seq (.reg r26_1) (.seq (.seq (.reg r26_2) (.cond (.t 20) (.seq (.reg r26_3) (.ret)) (.skip))) (.seq (.seq (.reg r26_4) (.cond (.t 29) (.seq (.reg r26_5) (.ret)) (.skip))) (.seq (.reg r26_6) (.seq (.seq (.reg r26_7) (.cond (.t 39) (.seq (.reg r26_8) (.ret)) (.skip))) (.seq (.reg r26_9) (.seq (.reg r26_10) (.seq (.reg r26_11) (.ret))))))))), none⟩

theorem c26 : cFun Tryz.prog ann26 false 26 = some fn26 := by kernel_rfl

/-! 27: modelcheck/verdict.chosen[modelcheck/api.Bug] -/

def ann27 : Ann := [{ id := 0, live := [0, 1] },
  { id := 1, live := [0, 1], marks := [(0, { md := .o })] },
  { id := 2, live := [0, 1, 5] },
  { id := 3, live := [1, 5, 8, 9, 10], drop := [1, 5, 8] },
  { id := 4, live := [1, 5, 8, 9, 10] },
  { id := 5, live := [1, 5, 7, 8, 9, 10] },
  { id := 6, live := [1, 5, 7, 8, 9, 10], marks := [(3, { md := .o })] },
  { id := 7, live := [1, 5, 8, 9, 10] },
  { id := 8, live := [5] }]

@[simp] def r27_0 : AReg := ⟨[0, 1], [], [
    ⟨some 4, .mv (.c .nils), none, false⟩], []⟩
@[simp] def r27_1 : AReg := ⟨[0, 1], [], [
    ⟨some 5, .mvNil .o 1, none, false⟩], []⟩
@[simp] def r27_2 : AReg := ⟨[0, 1, 5], [], [
    ⟨some 8, .mv (.t 0), none, false⟩,
    ⟨some 9, .len false (.t 8), none, false⟩,
    ⟨some 10, .mv (.c (.dat (.int .i64 0))), none, false⟩], []⟩
@[simp] def r27_3 : AReg := ⟨[1, 5, 8, 9, 10], [1, 5, 8], [
    ⟨some 11, .bin .int .lss (.t 10) (.t 9), none, false⟩], []⟩
@[simp] def r27_4 : AReg := ⟨[1, 5, 8, 9, 10], [], [
    ⟨some 12, .iAddr 1 (.t 8) (.t 10), none, false⟩,
    ⟨some 13, .ld 1 false (.t 12), none, false⟩,
    ⟨some 7, .mv (.t 13), none, false⟩], []⟩
@[simp] def r27_5 : AReg := ⟨[1, 5, 7, 8, 9, 10], [], [
    ⟨some 14, .mv (.t 1), none, false⟩,
    ⟨some 15, .mv (.t 7), none, false⟩,
    ⟨some 16, .callV (.t 14) [((.t 15), false)] true, none, false⟩], []⟩
@[simp] def r27_6 : AReg := ⟨[1, 5, 7, 8, 9, 10], [], [
    ⟨some 17, .mv (.t 5), none, false⟩,
    ⟨some 18, .mv (.t 7), none, false⟩,
    ⟨some 19, .bldS .d 1 [(.t 18)], none, false⟩,
    ⟨some 20, .app .o 1 8 (.t 17) (.t 19), none, false⟩,
    ⟨some 5, .mv (.t 20), none, false⟩], []⟩
@[simp] def r27_7 : AReg := ⟨[1, 5, 8, 9, 10], [], [
    ⟨some 21, .bin .int .add (.t 10) (.c (.dat (.int .i64 1))), none, false⟩,
    ⟨some 10, .mv (.t 21), none, false⟩], []⟩
def l27_0 : AC := .seq (.reg r27_3) (.seq (.cond (.t 11) (.skip) (.exit 0)) (.seq (.block 1 (.seq (.reg r27_4) (.seq (.reg r27_5) (.cond (.t 16) (.reg r27_6) (.skip))))) (.reg r27_7)))
@[simp] theorem l27_0e (K : Orc) (s : St) : exec K l27_0 s = exec K (.seq (.reg r27_3) (.seq (.cond (.t 11) (.skip) (.exit 0)) (.seq (.block 1 (.seq (.reg r27_4) (.seq (.reg r27_5) (.cond (.t 16) (.reg r27_6) (.skip))))) (.reg r27_7)))) s := rfl
@[simp] def r27_8 : AReg := ⟨[5], [], [
    ⟨some 22, .mv (.t 5), none, false⟩,
    ⟨some 4, .mv (.t 22), none, false⟩], []⟩
@[simp] def fn27 : AFun := ⟨2, [.t 4], false,
  .seq (.reg r27_0) (.seq (.reg r27_1) (.seq (.seq (.reg r27_2) (.block 0 (.loop l27_0))) (.seq (.reg r27_8) (.ret)))), none⟩

theorem c27 : cFun Tryz.prog ann27 false 27 = some fn27 := by kernel_rfl

/-! 28: modelcheck/verdict.Bugs$1 -/

def ann28 : Ann := [{ id := 0, live := [0, 1] },
  { id := 1, live := [0, 1] },
  { id := 2, live := [0, 1] },
  { id := 4, live := [1, 5] },
  { id := 5, live := [1] },
  { id := 6, live := [1, 5] },
  { id := 7, live := [1] },
  { id := 8, live := [1, 5] },
  { id := 9, live := [1] },
  { id := 3, live := [1] },
  { id := 10, live := [4] }]

@[simp] def r28_0 : AReg := ⟨[0, 1], [], [
    ⟨some 3, .mv (.c (.dat (.bool false))), none, false⟩], []⟩
@[simp] def r28_1 : AReg := ⟨[0, 1], [], [
    ⟨some 4, .mv (.c (.dat (.int .i64 0))), none, false⟩], []⟩
@[simp] def r28_2 : AReg := ⟨[0, 1], [], [
    ⟨some 5, .mv (.t 0), none, false⟩], []⟩
@[simp] def r28_3 : AReg := ⟨[1, 5], [], [
    ⟨some 10, .bin .int .eql (.t 5) (.c (.dat (.int .i64 1))), none, false⟩,
    ⟨some 9, .mv (.t 10), none, false⟩], []⟩
@[simp] def r28_4 : AReg := ⟨[1], [], [
    ⟨some 11, .fAddr 0 (.t 1), none, false⟩,
    ⟨some 12, .ld 1 false (.t 11), none, false⟩,
    ⟨some 13, .len false (.t 12), none, false⟩,
    ⟨some 4, .mv (.t 13), none, false⟩], []⟩
@[simp] def r28_5 : AReg := ⟨[1, 5], [], [
    ⟨some 15, .bin .int .eql (.t 5) (.c (.dat (.int .i64 3))), none, false⟩,
    ⟨some 14, .mv (.t 15), none, false⟩], []⟩
@[simp] def r28_6 : AReg := ⟨[1], [], [
    ⟨some 16, .fAddr 2 (.t 1), none, false⟩,
    ⟨some 17, .ld 1 false (.t 16), none, false⟩,
    ⟨some 18, .len false (.t 17), none, false⟩,
    ⟨some 4, .mv (.t 18), none, false⟩], []⟩
@[simp] def r28_7 : AReg := ⟨[1, 5], [], [
    ⟨some 20, .bin .int .eql (.t 5) (.c (.dat (.int .i64 4))), none, false⟩,
    ⟨some 19, .mv (.t 20), none, false⟩], []⟩
@[simp] def r28_8 : AReg := ⟨[1], [], [
    ⟨some 21, .fAddr 4 (.t 1), none, false⟩,
    ⟨some 22, .ld 1 false (.t 21), none, false⟩,
    ⟨some 23, .len false (.t 22), none, false⟩,
    ⟨some 4, .mv (.t 23), none, false⟩], []⟩
@[simp] def r28_9 : AReg := ⟨[1], [], [
    ⟨some 6, .fAddr 1 (.t 1), none, false⟩,
    ⟨some 7, .ld 1 false (.t 6), none, false⟩,
    ⟨some 8, .len false (.t 7), none, false⟩,
    ⟨some 4, .mv (.t 8), none, false⟩], []⟩
@[simp] def r28_10 : AReg := ⟨[4], [], [
    ⟨some 24, .mv (.t 4), none, false⟩,
    ⟨some 25, .bin .int .gtr (.t 24) (.c (.dat (.int .i64 0))), none, false⟩,
    ⟨some 3, .mv (.t 25), none, false⟩], []⟩
@[simp] def fn28 : AFun := ⟨2, [.t 3], false,
  .seq (.reg r28_0) (.seq (.reg r28_1) (.seq (.seq (.reg r28_2) (.block 0 (.seq (.reg r28_3) (.cond (.t 9) (.reg r28_4) (.seq (.reg r28_5) (.cond (.t 14) (.reg r28_6) (.seq (.reg r28_7) (.cond (.t 19) (.reg r28_8) (.reg r28_9))))))))) (.seq (.reg r28_10) (.ret)))), none⟩

theorem c28 : cFun Tryz.prog ann28 false 28 = some fn28 := by kernel_rfl

/-! 29: slices.Equal[[]int,int] -/

def ann29 : Ann := [{ id := 0, live := [0, 1] },
  { id := 1, live := [0, 1] },
  { id := 2, live := [] },
  { id := 3, live := [0, 1] },
  { id := 4, live := [0, 1, 12, 13] },
  { id := 5, live := [0, 1, 12, 13] },
  { id := 6, live := [0, 1, 5, 12, 13] },
  { id := 7, live := [] },
  { id := 8, live := [0, 1, 12, 13] },
  { id := 9, live := [] }]

@[simp] def r29_0 : AReg := ⟨[0, 1], [], [
    ⟨some 4, .mv (.c (.dat (.bool false))), none, false⟩], []⟩
@[simp] def r29_1 : AReg := ⟨[0, 1], [], [
    ⟨some 6, .mv (.t 0), none, false⟩,
    ⟨some 7, .len false (.t 6), none, false⟩,
    ⟨some 8, .mv (.t 1), none, false⟩,
    ⟨some 9, .len false (.t 8), none, false⟩,
    ⟨some 10, .bin .int .neq (.t 7) (.t 9), none, false⟩], []⟩
@[simp] def r29_2 : AReg := ⟨[], [], [
    ⟨some 4, .mv (.c (.dat (.bool false))), none, false⟩], []⟩
@[simp] def r29_3 : AReg := ⟨[0, 1], [], [
    ⟨some 11, .mv (.t 0), none, false⟩,
    ⟨some 12, .len false (.t 11), none, false⟩,
    ⟨some 13, .mv (.c (.dat (.int .i64 0))), none, false⟩], []⟩
@[simp] def r29_4 : AReg := ⟨[0, 1, 12, 13], [], [
    ⟨some 14, .bin .int .lss (.t 13) (.t 12), none, false⟩], []⟩
@[simp] def r29_5 : AReg := ⟨[0, 1, 12, 13], [], [
    ⟨some 15, .mv (.t 13), none, false⟩,
    ⟨some 5, .mv (.t 15), none, false⟩], []⟩
@[simp] def r29_6 : AReg := ⟨[0, 1, 5, 12, 13], [], [
    ⟨some 16, .mv (.t 0), none, false⟩,
    ⟨some 17, .mv (.t 5), none, false⟩,
    ⟨some 18, .iAddr 1 (.t 16) (.t 17), none, false⟩,
    ⟨some 19, .ld 1 false (.t 18), none, false⟩,
    ⟨some 20, .mv (.t 1), none, false⟩,
    ⟨some 21, .mv (.t 5), none, false⟩,
    ⟨some 22, .iAddr 1 (.t 20) (.t 21), none, false⟩,
    ⟨some 23, .ld 1 false (.t 22), none, false⟩,
    ⟨some 24, .bin .int .neq (.t 19) (.t 23), none, false⟩], []⟩
@[simp] def r29_7 : AReg := ⟨[], [], [
    ⟨some 4, .mv (.c (.dat (.bool false))), none, false⟩], []⟩
@[simp] def r29_8 : AReg := ⟨[0, 1, 12, 13], [], [
    ⟨some 25, .bin .int .add (.t 13) (.c (.dat (.int .i64 1))), none, false⟩,
    ⟨some 13, .mv (.t 25), none, false⟩], []⟩
def l29_0 : AC := .seq (.reg r29_4) (.seq (.cond (.t 14) (.skip) (.exit 0)) (.seq (.block 1 (.seq (.reg r29_5) (.seq (.reg r29_6) (.cond (.t 24) (.seq (.reg r29_7) (.ret)) (.skip))))) (.reg r29_8)))
@[simp] theorem l29_0e (K : Orc) (s : St) : exec K l29_0 s = exec K (.seq (.reg r29_4) (.seq (.cond (.t 14) (.skip) (.exit 0)) (.seq (.block 1 (.seq (.reg r29_5) (.seq (.reg r29_6) (.cond (.t 24) (.seq (.reg r29_7) (.ret)) (.skip))))) (.reg r29_8)))) s := rfl
@[simp] def r29_9 : AReg := ⟨[], [], [
    ⟨some 4, .mv (.c (.dat (.bool true))), none, false⟩], []⟩
@[simp] def fn29 : AFun := ⟨2, [.t 4], false,
  .seq (.reg r29_0) (.seq (.seq (.reg r29_1) (.cond (.t 10) (.seq (.reg r29_2) (.ret)) (.skip))) (.seq (.seq (.reg r29_3) (.block 0 (.loop l29_0))) (.seq (.reg r29_9) (.ret)))), none⟩

theorem c29 : cFun Tryz.prog ann29 false 29 = some fn29 := by kernel_rfl

/-! 30: slices.Equal[[]modelcheck/api.RaceReport,modelcheck/api.RaceReport] -/

def ann30 : Ann := [{ id := 0, live := [0, 1] },
  { id := 1, live := [0, 1] },
  { id := 2, live := [] },
  { id := 3, live := [0, 1] },
  { id := 4, live := [0, 1, 12, 13] },
  { id := 5, live := [0, 1, 12, 13] },
  { id := 6, live := [0, 1, 5, 12, 13] },
  { id := 7, live := [] },
  { id := 8, live := [0, 1, 12, 13] },
  { id := 9, live := [] }]

@[simp] def r30_0 : AReg := ⟨[0, 1], [], [
    ⟨some 4, .mv (.c (.dat (.bool false))), none, false⟩], []⟩
@[simp] def r30_1 : AReg := ⟨[0, 1], [], [
    ⟨some 6, .mv (.t 0), none, false⟩,
    ⟨some 7, .len false (.t 6), none, false⟩,
    ⟨some 8, .mv (.t 1), none, false⟩,
    ⟨some 9, .len false (.t 8), none, false⟩,
    ⟨some 10, .bin .int .neq (.t 7) (.t 9), none, false⟩], []⟩
@[simp] def r30_2 : AReg := ⟨[], [], [
    ⟨some 4, .mv (.c (.dat (.bool false))), none, false⟩], []⟩
@[simp] def r30_3 : AReg := ⟨[0, 1], [], [
    ⟨some 11, .mv (.t 0), none, false⟩,
    ⟨some 12, .len false (.t 11), none, false⟩,
    ⟨some 13, .mv (.c (.dat (.int .i64 0))), none, false⟩], []⟩
@[simp] def r30_4 : AReg := ⟨[0, 1, 12, 13], [], [
    ⟨some 14, .bin .int .lss (.t 13) (.t 12), none, false⟩], []⟩
@[simp] def r30_5 : AReg := ⟨[0, 1, 12, 13], [], [
    ⟨some 15, .mv (.t 13), none, false⟩,
    ⟨some 5, .mv (.t 15), none, false⟩], []⟩
@[simp] def r30_6 : AReg := ⟨[0, 1, 5, 12, 13], [], [
    ⟨some 16, .mv (.t 0), none, false⟩,
    ⟨some 17, .mv (.t 5), none, false⟩,
    ⟨some 18, .iAddr 2 (.t 16) (.t 17), none, false⟩,
    ⟨some 19, .ld 2 true (.t 18), none, false⟩,
    ⟨some 20, .mv (.t 1), none, false⟩,
    ⟨some 21, .mv (.t 5), none, false⟩,
    ⟨some 22, .iAddr 2 (.t 20) (.t 21), none, false⟩,
    ⟨some 23, .ld 2 true (.t 22), none, false⟩,
    ⟨some 24, .bin (.agg [.int .i64, .int .i64]) .neq (.t 19) (.t 23), none, false⟩], []⟩
@[simp] def r30_7 : AReg := ⟨[], [], [
    ⟨some 4, .mv (.c (.dat (.bool false))), none, false⟩], []⟩
@[simp] def r30_8 : AReg := ⟨[0, 1, 12, 13], [], [
    ⟨some 25, .bin .int .add (.t 13) (.c (.dat (.int .i64 1))), none, false⟩,
    ⟨some 13, .mv (.t 25), none, false⟩], []⟩
def l30_0 : AC := .seq (.reg r30_4) (.seq (.cond (.t 14) (.skip) (.exit 0)) (.seq (.block 1 (.seq (.reg r30_5) (.seq (.reg r30_6) (.cond (.t 24) (.seq (.reg r30_7) (.ret)) (.skip))))) (.reg r30_8)))
@[simp] theorem l30_0e (K : Orc) (s : St) : exec K l30_0 s = exec K (.seq (.reg r30_4) (.seq (.cond (.t 14) (.skip) (.exit 0)) (.seq (.block 1 (.seq (.reg r30_5) (.seq (.reg r30_6) (.cond (.t 24) (.seq (.reg r30_7) (.ret)) (.skip))))) (.reg r30_8)))) s := rfl
@[simp] def r30_9 : AReg := ⟨[], [], [
    ⟨some 4, .mv (.c (.dat (.bool true))), none, false⟩], []⟩
@[simp] def fn30 : AFun := ⟨2, [.t 4], false,
  .seq (.reg r30_0) (.seq (.seq (.reg r30_1) (.cond (.t 10) (.seq (.reg r30_2) (.ret)) (.skip))) (.seq (.seq (.reg r30_3) (.block 0 (.loop l30_0))) (.seq (.reg r30_9) (.ret)))), none⟩

theorem c30 : cFun Tryz.prog ann30 false 30 = some fn30 := by kernel_rfl

/-! 31: modelcheck/race.Of -/

def ann31 : Ann := [{ id := 0, live := [0, 1, 2] },
  { id := 1, live := [2, 3, 4] },
  { id := 2, live := [8, 9] },
  { id := 3, live := [9] },
  { id := 4, live := [8] },
  { id := 5, live := [10], marks := [(0, { md := .o })] },
  { id := 6, live := [10, 11] },
  { id := 7, live := [10, 11, 28, 29, 30], drop := [10, 11, 28] },
  { id := 8, live := [10, 11, 28, 29, 30] },
  { id := 9, live := [10, 11, 12, 13, 28, 29, 30] },
  { id := 10, live := [10, 11, 12, 13, 14, 28, 29, 30], drop := [10, 11, 13, 28] },
  { id := 12, live := [10, 11, 12, 13, 14, 28, 29, 30] },
  { id := 13, live := [10, 11, 12, 13, 14, 28, 29, 30], marks := [(5, { md := .o })] },
  { id := 11, live := [10, 11, 12, 13, 14, 28, 29, 30] },
  { id := 14, live := [10, 11, 28, 29, 30] },
  { id := 15, live := [11] }]

@[simp] def r31_0 : AReg := ⟨[0, 1, 2], [], [
    ⟨some 3, .box 5 (.t 0), none, false⟩,
    ⟨some 4, .box 2 (.t 1), none, false⟩,
    ⟨some 6, .mv (.c .nils), none, false⟩,
    ⟨some 7, .mv (.c (.dat (.int .i64 0))), none, false⟩], []⟩
@[simp] def r31_1 : AReg := ⟨[2, 3, 4], [], [
    ⟨some 16, .ld 5 true (.t 3), none, false⟩,
    ⟨some 17, .ld 2 true (.t 4), none, false⟩,
    ⟨some 18, .mv (.t 2), none, false⟩,
    ⟨some 19, .call 48 [((.t 16), false), ((.t 17), false), ((.t 18), false)] false, none, false⟩,
    ⟨some 15, .mv (.t 19), none, false⟩,
    ⟨some 20, .ext 0 (.t 15), none, false⟩,
    ⟨some 21, .ext 1 (.t 15), none, false⟩,
    ⟨some 8, .alc [.nils, .nils, .nils, .nils, .nils, .nils, .nils], none, false⟩,
    ⟨none, .st false 7 (.t 8) (.t 20), none, false⟩,
    ⟨some 9, .mv (.t 21), none, false⟩], []⟩
@[simp] def r31_2 : AReg := ⟨[8, 9], [], [
    ⟨some 22, .mv (.t 9), none, false⟩,
    ⟨some 23, .bin .int .neq (.t 22) (.c (.dat (.int .i64 0))), none, false⟩], []⟩
@[simp] def r31_3 : AReg := ⟨[9], [], [
    ⟨some 24, .mv (.t 9), none, false⟩,
    ⟨some 6, .mv (.c .nils), none, false⟩,
    ⟨some 7, .mv (.t 24), none, false⟩], []⟩
@[simp] def r31_4 : AReg := ⟨[8], [], [
    ⟨some 25, .fAddr 0 (.t 8), none, false⟩,
    ⟨some 26, .ld 1 false (.t 25), none, false⟩,
    ⟨some 27, .call 45 [((.t 26), false)] false, none, false⟩,
    ⟨some 10, .mv (.t 27), none, false⟩], []⟩
@[simp] def r31_5 : AReg := ⟨[10], [], [
    ⟨some 11, .mvNil .o 2, none, false⟩], []⟩
@[simp] def r31_6 : AReg := ⟨[10, 11], [], [
    ⟨some 28, .mv (.t 10), none, false⟩,
    ⟨some 29, .len false (.t 28), none, false⟩,
    ⟨some 30, .mv (.c (.dat (.int .i64 0))), none, false⟩], []⟩
@[simp] def r31_7 : AReg := ⟨[10, 11, 28, 29, 30], [10, 11, 28], [
    ⟨some 31, .bin .int .lss (.t 30) (.t 29), none, false⟩], []⟩
@[simp] def r31_8 : AReg := ⟨[10, 11, 28, 29, 30], [], [
    ⟨some 32, .mv (.t 30), none, false⟩,
    ⟨some 33, .iAddr 10 (.t 28) (.t 30), none, false⟩,
    ⟨some 34, .ld 10 true (.t 33), none, false⟩,
    ⟨some 13, .alc [(.dat (.int .i64 0)), (.dat (.int .i64 0)), (.dat (.int .i64 0)), (.dat (.int .i64 0)), (.dat (.int .i64 0)), (.dat (.int .i64 0)), (.dat (.int .i64 0)), (.dat (.int .i64 0)), (.dat (.int .i64 0)), .nils], none, false⟩,
    ⟨some 12, .mv (.t 32), none, false⟩,
    ⟨none, .st false 10 (.t 13) (.t 34), none, false⟩], []⟩
@[simp] def r31_9 : AReg := ⟨[10, 11, 12, 13, 28, 29, 30], [], [
    ⟨some 35, .mv (.t 12), none, false⟩,
    ⟨some 36, .bin .int .add (.t 35) (.c (.dat (.int .i64 1))), none, false⟩,
    ⟨some 14, .mv (.t 36), none, false⟩], []⟩
@[simp] def r31_10 : AReg := ⟨[10, 11, 12, 13, 14, 28, 29, 30], [10, 11, 13, 28], [
    ⟨some 37, .mv (.t 14), none, false⟩,
    ⟨some 38, .mv (.t 10), none, false⟩,
    ⟨some 39, .len false (.t 38), none, false⟩,
    ⟨some 40, .bin .int .lss (.t 37) (.t 39), none, false⟩], []⟩
@[simp] def r31_11 : AReg := ⟨[10, 11, 12, 13, 14, 28, 29, 30], [], [
    ⟨some 43, .fAddr 0 (.t 13), none, false⟩,
    ⟨some 44, .ld 9 true (.t 43), none, false⟩,
    ⟨some 45, .mv (.t 10), none, false⟩,
    ⟨some 46, .mv (.t 14), none, false⟩,
    ⟨some 47, .iAddr 10 (.t 45) (.t 46), none, false⟩,
    ⟨some 48, .fAddr 0 (.t 47), none, false⟩,
    ⟨some 49, .ld 9 true (.t 48), none, false⟩,
    ⟨some 50, .call 35 [((.t 44), false), ((.t 49), false)] true, none, false⟩,
    ⟨some 51, .mv (.t 50), none, false⟩,
    ⟨some 52, .fAddr 9 (.t 13), some (51, true), false⟩,
    ⟨some 53, .ld 1 false (.t 52), some (51, true), false⟩,
    ⟨some 54, .mv (.t 10), some (51, true), false⟩,
    ⟨some 55, .mv (.t 14), some (51, true), false⟩,
    ⟨some 56, .iAddr 10 (.t 54) (.t 55), some (51, true), false⟩,
    ⟨some 57, .fAddr 9 (.t 56), some (51, true), false⟩,
    ⟨some 58, .ld 1 false (.t 57), some (51, true), false⟩,
    ⟨some 59, .call 51 [((.t 53), false), ((.t 58), false)] true, some (51, true), false⟩,
    ⟨some 60, .un .not (.t 59), some (51, true), false⟩,
    ⟨some 61, .pick (.t 51) (.t 60) (.c (.dat (.bool false))), none, false⟩], []⟩
@[simp] def r31_12 : AReg := ⟨[10, 11, 12, 13, 14, 28, 29, 30], [], [
    ⟨some 62, .mv (.t 11), none, false⟩,
    ⟨some 63, .mv (.t 12), none, false⟩,
    ⟨some 64, .mv (.t 14), none, false⟩,
    ⟨some 65, .bld [(.dat (.int .i64 0)), (.dat (.int .i64 0))] [(0, 1, (.t 63)), (1, 1, (.t 64))], none, false⟩,
    ⟨some 66, .bldS .d 2 [(.t 65)], none, false⟩,
    ⟨some 67, .app .o 2 16 (.t 62) (.t 66), none, false⟩,
    ⟨some 11, .mv (.t 67), none, false⟩], []⟩
@[simp] def r31_13 : AReg := ⟨[10, 11, 12, 13, 14, 28, 29, 30], [], [
    ⟨some 41, .mv (.t 14), none, false⟩,
    ⟨some 42, .bin .int .add (.t 41) (.c (.dat (.int .i64 1))), none, false⟩,
    ⟨some 14, .mv (.t 42), none, false⟩], []⟩
def l31_0 : AC := .seq (.seq (.reg r31_10) (.cond (.t 40) (.skip) (.exit 2))) (.seq (.block 3 (.seq (.reg r31_11) (.cond (.t 61) (.reg r31_12) (.skip)))) (.reg r31_13))
@[simp] theorem l31_0e (K : Orc) (s : St) : exec K l31_0 s = exec K (.seq (.seq (.reg r31_10) (.cond (.t 40) (.skip) (.exit 2))) (.seq (.block 3 (.seq (.reg r31_11) (.cond (.t 61) (.reg r31_12) (.skip)))) (.reg r31_13))) s := rfl
@[simp] def r31_14 : AReg := ⟨[10, 11, 28, 29, 30], [], [
    ⟨some 68, .bin .int .add (.t 30) (.c (.dat (.int .i64 1))), none, false⟩,
    ⟨some 30, .mv (.t 68), none, false⟩], []⟩
def l31_1 : AC := .seq (.reg r31_7) (.seq (.cond (.t 31) (.skip) (.exit 0)) (.seq (.block 1 (.seq (.reg r31_8) (.seq (.reg r31_9) (.block 2 (.loop l31_0))))) (.reg r31_14)))
@[simp] theorem l31_1e (K : Orc) (s : St) : exec K l31_1 s = exec K (.seq (.reg r31_7) (.seq (.cond (.t 31) (.skip) (.exit 0)) (.seq (.block 1 (.seq (.reg r31_8) (.seq (.reg r31_9) (.block 2 (.loop l31_0))))) (.reg r31_14)))) s := rfl
@[simp] def r31_15 : AReg := ⟨[11], [], [
    ⟨some 69, .mv (.t 11), none, false⟩,
    ⟨some 6, .mv (.t 69), none, false⟩,
    ⟨some 7, .mv (.c (.dat (.int .i64 0))), none, false⟩], []⟩
@[simp] def fn31 : AFun := ⟨3, [.t 6, .t 7], false,
  .seq (.reg r31_0) (.seq (.reg r31_1) (.seq (.seq (.reg r31_2) (.cond (.t 23) (.seq (.reg r31_3) (.ret)) (.skip))) (.seq (.reg r31_4) (.seq (.reg r31_5) (.seq (.seq (.reg r31_6) (.block 0 (.loop l31_1))) (.seq (.reg r31_15) (.ret))))))), none⟩

theorem c31 : cFun Tryz.prog ann31 false 31 = some fn31 := by kernel_rfl

/-! 35: modelcheck/race.conflict -/

def ann35 : Ann := [{ id := 0, live := [0, 1] },
  { id := 1, live := [2, 3] },
  { id := 2, live := [] },
  { id := 3, live := [2, 3] }]

@[simp] def r35_0 : AReg := ⟨[0, 1], [], [
    ⟨some 2, .box 9 (.t 0), none, false⟩,
    ⟨some 3, .box 9 (.t 1), none, false⟩,
    ⟨some 4, .mv (.c (.dat (.bool false))), none, false⟩], []⟩
@[simp] def r35_1 : AReg := ⟨[2, 3], [], [
    ⟨some 5, .fAddr 0 (.t 2), none, false⟩,
    ⟨some 6, .ld 1 false (.t 5), none, false⟩,
    ⟨some 7, .fAddr 0 (.t 3), none, false⟩,
    ⟨some 8, .ld 1 false (.t 7), none, false⟩,
    ⟨some 9, .bin .int .eql (.t 6) (.t 8), none, false⟩,
    ⟨some 10, .mv (.t 9), none, false⟩,
    ⟨some 11, .ld 9 true (.t 2), some (10, false), false⟩,
    ⟨some 12, .call 61 [((.t 11), false)] true, some (10, false), false⟩,
    ⟨some 13, .un .not (.t 12), some (10, false), false⟩,
    ⟨some 14, .pick (.t 10) (.c (.dat (.bool true))) (.t 13), none, false⟩,
    ⟨some 15, .mv (.t 14), none, false⟩,
    ⟨some 16, .ld 9 true (.t 3), some (15, false), false⟩,
    ⟨some 17, .call 61 [((.t 16), false)] true, some (15, false), false⟩,
    ⟨some 18, .un .not (.t 17), some (15, false), false⟩,
    ⟨some 19, .pick (.t 15) (.c (.dat (.bool true))) (.t 18), none, false⟩,
    ⟨some 20, .mv (.t 19), none, false⟩,
    ⟨some 21, .fAddr 3 (.t 2), some (20, false), false⟩,
    ⟨some 22, .ld 1 false (.t 21), some (20, false), false⟩,
    ⟨some 23, .fAddr 3 (.t 3), some (20, false), false⟩,
    ⟨some 24, .ld 1 false (.t 23), some (20, false), false⟩,
    ⟨some 25, .bin .int .neq (.t 22) (.t 24), some (20, false), false⟩,
    ⟨some 26, .pick (.t 20) (.c (.dat (.bool true))) (.t 25), none, false⟩], []⟩
@[simp] def r35_2 : AReg := ⟨[], [], [
    ⟨some 4, .mv (.c (.dat (.bool false))), none, false⟩], []⟩
@[simp] def r35_3 : AReg := ⟨[2, 3], [], [
    ⟨some 27, .ld 9 true (.t 2), none, false⟩,
    ⟨some 28, .call 62 [((.t 27), false)] true, none, false⟩,
    ⟨some 29, .mv (.t 28), none, false⟩,
    ⟨some 30, .ld 9 true (.t 3), some (29, false), false⟩,
    ⟨some 31, .call 62 [((.t 30), false)] true, some (29, false), false⟩,
    ⟨some 32, .pick (.t 29) (.c (.dat (.bool true))) (.t 31), none, false⟩,
    ⟨some 33, .mv (.t 32), none, false⟩,
    ⟨some 34, .fAddr 6 (.t 2), some (33, true), false⟩,
    ⟨some 35, .ld 1 false (.t 34), some (33, true), false⟩,
    ⟨some 36, .bin .int .eql (.t 35) (.c (.dat (.int .i64 0))), some (33, true), false⟩,
    ⟨some 37, .mv (.t 36), some (33, true), false⟩,
    ⟨some 38, .fAddr 6 (.t 3), some (37, false), false⟩,
    ⟨some 39, .ld 1 false (.t 38), some (37, false), false⟩,
    ⟨some 40, .bin .int .eql (.t 39) (.c (.dat (.int .i64 0))), some (37, false), false⟩,
    ⟨some 41, .pick (.t 37) (.c (.dat (.bool true))) (.t 40), some (33, true), false⟩,
    ⟨some 42, .pick (.t 33) (.t 41) (.c (.dat (.bool false))), none, false⟩,
    ⟨some 4, .mv (.t 42), none, false⟩], []⟩
@[simp] def fn35 : AFun := ⟨2, [.t 4], false,
  .seq (.reg r35_0) (.seq (.seq (.reg r35_1) (.cond (.t 26) (.seq (.reg r35_2) (.ret)) (.skip))) (.seq (.reg r35_3) (.ret))), none⟩

theorem c35 : cFun Tryz.prog ann35 false 35 = some fn35 := by kernel_rfl

/-! 40: modelcheck/race.valid -/

def ann40 : Ann := [{ id := 0, live := [0] },
  { id := 1, live := [0], marks := [(5, { byRef := [1] })] }]

@[simp] def r40_0 : AReg := ⟨[0], [], [
    ⟨some 2, .mv (.c (.dat (.bool false))), none, false⟩], []⟩
@[simp] def r40_1 : AReg := ⟨[0], [], [
    ⟨some 3, .mv (.t 0), none, false⟩,
    ⟨some 4, .len false (.t 3), none, false⟩,
    ⟨some 5, .bin .int .leq (.t 4) (.c (.dat (.int .i64 512))), none, false⟩,
    ⟨some 6, .mv (.t 5), none, false⟩,
    ⟨some 7, .mv (.t 0), some (6, true), false⟩,
    ⟨some 8, .call 70 [((.t 7), false), ((.c (.fn 71 [])), true)] true, some (6, true), false⟩,
    ⟨some 9, .un .not (.t 8), some (6, true), false⟩,
    ⟨some 10, .pick (.t 6) (.t 9) (.c (.dat (.bool false))), none, false⟩,
    ⟨some 2, .mv (.t 10), none, false⟩], []⟩
@[simp] def fn40 : AFun := ⟨1, [.t 2], false,
  .seq (.reg r40_0) (.seq (.reg r40_1) (.ret)), none⟩

theorem c40 : cFun Tryz.prog ann40 false 40 = some fn40 := by kernel_rfl

/-! 41: modelcheck/race.source -/

def ann41 : Ann := [{ id := 0, live := [0, 1] },
  { id := 1, live := [0, 1] },
  { id := 2, live := [0, 1, 5] },
  { id := 3, live := [] },
  { id := 4, live := [0, 1, 5] },
  { id := 5, live := [0, 1, 5] },
  { id := 6, live := [0, 1, 5] },
  { id := 7, live := [0, 5, 6], drop := [0, 5] },
  { id := 9, live := [0, 5, 6] },
  { id := 10, live := [0, 5, 6, 7] },
  { id := 11, live := [0, 6, 7] },
  { id := 12, live := [0, 6, 7] },
  { id := 13, live := [6, 8] },
  { id := 14, live := [8] },
  { id := 15, live := [6] },
  { id := 8, live := [0, 5, 6] },
  { id := 16, live := [] }]

@[simp] def r41_0 : AReg := ⟨[0, 1], [], [
    ⟨some 4, .mv (.c (.dat (.int .i64 0))), none, false⟩], []⟩
@[simp] def r41_1 : AReg := ⟨[0, 1], [], [
    ⟨some 9, .mv (.t 0), none, false⟩,
    ⟨some 10, .mv (.t 1), none, false⟩,
    ⟨some 11, .iAddr 9 (.t 9) (.t 10), none, false⟩,
    ⟨some 12, .ld 9 true (.t 11), none, false⟩,
    ⟨some 5, .alc [(.dat (.int .i64 0)), (.dat (.int .i64 0)), (.dat (.int .i64 0)), (.dat (.int .i64 0)), (.dat (.int .i64 0)), (.dat (.int .i64 0)), (.dat (.int .i64 0)), (.dat (.int .i64 0)), (.dat (.int .i64 0))], none, false⟩,
    ⟨none, .st false 9 (.t 5) (.t 12), none, false⟩], []⟩
@[simp] def r41_2 : AReg := ⟨[0, 1, 5], [], [
    ⟨some 13, .ld 9 true (.t 5), none, false⟩,
    ⟨some 14, .call 73 [((.t 13), false)] true, none, false⟩,
    ⟨some 15, .un .not (.t 14), none, false⟩], []⟩
@[simp] def r41_3 : AReg := ⟨[], [], [
    ⟨some 4, .mv (.c (.dat (.int .i64 (-2)))), none, false⟩], []⟩
@[simp] def r41_4 : AReg := ⟨[0, 1, 5], [], [
    ⟨some 16, .fAddr 5 (.t 5), none, false⟩,
    ⟨some 17, .ld 1 false (.t 16), none, false⟩,
    ⟨some 18, .bin .int .geq (.t 17) (.c (.dat (.int .i64 0))), none, false⟩], []⟩
@[simp] def r41_5 : AReg := ⟨[0, 1, 5], [], [
    ⟨some 19, .mv (.t 0), none, false⟩,
    ⟨some 20, .mv (.t 1), none, false⟩,
    ⟨some 21, .fAddr 0 (.t 5), none, false⟩,
    ⟨some 22, .ld 1 false (.t 21), none, false⟩,
    ⟨some 23, .fAddr 5 (.t 5), none, false⟩,
    ⟨some 24, .ld 1 false (.t 23), none, false⟩,
    ⟨some 25, .call 74 [((.t 19), false), ((.t 20), false), ((.t 22), false), ((.t 24), false)] true, none, false⟩,
    ⟨some 4, .mv (.t 25), none, false⟩], []⟩
@[simp] def r41_6 : AReg := ⟨[0, 1, 5], [], [
    ⟨some 26, .mv (.t 1), none, false⟩,
    ⟨some 27, .bin .int .sub (.t 26) (.c (.dat (.int .i64 1))), none, false⟩,
    ⟨some 6, .mv (.t 27), none, false⟩], []⟩
@[simp] def r41_7 : AReg := ⟨[0, 5, 6], [0, 5], [
    ⟨some 28, .mv (.t 6), none, false⟩,
    ⟨some 29, .bin .int .geq (.t 28) (.c (.dat (.int .i64 0))), none, false⟩], []⟩
@[simp] def r41_8 : AReg := ⟨[0, 5, 6], [], [
    ⟨some 32, .mv (.t 0), none, false⟩,
    ⟨some 33, .mv (.t 6), none, false⟩,
    ⟨some 34, .iAddr 9 (.t 32) (.t 33), none, false⟩,
    ⟨some 35, .ld 9 true (.t 34), none, false⟩,
    ⟨some 7, .alc [(.dat (.int .i64 0)), (.dat (.int .i64 0)), (.dat (.int .i64 0)), (.dat (.int .i64 0)), (.dat (.int .i64 0)), (.dat (.int .i64 0)), (.dat (.int .i64 0)), (.dat (.int .i64 0)), (.dat (.int .i64 0))], none, false⟩,
    ⟨none, .st false 9 (.t 7) (.t 35), none, false⟩], []⟩
@[simp] def r41_9 : AReg := ⟨[0, 5, 6, 7], [], [
    ⟨some 36, .ld 9 true (.t 7), none, false⟩,
    ⟨some 37, .call 75 [((.t 36), false)] true, none, false⟩,
    ⟨some 38, .un .not (.t 37), none, false⟩,
    ⟨some 39, .mv (.t 38), none, false⟩,
    ⟨some 40, .fAddr 3 (.t 7), some (39, false), false⟩,
    ⟨some 41, .ld 1 false (.t 40), some (39, false), false⟩,
    ⟨some 42, .fAddr 3 (.t 5), some (39, false), false⟩,
    ⟨some 43, .ld 1 false (.t 42), some (39, false), false⟩,
    ⟨some 44, .bin .int .neq (.t 41) (.t 43), some (39, false), false⟩,
    ⟨some 45, .pick (.t 39) (.c (.dat (.bool true))) (.t 44), none, false⟩], []⟩
@[simp] def r41_10 : AReg := ⟨[0, 6, 7], [], [
    ⟨some 46, .fAddr 2 (.t 7), none, false⟩,
    ⟨some 47, .ld 1 false (.t 46), none, false⟩,
    ⟨some 48, .bin .int .eql (.t 47) (.c (.dat (.int .i64 4))), none, false⟩], []⟩
@[simp] def r41_11 : AReg := ⟨[0, 6, 7], [], [
    ⟨some 49, .mv (.t 0), none, false⟩,
    ⟨some 50, .mv (.t 6), none, false⟩,
    ⟨some 51, .fAddr 0 (.t 7), none, false⟩,
    ⟨some 52, .ld 1 false (.t 51), none, false⟩,
    ⟨some 53, .call 76 [((.t 52), false)] true, none, true⟩,
    ⟨some 54, .fAddr 5 (.t 7), none, false⟩,
    ⟨some 55, .ld 1 false (.t 54), none, true⟩,
    ⟨some 56, .call 74 [((.t 49), false), ((.t 50), false), ((.t 53), false), ((.t 55), false)] true, none, false⟩,
    ⟨some 8, .mv (.t 56), none, false⟩], [(4, 6)]⟩
@[simp] def r41_12 : AReg := ⟨[6, 8], [], [
    ⟨some 57, .mv (.t 8), none, false⟩,
    ⟨some 58, .bin .int .geq (.t 57) (.c (.dat (.int .i64 0))), none, false⟩], []⟩
@[simp] def r41_13 : AReg := ⟨[8], [], [
    ⟨some 59, .mv (.t 8), none, false⟩,
    ⟨some 4, .mv (.t 59), none, false⟩], []⟩
@[simp] def r41_14 : AReg := ⟨[6], [], [
    ⟨some 60, .mv (.t 6), none, false⟩,
    ⟨some 4, .mv (.t 60), none, false⟩], []⟩
@[simp] def r41_15 : AReg := ⟨[0, 5, 6], [], [
    ⟨some 30, .mv (.t 6), none, false⟩,
    ⟨some 31, .bin .int .sub (.t 30) (.c (.dat (.int .i64 1))), none, false⟩,
    ⟨some 6, .mv (.t 31), none, false⟩], []⟩
def l41_0 : AC := .seq (.seq (.reg r41_7) (.cond (.t 29) (.skip) (.exit 0))) (.seq (.block 1 (.seq (.reg r41_8) (.seq (.seq (.reg r41_9) (.cond (.t 45) (.exit 1) (.skip))) (.seq (.seq (.reg r41_10) (.cond (.t 48) (.seq (.reg r41_11) (.seq (.reg r41_12) (.cond (.t 58) (.seq (.reg r41_13) (.ret)) (.skip)))) (.skip))) (.seq (.reg r41_14) (.ret)))))) (.reg r41_15))
@[simp] theorem l41_0e (K : Orc) (s : St) : exec K l41_0 s = exec K (.seq (.seq (.reg r41_7) (.cond (.t 29) (.skip) (.exit 0))) (.seq (.block 1 (.seq (.reg r41_8) (.seq (.seq (.reg r41_9) (.cond (.t 45) (.exit 1) (.skip))) (.seq (.seq (.reg r41_10) (.cond (.t 48) (.seq (.reg r41_11) (.seq (.reg r41_12) (.cond (.t 58) (.seq (.reg r41_13) (.ret)) (.skip)))) (.skip))) (.seq (.reg r41_14) (.ret)))))) (.reg r41_15))) s := rfl
@[simp] def r41_16 : AReg := ⟨[], [], [
    ⟨some 4, .mv (.c (.dat (.int .i64 (-1)))), none, false⟩], []⟩
@[simp] def fn41 : AFun := ⟨2, [.t 4], false,
  .seq (.reg r41_0) (.seq (.reg r41_1) (.seq (.seq (.reg r41_2) (.cond (.t 15) (.seq (.reg r41_3) (.ret)) (.skip))) (.seq (.seq (.reg r41_4) (.cond (.t 18) (.seq (.reg r41_5) (.ret)) (.skip))) (.seq (.seq (.reg r41_6) (.block 0 (.loop l41_0))) (.seq (.reg r41_16) (.ret)))))), none⟩

theorem c41 : cFun Tryz.prog ann41 false 41 = some fn41 := by kernel_rfl

/-! 45: modelcheck/race.stamps -/

def ann45 : Ann := [{ id := 0, live := [0] },
  { id := 1, live := [0] },
  { id := 2, live := [0, 3] },
  { id := 3, live := [0, 3, 4, 5, 6] },
  { id := 4, live := [0, 3, 4, 5, 6, 7] },
  { id := 5, live := [0, 3, 4, 5, 6, 7, 32, 33, 34], drop := [0, 3, 4, 5, 6, 7, 32] },
  { id := 6, live := [0, 3, 4, 5, 6, 7, 32, 33, 34] },
  { id := 7, live := [0, 3, 4, 5, 6, 7, 8, 9, 32, 33, 34] },
  { id := 8, live := [0, 3, 4, 5, 6, 7, 8, 9, 10, 32, 33, 34] },
  { id := 9, live := [0, 3, 4, 5, 6, 7, 8, 9, 10, 11, 32, 33, 34] },
  { id := 10, live := [0, 3, 4, 5, 6, 7, 8, 9, 10, 11, 12, 13, 32, 33, 34] },
  { id := 11, live := [0, 3, 4, 5, 6, 7, 8, 9, 10, 11, 12, 32, 33, 34], marks := [(2, { byRef := [1000] })] },
  { id := 12, live := [0, 3, 4, 5, 6, 7, 8, 9, 10, 11, 32, 33, 34] },
  { id := 13, live := [0, 3, 4, 5, 6, 7, 8, 9, 10, 11, 32, 33, 34, 52, 53, 54], drop := [0, 3, 4, 5, 6, 7, 9, 10, 11, 32, 52] },
  { id := 14, live := [0, 3, 4, 5, 6, 7, 8, 9, 10, 11, 32, 33, 34, 52, 53, 54] },
  { id := 15, live := [0, 3, 4, 5, 6, 7, 8, 9, 10, 11, 15, 32, 33, 34, 52, 53, 54] },
  { id := 16, live := [0, 3, 4, 5, 6, 7, 8, 9, 10, 11, 15, 16, 17, 32, 33, 34, 52, 53, 54] },
  { id := 17, live := [0, 3, 4, 5, 6, 7, 8, 9, 10, 11, 15, 16, 32, 33, 34, 52, 53, 54], marks := [(2, { byRef := [1000] })] },
  { id := 18, live := [0, 3, 4, 5, 6, 7, 8, 9, 10, 11, 15, 32, 33, 34, 52, 53, 54] },
  { id := 19, live := [0, 3, 4, 5, 6, 7, 8, 9, 10, 11, 32, 33, 34, 52, 53, 54] },
  { id := 20, live := [0, 3, 4, 5, 6, 7, 8, 9, 10, 11, 32, 33, 34] },
  { id := 21, live := [0, 3, 4, 5, 6, 7, 8, 9, 10, 11, 32, 33, 34, 75, 76, 77] },
  { id := 22, live := [0, 3, 4, 5, 6, 7, 8, 9, 10, 11, 32, 33, 34, 75, 76, 77] },
  { id := 23, live := [0, 3, 4, 5, 6, 7, 8, 9, 10, 11, 19, 32, 33, 34, 75, 76, 77], marks := [(2, { byRef := [1000] })] },
  { id := 24, live := [0, 3, 4, 5, 6, 7, 8, 9, 10, 11, 32, 33, 34, 75, 76, 77] },
  { id := 25, live := [0, 3, 4, 5, 6, 7, 8, 9, 10, 11, 32, 33, 34] },
  { id := 26, live := [0, 3, 4, 5, 6, 7, 8, 9, 10, 11, 32, 33, 34, 86] },
  { id := 27, live := [0, 3, 4, 5, 6, 7, 8, 9, 10, 11, 32, 33, 34] },
  { id := 28, live := [0, 3, 4, 5, 6, 7, 8, 9, 10, 11, 20, 21, 32, 33, 34] },
  { id := 29, live := [0, 3, 4, 5, 6, 7, 8, 9, 10, 11, 20, 32, 33, 34], marks := [(2, { byRef := [1000] })] },
  { id := 30, live := [0, 3, 4, 5, 6, 7, 8, 9, 10, 11, 32, 33, 34] },
  { id := 31, live := [0, 3, 4, 5, 6, 7, 8, 9, 10, 11, 32, 33, 34, 103, 104, 105] },
  { id := 32, live := [0, 3, 4, 5, 6, 7, 8, 9, 10, 11, 32, 33, 34, 103, 104, 105] },
  { id := 33, live := [0, 3, 4, 5, 6, 7, 8, 9, 10, 11, 23, 32, 33, 34, 103, 104, 105], marks := [(2, { byRef := [1000] })] },
  { id := 34, live := [0, 3, 4, 5, 6, 7, 8, 9, 10, 11, 32, 33, 34, 103, 104, 105] },
  { id := 35, live := [0, 3, 4, 5, 6, 7, 8, 9, 10, 11, 32, 33, 34, 86] },
  { id := 36, live := [0, 3, 4, 5, 6, 7, 8, 9, 10, 11, 32, 33, 34] },
  { id := 37, live := [0, 3, 4, 5, 6, 7, 8, 9, 10, 11, 32, 33, 34, 115, 116] },
  { id := 38, live := [0, 3, 4, 5, 6, 7, 8, 9, 10, 11, 32, 33, 34, 115, 116] },
  { id := 39, live := [0, 3, 4, 5, 6, 7, 8, 9, 10, 11, 24, 32, 33, 34, 115, 116] },
  { id := 40, live := [0, 3, 4, 5, 6, 7, 8, 9, 10, 11, 24, 32, 33, 34, 115, 116], marks := [(2, { byRef := [1000] })] },
  { id := 41, live := [0, 3, 4, 5, 6, 7, 8, 9, 10, 11, 32, 33, 34, 115, 116] },
  { id := 42, live := [0, 3, 4, 5, 6, 7, 8, 9, 10, 11, 32, 33, 34] },
  { id := 43, live := [0, 3, 4, 5, 6, 7, 8, 9, 10, 11, 32, 33, 34, 153, 154, 155] },
  { id := 44, live := [0, 3, 4, 5, 6, 7, 8, 9, 10, 11, 32, 33, 34, 153, 154, 155] },
  { id := 45, live := [0, 3, 4, 5, 6, 7, 8, 9, 10, 11, 26, 32, 33, 34, 153, 154, 155], marks := [(2, { byRef := [1000] })] },
  { id := 46, live := [0, 3, 4, 5, 6, 7, 8, 9, 10, 11, 32, 33, 34, 153, 154, 155] },
  { id := 47, live := [0, 3, 4, 5, 6, 7, 8, 9, 10, 32, 33, 34], marks := [(8, { md := .o })] },
  { id := 48, live := [0, 3, 4, 5, 6, 7, 8, 9, 32, 33, 34] },
  { id := 49, live := [0, 3, 4, 5, 6, 7, 8, 9, 32, 33, 34] },
  { id := 50, live := [0, 3, 4, 5, 6, 7, 8, 9, 32, 33, 34], marks := [(9, { md := .o })] },
  { id := 51, live := [0, 3, 4, 5, 6, 7, 32, 33, 34] },
  { id := 52, live := [7] }]

@[simp] def r45_0 : AReg := ⟨[0], [], [
    ⟨some 2, .mv (.c .nils), none, false⟩], []⟩
@[simp] def r45_1 : AReg := ⟨[0], [], [
    ⟨some 27, .mv (.t 0), none, false⟩,
    ⟨some 28, .call 20 [((.t 27), false)] false, none, false⟩,
    ⟨some 3, .mv (.t 28), none, false⟩], []⟩
@[simp] def r45_2 : AReg := ⟨[0, 3], [], [
    ⟨some 29, .mkMap, none, false⟩,
    ⟨some 30, .mkMap, none, false⟩,
    ⟨some 31, .mkMap, none, false⟩,
    ⟨some 4, .mv (.t 29), none, false⟩,
    ⟨some 5, .mv (.t 30), none, false⟩,
    ⟨some 6, .mv (.t 31), none, false⟩], []⟩
@[simp] def r45_3 : AReg := ⟨[0, 3, 4, 5, 6], [], [
    ⟨some 7, .alc [.nils], none, false⟩], []⟩
@[simp] def r45_4 : AReg := ⟨[0, 3, 4, 5, 6, 7], [], [
    ⟨some 32, .mv (.t 0), none, false⟩,
    ⟨some 33, .len false (.t 32), none, false⟩,
    ⟨some 34, .mv (.c (.dat (.int .i64 0))), none, false⟩], []⟩
@[simp] def r45_5 : AReg := ⟨[0, 3, 4, 5, 6, 7, 32, 33, 34], [0, 3, 4, 5, 6, 7, 32], [
    ⟨some 35, .bin .int .lss (.t 34) (.t 33), none, false⟩], []⟩
@[simp] def r45_6 : AReg := ⟨[0, 3, 4, 5, 6, 7, 32, 33, 34], [], [
    ⟨some 36, .mv (.t 34), none, false⟩,
    ⟨some 37, .iAddr 9 (.t 32) (.t 34), none, false⟩,
    ⟨some 38, .ld 9 true (.t 37), none, false⟩,
    ⟨some 9, .alc [(.dat (.int .i64 0)), (.dat (.int .i64 0)), (.dat (.int .i64 0)), (.dat (.int .i64 0)), (.dat (.int .i64 0)), (.dat (.int .i64 0)), (.dat (.int .i64 0)), (.dat (.int .i64 0)), (.dat (.int .i64 0))], none, false⟩,
    ⟨some 8, .mv (.t 36), none, false⟩,
    ⟨none, .st false 9 (.t 9) (.t 38), none, false⟩], []⟩
@[simp] def r45_7 : AReg := ⟨[0, 3, 4, 5, 6, 7, 8, 9, 32, 33, 34], [], [
    ⟨some 10, .alc [.nils], none, false⟩], []⟩
@[simp] def r45_8 : AReg := ⟨[0, 3, 4, 5, 6, 7, 8, 9, 10, 32, 33, 34], [], [
    ⟨some 39, .mkf 84 [(.t 10), (.t 7)], none, false⟩,
    ⟨some 11, .mv (.t 39), none, false⟩], []⟩
@[simp] def r45_9 : AReg := ⟨[0, 3, 4, 5, 6, 7, 8, 9, 10, 11, 32, 33, 34], [], [
    ⟨some 41, .mv (.t 4), none, false⟩,
    ⟨some 42, .fAddr 0 (.t 9), none, false⟩,
    ⟨some 43, .ld 1 false (.t 42), none, false⟩,
    ⟨some 44, .lkp false [.int .i64] [(.dat (.int .i64 0))] true (.t 41) (.t 43), none, false⟩,
    ⟨some 40, .mv (.t 44), none, false⟩,
    ⟨some 45, .ext 0 (.t 40), none, false⟩,
    ⟨some 46, .ext 1 (.t 40), none, false⟩,
    ⟨some 12, .mv (.t 45), none, false⟩,
    ⟨some 13, .mv (.t 46), none, false⟩], []⟩
@[simp] def r45_10 : AReg := ⟨[0, 3, 4, 5, 6, 7, 8, 9, 10, 11, 12, 13, 32, 33, 34], [], [
    ⟨some 47, .mv (.t 13), none, false⟩], []⟩
@[simp] def r45_11 : AReg := ⟨[0, 3, 4, 5, 6, 7, 8, 9, 10, 11, 12, 32, 33, 34], [], [
    ⟨some 48, .mv (.t 11), none, false⟩,
    ⟨some 49, .mv (.t 12), none, false⟩,
    ⟨some 50, .callV (.t 48) [((.t 49), false)] false, none, false⟩], []⟩
@[simp] def r45_12 : AReg := ⟨[0, 3, 4, 5, 6, 7, 8, 9, 10, 11, 32, 33, 34], [], [
    ⟨some 51, .ld 9 true (.t 9), none, false⟩,
    ⟨some 52, .call 86 [((.t 51), false)] false, none, false⟩,
    ⟨some 53, .len false (.t 52), none, false⟩,
    ⟨some 54, .mv (.c (.dat (.int .i64 0))), none, false⟩], []⟩
@[simp] def r45_13 : AReg := ⟨[0, 3, 4, 5, 6, 7, 8, 9, 10, 11, 32, 33, 34, 52, 53, 54], [0, 3, 4, 5, 6, 7, 9, 10, 11, 32, 52], [
    ⟨some 55, .bin .int .lss (.t 54) (.t 53), none, false⟩], []⟩
@[simp] def r45_14 : AReg := ⟨[0, 3, 4, 5, 6, 7, 8, 9, 10, 11, 32, 33, 34, 52, 53, 54], [], [
    ⟨some 56, .iAddr 2 (.t 52) (.t 54), none, false⟩,
    ⟨some 57, .ld 2 true (.t 56), none, false⟩,
    ⟨some 15, .alc [(.dat (.int .i64 0)), (.dat (.int .i64 0))], none, false⟩,
    ⟨none, .st false 2 (.t 15) (.t 57), none, false⟩], []⟩
@[simp] def r45_15 : AReg := ⟨[0, 3, 4, 5, 6, 7, 8, 9, 10, 11, 15, 32, 33, 34, 52, 53, 54], [], [
    ⟨some 59, .mv (.t 5), none, false⟩,
    ⟨some 60, .ld 2 true (.t 15), none, false⟩,
    ⟨some 61, .lkp true [.int .i64, .int .i64] [(.dat (.int .i64 0))] true (.t 59) (.t 60), none, false⟩,
    ⟨some 58, .mv (.t 61), none, false⟩,
    ⟨some 62, .ext 0 (.t 58), none, false⟩,
    ⟨some 63, .ext 1 (.t 58), none, false⟩,
    ⟨some 16, .mv (.t 62), none, false⟩,
    ⟨some 17, .mv (.t 63), none, false⟩], []⟩
@[simp] def r45_16 : AReg := ⟨[0, 3, 4, 5, 6, 7, 8, 9, 10, 11, 15, 16, 17, 32, 33, 34, 52, 53, 54], [], [
    ⟨some 64, .mv (.t 17), none, false⟩], []⟩
@[simp] def r45_17 : AReg := ⟨[0, 3, 4, 5, 6, 7, 8, 9, 10, 11, 15, 16, 32, 33, 34, 52, 53, 54], [], [
    ⟨some 65, .mv (.t 11), none, false⟩,
    ⟨some 66, .mv (.t 16), none, false⟩,
    ⟨some 67, .callV (.t 65) [((.t 66), false)] false, none, false⟩], []⟩
@[simp] def r45_18 : AReg := ⟨[0, 3, 4, 5, 6, 7, 8, 9, 10, 11, 15, 32, 33, 34, 52, 53, 54], [], [
    ⟨some 68, .mv (.t 5), none, false⟩,
    ⟨some 69, .ld 2 true (.t 15), none, false⟩,
    ⟨some 70, .mv (.t 8), none, false⟩,
    ⟨none, .mup true [.int .i64, .int .i64] (.t 68) (.t 69) (.t 70), none, false⟩], []⟩
@[simp] def r45_19 : AReg := ⟨[0, 3, 4, 5, 6, 7, 8, 9, 10, 11, 32, 33, 34, 52, 53, 54], [], [
    ⟨some 71, .bin .int .add (.t 54) (.c (.dat (.int .i64 1))), none, false⟩,
    ⟨some 54, .mv (.t 71), none, false⟩], []⟩
def l45_0 : AC := .seq (.reg r45_13) (.seq (.cond (.t 55) (.skip) (.exit 2)) (.seq (.block 3 (.seq (.reg r45_14) (.seq (.seq (.reg r45_15) (.seq (.reg r45_16) (.cond (.t 64) (.reg r45_17) (.skip)))) (.reg r45_18)))) (.reg r45_19)))
@[simp] theorem l45_0e (K : Orc) (s : St) : exec K l45_0 s = exec K (.seq (.reg r45_13) (.seq (.cond (.t 55) (.skip) (.exit 2)) (.seq (.block 3 (.seq (.reg r45_14) (.seq (.seq (.reg r45_15) (.seq (.reg r45_16) (.cond (.t 64) (.reg r45_17) (.skip)))) (.reg r45_18)))) (.reg r45_19)))) s := rfl
@[simp] def r45_20 : AReg := ⟨[0, 3, 4, 5, 6, 7, 8, 9, 10, 11, 32, 33, 34], [], [
    ⟨some 72, .mv (.t 6), none, false⟩,
    ⟨some 73, .fAddr 0 (.t 9), none, false⟩,
    ⟨some 74, .ld 1 false (.t 73), none, false⟩,
    ⟨some 75, .lkp false [.int .i64] [.nils] false (.t 72) (.t 74), none, false⟩,
    ⟨some 76, .len false (.t 75), none, false⟩,
    ⟨some 77, .mv (.c (.dat (.int .i64 0))), none, false⟩], []⟩
@[simp] def r45_21 : AReg := ⟨[0, 3, 4, 5, 6, 7, 8, 9, 10, 11, 32, 33, 34, 75, 76, 77], [], [
    ⟨some 78, .bin .int .lss (.t 77) (.t 76), none, false⟩], []⟩
@[simp] def r45_22 : AReg := ⟨[0, 3, 4, 5, 6, 7, 8, 9, 10, 11, 32, 33, 34, 75, 76, 77], [], [
    ⟨some 79, .iAddr 1 (.t 75) (.t 77), none, false⟩,
    ⟨some 80, .ld 1 false (.t 79), none, false⟩,
    ⟨some 19, .mv (.t 80), none, false⟩], []⟩
@[simp] def r45_23 : AReg := ⟨[0, 3, 4, 5, 6, 7, 8, 9, 10, 11, 19, 32, 33, 34, 75, 76, 77], [], [
    ⟨some 81, .mv (.t 11), none, false⟩,
    ⟨some 82, .mv (.t 19), none, false⟩,
    ⟨some 83, .callV (.t 81) [((.t 82), false)] false, none, false⟩], []⟩
@[simp] def r45_24 : AReg := ⟨[0, 3, 4, 5, 6, 7, 8, 9, 10, 11, 32, 33, 34, 75, 76, 77], [], [
    ⟨some 84, .bin .int .add (.t 77) (.c (.dat (.int .i64 1))), none, false⟩,
    ⟨some 77, .mv (.t 84), none, false⟩], []⟩
def l45_1 : AC := .seq (.reg r45_21) (.seq (.cond (.t 78) (.skip) (.exit 4)) (.seq (.block 5 (.seq (.reg r45_22) (.reg r45_23))) (.reg r45_24)))
@[simp] theorem l45_1e (K : Orc) (s : St) : exec K l45_1 s = exec K (.seq (.reg r45_21) (.seq (.cond (.t 78) (.skip) (.exit 4)) (.seq (.block 5 (.seq (.reg r45_22) (.reg r45_23))) (.reg r45_24)))) s := rfl
@[simp] def r45_25 : AReg := ⟨[0, 3, 4, 5, 6, 7, 8, 9, 10, 11, 32, 33, 34], [], [
    ⟨some 85, .fAddr 2 (.t 9), none, false⟩,
    ⟨some 86, .ld 1 false (.t 85), none, false⟩], []⟩
@[simp] def r45_26 : AReg := ⟨[0, 3, 4, 5, 6, 7, 8, 9, 10, 11, 32, 33, 34, 86], [], [
    ⟨some 88, .bin .int .eql (.t 86) (.c (.dat (.int .i64 17))), none, false⟩,
    ⟨some 87, .mv (.t 88), none, false⟩], []⟩
@[simp] def r45_27 : AReg := ⟨[0, 3, 4, 5, 6, 7, 8, 9, 10, 11, 32, 33, 34], [], [
    ⟨some 90, .mv (.t 4), none, false⟩,
    ⟨some 91, .fAddr 3 (.t 9), none, false⟩,
    ⟨some 92, .ld 1 false (.t 91), none, false⟩,
    ⟨some 93, .lkp false [.int .i64] [(.dat (.int .i64 0))] true (.t 90) (.t 92), none, false⟩,
    ⟨some 89, .mv (.t 93), none, false⟩,
    ⟨some 94, .ext 0 (.t 89), none, false⟩,
    ⟨some 95, .ext 1 (.t 89), none, false⟩,
    ⟨some 20, .mv (.t 94), none, false⟩,
    ⟨some 21, .mv (.t 95), none, false⟩], []⟩
@[simp] def r45_28 : AReg := ⟨[0, 3, 4, 5, 6, 7, 8, 9, 10, 11, 20, 21, 32, 33, 34], [], [
    ⟨some 96, .mv (.t 21), none, false⟩], []⟩
@[simp] def r45_29 : AReg := ⟨[0, 3, 4, 5, 6, 7, 8, 9, 10, 11, 20, 32, 33, 34], [], [
    ⟨some 97, .mv (.t 11), none, false⟩,
    ⟨some 98, .mv (.t 20), none, false⟩,
    ⟨some 99, .callV (.t 97) [((.t 98), false)] false, none, false⟩], []⟩
@[simp] def r45_30 : AReg := ⟨[0, 3, 4, 5, 6, 7, 8, 9, 10, 11, 32, 33, 34], [], [
    ⟨some 100, .mv (.t 6), none, false⟩,
    ⟨some 101, .fAddr 3 (.t 9), none, false⟩,
    ⟨some 102, .ld 1 false (.t 101), none, false⟩,
    ⟨some 103, .lkp false [.int .i64] [.nils] false (.t 100) (.t 102), none, false⟩,
    ⟨some 104, .len false (.t 103), none, false⟩,
    ⟨some 105, .mv (.c (.dat (.int .i64 0))), none, false⟩], []⟩
@[simp] def r45_31 : AReg := ⟨[0, 3, 4, 5, 6, 7, 8, 9, 10, 11, 32, 33, 34, 103, 104, 105], [], [
    ⟨some 106, .bin .int .lss (.t 105) (.t 104), none, false⟩], []⟩
@[simp] def r45_32 : AReg := ⟨[0, 3, 4, 5, 6, 7, 8, 9, 10, 11, 32, 33, 34, 103, 104, 105], [], [
    ⟨some 107, .iAddr 1 (.t 103) (.t 105), none, false⟩,
    ⟨some 108, .ld 1 false (.t 107), none, false⟩,
    ⟨some 23, .mv (.t 108), none, false⟩], []⟩
@[simp] def r45_33 : AReg := ⟨[0, 3, 4, 5, 6, 7, 8, 9, 10, 11, 23, 32, 33, 34, 103, 104, 105], [], [
    ⟨some 109, .mv (.t 11), none, false⟩,
    ⟨some 110, .mv (.t 23), none, false⟩,
    ⟨some 111, .callV (.t 109) [((.t 110), false)] false, none, false⟩], []⟩
@[simp] def r45_34 : AReg := ⟨[0, 3, 4, 5, 6, 7, 8, 9, 10, 11, 32, 33, 34, 103, 104, 105], [], [
    ⟨some 112, .bin .int .add (.t 105) (.c (.dat (.int .i64 1))), none, false⟩,
    ⟨some 105, .mv (.t 112), none, false⟩], []⟩
def l45_2 : AC := .seq (.reg r45_31) (.seq (.cond (.t 106) (.skip) (.exit 7)) (.seq (.block 8 (.seq (.reg r45_32) (.reg r45_33))) (.reg r45_34)))
@[simp] theorem l45_2e (K : Orc) (s : St) : exec K l45_2 s = exec K (.seq (.reg r45_31) (.seq (.cond (.t 106) (.skip) (.exit 7)) (.seq (.block 8 (.seq (.reg r45_32) (.reg r45_33))) (.reg r45_34)))) s := rfl
@[simp] def r45_35 : AReg := ⟨[0, 3, 4, 5, 6, 7, 8, 9, 10, 11, 32, 33, 34, 86], [], [
    ⟨some 114, .bin .int .eql (.t 86) (.c (.dat (.int .i64 4))), none, false⟩,
    ⟨some 113, .mv (.t 114), none, false⟩], []⟩
@[simp] def r45_36 : AReg := ⟨[0, 3, 4, 5, 6, 7, 8, 9, 10, 11, 32, 33, 34], [], [
    ⟨some 115, .mv (.t 8), none, false⟩,
    ⟨some 116, .mv (.c (.dat (.int .i64 0))), none, false⟩], []⟩
@[simp] def r45_37 : AReg := ⟨[0, 3, 4, 5, 6, 7, 8, 9, 10, 11, 32, 33, 34, 115, 116], [], [
    ⟨some 117, .bin .int .lss (.t 116) (.t 115), none, false⟩], []⟩
@[simp] def r45_38 : AReg := ⟨[0, 3, 4, 5, 6, 7, 8, 9, 10, 11, 32, 33, 34, 115, 116], [], [
    ⟨some 118, .mv (.t 116), none, false⟩,
    ⟨some 24, .mv (.t 118), none, false⟩], []⟩
@[simp] def r45_39 : AReg := ⟨[0, 3, 4, 5, 6, 7, 8, 9, 10, 11, 24, 32, 33, 34, 115, 116], [], [
    ⟨some 119, .mv (.t 0), none, false⟩,
    ⟨some 120, .mv (.t 24), none, false⟩,
    ⟨some 121, .iAddr 9 (.t 119) (.t 120), none, false⟩,
    ⟨some 122, .fAddr 2 (.t 121), none, false⟩,
    ⟨some 123, .ld 1 false (.t 122), none, false⟩,
    ⟨some 124, .bin .int .eql (.t 123) (.c (.dat (.int .i64 3))), none, false⟩,
    ⟨some 125, .mv (.t 124), none, false⟩,
    ⟨some 126, .mv (.t 0), some (125, true), false⟩,
    ⟨some 127, .mv (.t 24), some (125, true), false⟩,
    ⟨some 128, .iAddr 9 (.t 126) (.t 127), some (125, true), false⟩,
    ⟨some 129, .fAddr 0 (.t 128), some (125, true), false⟩,
    ⟨some 130, .ld 1 false (.t 129), some (125, true), true⟩,
    ⟨some 131, .fAddr 0 (.t 9), some (125, true), false⟩,
    ⟨some 132, .ld 1 false (.t 131), some (125, true), false⟩,
    ⟨some 133, .call 76 [((.t 132), false)] true, some (125, true), true⟩,
    ⟨some 134, .bin .int .eql (.t 130) (.t 133), some (125, true), false⟩,
    ⟨some 135, .pick (.t 125) (.t 134) (.c (.dat (.bool false))), none, false⟩,
    ⟨some 136, .mv (.t 135), none, false⟩,
    ⟨some 137, .mv (.t 0), some (136, true), false⟩,
    ⟨some 138, .mv (.t 24), some (136, true), false⟩,
    ⟨some 139, .iAddr 9 (.t 137) (.t 138), some (136, true), false⟩,
    ⟨some 140, .fAddr 5 (.t 139), some (136, true), false⟩,
    ⟨some 141, .ld 1 false (.t 140), some (136, true), false⟩,
    ⟨some 142, .fAddr 5 (.t 9), some (136, true), false⟩,
    ⟨some 143, .ld 1 false (.t 142), some (136, true), false⟩,
    ⟨some 144, .bin .int .eql (.t 141) (.t 143), some (136, true), false⟩,
    ⟨some 145, .pick (.t 136) (.t 144) (.c (.dat (.bool false))), none, false⟩], [(11, 14)]⟩
@[simp] def r45_40 : AReg := ⟨[0, 3, 4, 5, 6, 7, 8, 9, 10, 11, 24, 32, 33, 34, 115, 116], [], [
    ⟨some 146, .mv (.t 11), none, false⟩,
    ⟨some 147, .mv (.t 24), none, false⟩,
    ⟨some 148, .callV (.t 146) [((.t 147), false)] false, none, false⟩], []⟩
@[simp] def r45_41 : AReg := ⟨[0, 3, 4, 5, 6, 7, 8, 9, 10, 11, 32, 33, 34, 115, 116], [], [
    ⟨some 149, .bin .int .add (.t 116) (.c (.dat (.int .i64 1))), none, false⟩,
    ⟨some 116, .mv (.t 149), none, false⟩], []⟩
def l45_3 : AC := .seq (.reg r45_37) (.seq (.cond (.t 117) (.skip) (.exit 9)) (.seq (.block 10 (.seq (.reg r45_38) (.seq (.reg r45_39) (.cond (.t 145) (.reg r45_40) (.skip))))) (.reg r45_41)))
@[simp] theorem l45_3e (K : Orc) (s : St) : exec K l45_3 s = exec K (.seq (.reg r45_37) (.seq (.cond (.t 117) (.skip) (.exit 9)) (.seq (.block 10 (.seq (.reg r45_38) (.seq (.reg r45_39) (.cond (.t 145) (.reg r45_40) (.skip))))) (.reg r45_41)))) s := rfl
@[simp] def r45_42 : AReg := ⟨[0, 3, 4, 5, 6, 7, 8, 9, 10, 11, 32, 33, 34], [], [
    ⟨some 150, .mv (.t 0), none, false⟩,
    ⟨some 151, .mv (.t 3), none, false⟩,
    ⟨some 152, .mv (.t 8), none, false⟩,
    ⟨some 153, .call 87 [((.t 150), false), ((.t 151), false), ((.t 152), false)] false, none, false⟩,
    ⟨some 154, .len false (.t 153), none, false⟩,
    ⟨some 155, .mv (.c (.dat (.int .i64 0))), none, false⟩], []⟩
@[simp] def r45_43 : AReg := ⟨[0, 3, 4, 5, 6, 7, 8, 9, 10, 11, 32, 33, 34, 153, 154, 155], [], [
    ⟨some 156, .bin .int .lss (.t 155) (.t 154), none, false⟩], []⟩
@[simp] def r45_44 : AReg := ⟨[0, 3, 4, 5, 6, 7, 8, 9, 10, 11, 32, 33, 34, 153, 154, 155], [], [
    ⟨some 157, .iAddr 1 (.t 153) (.t 155), none, false⟩,
    ⟨some 158, .ld 1 false (.t 157), none, false⟩,
    ⟨some 26, .mv (.t 158), none, false⟩], []⟩
@[simp] def r45_45 : AReg := ⟨[0, 3, 4, 5, 6, 7, 8, 9, 10, 11, 26, 32, 33, 34, 153, 154, 155], [], [
    ⟨some 159, .mv (.t 11), none, false⟩,
    ⟨some 160, .mv (.t 26), none, false⟩,
    ⟨some 161, .callV (.t 159) [((.t 160), false)] false, none, false⟩], []⟩
@[simp] def r45_46 : AReg := ⟨[0, 3, 4, 5, 6, 7, 8, 9, 10, 11, 32, 33, 34, 153, 154, 155], [], [
    ⟨some 162, .bin .int .add (.t 155) (.c (.dat (.int .i64 1))), none, false⟩,
    ⟨some 155, .mv (.t 162), none, false⟩], []⟩
def l45_4 : AC := .seq (.reg r45_43) (.seq (.cond (.t 156) (.skip) (.exit 11)) (.seq (.block 12 (.seq (.reg r45_44) (.reg r45_45))) (.reg r45_46)))
@[simp] theorem l45_4e (K : Orc) (s : St) : exec K l45_4 s = exec K (.seq (.reg r45_43) (.seq (.cond (.t 156) (.skip) (.exit 11)) (.seq (.block 12 (.seq (.reg r45_44) (.reg r45_45))) (.reg r45_46)))) s := rfl
@[simp] def r45_47 : AReg := ⟨[0, 3, 4, 5, 6, 7, 8, 9, 10, 32, 33, 34], [], [
    ⟨some 163, .ld 1 false (.t 7), none, true⟩,
    ⟨some 164, .ld 9 true (.t 9), none, true⟩,
    ⟨some 165, .ld 1 false (.t 10), none, false⟩,
    ⟨some 166, .fAddr 0 (.t 9), none, false⟩,
    ⟨some 167, .ld 1 false (.t 166), none, false⟩,
    ⟨some 168, .call 88 [((.t 165), false), ((.t 167), false)] false, none, true⟩,
    ⟨some 169, .bld [(.dat (.int .i64 0)), (.dat (.int .i64 0)), (.dat (.int .i64 0)), (.dat (.int .i64 0)), (.dat (.int .i64 0)), (.dat (.int .i64 0)), (.dat (.int .i64 0)), (.dat (.int .i64 0)), (.dat (.int .i64 0)), .nils] [(0, 9, (.t 164)), (9, 1, (.t 168))], none, false⟩,
    ⟨some 170, .bldS .d 10 [(.t 169)], none, true⟩,
    ⟨some 171, .app .o 10 96 (.t 163) (.t 170), none, false⟩,
    ⟨none, .st false 1 (.t 7) (.t 171), none, false⟩], [(0, 5), (1, 5), (0, 7)]⟩
@[simp] def r45_48 : AReg := ⟨[0, 3, 4, 5, 6, 7, 8, 9, 32, 33, 34], [], [
    ⟨some 172, .mv (.t 4), none, false⟩,
    ⟨some 173, .fAddr 0 (.t 9), none, false⟩,
    ⟨some 174, .ld 1 false (.t 173), none, false⟩,
    ⟨some 175, .mv (.t 8), none, false⟩,
    ⟨none, .mup false [.int .i64] (.t 172) (.t 174) (.t 175), none, false⟩], []⟩
@[simp] def r45_49 : AReg := ⟨[0, 3, 4, 5, 6, 7, 8, 9, 32, 33, 34], [], [
    ⟨some 176, .fAddr 2 (.t 9), none, false⟩,
    ⟨some 177, .ld 1 false (.t 176), none, false⟩,
    ⟨some 178, .bin .int .eql (.t 177) (.c (.dat (.int .i64 16))), none, false⟩], []⟩
@[simp] def r45_50 : AReg := ⟨[0, 3, 4, 5, 6, 7, 8, 9, 32, 33, 34], [], [
    ⟨some 179, .mv (.t 6), none, false⟩,
    ⟨some 180, .fAddr 3 (.t 9), none, false⟩,
    ⟨some 181, .ld 1 false (.t 180), none, true⟩,
    ⟨some 182, .mv (.t 6), none, false⟩,
    ⟨some 183, .fAddr 3 (.t 9), none, false⟩,
    ⟨some 184, .ld 1 false (.t 183), none, true⟩,
    ⟨some 185, .lkp false [.int .i64] [.nils] false (.t 182) (.t 184), none, true⟩,
    ⟨some 186, .mv (.t 8), none, false⟩,
    ⟨some 187, .bldS .d 1 [(.t 186)], none, true⟩,
    ⟨some 188, .app .o 1 8 (.t 185) (.t 187), none, true⟩,
    ⟨none, .mup false [.int .i64] (.t 179) (.t 181) (.t 188), none, false⟩], [(2, 8), (5, 8), (6, 8), (2, 9)]⟩
@[simp] def r45_51 : AReg := ⟨[0, 3, 4, 5, 6, 7, 32, 33, 34], [], [
    ⟨some 189, .bin .int .add (.t 34) (.c (.dat (.int .i64 1))), none, false⟩,
    ⟨some 34, .mv (.t 189), none, false⟩], []⟩
def l45_5 : AC := .seq (.reg r45_5) (.seq (.cond (.t 35) (.skip) (.exit 0)) (.seq (.block 1 (.seq (.reg r45_6) (.seq (.reg r45_7) (.seq (.reg r45_8) (.seq (.seq (.reg r45_9) (.seq (.reg r45_10) (.cond (.t 47) (.reg r45_11) (.skip)))) (.seq (.seq (.reg r45_12) (.block 2 (.loop l45_0))) (.seq (.seq (.reg r45_20) (.block 4 (.loop l45_1))) (.seq (.seq (.reg r45_25) (.block 6 (.seq (.reg r45_26) (.cond (.t 87) (.seq (.seq (.reg r45_27) (.seq (.reg r45_28) (.cond (.t 96) (.reg r45_29) (.skip)))) (.seq (.reg r45_30) (.block 7 (.loop l45_2)))) (.seq (.reg r45_35) (.cond (.t 113) (.seq (.reg r45_36) (.block 9 (.loop l45_3))) (.skip))))))) (.seq (.seq (.reg r45_42) (.block 11 (.loop l45_4))) (.seq (.reg r45_47) (.seq (.reg r45_48) (.seq (.reg r45_49) (.cond (.t 178) (.reg r45_50) (.skip)))))))))))))) (.reg r45_51)))
@[simp] theorem l45_5e (K : Orc) (s : St) : exec K l45_5 s = exec K (.seq (.reg r45_5) (.seq (.cond (.t 35) (.skip) (.exit 0)) (.seq (.block 1 (.seq (.reg r45_6) (.seq (.reg r45_7) (.seq (.reg r45_8) (.seq (.seq (.reg r45_9) (.seq (.reg r45_10) (.cond (.t 47) (.reg r45_11) (.skip)))) (.seq (.seq (.reg r45_12) (.block 2 (.loop l45_0))) (.seq (.seq (.reg r45_20) (.block 4 (.loop l45_1))) (.seq (.seq (.reg r45_25) (.block 6 (.seq (.reg r45_26) (.cond (.t 87) (.seq (.seq (.reg r45_27) (.seq (.reg r45_28) (.cond (.t 96) (.reg r45_29) (.skip)))) (.seq (.reg r45_30) (.block 7 (.loop l45_2)))) (.seq (.reg r45_35) (.cond (.t 113) (.seq (.reg r45_36) (.block 9 (.loop l45_3))) (.skip))))))) (.seq (.seq (.reg r45_42) (.block 11 (.loop l45_4))) (.seq (.reg r45_47) (.seq (.reg r45_48) (.seq (.reg r45_49) (.cond (.t 178) (.reg r45_50) (.skip)))))))))))))) (.reg r45_51)))) s := rfl
@[simp] def r45_52 : AReg := ⟨[7], [], [
    ⟨some 190, .ld 1 false (.t 7), none, false⟩,
    ⟨some 2, .mv (.t 190), none, false⟩], []⟩
@[simp] def fn45 : AFun := ⟨1, [.t 2], false,
  .seq (.reg r45_0) (.seq (.reg r45_1) (.seq (.reg r45_2) (.seq (.reg r45_3) (.seq (.seq (.reg r45_4) (.block 0 (.loop l45_5))) (.seq (.reg r45_52) (.ret)))))), none⟩

theorem c45 : cFun Tryz.prog ann45 false 45 = some fn45 := by kernel_rfl

/-! 48: modelcheck/exec.Run -/

def ann48 : Ann := [{ id := 0, live := [0, 1, 2] },
  { id := 1, live := [2, 3, 4, 6] },
  { id := 2, live := [2, 6, 8, 9] },
  { id := 3, live := [6, 9] },
  { id := 4, live := [2, 6, 8] }]

@[simp] def r48_0 : AReg := ⟨[0, 1, 2], [], [
    ⟨some 3, .box 5 (.t 0), none, false⟩,
    ⟨some 4, .box 2 (.t 1), none, false⟩,
    ⟨some 6, .alc [.nils, .nils, .nils, .nils, .nils, .nils, .nils], none, false⟩,
    ⟨some 7, .mv (.c (.dat (.int .i64 0))), none, false⟩], []⟩
@[simp] def r48_1 : AReg := ⟨[2, 3, 4, 6], [], [
    ⟨some 11, .ld 5 true (.t 3), none, false⟩,
    ⟨some 12, .ld 2 true (.t 4), none, false⟩,
    ⟨some 13, .call 90 [((.t 11), false), ((.t 12), false)] false, none, false⟩,
    ⟨some 10, .mv (.t 13), none, false⟩,
    ⟨some 14, .ext 0 (.t 10), none, false⟩,
    ⟨some 15, .ext 1 (.t 10), none, false⟩,
    ⟨some 8, .alc [.nils, .nils, .nils, .nils, .nils, (.dat (.int .i64 0)), (.dat (.int .i64 0))], none, false⟩,
    ⟨none, .st false 7 (.t 8) (.t 14), none, false⟩,
    ⟨some 9, .mv (.t 15), none, false⟩], []⟩
@[simp] def r48_2 : AReg := ⟨[2, 6, 8, 9], [], [
    ⟨some 16, .mv (.t 9), none, false⟩,
    ⟨some 17, .bin .int .neq (.t 16) (.c (.dat (.int .i64 0))), none, false⟩], []⟩
@[simp] def r48_3 : AReg := ⟨[6, 9], [], [
    ⟨some 18, .bld [.nils, .nils, .nils, .nils, .nils, .nils, .nils] [], none, false⟩,
    ⟨some 19, .mv (.t 9), none, false⟩,
    ⟨none, .st false 7 (.t 6) (.t 18), none, false⟩,
    ⟨some 7, .mv (.t 19), none, false⟩], []⟩
@[simp] def r48_4 : AReg := ⟨[2, 6, 8], [], [
    ⟨some 20, .ld 7 true (.t 8), none, false⟩,
    ⟨some 21, .mv (.t 2), none, false⟩,
    ⟨some 22, .call 91 [((.t 20), false), ((.t 21), false)] false, none, false⟩,
    ⟨some 23, .ext 0 (.t 22), none, false⟩,
    ⟨some 24, .ext 1 (.t 22), none, false⟩,
    ⟨none, .st false 7 (.t 6) (.t 23), none, false⟩,
    ⟨some 7, .mv (.t 24), none, false⟩], []⟩
@[simp] def fn48 : AFun := ⟨3, [.cell 6 7 true, .t 7], false,
  .seq (.reg r48_0) (.seq (.reg r48_1) (.seq (.seq (.reg r48_2) (.cond (.t 17) (.seq (.reg r48_3) (.ret)) (.skip))) (.seq (.reg r48_4) (.ret)))), none⟩

theorem c48 : cFun Tryz.prog ann48 false 48 = some fn48 := by kernel_rfl

/-! 49: modelcheck/exec.Enabled -/

def ann49 : Ann := [{ id := 0, live := [0, 1, 2] },
  { id := 1, live := [3, 4, 5] },
  { id := 2, live := [5, 7, 8] },
  { id := 3, live := [], marks := [(0, { md := .o })] },
  { id := 4, live := [5, 7] }]

@[simp] def r49_0 : AReg := ⟨[0, 1, 2], [], [
    ⟨some 3, .box 5 (.t 0), none, false⟩,
    ⟨some 4, .box 2 (.t 1), none, false⟩,
    ⟨some 5, .box 6 (.t 2), none, false⟩,
    ⟨some 6, .mv (.c .nils), none, false⟩], []⟩
@[simp] def r49_1 : AReg := ⟨[3, 4, 5], [], [
    ⟨some 10, .ld 5 true (.t 3), none, false⟩,
    ⟨some 11, .ld 2 true (.t 4), none, false⟩,
    ⟨some 12, .call 90 [((.t 10), false), ((.t 11), false)] false, none, false⟩,
    ⟨some 9, .mv (.t 12), none, false⟩,
    ⟨some 13, .ext 0 (.t 9), none, false⟩,
    ⟨some 14, .ext 1 (.t 9), none, false⟩,
    ⟨some 7, .alc [.nils, .nils, .nils, .nils, .nils, (.dat (.int .i64 0)), (.dat (.int .i64 0))], none, false⟩,
    ⟨none, .st false 7 (.t 7) (.t 13), none, false⟩,
    ⟨some 8, .mv (.t 14), none, false⟩], []⟩
@[simp] def r49_2 : AReg := ⟨[5, 7, 8], [], [
    ⟨some 15, .mv (.t 8), none, false⟩,
    ⟨some 16, .bin .int .neq (.t 15) (.c (.dat (.int .i64 0))), none, false⟩], []⟩
@[simp] def r49_3 : AReg := ⟨[], [], [
    ⟨some 6, .mvNil .o 1, none, false⟩], []⟩
@[simp] def r49_4 : AReg := ⟨[5, 7], [], [
    ⟨some 17, .ld 7 true (.t 7), none, false⟩,
    ⟨some 18, .ld 6 true (.t 5), none, false⟩,
    ⟨some 19, .call 92 [((.t 17), false), ((.t 18), false)] false, none, false⟩,
    ⟨some 6, .mv (.t 19), none, false⟩], []⟩
@[simp] def fn49 : AFun := ⟨3, [.t 6], true,
  .seq (.reg r49_0) (.seq (.reg r49_1) (.seq (.seq (.reg r49_2) (.cond (.t 16) (.seq (.reg r49_3) (.ret)) (.skip))) (.seq (.reg r49_4) (.ret)))), none⟩

theorem c49 : cFun Tryz.prog ann49 true 49 = some fn49 := by kernel_rfl

/-! 50: modelcheck/verdict.classify -/

def ann50 : Ann := [{ id := 0, live := [0, 1] },
  { id := 1, live := [0, 3, 4] },
  { id := 2, live := [0, 3, 4, 5], marks := [(2, { byRef := [1000] }), (3, { byRef := [1] })] },
  { id := 3, live := [0, 3, 4, 5, 6], marks := [(2, { byRef := [1] })] },
  { id := 4, live := [0, 4, 5, 6, 7], marks := [(2, { byRef := [1000] }), (3, { byRef := [1] }), (11, { byRef := [1000] }), (12, { byRef := [1] })] }]

@[simp] def r50_0 : AReg := ⟨[0, 1], [], [
    ⟨some 3, .box 4 (.t 1), none, false⟩,
    ⟨some 4, .alc [.nils, .nils, .nils, .nils, .nils], none, false⟩], []⟩
@[simp] def r50_1 : AReg := ⟨[0, 3, 4], [], [
    ⟨some 5, .mv (.c (.fn 93 [])), none, false⟩], []⟩
@[simp] def r50_2 : AReg := ⟨[0, 3, 4, 5], [], [
    ⟨some 8, .mv (.t 0), none, false⟩,
    ⟨some 9, .mv (.t 5), none, false⟩,
    ⟨some 10, .callV (.t 9) [((.c (.dat (.int .i64 1))), false)] false, none, false⟩,
    ⟨some 11, .call 95 [((.t 8), false), ((.t 10), true)] false, none, false⟩,
    ⟨some 6, .mv (.t 11), none, false⟩], []⟩
@[simp] def r50_3 : AReg := ⟨[0, 3, 4, 5, 6], [], [
    ⟨some 12, .mv (.t 6), none, false⟩,
    ⟨some 13, .mkf 96 [(.t 3)], none, false⟩,
    ⟨some 14, .call 95 [((.t 12), false), ((.t 13), true)] false, none, false⟩,
    ⟨some 7, .mv (.t 14), none, false⟩], []⟩
@[simp] def r50_4 : AReg := ⟨[0, 4, 5, 6, 7], [], [
    ⟨some 15, .mv (.t 0), none, false⟩,
    ⟨some 16, .mv (.t 5), none, false⟩,
    ⟨some 17, .callV (.t 16) [((.c (.dat (.int .i64 3))), false)] false, none, false⟩,
    ⟨some 18, .call 95 [((.t 15), false), ((.t 17), true)] false, none, false⟩,
    ⟨some 19, .call 98 [((.t 18), false)] false, none, false⟩,
    ⟨some 20, .mv (.t 6), none, false⟩,
    ⟨some 21, .call 98 [((.t 20), false)] false, none, false⟩,
    ⟨some 22, .mv (.t 7), none, false⟩,
    ⟨some 23, .call 98 [((.t 22), false)] false, none, false⟩,
    ⟨some 24, .mv (.t 0), none, false⟩,
    ⟨some 25, .mv (.t 5), none, false⟩,
    ⟨some 26, .callV (.t 25) [((.c (.dat (.int .i64 4))), false)] false, none, false⟩,
    ⟨some 27, .call 95 [((.t 24), false), ((.t 26), true)] false, none, false⟩,
    ⟨some 28, .call 98 [((.t 27), false)] false, none, false⟩,
    ⟨some 29, .bld [.nils, .nils, .nils, .nils, .nils] [(0, 1, (.t 19)), (1, 1, (.t 21)), (2, 1, (.t 23)), (3, 1, (.t 28))], none, false⟩,
    ⟨none, .st false 5 (.t 4) (.t 29), none, false⟩], []⟩
@[simp] def fn50 : AFun := ⟨2, [.cell 4 5 true], false,
  .seq (.reg r50_0) (.seq (.reg r50_1) (.seq (.reg r50_2) (.seq (.reg r50_3) (.seq (.reg r50_4) (.ret))))), none⟩

theorem c50 : cFun Tryz.prog ann50 false 50 = some fn50 := by kernel_rfl

/-! 61: modelcheck/race.accesses -/

def ann61 : Ann := [{ id := 0, live := [0] },
  { id := 1, live := [1] },
  { id := 2, live := [1, 4] },
  { id := 3, live := [1, 4] },
  { id := 4, live := [1, 4] },
  { id := 5, live := [1, 4] },
  { id := 6, live := [1, 4] },
  { id := 7, live := [1, 4] },
  { id := 8, live := [1] },
  { id := 9, live := [] }]

@[simp] def r61_0 : AReg := ⟨[0], [], [
    ⟨some 1, .box 9 (.t 0), none, false⟩,
    ⟨some 2, .mv (.c (.dat (.bool false))), none, false⟩], []⟩
@[simp] def r61_1 : AReg := ⟨[1], [], [
    ⟨some 3, .fAddr 2 (.t 1), none, false⟩,
    ⟨some 4, .ld 1 false (.t 3), none, false⟩], []⟩
@[simp] def r61_2 : AReg := ⟨[1, 4], [], [
    ⟨some 6, .bin .int .eql (.t 4) (.c (.dat (.int .i64 1))), none, false⟩,
    ⟨some 5, .mv (.t 6), none, false⟩], []⟩
@[simp] def r61_3 : AReg := ⟨[1, 4], [], [
    ⟨some 7, .bin .int .eql (.t 4) (.c (.dat (.int .i64 2))), none, false⟩,
    ⟨some 5, .mv (.t 7), none, false⟩], []⟩
@[simp] def r61_4 : AReg := ⟨[1, 4], [], [
    ⟨some 8, .bin .int .eql (.t 4) (.c (.dat (.int .i64 3))), none, false⟩,
    ⟨some 5, .mv (.t 8), none, false⟩], []⟩
@[simp] def r61_5 : AReg := ⟨[1, 4], [], [
    ⟨some 9, .bin .int .eql (.t 4) (.c (.dat (.int .i64 5))), none, false⟩,
    ⟨some 5, .mv (.t 9), none, false⟩], []⟩
@[simp] def r61_6 : AReg := ⟨[1, 4], [], [
    ⟨some 10, .bin .int .eql (.t 4) (.c (.dat (.int .i64 6))), none, false⟩,
    ⟨some 5, .mv (.t 10), none, false⟩], []⟩
@[simp] def r61_7 : AReg := ⟨[1, 4], [], [
    ⟨some 11, .bin .int .eql (.t 4) (.c (.dat (.int .i64 8))), none, false⟩,
    ⟨some 5, .mv (.t 11), none, false⟩], []⟩
@[simp] def r61_8 : AReg := ⟨[1], [], [
    ⟨some 12, .fAddr 0 (.t 1), none, false⟩,
    ⟨some 13, .ld 1 false (.t 12), none, false⟩,
    ⟨some 14, .bin .int .geq (.t 13) (.c (.dat (.int .i64 0))), none, false⟩,
    ⟨some 2, .mv (.t 14), none, false⟩], []⟩
@[simp] def r61_9 : AReg := ⟨[], [], [
    ⟨some 2, .mv (.c (.dat (.bool false))), none, false⟩], []⟩
@[simp] def fn61 : AFun := ⟨1, [.t 2], false,
  .seq (.reg r61_0) (.seq (.seq (.reg r61_1) (.block 0 (.seq (.seq (.reg r61_2) (.cond (.t 5) (.skip) (.seq (.reg r61_3) (.cond (.t 5) (.skip) (.seq (.reg r61_4) (.cond (.t 5) (.skip) (.seq (.reg r61_5) (.cond (.t 5) (.skip) (.seq (.reg r61_6) (.cond (.t 5) (.skip) (.reg r61_7))))))))))) (.cond (.t 5) (.seq (.reg r61_8) (.ret)) (.skip))))) (.seq (.reg r61_9) (.ret))), none⟩

theorem c61 : cFun Tryz.prog ann61 false 61 = some fn61 := by kernel_rfl

/-! 70: slices.ContainsFunc[[]modelcheck/api.Event,modelcheck/api.Event] -/

def ann70 : Ann := [{ id := 0, live := [0, 1] },
  { id := 1, live := [0, 1], marks := [(2, { byRef := [1] })] }]

@[simp] def r70_0 : AReg := ⟨[0, 1], [], [
    ⟨some 4, .mv (.c (.dat (.bool false))), none, false⟩], []⟩
@[simp] def r70_1 : AReg := ⟨[0, 1], [], [
    ⟨some 5, .mv (.t 0), none, false⟩,
    ⟨some 6, .mv (.t 1), none, false⟩,
    ⟨some 7, .call 118 [((.t 5), false), ((.t 6), true)] true, none, false⟩,
    ⟨some 8, .bin .int .geq (.t 7) (.c (.dat (.int .i64 0))), none, false⟩,
    ⟨some 4, .mv (.t 8), none, false⟩], []⟩
@[simp] def fn70 : AFun := ⟨2, [.t 4], false,
  .seq (.reg r70_0) (.seq (.reg r70_1) (.ret)), none⟩

theorem c70 : cFun Tryz.prog ann70 false 70 = some fn70 := by kernel_rfl

/-! 71: modelcheck/race.valid$1 -/

def ann71 : Ann := [{ id := 0, live := [0] },
  { id := 1, live := [1] }]

@[simp] def r71_0 : AReg := ⟨[0], [], [
    ⟨some 1, .box 9 (.t 0), none, false⟩,
    ⟨some 2, .mv (.c (.dat (.bool false))), none, false⟩], []⟩
@[simp] def r71_1 : AReg := ⟨[1], [], [
    ⟨some 3, .ld 9 true (.t 1), none, false⟩,
    ⟨some 4, .call 72 [((.t 3), false)] true, none, false⟩,
    ⟨some 5, .un .not (.t 4), none, false⟩,
    ⟨some 2, .mv (.t 5), none, false⟩], []⟩
@[simp] def fn71 : AFun := ⟨1, [.t 2], false,
  .seq (.reg r71_0) (.seq (.reg r71_1) (.ret)), none⟩

theorem c71 : cFun Tryz.prog ann71 false 71 = some fn71 := by kernel_rfl

/-! 72: modelcheck/event.Valid -/

def ann72 : Ann := [{ id := 0, live := [0] },
  { id := 1, live := [1] },
  { id := 2, live := [] },
  { id := 3, live := [1] },
  { id := 4, live := [1, 3] },
  { id := 5, live := [] },
  { id := 6, live := [1, 3] },
  { id := 7, live := [] },
  { id := 8, live := [1, 3] },
  { id := 9, live := [] },
  { id := 10, live := [1, 3] },
  { id := 11, live := [] },
  { id := 12, live := [1] },
  { id := 13, live := [1] },
  { id := 14, live := [1] }]

@[simp] def r72_0 : AReg := ⟨[0], [], [
    ⟨some 1, .box 9 (.t 0), none, false⟩,
    ⟨some 2, .mv (.c (.dat (.bool false))), none, false⟩], []⟩
@[simp] def r72_1 : AReg := ⟨[1], [], [
    ⟨some 4, .fAddr 2 (.t 1), none, false⟩,
    ⟨some 5, .ld 1 false (.t 4), none, false⟩,
    ⟨some 6, .bin .int .lss (.t 5) (.c (.dat (.int .i64 1))), none, false⟩,
    ⟨some 7, .mv (.t 6), none, false⟩,
    ⟨some 8, .fAddr 2 (.t 1), some (7, false), false⟩,
    ⟨some 9, .ld 1 false (.t 8), some (7, false), false⟩,
    ⟨some 10, .bin .int .gtr (.t 9) (.c (.dat (.int .i64 17))), some (7, false), false⟩,
    ⟨some 11, .pick (.t 7) (.c (.dat (.bool true))) (.t 10), none, false⟩,
    ⟨some 12, .mv (.t 11), none, false⟩,
    ⟨some 13, .fAddr 1 (.t 1), some (12, false), false⟩,
    ⟨some 14, .ld 1 false (.t 13), some (12, false), false⟩,
    ⟨some 15, .bin .int .lss (.t 14) (.c (.dat (.int .i64 0))), some (12, false), false⟩,
    ⟨some 16, .pick (.t 12) (.c (.dat (.bool true))) (.t 15), none, false⟩,
    ⟨some 17, .mv (.t 16), none, false⟩,
    ⟨some 18, .fAddr 0 (.t 1), some (17, false), false⟩,
    ⟨some 19, .ld 1 false (.t 18), some (17, false), false⟩,
    ⟨some 20, .call 119 [((.t 19), false)] true, some (17, false), true⟩,
    ⟨some 21, .fAddr 2 (.t 1), some (17, false), false⟩,
    ⟨some 22, .ld 1 false (.t 21), some (17, false), true⟩,
    ⟨some 23, .bin .int .eql (.t 22) (.c (.dat (.int .i64 4))), some (17, false), false⟩,
    ⟨some 24, .bin .bool .neq (.t 20) (.t 23), some (17, false), false⟩,
    ⟨some 25, .pick (.t 17) (.c (.dat (.bool true))) (.t 24), none, false⟩], [(16, 18)]⟩
@[simp] def r72_2 : AReg := ⟨[], [], [
    ⟨some 2, .mv (.c (.dat (.bool false))), none, false⟩], []⟩
@[simp] def r72_3 : AReg := ⟨[1], [], [
    ⟨some 26, .fAddr 2 (.t 1), none, false⟩,
    ⟨some 27, .ld 1 false (.t 26), none, false⟩,
    ⟨some 28, .bin .int .sub (.t 27) (.c (.dat (.int .i64 1))), none, false⟩,
    ⟨some 29, .iAddrA 17 8 (.c (.fp glob0)) (.t 28), none, false⟩,
    ⟨some 30, .ld 8 true (.t 29), none, false⟩,
    ⟨some 3, .alc [(.dat (.int .i64 0)), (.dat (.bool false)), (.dat (.int .i64 0)), (.dat (.int .i64 0)), (.dat (.bool false)), (.dat (.int .i64 0)), (.dat (.int .i64 0)), (.dat (.bool false))], none, false⟩,
    ⟨none, .st false 8 (.t 3) (.t 30), none, false⟩], []⟩
@[simp] def r72_4 : AReg := ⟨[1, 3], [], [
    ⟨some 31, .fAddr 3 (.t 1), none, false⟩,
    ⟨some 32, .ld 1 false (.t 31), none, false⟩,
    ⟨some 33, .bin .int .lss (.t 32) (.c (.dat (.int .i64 0))), none, false⟩,
    ⟨some 34, .mv (.t 33), none, false⟩,
    ⟨some 35, .fAddr 0 (.t 3), some (34, false), false⟩,
    ⟨some 36, .ld 1 false (.t 35), some (34, false), false⟩,
    ⟨some 37, .bin .int .neq (.t 36) (.c (.dat (.int .i64 (-1)))), some (34, false), false⟩,
    ⟨some 38, .mv (.t 37), some (34, false), false⟩,
    ⟨some 39, .fAddr 3 (.t 1), some (38, true), false⟩,
    ⟨some 40, .ld 1 false (.t 39), some (38, true), false⟩,
    ⟨some 41, .fAddr 0 (.t 3), some (38, true), false⟩,
    ⟨some 42, .ld 1 false (.t 41), some (38, true), false⟩,
    ⟨some 43, .bin .int .gtr (.t 40) (.t 42), some (38, true), false⟩,
    ⟨some 44, .pick (.t 38) (.t 43) (.c (.dat (.bool false))), some (34, false), false⟩,
    ⟨some 45, .pick (.t 34) (.c (.dat (.bool true))) (.t 44), none, false⟩,
    ⟨some 46, .mv (.t 45), none, false⟩,
    ⟨some 47, .fAddr 7 (.t 1), some (46, false), false⟩,
    ⟨some 48, .ld 1 false (.t 47), some (46, false), false⟩,
    ⟨some 49, .fAddr 2 (.t 3), some (46, false), false⟩,
    ⟨some 50, .ld 1 false (.t 49), some (46, false), false⟩,
    ⟨some 51, .bin .int .lss (.t 48) (.t 50), some (46, false), false⟩,
    ⟨some 52, .pick (.t 46) (.c (.dat (.bool true))) (.t 51), none, false⟩,
    ⟨some 53, .mv (.t 52), none, false⟩,
    ⟨some 54, .fAddr 3 (.t 3), some (53, false), false⟩,
    ⟨some 55, .ld 1 false (.t 54), some (53, false), false⟩,
    ⟨some 56, .bin .int .neq (.t 55) (.c (.dat (.int .i64 (-1)))), some (53, false), false⟩,
    ⟨some 57, .mv (.t 56), some (53, false), false⟩,
    ⟨some 58, .fAddr 7 (.t 1), some (57, true), false⟩,
    ⟨some 59, .ld 1 false (.t 58), some (57, true), false⟩,
    ⟨some 60, .fAddr 3 (.t 3), some (57, true), false⟩,
    ⟨some 61, .ld 1 false (.t 60), some (57, true), false⟩,
    ⟨some 62, .bin .int .gtr (.t 59) (.t 61), some (57, true), false⟩,
    ⟨some 63, .pick (.t 57) (.t 62) (.c (.dat (.bool false))), some (53, false), false⟩,
    ⟨some 64, .pick (.t 53) (.c (.dat (.bool true))) (.t 63), none, false⟩], []⟩
@[simp] def r72_5 : AReg := ⟨[], [], [
    ⟨some 2, .mv (.c (.dat (.bool false))), none, false⟩], []⟩
@[simp] def r72_6 : AReg := ⟨[1, 3], [], [
    ⟨some 65, .fAddr 1 (.t 3), none, false⟩,
    ⟨some 66, .ld 1 false (.t 65), none, false⟩,
    ⟨some 67, .mv (.t 66), none, false⟩,
    ⟨some 68, .fAddr 6 (.t 1), some (67, true), false⟩,
    ⟨some 69, .ld 1 false (.t 68), some (67, true), false⟩,
    ⟨some 70, .bin .int .lss (.t 69) (.c (.dat (.int .i64 0))), some (67, true), false⟩,
    ⟨some 71, .mv (.t 70), some (67, true), false⟩,
    ⟨some 72, .fAddr 6 (.t 1), some (71, false), false⟩,
    ⟨some 73, .ld 1 false (.t 72), some (71, false), false⟩,
    ⟨some 74, .bin .int .gtr (.t 73) (.c (.dat (.int .i64 2))), some (71, false), false⟩,
    ⟨some 75, .pick (.t 71) (.c (.dat (.bool true))) (.t 74), some (67, true), false⟩,
    ⟨some 76, .pick (.t 67) (.t 75) (.c (.dat (.bool false))), none, false⟩,
    ⟨some 77, .mv (.t 76), none, false⟩,
    ⟨some 78, .fAddr 1 (.t 3), some (77, false), false⟩,
    ⟨some 79, .ld 1 false (.t 78), some (77, false), false⟩,
    ⟨some 80, .un .not (.t 79), some (77, false), false⟩,
    ⟨some 81, .mv (.t 80), some (77, false), false⟩,
    ⟨some 82, .fAddr 6 (.t 1), some (81, true), false⟩,
    ⟨some 83, .ld 1 false (.t 82), some (81, true), false⟩,
    ⟨some 84, .bin .int .neq (.t 83) (.c (.dat (.int .i64 0))), some (81, true), false⟩,
    ⟨some 85, .pick (.t 81) (.t 84) (.c (.dat (.bool false))), some (77, false), false⟩,
    ⟨some 86, .pick (.t 77) (.c (.dat (.bool true))) (.t 85), none, false⟩], []⟩
@[simp] def r72_7 : AReg := ⟨[], [], [
    ⟨some 2, .mv (.c (.dat (.bool false))), none, false⟩], []⟩
@[simp] def r72_8 : AReg := ⟨[1, 3], [], [
    ⟨some 87, .fAddr 4 (.t 3), none, false⟩,
    ⟨some 88, .ld 1 false (.t 87), none, false⟩,
    ⟨some 89, .mv (.t 88), none, false⟩,
    ⟨some 90, .fAddr 8 (.t 1), some (89, true), false⟩,
    ⟨some 91, .ld 1 false (.t 90), some (89, true), false⟩,
    ⟨some 92, .bin .int .lss (.t 91) (.c (.dat (.int .i64 (-2147483648)))), some (89, true), false⟩,
    ⟨some 93, .mv (.t 92), some (89, true), false⟩,
    ⟨some 94, .fAddr 8 (.t 1), some (93, false), false⟩,
    ⟨some 95, .ld 1 false (.t 94), some (93, false), false⟩,
    ⟨some 96, .bin .int .gtr (.t 95) (.c (.dat (.int .i64 2147483647))), some (93, false), false⟩,
    ⟨some 97, .pick (.t 93) (.c (.dat (.bool true))) (.t 96), some (89, true), false⟩,
    ⟨some 98, .pick (.t 89) (.t 97) (.c (.dat (.bool false))), none, false⟩,
    ⟨some 99, .mv (.t 98), none, false⟩,
    ⟨some 100, .fAddr 4 (.t 3), some (99, false), false⟩,
    ⟨some 101, .ld 1 false (.t 100), some (99, false), false⟩,
    ⟨some 102, .un .not (.t 101), some (99, false), false⟩,
    ⟨some 103, .mv (.t 102), some (99, false), false⟩,
    ⟨some 104, .fAddr 8 (.t 1), some (103, true), false⟩,
    ⟨some 105, .ld 1 false (.t 104), some (103, true), false⟩,
    ⟨some 106, .bin .int .neq (.t 105) (.c (.dat (.int .i64 0))), some (103, true), false⟩,
    ⟨some 107, .pick (.t 103) (.t 106) (.c (.dat (.bool false))), some (99, false), false⟩,
    ⟨some 108, .pick (.t 99) (.c (.dat (.bool true))) (.t 107), none, false⟩], []⟩
@[simp] def r72_9 : AReg := ⟨[], [], [
    ⟨some 2, .mv (.c (.dat (.bool false))), none, false⟩], []⟩
@[simp] def r72_10 : AReg := ⟨[1, 3], [], [
    ⟨some 109, .fAddr 5 (.t 3), none, false⟩,
    ⟨some 110, .ld 1 false (.t 109), none, false⟩,
    ⟨some 111, .bin .int .eql (.t 110) (.c (.dat (.int .i64 (-2)))), none, false⟩,
    ⟨some 112, .mv (.t 111), none, false⟩,
    ⟨some 113, .fAddr 5 (.t 1), some (112, true), false⟩,
    ⟨some 114, .ld 1 false (.t 113), some (112, true), false⟩,
    ⟨some 115, .bin .int .neq (.t 114) (.c (.dat (.int .i64 (-1)))), some (112, true), false⟩,
    ⟨some 116, .pick (.t 112) (.t 115) (.c (.dat (.bool false))), none, false⟩,
    ⟨some 117, .mv (.t 116), none, false⟩,
    ⟨some 118, .fAddr 5 (.t 1), some (117, false), false⟩,
    ⟨some 119, .ld 1 false (.t 118), some (117, false), false⟩,
    ⟨some 120, .fAddr 5 (.t 3), some (117, false), false⟩,
    ⟨some 121, .ld 1 false (.t 120), some (117, false), false⟩,
    ⟨some 122, .bin .int .lss (.t 119) (.t 121), some (117, false), false⟩,
    ⟨some 123, .pick (.t 117) (.c (.dat (.bool true))) (.t 122), none, false⟩], []⟩
@[simp] def r72_11 : AReg := ⟨[], [], [
    ⟨some 2, .mv (.c (.dat (.bool false))), none, false⟩], []⟩
@[simp] def r72_12 : AReg := ⟨[1], [], [
    ⟨some 124, .fAddr 2 (.t 1), none, false⟩,
    ⟨some 125, .ld 1 false (.t 124), none, false⟩,
    ⟨some 126, .bin .int .eql (.t 125) (.c (.dat (.int .i64 12))), none, false⟩], []⟩
@[simp] def r72_13 : AReg := ⟨[1], [], [
    ⟨some 127, .fAddr 4 (.t 1), none, false⟩,
    ⟨some 128, .ld 1 false (.t 127), none, false⟩,
    ⟨some 129, .bin .int .geq (.t 128) (.c (.dat (.int .i64 0))), none, false⟩,
    ⟨some 130, .mv (.t 129), none, false⟩,
    ⟨some 131, .fAddr 4 (.t 1), some (130, true), false⟩,
    ⟨some 132, .ld 1 false (.t 131), some (130, true), false⟩,
    ⟨some 133, .bin .int .lss (.t 132) (.c (.dat (.int .i64 4))), some (130, true), false⟩,
    ⟨some 134, .pick (.t 130) (.t 133) (.c (.dat (.bool false))), none, false⟩,
    ⟨some 2, .mv (.t 134), none, false⟩], []⟩
@[simp] def r72_14 : AReg := ⟨[1], [], [
    ⟨some 135, .fAddr 4 (.t 1), none, false⟩,
    ⟨some 136, .ld 1 false (.t 135), none, false⟩,
    ⟨some 137, .bin .int .eql (.t 136) (.c (.dat (.int .i64 (-1)))), none, false⟩,
    ⟨some 2, .mv (.t 137), none, false⟩], []⟩
@[simp] def fn72 : AFun := ⟨1, [.t 2], false,
  .seq (.reg r72_0) (.seq (.seq (.reg r72_1) (.cond (.t 25) (.seq (.reg r72_2) (.ret)) (.skip))) (.seq (.reg r72_3) (.seq (.seq (.reg r72_4) (.cond (.t 64) (.seq (.reg r72_5) (.ret)) (.skip))) (.seq (.seq (.reg r72_6) (.cond (.t 86) (.seq (.reg r72_7) (.ret)) (.skip))) (.seq (.seq (.reg r72_8) (.cond (.t 108) (.seq (.reg r72_9) (.ret)) (.skip))) (.seq (.seq (.reg r72_10) (.cond (.t 123) (.seq (.reg r72_11) (.ret)) (.skip))) (.seq (.seq (.reg r72_12) (.cond (.t 126) (.seq (.reg r72_13) (.ret)) (.skip))) (.seq (.reg r72_14) (.ret))))))))), none⟩

theorem c72 : cFun Tryz.prog ann72 false 72 = some fn72 := by kernel_rfl

/-! 73: modelcheck/event.Reads -/

def ann73 : Ann := [{ id := 0, live := [0] },
  { id := 1, live := [1] },
  { id := 2, live := [] },
  { id := 3, live := [1] },
  { id := 4, live := [7] },
  { id := 5, live := [7] },
  { id := 6, live := [7] },
  { id := 7, live := [7] },
  { id := 8, live := [] },
  { id := 9, live := [] }]

@[simp] def r73_0 : AReg := ⟨[0], [], [
    ⟨some 1, .box 9 (.t 0), none, false⟩,
    ⟨some 2, .mv (.c (.dat (.bool false))), none, false⟩], []⟩
@[simp] def r73_1 : AReg := ⟨[1], [], [
    ⟨some 3, .ld 9 true (.t 1), none, false⟩,
    ⟨some 4, .call 72 [((.t 3), false)] true, none, false⟩,
    ⟨some 5, .un .not (.t 4), none, false⟩], []⟩
@[simp] def r73_2 : AReg := ⟨[], [], [
    ⟨some 2, .mv (.c (.dat (.bool false))), none, false⟩], []⟩
@[simp] def r73_3 : AReg := ⟨[1], [], [
    ⟨some 6, .fAddr 2 (.t 1), none, false⟩,
    ⟨some 7, .ld 1 false (.t 6), none, false⟩], []⟩
@[simp] def r73_4 : AReg := ⟨[7], [], [
    ⟨some 9, .bin .int .eql (.t 7) (.c (.dat (.int .i64 1))), none, false⟩,
    ⟨some 8, .mv (.t 9), none, false⟩], []⟩
@[simp] def r73_5 : AReg := ⟨[7], [], [
    ⟨some 10, .bin .int .eql (.t 7) (.c (.dat (.int .i64 8))), none, false⟩,
    ⟨some 8, .mv (.t 10), none, false⟩], []⟩
@[simp] def r73_6 : AReg := ⟨[7], [], [
    ⟨some 11, .bin .int .eql (.t 7) (.c (.dat (.int .i64 5))), none, false⟩,
    ⟨some 8, .mv (.t 11), none, false⟩], []⟩
@[simp] def r73_7 : AReg := ⟨[7], [], [
    ⟨some 12, .bin .int .eql (.t 7) (.c (.dat (.int .i64 6))), none, false⟩,
    ⟨some 8, .mv (.t 12), none, false⟩], []⟩
@[simp] def r73_8 : AReg := ⟨[], [], [
    ⟨some 2, .mv (.c (.dat (.bool true))), none, false⟩], []⟩
@[simp] def r73_9 : AReg := ⟨[], [], [
    ⟨some 2, .mv (.c (.dat (.bool false))), none, false⟩], []⟩
@[simp] def fn73 : AFun := ⟨1, [.t 2], false,
  .seq (.reg r73_0) (.seq (.seq (.reg r73_1) (.cond (.t 5) (.seq (.reg r73_2) (.ret)) (.skip))) (.seq (.seq (.reg r73_3) (.block 0 (.seq (.seq (.reg r73_4) (.cond (.t 8) (.skip) (.seq (.reg r73_5) (.cond (.t 8) (.skip) (.seq (.reg r73_6) (.cond (.t 8) (.skip) (.reg r73_7))))))) (.cond (.t 8) (.seq (.reg r73_8) (.ret)) (.skip))))) (.seq (.reg r73_9) (.ret)))), none⟩

theorem c73 : cFun Tryz.prog ann73 false 73 = some fn73 := by kernel_rfl

/-! 84: modelcheck/race.stamps$1 -/

def ann84 : Ann := [{ id := 0, live := [0, 1, 2] }]

@[simp] def r84_0 : AReg := ⟨[0, 1, 2], [], [
    ⟨some 4, .ld 1 false (.t 1), none, false⟩,
    ⟨some 5, .ld 1 false (.t 2), none, false⟩,
    ⟨some 6, .mv (.t 0), none, false⟩,
    ⟨some 7, .iAddr 10 (.t 5) (.t 6), none, false⟩,
    ⟨some 8, .fAddr 9 (.t 7), none, false⟩,
    ⟨some 9, .ld 1 false (.t 8), none, false⟩,
    ⟨some 10, .call 85 [((.t 4), false), ((.t 9), false)] false, none, false⟩,
    ⟨none, .st false 1 (.t 1) (.t 10), none, false⟩], []⟩
@[simp] def fn84 : AFun := ⟨3, [], false,
  .reg r84_0, none⟩

theorem c84 : cFun Tryz.prog ann84 false 84 = some fn84 := by kernel_rfl

/-! 85: modelcheck/clock.Join -/

def ann85 : Ann := [{ id := 0, live := [0, 1] },
  { id := 1, live := [0, 1] },
  { id := 2, live := [] },
  { id := 3, live := [0, 1] }]

@[simp] def r85_0 : AReg := ⟨[0, 1], [], [
    ⟨some 4, .mv (.c .nils), none, false⟩], []⟩
@[simp] def r85_1 : AReg := ⟨[0, 1], [], [
    ⟨some 5, .mv (.t 0), none, false⟩,
    ⟨some 6, .call 99 [((.t 5), false)] true, none, false⟩,
    ⟨some 7, .un .not (.t 6), none, false⟩,
    ⟨some 8, .mv (.t 7), none, false⟩,
    ⟨some 9, .mv (.t 1), some (8, false), false⟩,
    ⟨some 10, .call 99 [((.t 9), false)] true, some (8, false), false⟩,
    ⟨some 11, .un .not (.t 10), some (8, false), false⟩,
    ⟨some 12, .pick (.t 8) (.c (.dat (.bool true))) (.t 11), none, false⟩], []⟩
@[simp] def r85_2 : AReg := ⟨[], [], [
    ⟨some 4, .mv (.c .nils), none, false⟩], []⟩
@[simp] def r85_3 : AReg := ⟨[0, 1], [], [
    ⟨some 13, .mv (.t 0), none, false⟩,
    ⟨some 14, .mv (.t 1), none, false⟩,
    ⟨some 15, .call 129 [((.t 13), false), ((.t 14), false)] false, none, false⟩,
    ⟨some 4, .mv (.t 15), none, false⟩], []⟩
@[simp] def fn85 : AFun := ⟨2, [.t 4], false,
  .seq (.reg r85_0) (.seq (.seq (.reg r85_1) (.cond (.t 12) (.seq (.reg r85_2) (.ret)) (.skip))) (.seq (.reg r85_3) (.ret))), none⟩

theorem c85 : cFun Tryz.prog ann85 false 85 = some fn85 := by kernel_rfl

/-! 86: modelcheck/race.objects -/

def ann86 : Ann := [{ id := 0, live := [0] },
  { id := 1, live := [1] },
  { id := 2, live := [1, 4] },
  { id := 3, live := [1, 4] },
  { id := 4, live := [1, 4] },
  { id := 5, live := [1] },
  { id := 6, live := [1, 4] },
  { id := 7, live := [1] },
  { id := 8, live := [1, 4] },
  { id := 9, live := [1, 4] },
  { id := 10, live := [1, 4] },
  { id := 11, live := [1] },
  { id := 12, live := [] }]

@[simp] def r86_0 : AReg := ⟨[0], [], [
    ⟨some 1, .box 9 (.t 0), none, false⟩,
    ⟨some 2, .mv (.c .nils), none, false⟩], []⟩
@[simp] def r86_1 : AReg := ⟨[1], [], [
    ⟨some 3, .fAddr 2 (.t 1), none, false⟩,
    ⟨some 4, .ld 1 false (.t 3), none, false⟩], []⟩
@[simp] def r86_2 : AReg := ⟨[1, 4], [], [
    ⟨some 6, .bin .int .eql (.t 4) (.c (.dat (.int .i64 9))), none, false⟩,
    ⟨some 5, .mv (.t 6), none, false⟩], []⟩
@[simp] def r86_3 : AReg := ⟨[1, 4], [], [
    ⟨some 7, .bin .int .eql (.t 4) (.c (.dat (.int .i64 10))), none, false⟩,
    ⟨some 5, .mv (.t 7), none, false⟩], []⟩
@[simp] def r86_4 : AReg := ⟨[1, 4], [], [
    ⟨some 8, .bin .int .eql (.t 4) (.c (.dat (.int .i64 11))), none, false⟩,
    ⟨some 5, .mv (.t 8), none, false⟩], []⟩
@[simp] def r86_5 : AReg := ⟨[1], [], [
    ⟨some 9, .fAddr 3 (.t 1), none, false⟩,
    ⟨some 10, .ld 1 false (.t 9), none, false⟩,
    ⟨some 11, .bld [(.dat (.int .i64 0)), (.dat (.int .i64 0))] [(0, 1, (.c (.dat (.int .i64 2)))), (1, 1, (.t 10))], none, false⟩,
    ⟨some 12, .bldS .d 2 [(.t 11)], none, false⟩,
    ⟨some 2, .mv (.t 12), none, false⟩], []⟩
@[simp] def r86_6 : AReg := ⟨[1, 4], [], [
    ⟨some 14, .bin .int .eql (.t 4) (.c (.dat (.int .i64 12))), none, false⟩,
    ⟨some 13, .mv (.t 14), none, false⟩], []⟩
@[simp] def r86_7 : AReg := ⟨[1], [], [
    ⟨some 15, .fAddr 4 (.t 1), none, false⟩,
    ⟨some 16, .ld 1 false (.t 15), none, false⟩,
    ⟨some 17, .bld [(.dat (.int .i64 0)), (.dat (.int .i64 0))] [(0, 1, (.c (.dat (.int .i64 2)))), (1, 1, (.t 16))], none, false⟩,
    ⟨some 18, .fAddr 3 (.t 1), none, false⟩,
    ⟨some 19, .ld 1 false (.t 18), none, false⟩,
    ⟨some 20, .bld [(.dat (.int .i64 0)), (.dat (.int .i64 0))] [(0, 1, (.c (.dat (.int .i64 3)))), (1, 1, (.t 19))], none, false⟩,
    ⟨some 21, .bldS .d 2 [(.t 17), (.t 20)], none, false⟩,
    ⟨some 2, .mv (.t 21), none, false⟩], []⟩
@[simp] def r86_8 : AReg := ⟨[1, 4], [], [
    ⟨some 23, .bin .int .eql (.t 4) (.c (.dat (.int .i64 13))), none, false⟩,
    ⟨some 22, .mv (.t 23), none, false⟩], []⟩
@[simp] def r86_9 : AReg := ⟨[1, 4], [], [
    ⟨some 24, .bin .int .eql (.t 4) (.c (.dat (.int .i64 14))), none, false⟩,
    ⟨some 22, .mv (.t 24), none, false⟩], []⟩
@[simp] def r86_10 : AReg := ⟨[1, 4], [], [
    ⟨some 25, .bin .int .eql (.t 4) (.c (.dat (.int .i64 15))), none, false⟩,
    ⟨some 22, .mv (.t 25), none, false⟩], []⟩
@[simp] def r86_11 : AReg := ⟨[1], [], [
    ⟨some 26, .fAddr 3 (.t 1), none, false⟩,
    ⟨some 27, .ld 1 false (.t 26), none, false⟩,
    ⟨some 28, .bld [(.dat (.int .i64 0)), (.dat (.int .i64 0))] [(0, 1, (.c (.dat (.int .i64 3)))), (1, 1, (.t 27))], none, false⟩,
    ⟨some 29, .bldS .d 2 [(.t 28)], none, false⟩,
    ⟨some 2, .mv (.t 29), none, false⟩], []⟩
@[simp] def r86_12 : AReg := ⟨[], [], [
    ⟨some 2, .mv (.c .nils), none, false⟩], []⟩
@[simp] def fn86 : AFun := ⟨1, [.t 2], false,
  .seq (.reg r86_0) (.seq (.seq (.reg r86_1) (.block 0 (.seq (.seq (.reg r86_2) (.cond (.t 5) (.skip) (.seq (.reg r86_3) (.cond (.t 5) (.skip) (.reg r86_4))))) (.cond (.t 5) (.seq (.reg r86_5) (.ret)) (.seq (.reg r86_6) (.cond (.t 13) (.seq (.reg r86_7) (.ret)) (.seq (.seq (.reg r86_8) (.cond (.t 22) (.skip) (.seq (.reg r86_9) (.cond (.t 22) (.skip) (.reg r86_10))))) (.cond (.t 22) (.seq (.reg r86_11) (.ret)) (.skip))))))))) (.seq (.reg r86_12) (.ret))), none⟩

theorem c86 : cFun Tryz.prog ann86 false 86 = some fn86 := by kernel_rfl

/-! 87: modelcheck/race.releases -/

def ann87 : Ann := [{ id := 0, live := [0, 1, 2] },
  { id := 1, live := [0, 1, 2] },
  { id := 2, live := [0, 1, 2, 7] },
  { id := 3, live := [] },
  { id := 4, live := [0, 1, 2], marks := [(0, { md := .o })] },
  { id := 5, live := [0, 1, 2, 8] },
  { id := 6, live := [0, 1, 8, 9], drop := [0, 1, 8] },
  { id := 7, live := [0, 1, 8, 9] },
  { id := 8, live := [0, 1, 8, 9], marks := [(3, { md := .o })] },
  { id := 9, live := [0, 1, 8, 9] },
  { id := 10, live := [0, 1, 8, 9] },
  { id := 11, live := [8] }]

@[simp] def r87_0 : AReg := ⟨[0, 1, 2], [], [
    ⟨some 6, .mv (.c .nils), none, false⟩], []⟩
@[simp] def r87_1 : AReg := ⟨[0, 1, 2], [], [
    ⟨some 10, .mv (.t 0), none, false⟩,
    ⟨some 11, .mv (.t 2), none, false⟩,
    ⟨some 12, .iAddr 9 (.t 10) (.t 11), none, false⟩,
    ⟨some 13, .ld 9 true (.t 12), none, false⟩,
    ⟨some 7, .alc [(.dat (.int .i64 0)), (.dat (.int .i64 0)), (.dat (.int .i64 0)), (.dat (.int .i64 0)), (.dat (.int .i64 0)), (.dat (.int .i64 0)), (.dat (.int .i64 0)), (.dat (.int .i64 0)), (.dat (.int .i64 0))], none, false⟩,
    ⟨none, .st false 9 (.t 7) (.t 13), none, false⟩], []⟩
@[simp] def r87_2 : AReg := ⟨[0, 1, 2, 7], [], [
    ⟨some 14, .ld 9 true (.t 7), none, false⟩,
    ⟨some 15, .call 73 [((.t 14), false)] true, none, false⟩,
    ⟨some 16, .un .not (.t 15), none, false⟩,
    ⟨some 17, .mv (.t 16), none, false⟩,
    ⟨some 18, .fAddr 6 (.t 7), some (17, false), false⟩,
    ⟨some 19, .ld 1 false (.t 18), some (17, false), false⟩,
    ⟨some 20, .bin .int .neq (.t 19) (.c (.dat (.int .i64 2))), some (17, false), false⟩,
    ⟨some 21, .pick (.t 17) (.c (.dat (.bool true))) (.t 20), none, false⟩], []⟩
@[simp] def r87_3 : AReg := ⟨[], [], [
    ⟨some 6, .mv (.c .nils), none, false⟩], []⟩
@[simp] def r87_4 : AReg := ⟨[0, 1, 2], [], [
    ⟨some 8, .mvNil .o 1, none, false⟩], []⟩
@[simp] def r87_5 : AReg := ⟨[0, 1, 2, 8], [], [
    ⟨some 22, .mv (.t 1), none, false⟩,
    ⟨some 23, .mv (.t 2), none, false⟩,
    ⟨some 24, .iAddr 1 (.t 22) (.t 23), none, false⟩,
    ⟨some 25, .ld 1 false (.t 24), none, false⟩,
    ⟨some 9, .mv (.t 25), none, false⟩], []⟩
@[simp] def r87_6 : AReg := ⟨[0, 1, 8, 9], [0, 1, 8], [
    ⟨some 26, .mv (.t 9), none, false⟩,
    ⟨some 27, .bin .int .geq (.t 26) (.c (.dat (.int .i64 0))), none, false⟩], []⟩
@[simp] def r87_7 : AReg := ⟨[0, 1, 8, 9], [], [
    ⟨some 28, .mv (.t 0), none, false⟩,
    ⟨some 29, .mv (.t 9), none, false⟩,
    ⟨some 30, .iAddr 9 (.t 28) (.t 29), none, false⟩,
    ⟨some 31, .ld 9 true (.t 30), none, false⟩,
    ⟨some 32, .call 62 [((.t 31), false)] true, none, false⟩,
    ⟨some 33, .mv (.t 32), none, false⟩,
    ⟨some 34, .mv (.t 0), some (33, true), false⟩,
    ⟨some 35, .mv (.t 9), some (33, true), false⟩,
    ⟨some 36, .iAddr 9 (.t 34) (.t 35), some (33, true), false⟩,
    ⟨some 37, .fAddr 6 (.t 36), some (33, true), false⟩,
    ⟨some 38, .ld 1 false (.t 37), some (33, true), false⟩,
    ⟨some 39, .bin .int .eql (.t 38) (.c (.dat (.int .i64 2))), some (33, true), false⟩,
    ⟨some 40, .pick (.t 33) (.t 39) (.c (.dat (.bool false))), none, false⟩], []⟩
@[simp] def r87_8 : AReg := ⟨[0, 1, 8, 9], [], [
    ⟨some 41, .mv (.t 8), none, false⟩,
    ⟨some 42, .mv (.t 9), none, false⟩,
    ⟨some 43, .bldS .d 1 [(.t 42)], none, false⟩,
    ⟨some 44, .app .o 1 8 (.t 41) (.t 43), none, false⟩,
    ⟨some 8, .mv (.t 44), none, false⟩], []⟩
@[simp] def r87_9 : AReg := ⟨[0, 1, 8, 9], [], [
    ⟨some 45, .mv (.t 0), none, false⟩,
    ⟨some 46, .mv (.t 9), none, false⟩,
    ⟨some 47, .iAddr 9 (.t 45) (.t 46), none, false⟩,
    ⟨some 48, .fAddr 2 (.t 47), none, false⟩,
    ⟨some 49, .ld 1 false (.t 48), none, false⟩,
    ⟨some 50, .bin .int .neq (.t 49) (.c (.dat (.int .i64 5))), none, false⟩], []⟩
@[simp] def r87_10 : AReg := ⟨[0, 1, 8, 9], [], [
    ⟨some 51, .mv (.t 1), none, false⟩,
    ⟨some 52, .mv (.t 9), none, false⟩,
    ⟨some 53, .iAddr 1 (.t 51) (.t 52), none, false⟩,
    ⟨some 54, .ld 1 false (.t 53), none, false⟩,
    ⟨some 9, .mv (.t 54), none, false⟩], []⟩
def l87_0 : AC := .seq (.seq (.reg r87_6) (.cond (.t 27) (.skip) (.exit 0))) (.block 1 (.seq (.seq (.reg r87_7) (.cond (.t 40) (.reg r87_8) (.skip))) (.seq (.seq (.reg r87_9) (.cond (.t 50) (.exit 0) (.skip))) (.reg r87_10))))
@[simp] theorem l87_0e (K : Orc) (s : St) : exec K l87_0 s = exec K (.seq (.seq (.reg r87_6) (.cond (.t 27) (.skip) (.exit 0))) (.block 1 (.seq (.seq (.reg r87_7) (.cond (.t 40) (.reg r87_8) (.skip))) (.seq (.seq (.reg r87_9) (.cond (.t 50) (.exit 0) (.skip))) (.reg r87_10))))) s := rfl
@[simp] def r87_11 : AReg := ⟨[8], [], [
    ⟨some 55, .mv (.t 8), none, false⟩,
    ⟨some 6, .mv (.t 55), none, false⟩], []⟩
@[simp] def fn87 : AFun := ⟨3, [.t 6], false,
  .seq (.reg r87_0) (.seq (.reg r87_1) (.seq (.seq (.reg r87_2) (.cond (.t 21) (.seq (.reg r87_3) (.ret)) (.skip))) (.seq (.reg r87_4) (.seq (.seq (.reg r87_5) (.block 0 (.loop l87_0))) (.seq (.reg r87_11) (.ret)))))), none⟩

theorem c87 : cFun Tryz.prog ann87 false 87 = some fn87 := by kernel_rfl

/-! 88: modelcheck/clock.Advance -/

def ann88 : Ann := [{ id := 0, live := [0, 1] },
  { id := 1, live := [0, 1] },
  { id := 2, live := [] },
  { id := 3, live := [0, 1] }]

@[simp] def r88_0 : AReg := ⟨[0, 1], [], [
    ⟨some 4, .mv (.c .nils), none, false⟩], []⟩
@[simp] def r88_1 : AReg := ⟨[0, 1], [], [
    ⟨some 5, .mv (.t 0), none, false⟩,
    ⟨some 6, .call 99 [((.t 5), false)] true, none, false⟩,
    ⟨some 7, .un .not (.t 6), none, false⟩,
    ⟨some 8, .mv (.t 7), none, false⟩,
    ⟨some 9, .mv (.t 0), some (8, false), false⟩,
    ⟨some 10, .mv (.t 1), some (8, false), false⟩,
    ⟨some 11, .call 130 [((.t 9), false), ((.t 10), false)] true, some (8, false), false⟩,
    ⟨some 12, .bin .int .eql (.t 11) (.c (.dat (.int .i64 2147483647))), some (8, false), false⟩,
    ⟨some 13, .pick (.t 8) (.c (.dat (.bool true))) (.t 12), none, false⟩], []⟩
@[simp] def r88_2 : AReg := ⟨[], [], [
    ⟨some 4, .mv (.c .nils), none, false⟩], []⟩
@[simp] def r88_3 : AReg := ⟨[0, 1], [], [
    ⟨some 14, .mv (.t 0), none, false⟩,
    ⟨some 15, .mv (.t 1), none, false⟩,
    ⟨some 16, .call 131 [((.t 14), false), ((.t 15), false)] false, none, false⟩,
    ⟨some 4, .mv (.t 16), none, false⟩], []⟩
@[simp] def fn88 : AFun := ⟨2, [.t 4], false,
  .seq (.reg r88_0) (.seq (.seq (.reg r88_1) (.cond (.t 13) (.seq (.reg r88_2) (.ret)) (.skip))) (.seq (.reg r88_3) (.ret))), none⟩

theorem c88 : cFun Tryz.prog ann88 false 88 = some fn88 := by kernel_rfl

/-! 90: modelcheck/exec.choose -/

def ann90 : Ann := [{ id := 0, live := [0, 1] },
  { id := 1, live := [2, 3, 4] },
  { id := 2, live := [2, 3, 4, 6] },
  { id := 3, live := [4, 6] },
  { id := 4, live := [2, 3, 4] },
  { id := 5, live := [2, 3, 4, 9] },
  { id := 6, live := [4, 9] },
  { id := 7, live := [2, 3, 4] },
  { id := 8, live := [4] },
  { id := 9, live := [2, 3, 4] }]

@[simp] def r90_0 : AReg := ⟨[0, 1], [], [
    ⟨some 2, .box 5 (.t 0), none, false⟩,
    ⟨some 3, .box 2 (.t 1), none, false⟩,
    ⟨some 4, .alc [.nils, .nils, .nils, .nils, .nils, (.dat (.int .i64 0)), (.dat (.int .i64 0))], none, false⟩,
    ⟨some 5, .mv (.c (.dat (.int .i64 0))), none, false⟩], []⟩
@[simp] def r90_1 : AReg := ⟨[2, 3, 4], [], [
    ⟨some 11, .ld 5 true (.t 2), none, false⟩,
    ⟨some 12, .call 136 [((.t 11), false)] true, none, false⟩,
    ⟨some 10, .mv (.t 12), none, false⟩,
    ⟨some 13, .ext 0 (.t 10), none, false⟩,
    ⟨some 14, .ext 1 (.t 10), none, false⟩,
    ⟨some 15, .ext 2 (.t 10), none, false⟩,
    ⟨some 6, .mv (.t 13), none, false⟩,
    ⟨some 7, .mv (.t 14), none, false⟩,
    ⟨some 8, .mv (.t 15), none, false⟩], []⟩
@[simp] def r90_2 : AReg := ⟨[2, 3, 4, 6], [], [
    ⟨some 16, .mv (.t 6), none, false⟩,
    ⟨some 17, .bin .int .neq (.t 16) (.c (.dat (.int .i64 0))), none, false⟩], []⟩
@[simp] def r90_3 : AReg := ⟨[4, 6], [], [
    ⟨some 18, .bld [.nils, .nils, .nils, .nils, .nils, (.dat (.int .i64 0)), (.dat (.int .i64 0))] [], none, false⟩,
    ⟨some 19, .mv (.t 6), none, false⟩,
    ⟨none, .st false 7 (.t 4) (.t 18), none, false⟩,
    ⟨some 5, .mv (.t 19), none, false⟩], []⟩
@[simp] def r90_4 : AReg := ⟨[2, 3, 4], [], [
    ⟨some 20, .ld 2 true (.t 3), none, false⟩,
    ⟨some 21, .call 137 [((.t 20), false)] true, none, false⟩,
    ⟨some 9, .mv (.t 21), none, false⟩], []⟩
@[simp] def r90_5 : AReg := ⟨[2, 3, 4, 9], [], [
    ⟨some 22, .mv (.t 9), none, false⟩,
    ⟨some 23, .bin .int .neq (.t 22) (.c (.dat (.int .i64 0))), none, false⟩], []⟩
@[simp] def r90_6 : AReg := ⟨[4, 9], [], [
    ⟨some 24, .bld [.nils, .nils, .nils, .nils, .nils, (.dat (.int .i64 0)), (.dat (.int .i64 0))] [], none, false⟩,
    ⟨some 25, .mv (.t 9), none, false⟩,
    ⟨none, .st false 7 (.t 4) (.t 24), none, false⟩,
    ⟨some 5, .mv (.t 25), none, false⟩], []⟩
@[simp] def r90_7 : AReg := ⟨[2, 3, 4], [], [
    ⟨some 26, .fAddr 0 (.t 3), none, false⟩,
    ⟨some 27, .ld 1 false (.t 26), none, false⟩,
    ⟨some 28, .bin .int .eql (.t 27) (.c (.dat (.int .i64 3))), none, false⟩], []⟩
@[simp] def r90_8 : AReg := ⟨[4], [], [
    ⟨some 29, .bld [.nils, .nils, .nils, .nils, .nils, (.dat (.int .i64 0)), (.dat (.int .i64 0))] [], none, false⟩,
    ⟨none, .st false 7 (.t 4) (.t 29), none, false⟩,
    ⟨some 5, .mv (.c (.dat (.int .i64 18))), none, false⟩], []⟩
@[simp] def r90_9 : AReg := ⟨[2, 3, 4], [], [
    ⟨some 30, .ld 5 true (.t 2), none, false⟩,
    ⟨some 31, .ld 2 true (.t 3), none, false⟩,
    ⟨some 32, .bld [.nils, .nils, .nils, .nils, .nils, (.dat (.int .i64 0)), (.dat (.int .i64 0))] [(0, 5, (.t 30)), (5, 2, (.t 31))], none, false⟩,
    ⟨none, .st false 7 (.t 4) (.t 32), none, false⟩,
    ⟨some 5, .mv (.c (.dat (.int .i64 0))), none, false⟩], []⟩
@[simp] def fn90 : AFun := ⟨2, [.cell 4 7 true, .t 5], false,
  .seq (.reg r90_0) (.seq (.seq (.reg r90_1) (.seq (.reg r90_2) (.cond (.t 17) (.seq (.reg r90_3) (.ret)) (.skip)))) (.seq (.seq (.reg r90_4) (.seq (.reg r90_5) (.cond (.t 23) (.seq (.reg r90_6) (.ret)) (.skip)))) (.seq (.seq (.reg r90_7) (.cond (.t 28) (.seq (.reg r90_8) (.ret)) (.skip))) (.seq (.reg r90_9) (.ret))))), none⟩

theorem c90 : cFun Tryz.prog ann90 false 90 = some fn90 := by kernel_rfl


end Go.Am
