/- Parts of the proofs of the statement, joined: VCode3. -/
import Derived.Test.YtkogmedfilgneaaGreatDoorP3

namespace Go.Am
open Go.Proofs

/-! 196: modelcheck/memory.New -/

def ann196 : Ann := [{ id := 0, live := [0] },
  { id := 1, live := [1, 2] },
  { id := 2, live := [1, 2, 4] },
  { id := 3, live := [2, 4] },
  { id := 4, live := [1, 2], marks := [(3, { md := .o })] },
  { id := 5, live := [1, 2, 7] },
  { id := 6, live := [1, 2, 7, 26, 27, 28], drop := [1, 2, 7, 26] },
  { id := 7, live := [1, 2, 7, 26, 27, 28] },
  { id := 8, live := [1, 2, 7, 9, 26, 27, 28], marks := [(5, { md := .o })] },
  { id := 9, live := [1, 2, 7, 26, 27, 28] },
  { id := 10, live := [1, 2, 7] },
  { id := 11, live := [2, 7, 42, 43], drop := [2, 7] },
  { id := 12, live := [2, 7, 42, 43], marks := [(3, { md := .o })] },
  { id := 13, live := [2, 7, 42, 43] },
  { id := 14, live := [2, 7] }]

@[simp] def r196_0 : AReg := ⟨[0], [], [
    ⟨some 1, .box 5 (.t 0), none, false⟩,
    ⟨some 2, .alc [.nils, .nils, .nils, .nils], none, false⟩,
    ⟨some 3, .mv (.c (.dat (.int .i64 0))), none, false⟩], []⟩
@[simp] def r196_1 : AReg := ⟨[1, 2], [], [
    ⟨some 11, .ld 5 true (.t 1), none, false⟩,
    ⟨some 12, .call 136 [((.t 11), false)] true, none, false⟩,
    ⟨some 10, .mv (.t 12), none, false⟩,
    ⟨some 13, .ext 0 (.t 10), none, false⟩,
    ⟨some 14, .ext 1 (.t 10), none, false⟩,
    ⟨some 15, .ext 2 (.t 10), none, false⟩,
    ⟨some 4, .mv (.t 13), none, false⟩,
    ⟨some 5, .mv (.t 14), none, false⟩,
    ⟨some 6, .mv (.t 15), none, false⟩], []⟩
@[simp] def r196_2 : AReg := ⟨[1, 2, 4], [], [
    ⟨some 16, .mv (.t 4), none, false⟩,
    ⟨some 17, .bin .int .neq (.t 16) (.c (.dat (.int .i64 0))), none, false⟩], []⟩
@[simp] def r196_3 : AReg := ⟨[2, 4], [], [
    ⟨some 18, .bld [.nils, .nils, .nils, .nils] [], none, false⟩,
    ⟨some 19, .mv (.t 4), none, false⟩,
    ⟨none, .st false 4 (.t 2) (.t 18), none, false⟩,
    ⟨some 3, .mv (.t 19), none, false⟩], []⟩
@[simp] def r196_4 : AReg := ⟨[1, 2], [], [
    ⟨some 20, .fAddr 2 (.t 1), none, false⟩,
    ⟨some 21, .ld 1 false (.t 20), none, false⟩,
    ⟨some 22, .len false (.t 21), none, false⟩,
    ⟨some 23, .mk .o 1 24 [.nils] (.t 22) (.t 22), none, false⟩,
    ⟨some 24, .bld [.nils, .nils, .nils, .nils] [(2, 1, (.t 23))], none, false⟩,
    ⟨some 7, .alc [.nils, .nils, .nils, .nils], none, false⟩,
    ⟨none, .st false 4 (.t 7) (.t 24), none, false⟩], []⟩
@[simp] def r196_5 : AReg := ⟨[1, 2, 7], [], [
    ⟨some 25, .fAddr 0 (.t 1), none, false⟩,
    ⟨some 26, .ld 1 false (.t 25), none, false⟩,
    ⟨some 27, .len false (.t 26), none, false⟩,
    ⟨some 28, .mv (.c (.dat (.int .i64 0))), none, false⟩], []⟩
@[simp] def r196_6 : AReg := ⟨[1, 2, 7, 26, 27, 28], [1, 2, 7, 26], [
    ⟨some 29, .bin .int .lss (.t 28) (.t 27), none, false⟩], []⟩
@[simp] def r196_7 : AReg := ⟨[1, 2, 7, 26, 27, 28], [], [
    ⟨some 30, .iAddr 2 (.t 26) (.t 28), none, false⟩,
    ⟨some 31, .ld 2 true (.t 30), none, false⟩,
    ⟨some 9, .alc [(.dat (.str [])), (.dat (.int .i64 0))], none, false⟩,
    ⟨none, .st false 2 (.t 9) (.t 31), none, false⟩], []⟩
@[simp] def r196_8 : AReg := ⟨[1, 2, 7, 9, 26, 27, 28], [], [
    ⟨some 32, .fAddr 0 (.t 7), none, false⟩,
    ⟨some 33, .ld 1 false (.t 32), none, false⟩,
    ⟨some 34, .fAddr 1 (.t 9), none, false⟩,
    ⟨some 35, .ld 1 false (.t 34), none, false⟩,
    ⟨some 36, .bldS .d 1 [(.t 35)], none, false⟩,
    ⟨some 37, .app .o 1 8 (.t 33) (.t 36), none, false⟩,
    ⟨some 38, .fAddr 0 (.t 7), none, false⟩,
    ⟨none, .st false 1 (.t 38) (.t 37), none, false⟩], []⟩
@[simp] def r196_9 : AReg := ⟨[1, 2, 7, 26, 27, 28], [], [
    ⟨some 39, .bin .int .add (.t 28) (.c (.dat (.int .i64 1))), none, false⟩,
    ⟨some 28, .mv (.t 39), none, false⟩], []⟩
def l196_0 : AC := .seq (.reg r196_6) (.seq (.cond (.t 29) (.skip) (.exit 0)) (.seq (.block 1 (.seq (.reg r196_7) (.reg r196_8))) (.reg r196_9)))
@[simp] theorem l196_0e (K : Orc) (s : St) : exec K l196_0 s = exec K (.seq (.reg r196_6) (.seq (.cond (.t 29) (.skip) (.exit 0)) (.seq (.block 1 (.seq (.reg r196_7) (.reg r196_8))) (.reg r196_9)))) s := rfl
@[simp] def r196_10 : AReg := ⟨[1, 2, 7], [], [
    ⟨some 40, .fAddr 1 (.t 1), none, false⟩,
    ⟨some 41, .ld 1 false (.t 40), none, false⟩,
    ⟨some 42, .len false (.t 41), none, false⟩,
    ⟨some 43, .mv (.c (.dat (.int .i64 0))), none, false⟩], []⟩
@[simp] def r196_11 : AReg := ⟨[2, 7, 42, 43], [2, 7], [
    ⟨some 44, .bin .int .lss (.t 43) (.t 42), none, false⟩], []⟩
@[simp] def r196_12 : AReg := ⟨[2, 7, 42, 43], [], [
    ⟨some 45, .fAddr 1 (.t 7), none, false⟩,
    ⟨some 46, .ld 1 false (.t 45), none, false⟩,
    ⟨some 47, .bldS .d 1 [(.c (.dat (.int .i64 (-1))))], none, false⟩,
    ⟨some 48, .app .o 1 8 (.t 46) (.t 47), none, false⟩,
    ⟨some 49, .fAddr 1 (.t 7), none, false⟩,
    ⟨none, .st false 1 (.t 49) (.t 48), none, false⟩], []⟩
@[simp] def r196_13 : AReg := ⟨[2, 7, 42, 43], [], [
    ⟨some 50, .bin .int .add (.t 43) (.c (.dat (.int .i64 1))), none, false⟩,
    ⟨some 43, .mv (.t 50), none, false⟩], []⟩
def l196_1 : AC := .seq (.reg r196_11) (.seq (.cond (.t 44) (.skip) (.exit 2)) (.seq (.block 3 (.reg r196_12)) (.reg r196_13)))
@[simp] theorem l196_1e (K : Orc) (s : St) : exec K l196_1 s = exec K (.seq (.reg r196_11) (.seq (.cond (.t 44) (.skip) (.exit 2)) (.seq (.block 3 (.reg r196_12)) (.reg r196_13)))) s := rfl
@[simp] def r196_14 : AReg := ⟨[2, 7], [], [
    ⟨some 51, .ld 4 true (.t 7), none, false⟩,
    ⟨none, .st false 4 (.t 2) (.t 51), none, false⟩,
    ⟨some 3, .mv (.c (.dat (.int .i64 0))), none, false⟩], []⟩
@[simp] def fn196 : AFun := ⟨1, [.cell 2 4 true, .t 3], true,
  .seq (.reg r196_0) (.seq (.seq (.reg r196_1) (.seq (.reg r196_2) (.cond (.t 17) (.seq (.reg r196_3) (.ret)) (.skip)))) (.seq (.reg r196_4) (.seq (.seq (.reg r196_5) (.block 0 (.loop l196_0))) (.seq (.seq (.reg r196_10) (.block 2 (.loop l196_1))) (.seq (.reg r196_14) (.ret)))))), none⟩

theorem c196 : cFun Tryz.prog ann196 true 196 = some fn196 := by kernel_rfl

/-! 197: modelcheck/thread.New -/

def ann197 : Ann := [{ id := 0, live := [0, 1, 2, 3, 4] },
  { id := 1, live := [1, 2, 3, 4, 5, 10] },
  { id := 2, live := [1, 2, 3, 4, 5, 10, 12] },
  { id := 3, live := [10, 12] },
  { id := 4, live := [1, 2, 3, 4, 5, 10] },
  { id := 5, live := [10] },
  { id := 6, live := [1, 2, 3, 4, 5, 10] },
  { id := 7, live := [10] },
  { id := 8, live := [1, 2, 3, 4, 5, 10] },
  { id := 9, live := [10] },
  { id := 10, live := [1, 2, 3, 4, 5, 10] },
  { id := 11, live := [1, 4, 5, 10, 13] },
  { id := 12, live := [1, 5, 10, 13] }]

@[simp] def r197_0 : AReg := ⟨[0, 1, 2, 3, 4], [], [
    ⟨some 5, .box 5 (.t 0), none, false⟩,
    ⟨some 10, .alc [(.dat (.int .i64 0)), (.dat (.int .i64 0)), (.dat (.int .i64 0)), (.dat (.int .i64 0)), (.dat (.int .i64 0)), (.dat (.int .i64 0)), (.dat (.int .i64 0)), (.dat (.int .i64 0)), (.dat (.int .i64 0)), (.dat (.int .i64 0)), (.dat (.int .i64 0)), (.dat (.int .i64 0)), (.dat (.int .i64 0)), (.dat (.int .i64 0)), (.dat (.int .i64 0)), (.dat (.int .i64 0)), .nils], none, false⟩,
    ⟨some 11, .mv (.c (.dat (.int .i64 0))), none, false⟩], []⟩
@[simp] def r197_1 : AReg := ⟨[1, 2, 3, 4, 5, 10], [], [
    ⟨some 14, .ld 5 true (.t 5), none, false⟩,
    ⟨some 15, .mv (.t 1), none, false⟩,
    ⟨some 16, .call 242 [((.t 14), false), ((.t 15), false)] true, none, false⟩,
    ⟨some 12, .mv (.t 16), none, false⟩], []⟩
@[simp] def r197_2 : AReg := ⟨[1, 2, 3, 4, 5, 10, 12], [], [
    ⟨some 17, .mv (.t 12), none, false⟩,
    ⟨some 18, .bin .int .neq (.t 17) (.c (.dat (.int .i64 0))), none, false⟩], []⟩
@[simp] def r197_3 : AReg := ⟨[10, 12], [], [
    ⟨some 19, .bld [(.dat (.int .i64 0)), (.dat (.int .i64 0)), (.dat (.int .i64 0)), (.dat (.int .i64 0)), (.dat (.int .i64 0)), (.dat (.int .i64 0)), (.dat (.int .i64 0)), (.dat (.int .i64 0)), (.dat (.int .i64 0)), (.dat (.int .i64 0)), (.dat (.int .i64 0)), (.dat (.int .i64 0)), (.dat (.int .i64 0)), (.dat (.int .i64 0)), (.dat (.int .i64 0)), (.dat (.int .i64 0)), .nils] [], none, false⟩,
    ⟨some 20, .mv (.t 12), none, false⟩,
    ⟨none, .st false 17 (.t 10) (.t 19), none, false⟩,
    ⟨some 11, .mv (.t 20), none, false⟩], []⟩
@[simp] def r197_4 : AReg := ⟨[1, 2, 3, 4, 5, 10], [], [
    ⟨some 21, .mv (.t 2), none, false⟩,
    ⟨some 22, .call 243 [((.t 21), false)] true, none, false⟩,
    ⟨some 23, .bin .int .lss (.t 22) (.c (.dat (.int .i64 0))), none, false⟩], []⟩
@[simp] def r197_5 : AReg := ⟨[10], [], [
    ⟨some 24, .bld [(.dat (.int .i64 0)), (.dat (.int .i64 0)), (.dat (.int .i64 0)), (.dat (.int .i64 0)), (.dat (.int .i64 0)), (.dat (.int .i64 0)), (.dat (.int .i64 0)), (.dat (.int .i64 0)), (.dat (.int .i64 0)), (.dat (.int .i64 0)), (.dat (.int .i64 0)), (.dat (.int .i64 0)), (.dat (.int .i64 0)), (.dat (.int .i64 0)), (.dat (.int .i64 0)), (.dat (.int .i64 0)), .nils] [], none, false⟩,
    ⟨none, .st false 17 (.t 10) (.t 24), none, false⟩,
    ⟨some 11, .mv (.c (.dat (.int .i64 2))), none, false⟩], []⟩
@[simp] def r197_6 : AReg := ⟨[1, 2, 3, 4, 5, 10], [], [
    ⟨some 25, .mv (.t 3), none, false⟩,
    ⟨some 26, .bin .int .lss (.t 25) (.c (.dat (.int .i64 0))), none, false⟩,
    ⟨some 27, .mv (.t 26), none, false⟩,
    ⟨some 28, .mv (.t 3), some (27, false), false⟩,
    ⟨some 29, .fAddr 3 (.t 5), some (27, false), false⟩,
    ⟨some 30, .ld 1 false (.t 29), some (27, false), false⟩,
    ⟨some 31, .len false (.t 30), some (27, false), false⟩,
    ⟨some 32, .bin .int .geq (.t 28) (.t 31), some (27, false), false⟩,
    ⟨some 33, .pick (.t 27) (.c (.dat (.bool true))) (.t 32), none, false⟩], []⟩
@[simp] def r197_7 : AReg := ⟨[10], [], [
    ⟨some 34, .bld [(.dat (.int .i64 0)), (.dat (.int .i64 0)), (.dat (.int .i64 0)), (.dat (.int .i64 0)), (.dat (.int .i64 0)), (.dat (.int .i64 0)), (.dat (.int .i64 0)), (.dat (.int .i64 0)), (.dat (.int .i64 0)), (.dat (.int .i64 0)), (.dat (.int .i64 0)), (.dat (.int .i64 0)), (.dat (.int .i64 0)), (.dat (.int .i64 0)), (.dat (.int .i64 0)), (.dat (.int .i64 0)), .nils] [], none, false⟩,
    ⟨none, .st false 17 (.t 10) (.t 34), none, false⟩,
    ⟨some 11, .mv (.c (.dat (.int .i64 11))), none, false⟩], []⟩
@[simp] def r197_8 : AReg := ⟨[1, 2, 3, 4, 5, 10], [], [
    ⟨some 35, .mv (.t 4), none, false⟩,
    ⟨some 36, .call 244 [((.t 35), false)] true, none, false⟩,
    ⟨some 37, .mv (.t 4), none, false⟩,
    ⟨some 38, .bin .int .neq (.t 36) (.t 37), none, false⟩], []⟩
@[simp] def r197_9 : AReg := ⟨[10], [], [
    ⟨some 39, .bld [(.dat (.int .i64 0)), (.dat (.int .i64 0)), (.dat (.int .i64 0)), (.dat (.int .i64 0)), (.dat (.int .i64 0)), (.dat (.int .i64 0)), (.dat (.int .i64 0)), (.dat (.int .i64 0)), (.dat (.int .i64 0)), (.dat (.int .i64 0)), (.dat (.int .i64 0)), (.dat (.int .i64 0)), (.dat (.int .i64 0)), (.dat (.int .i64 0)), (.dat (.int .i64 0)), (.dat (.int .i64 0)), .nils] [], none, false⟩,
    ⟨none, .st false 17 (.t 10) (.t 39), none, false⟩,
    ⟨some 11, .mv (.c (.dat (.int .i64 2))), none, false⟩], []⟩
@[simp] def r197_10 : AReg := ⟨[1, 2, 3, 4, 5, 10], [], [
    ⟨some 40, .mv (.t 2), none, false⟩,
    ⟨some 41, .mv (.t 3), none, false⟩,
    ⟨some 42, .bld [(.dat (.int .i64 0)), (.dat (.int .i64 0)), (.dat (.int .i64 0)), (.dat (.int .i64 0)), (.dat (.int .i64 0)), (.dat (.int .i64 0)), (.dat (.int .i64 0)), (.dat (.int .i64 0)), (.dat (.int .i64 0)), (.dat (.int .i64 0)), (.dat (.int .i64 0)), (.dat (.int .i64 0)), (.dat (.int .i64 0)), (.dat (.int .i64 0)), (.dat (.int .i64 0)), (.dat (.int .i64 0)), .nils] [(0, 1, (.t 40)), (1, 1, (.t 41)), (14, 1, (.c (.dat (.int .i64 1))))], none, false⟩,
    ⟨some 13, .alc [(.dat (.int .i64 0)), (.dat (.int .i64 0)), (.dat (.int .i64 0)), (.dat (.int .i64 0)), (.dat (.int .i64 0)), (.dat (.int .i64 0)), (.dat (.int .i64 0)), (.dat (.int .i64 0)), (.dat (.int .i64 0)), (.dat (.int .i64 0)), (.dat (.int .i64 0)), (.dat (.int .i64 0)), (.dat (.int .i64 0)), (.dat (.int .i64 0)), (.dat (.int .i64 0)), (.dat (.int .i64 0)), .nils], none, false⟩,
    ⟨none, .st false 17 (.t 13) (.t 42), none, false⟩], []⟩
@[simp] def r197_11 : AReg := ⟨[1, 4, 5, 10, 13], [], [
    ⟨some 43, .mv (.t 4), none, false⟩,
    ⟨some 44, .fAddr 3 (.t 13), none, false⟩,
    ⟨some 45, .iAddrA 8 1 (.t 44) (.c (.dat (.int .i64 0))), none, false⟩,
    ⟨none, .st false 1 (.t 45) (.t 43), none, false⟩], []⟩
@[simp] def r197_12 : AReg := ⟨[1, 5, 10, 13], [], [
    ⟨some 46, .ld 5 true (.t 5), none, false⟩,
    ⟨some 47, .mv (.t 1), none, false⟩,
    ⟨some 48, .ld 17 true (.t 13), none, false⟩,
    ⟨some 49, .call 245 [((.t 46), false), ((.t 47), false), ((.t 48), false)] false, none, false⟩,
    ⟨none, .st false 17 (.t 10) (.t 49), none, false⟩,
    ⟨some 11, .mv (.c (.dat (.int .i64 0))), none, false⟩], []⟩
@[simp] def fn197 : AFun := ⟨5, [.cell 10 17 true, .t 11], false,
  .seq (.reg r197_0) (.seq (.seq (.reg r197_1) (.seq (.reg r197_2) (.cond (.t 18) (.seq (.reg r197_3) (.ret)) (.skip)))) (.seq (.seq (.reg r197_4) (.cond (.t 23) (.seq (.reg r197_5) (.ret)) (.skip))) (.seq (.seq (.reg r197_6) (.cond (.t 33) (.seq (.reg r197_7) (.ret)) (.skip))) (.seq (.seq (.reg r197_8) (.cond (.t 38) (.seq (.reg r197_9) (.ret)) (.skip))) (.seq (.reg r197_10) (.seq (.reg r197_11) (.seq (.reg r197_12) (.ret)))))))), none⟩

theorem c197 : cFun Tryz.prog ann197 false 197 = some fn197 := by kernel_rfl

/-! 199: modelcheck/machine.Step -/

def ann199 : Ann := [{ id := 0, live := [0, 1, 2, 3] },
  { id := 1, live := [1, 3, 4, 6, 8, 9] },
  { id := 2, live := [1, 3, 4, 6, 8, 9, 11] },
  { id := 3, live := [8, 9, 11] },
  { id := 4, live := [1, 3, 4, 6, 8, 9] },
  { id := 5, live := [8, 9] },
  { id := 6, live := [1, 3, 4, 6, 8, 9] },
  { id := 7, live := [1, 3, 4, 6, 8, 9, 12, 13, 14] },
  { id := 8, live := [8, 9] },
  { id := 9, live := [1, 3, 4, 6, 8, 9, 12, 13] },
  { id := 10, live := [1, 3, 4, 6, 8, 9, 12, 13, 15] },
  { id := 11, live := [1, 3, 4, 8, 9, 12, 13, 15, 16] },
  { id := 12, live := [1, 3, 4, 8, 9, 12, 13, 15, 16, 17, 18, 19] },
  { id := 13, live := [8, 9] },
  { id := 14, live := [1, 3, 4, 8, 9, 12, 13, 15, 16, 17, 18] },
  { id := 15, live := [1, 3, 4, 8, 9, 12, 13, 15, 16, 18] },
  { id := 16, live := [1, 3, 4, 8, 9, 12, 13, 15, 16, 18] },
  { id := 17, live := [1, 3, 4, 8, 9, 12, 15, 16, 18, 19] },
  { id := 18, live := [8, 9, 19] },
  { id := 19, live := [1, 3, 4, 8, 9, 12, 15, 16, 18] },
  { id := 20, live := [3, 8, 9, 15, 16, 19, 20] },
  { id := 21, live := [8, 9, 19] },
  { id := 22, live := [3, 8, 9, 15, 16, 20] },
  { id := 23, live := [8, 9, 15, 16, 20, 21] },
  { id := 24, live := [8, 9, 15, 16] }]

@[simp] def r199_0 : AReg := ⟨[0, 1, 2, 3], [], [
    ⟨some 4, .box 5 (.t 0), none, false⟩,
    ⟨some 6, .box 6 (.t 2), none, false⟩,
    ⟨some 8, .alc [.nils, .nils, .nils, .nils, .nils, .nils], none, false⟩,
    ⟨some 9, .alc [(.dat (.int .i64 0)), (.dat (.int .i64 0)), (.dat (.int .i64 0)), (.dat (.int .i64 0)), (.dat (.int .i64 0)), (.dat (.int .i64 0)), (.dat (.int .i64 0)), (.dat (.int .i64 0)), (.dat (.int .i64 0))], none, false⟩,
    ⟨some 10, .mv (.c (.dat (.int .i64 0))), none, false⟩], []⟩
@[simp] def r199_1 : AReg := ⟨[1, 3, 4, 6, 8, 9], [], [
    ⟨some 23, .ld 5 true (.t 4), none, false⟩,
    ⟨some 24, .mv (.t 1), none, false⟩,
    ⟨some 25, .call 195 [((.t 23), false), ((.t 24), false)] true, none, false⟩,
    ⟨some 11, .mv (.t 25), none, false⟩], []⟩
@[simp] def r199_2 : AReg := ⟨[1, 3, 4, 6, 8, 9, 11], [], [
    ⟨some 26, .mv (.t 11), none, false⟩,
    ⟨some 27, .bin .int .neq (.t 26) (.c (.dat (.int .i64 0))), none, false⟩], []⟩
@[simp] def r199_3 : AReg := ⟨[8, 9, 11], [], [
    ⟨some 28, .bld [.nils, .nils, .nils, .nils, .nils, .nils] [], none, false⟩,
    ⟨some 29, .bld [(.dat (.int .i64 0)), (.dat (.int .i64 0)), (.dat (.int .i64 0)), (.dat (.int .i64 0)), (.dat (.int .i64 0)), (.dat (.int .i64 0)), (.dat (.int .i64 0)), (.dat (.int .i64 0)), (.dat (.int .i64 0))] [], none, false⟩,
    ⟨some 30, .mv (.t 11), none, false⟩,
    ⟨none, .st false 6 (.t 8) (.t 28), none, false⟩,
    ⟨none, .st false 9 (.t 9) (.t 29), none, false⟩,
    ⟨some 10, .mv (.t 30), none, false⟩], []⟩
@[simp] def r199_4 : AReg := ⟨[1, 3, 4, 6, 8, 9], [], [
    ⟨some 31, .ld 5 true (.t 4), none, false⟩,
    ⟨some 32, .mv (.t 1), none, false⟩,
    ⟨some 33, .ld 6 true (.t 6), none, false⟩,
    ⟨some 34, .call 170 [((.t 31), false), ((.t 32), false), ((.t 33), false)] true, none, false⟩,
    ⟨some 35, .un .not (.t 34), none, false⟩], []⟩
@[simp] def r199_5 : AReg := ⟨[8, 9], [], [
    ⟨some 36, .bld [.nils, .nils, .nils, .nils, .nils, .nils] [], none, false⟩,
    ⟨some 37, .bld [(.dat (.int .i64 0)), (.dat (.int .i64 0)), (.dat (.int .i64 0)), (.dat (.int .i64 0)), (.dat (.int .i64 0)), (.dat (.int .i64 0)), (.dat (.int .i64 0)), (.dat (.int .i64 0)), (.dat (.int .i64 0))] [], none, false⟩,
    ⟨none, .st false 6 (.t 8) (.t 36), none, false⟩,
    ⟨none, .st false 9 (.t 9) (.t 37), none, false⟩,
    ⟨some 10, .mv (.c (.dat (.int .i64 1))), none, false⟩], []⟩
@[simp] def r199_6 : AReg := ⟨[1, 3, 4, 6, 8, 9], [], [
    ⟨some 39, .ld 5 true (.t 4), none, false⟩,
    ⟨some 40, .ld 6 true (.t 6), none, false⟩,
    ⟨some 41, .mv (.t 3), none, false⟩,
    ⟨some 42, .call 250 [((.t 39), false), ((.t 40), false), ((.t 41), false)] false, none, false⟩,
    ⟨some 38, .mv (.t 42), none, false⟩,
    ⟨some 43, .ext 0 (.t 38), none, false⟩,
    ⟨some 44, .ext 1 (.t 38), none, false⟩,
    ⟨some 45, .ext 2 (.t 38), none, false⟩,
    ⟨some 12, .alc [(.dat (.int .i64 0)), (.dat (.int .i64 0)), (.dat (.int .i64 0)), (.dat (.int .i64 0)), (.dat (.int .i64 0)), (.dat (.int .i64 0)), (.dat (.int .i64 0)), (.dat (.int .i64 0)), (.dat (.int .i64 0)), (.dat (.int .i64 0)), (.dat (.int .i64 0)), (.dat (.int .i64 0)), (.dat (.int .i64 0)), (.dat (.int .i64 0)), (.dat (.int .i64 0)), (.dat (.int .i64 0)), .nils], none, false⟩,
    ⟨some 13, .alc [(.dat (.int .i64 0)), (.dat (.int .i64 0)), (.dat (.int .i64 0)), (.dat (.int .i64 0)), (.dat (.int .i64 0)), (.dat (.int .i64 0)), (.dat (.int .i64 0)), (.dat (.int .i64 0))], none, false⟩,
    ⟨none, .st false 17 (.t 12) (.t 43), none, false⟩,
    ⟨none, .st false 8 (.t 13) (.t 44), none, false⟩,
    ⟨some 14, .mv (.t 45), none, false⟩], []⟩
@[simp] def r199_7 : AReg := ⟨[1, 3, 4, 6, 8, 9, 12, 13, 14], [], [
    ⟨some 46, .mv (.t 14), none, false⟩,
    ⟨some 47, .un .not (.t 46), none, false⟩,
    ⟨some 48, .mv (.t 47), none, false⟩,
    ⟨some 49, .ld 6 true (.t 6), some (48, false), false⟩,
    ⟨some 50, .ld 17 true (.t 12), some (48, false), false⟩,
    ⟨some 51, .ld 8 true (.t 13), some (48, false), false⟩,
    ⟨some 52, .call 172 [((.t 49), false), ((.t 50), false), ((.t 51), false)] true, some (48, false), false⟩,
    ⟨some 53, .un .not (.t 52), some (48, false), false⟩,
    ⟨some 54, .pick (.t 48) (.c (.dat (.bool true))) (.t 53), none, false⟩], []⟩
@[simp] def r199_8 : AReg := ⟨[8, 9], [], [
    ⟨some 55, .bld [.nils, .nils, .nils, .nils, .nils, .nils] [], none, false⟩,
    ⟨some 56, .bld [(.dat (.int .i64 0)), (.dat (.int .i64 0)), (.dat (.int .i64 0)), (.dat (.int .i64 0)), (.dat (.int .i64 0)), (.dat (.int .i64 0)), (.dat (.int .i64 0)), (.dat (.int .i64 0)), (.dat (.int .i64 0))] [], none, false⟩,
    ⟨none, .st false 6 (.t 8) (.t 55), none, false⟩,
    ⟨none, .st false 9 (.t 9) (.t 56), none, false⟩,
    ⟨some 10, .mv (.c (.dat (.int .i64 19))), none, false⟩], []⟩
@[simp] def r199_9 : AReg := ⟨[1, 3, 4, 6, 8, 9, 12, 13], [], [
    ⟨some 57, .ld 6 true (.t 6), none, false⟩,
    ⟨some 58, .ld 17 true (.t 12), none, false⟩,
    ⟨some 59, .ld 8 true (.t 13), none, false⟩,
    ⟨some 60, .call 251 [((.t 57), false), ((.t 58), false), ((.t 59), false)] false, none, false⟩,
    ⟨some 15, .alc [(.dat (.int .i64 0)), (.dat (.int .i64 0)), (.dat (.int .i64 0)), (.dat (.int .i64 0)), (.dat (.int .i64 0)), (.dat (.int .i64 0)), (.dat (.int .i64 0)), (.dat (.int .i64 0)), (.dat (.int .i64 0))], none, false⟩,
    ⟨none, .st false 9 (.t 15) (.t 60), none, false⟩], []⟩
@[simp] def r199_10 : AReg := ⟨[1, 3, 4, 6, 8, 9, 12, 13, 15], [], [
    ⟨some 61, .ld 6 true (.t 6), none, false⟩,
    ⟨some 62, .call 252 [((.t 61), false)] false, none, false⟩,
    ⟨some 16, .alc [.nils, .nils, .nils, .nils, .nils, .nils], none, false⟩,
    ⟨none, .st false 6 (.t 16) (.t 62), none, false⟩], []⟩
@[simp] def r199_11 : AReg := ⟨[1, 3, 4, 8, 9, 12, 13, 15, 16], [], [
    ⟨some 64, .fAddr 1 (.t 16), none, false⟩,
    ⟨some 65, .ld 4 true (.t 64), none, false⟩,
    ⟨some 66, .ld 17 true (.t 12), none, false⟩,
    ⟨some 67, .ld 8 true (.t 13), none, false⟩,
    ⟨some 68, .ld 9 true (.t 15), none, false⟩,
    ⟨some 69, .call 253 [((.t 65), false), ((.t 66), false), ((.t 67), false), ((.t 68), false)] false, none, false⟩,
    ⟨some 63, .mv (.t 69), none, false⟩,
    ⟨some 70, .ext 0 (.t 63), none, false⟩,
    ⟨some 71, .ext 1 (.t 63), none, false⟩,
    ⟨some 72, .ext 2 (.t 63), none, false⟩,
    ⟨some 17, .alc [.nils, .nils, .nils, .nils], none, false⟩,
    ⟨none, .st false 4 (.t 17) (.t 70), none, false⟩,
    ⟨some 18, .mv (.t 71), none, false⟩,
    ⟨some 19, .mv (.t 72), none, false⟩], []⟩
@[simp] def r199_12 : AReg := ⟨[1, 3, 4, 8, 9, 12, 13, 15, 16, 17, 18, 19], [], [
    ⟨some 73, .mv (.t 19), none, false⟩,
    ⟨some 74, .bin .int .neq (.t 73) (.c (.dat (.int .i64 0))), none, false⟩], []⟩
@[simp] def r199_13 : AReg := ⟨[8, 9], [], [
    ⟨some 75, .bld [.nils, .nils, .nils, .nils, .nils, .nils] [], none, false⟩,
    ⟨some 76, .bld [(.dat (.int .i64 0)), (.dat (.int .i64 0)), (.dat (.int .i64 0)), (.dat (.int .i64 0)), (.dat (.int .i64 0)), (.dat (.int .i64 0)), (.dat (.int .i64 0)), (.dat (.int .i64 0)), (.dat (.int .i64 0))] [], none, false⟩,
    ⟨none, .st false 6 (.t 8) (.t 75), none, false⟩,
    ⟨none, .st false 9 (.t 9) (.t 76), none, false⟩,
    ⟨some 10, .mv (.c (.dat (.int .i64 30))), none, false⟩], []⟩
@[simp] def r199_14 : AReg := ⟨[1, 3, 4, 8, 9, 12, 13, 15, 16, 17, 18], [], [
    ⟨some 77, .ld 4 true (.t 17), none, false⟩,
    ⟨some 78, .call 254 [((.t 77), false)] false, none, false⟩,
    ⟨some 79, .fAddr 1 (.t 16), none, false⟩,
    ⟨none, .st false 4 (.t 79) (.t 78), none, false⟩], []⟩
@[simp] def r199_15 : AReg := ⟨[1, 3, 4, 8, 9, 12, 13, 15, 16, 18], [], [
    ⟨some 80, .fAddr 2 (.t 15), none, false⟩,
    ⟨some 81, .ld 1 false (.t 80), none, false⟩,
    ⟨some 82, .bin .int .eql (.t 81) (.c (.dat (.int .i64 16))), none, false⟩], []⟩
@[simp] def r199_16 : AReg := ⟨[1, 3, 4, 8, 9, 12, 13, 15, 16, 18], [], [
    ⟨some 84, .ld 5 true (.t 4), none, false⟩,
    ⟨some 85, .mv (.t 1), none, false⟩,
    ⟨some 86, .ld 6 true (.t 16), none, false⟩,
    ⟨some 87, .fAddr 3 (.t 15), none, false⟩,
    ⟨some 88, .ld 1 false (.t 87), none, false⟩,
    ⟨some 89, .fAddr 4 (.t 13), none, false⟩,
    ⟨some 90, .ld 1 false (.t 89), none, false⟩,
    ⟨some 91, .fAddr 2 (.t 13), none, false⟩,
    ⟨some 92, .ld 1 false (.t 91), none, false⟩,
    ⟨some 93, .fAddr 3 (.t 12), none, false⟩,
    ⟨some 94, .iAddrA 8 1 (.t 93) (.t 92), none, false⟩,
    ⟨some 95, .ld 1 false (.t 94), none, false⟩,
    ⟨some 96, .call 255 [((.t 84), false), ((.t 85), false), ((.t 86), false), ((.t 88), false), ((.t 90), false), ((.t 95), false)] false, none, false⟩,
    ⟨some 83, .mv (.t 96), none, false⟩,
    ⟨some 97, .ext 0 (.t 83), none, false⟩,
    ⟨some 98, .ext 1 (.t 83), none, false⟩,
    ⟨none, .st false 6 (.t 16) (.t 97), none, false⟩,
    ⟨some 19, .mv (.t 98), none, false⟩], []⟩
@[simp] def r199_17 : AReg := ⟨[1, 3, 4, 8, 9, 12, 15, 16, 18, 19], [], [
    ⟨some 99, .mv (.t 19), none, false⟩,
    ⟨some 100, .bin .int .neq (.t 99) (.c (.dat (.int .i64 0))), none, false⟩], []⟩
@[simp] def r199_18 : AReg := ⟨[8, 9, 19], [], [
    ⟨some 101, .bld [.nils, .nils, .nils, .nils, .nils, .nils] [], none, false⟩,
    ⟨some 102, .bld [(.dat (.int .i64 0)), (.dat (.int .i64 0)), (.dat (.int .i64 0)), (.dat (.int .i64 0)), (.dat (.int .i64 0)), (.dat (.int .i64 0)), (.dat (.int .i64 0)), (.dat (.int .i64 0)), (.dat (.int .i64 0))] [], none, false⟩,
    ⟨some 103, .mv (.t 19), none, false⟩,
    ⟨none, .st false 6 (.t 8) (.t 101), none, false⟩,
    ⟨none, .st false 9 (.t 9) (.t 102), none, false⟩,
    ⟨some 10, .mv (.t 103), none, false⟩], []⟩
@[simp] def r199_19 : AReg := ⟨[1, 3, 4, 8, 9, 12, 15, 16, 18], [], [
    ⟨some 105, .ld 5 true (.t 4), none, false⟩,
    ⟨some 106, .mv (.t 1), none, false⟩,
    ⟨some 107, .ld 17 true (.t 12), none, false⟩,
    ⟨some 108, .mv (.t 18), none, false⟩,
    ⟨some 109, .call 256 [((.t 105), false), ((.t 106), false), ((.t 107), false), ((.t 108), false)] false, none, false⟩,
    ⟨some 104, .mv (.t 109), none, false⟩,
    ⟨some 110, .ext 0 (.t 104), none, false⟩,
    ⟨some 111, .ext 1 (.t 104), none, false⟩,
    ⟨some 20, .alc [(.dat (.int .i64 0)), (.dat (.int .i64 0)), (.dat (.int .i64 0)), (.dat (.int .i64 0)), (.dat (.int .i64 0)), (.dat (.int .i64 0)), (.dat (.int .i64 0)), (.dat (.int .i64 0)), (.dat (.int .i64 0)), (.dat (.int .i64 0)), (.dat (.int .i64 0)), (.dat (.int .i64 0)), (.dat (.int .i64 0)), (.dat (.int .i64 0)), (.dat (.int .i64 0)), (.dat (.int .i64 0)), .nils], none, false⟩,
    ⟨none, .st false 17 (.t 20) (.t 110), none, false⟩,
    ⟨some 19, .mv (.t 111), none, false⟩], []⟩
@[simp] def r199_20 : AReg := ⟨[3, 8, 9, 15, 16, 19, 20], [], [
    ⟨some 112, .mv (.t 19), none, false⟩,
    ⟨some 113, .bin .int .neq (.t 112) (.c (.dat (.int .i64 0))), none, false⟩], []⟩
@[simp] def r199_21 : AReg := ⟨[8, 9, 19], [], [
    ⟨some 114, .bld [.nils, .nils, .nils, .nils, .nils, .nils] [], none, false⟩,
    ⟨some 115, .bld [(.dat (.int .i64 0)), (.dat (.int .i64 0)), (.dat (.int .i64 0)), (.dat (.int .i64 0)), (.dat (.int .i64 0)), (.dat (.int .i64 0)), (.dat (.int .i64 0)), (.dat (.int .i64 0)), (.dat (.int .i64 0))] [], none, false⟩,
    ⟨some 116, .mv (.t 19), none, false⟩,
    ⟨none, .st false 6 (.t 8) (.t 114), none, false⟩,
    ⟨none, .st false 9 (.t 9) (.t 115), none, false⟩,
    ⟨some 10, .mv (.t 116), none, false⟩], []⟩
@[simp] def r199_22 : AReg := ⟨[3, 8, 9, 15, 16, 20], [], [
    ⟨some 118, .fAddr 0 (.t 16), none, false⟩,
    ⟨some 119, .ld 1 false (.t 118), none, false⟩,
    ⟨some 120, .mv (.t 3), none, false⟩,
    ⟨some 121, .call 211 [((.t 119), false), ((.t 120), false)] true, none, false⟩,
    ⟨some 117, .mv (.t 121), none, false⟩,
    ⟨some 122, .ext 0 (.t 117), none, false⟩,
    ⟨some 123, .ext 1 (.t 117), none, false⟩,
    ⟨some 21, .mv (.t 122), none, false⟩,
    ⟨some 22, .mv (.t 123), none, false⟩], []⟩
@[simp] def r199_23 : AReg := ⟨[8, 9, 15, 16, 20, 21], [], [
    ⟨some 124, .fAddr 0 (.t 16), none, false⟩,
    ⟨some 125, .ld 1 false (.t 124), none, false⟩,
    ⟨some 126, .mv (.t 21), none, false⟩,
    ⟨some 127, .ld 17 true (.t 20), none, false⟩,
    ⟨some 128, .iAddr 17 (.t 125) (.t 126), none, false⟩,
    ⟨none, .st false 17 (.t 128) (.t 127), none, false⟩], []⟩
@[simp] def r199_24 : AReg := ⟨[8, 9, 15, 16], [], [
    ⟨some 129, .ld 6 true (.t 16), none, false⟩,
    ⟨some 130, .ld 9 true (.t 15), none, true⟩,
    ⟨none, .st false 6 (.t 8) (.t 129), none, true⟩,
    ⟨none, .st false 9 (.t 9) (.t 130), none, false⟩,
    ⟨some 10, .mv (.c (.dat (.int .i64 0))), none, false⟩], [(1, 2)]⟩
@[simp] def fn199 : AFun := ⟨4, [.cell 8 6 true, .cell 9 9 true, .t 10], true,
  .seq (.reg r199_0) (.seq (.seq (.reg r199_1) (.seq (.reg r199_2) (.cond (.t 27) (.seq (.reg r199_3) (.ret)) (.skip)))) (.seq (.seq (.reg r199_4) (.cond (.t 35) (.seq (.reg r199_5) (.ret)) (.skip))) (.seq (.reg r199_6) (.seq (.seq (.reg r199_7) (.cond (.t 54) (.seq (.reg r199_8) (.ret)) (.skip))) (.seq (.reg r199_9) (.seq (.reg r199_10) (.seq (.reg r199_11) (.seq (.seq (.reg r199_12) (.cond (.t 74) (.seq (.reg r199_13) (.ret)) (.skip))) (.seq (.reg r199_14) (.seq (.seq (.reg r199_15) (.cond (.t 82) (.seq (.reg r199_16) (.seq (.reg r199_17) (.cond (.t 100) (.seq (.reg r199_18) (.ret)) (.skip)))) (.skip))) (.seq (.reg r199_19) (.seq (.seq (.reg r199_20) (.cond (.t 113) (.seq (.reg r199_21) (.ret)) (.skip))) (.seq (.reg r199_22) (.seq (.reg r199_23) (.seq (.reg r199_24) (.ret)))))))))))))))), none⟩

theorem c199 : cFun Tryz.prog ann199 true 199 = some fn199 := by kernel_rfl

/-! 200: modelcheck/program.Valid -/

def ann200 : Ann := [{ id := 0, live := [0] },
  { id := 1, live := [1] },
  { id := 2, live := [3] }]

@[simp] def r200_0 : AReg := ⟨[0], [], [
    ⟨some 1, .box 5 (.t 0), none, false⟩,
    ⟨some 2, .mv (.c (.dat (.bool false))), none, false⟩], []⟩
@[simp] def r200_1 : AReg := ⟨[1], [], [
    ⟨some 7, .ld 5 true (.t 1), none, false⟩,
    ⟨some 8, .call 136 [((.t 7), false)] true, none, false⟩,
    ⟨some 6, .mv (.t 8), none, false⟩,
    ⟨some 9, .ext 0 (.t 6), none, false⟩,
    ⟨some 10, .ext 1 (.t 6), none, false⟩,
    ⟨some 11, .ext 2 (.t 6), none, false⟩,
    ⟨some 3, .mv (.t 9), none, false⟩,
    ⟨some 4, .mv (.t 10), none, false⟩,
    ⟨some 5, .mv (.t 11), none, false⟩], []⟩
@[simp] def r200_2 : AReg := ⟨[3], [], [
    ⟨some 12, .mv (.t 3), none, false⟩,
    ⟨some 13, .bin .int .eql (.t 12) (.c (.dat (.int .i64 0))), none, false⟩,
    ⟨some 2, .mv (.t 13), none, false⟩], []⟩
@[simp] def fn200 : AFun := ⟨1, [.t 2], false,
  .seq (.reg r200_0) (.seq (.reg r200_1) (.seq (.reg r200_2) (.ret))), none⟩

theorem c200 : cFun Tryz.prog ann200 false 200 = some fn200 := by kernel_rfl

/-! 201: modelcheck/memory.Valid -/

def ann201 : Ann := [{ id := 0, live := [0, 1] },
  { id := 1, live := [2, 3] }]

@[simp] def r201_0 : AReg := ⟨[0, 1], [], [
    ⟨some 2, .box 5 (.t 0), none, false⟩,
    ⟨some 3, .box 4 (.t 1), none, false⟩,
    ⟨some 4, .mv (.c (.dat (.bool false))), none, false⟩], []⟩
@[simp] def r201_1 : AReg := ⟨[2, 3], [], [
    ⟨some 5, .ld 5 true (.t 2), none, false⟩,
    ⟨some 6, .call 200 [((.t 5), false)] true, none, false⟩,
    ⟨some 7, .mv (.t 6), none, false⟩,
    ⟨some 8, .ld 4 true (.t 3), some (7, true), false⟩,
    ⟨some 9, .call 257 [((.t 8), false)] true, some (7, true), false⟩,
    ⟨some 10, .pick (.t 7) (.t 9) (.c (.dat (.bool false))), none, false⟩,
    ⟨some 11, .mv (.t 10), none, false⟩,
    ⟨some 12, .fAddr 0 (.t 3), some (11, true), false⟩,
    ⟨some 13, .ld 1 false (.t 12), some (11, true), false⟩,
    ⟨some 14, .len false (.t 13), some (11, true), false⟩,
    ⟨some 15, .fAddr 0 (.t 2), some (11, true), false⟩,
    ⟨some 16, .ld 1 false (.t 15), some (11, true), false⟩,
    ⟨some 17, .len false (.t 16), some (11, true), false⟩,
    ⟨some 18, .bin .int .eql (.t 14) (.t 17), some (11, true), false⟩,
    ⟨some 19, .pick (.t 11) (.t 18) (.c (.dat (.bool false))), none, false⟩,
    ⟨some 20, .mv (.t 19), none, false⟩,
    ⟨some 21, .fAddr 1 (.t 3), some (20, true), false⟩,
    ⟨some 22, .ld 1 false (.t 21), some (20, true), false⟩,
    ⟨some 23, .len false (.t 22), some (20, true), false⟩,
    ⟨some 24, .fAddr 1 (.t 2), some (20, true), false⟩,
    ⟨some 25, .ld 1 false (.t 24), some (20, true), false⟩,
    ⟨some 26, .len false (.t 25), some (20, true), false⟩,
    ⟨some 27, .bin .int .eql (.t 23) (.t 26), some (20, true), false⟩,
    ⟨some 28, .pick (.t 20) (.t 27) (.c (.dat (.bool false))), none, false⟩,
    ⟨some 29, .mv (.t 28), none, false⟩,
    ⟨some 30, .fAddr 2 (.t 3), some (29, true), false⟩,
    ⟨some 31, .ld 1 false (.t 30), some (29, true), false⟩,
    ⟨some 32, .len false (.t 31), some (29, true), false⟩,
    ⟨some 33, .fAddr 2 (.t 2), some (29, true), false⟩,
    ⟨some 34, .ld 1 false (.t 33), some (29, true), false⟩,
    ⟨some 35, .len false (.t 34), some (29, true), false⟩,
    ⟨some 36, .bin .int .eql (.t 32) (.t 35), some (29, true), false⟩,
    ⟨some 37, .pick (.t 29) (.t 36) (.c (.dat (.bool false))), none, false⟩,
    ⟨some 4, .mv (.t 37), none, false⟩], []⟩
@[simp] def fn201 : AFun := ⟨2, [.t 4], false,
  .seq (.reg r201_0) (.seq (.reg r201_1) (.ret)), none⟩

theorem c201 : cFun Tryz.prog ann201 false 201 = some fn201 := by kernel_rfl

/-! 202: modelcheck/thread.Valid -/

def ann202 : Ann := [{ id := 0, live := [0, 1, 2] },
  { id := 1, live := [1, 3, 5] }]

@[simp] def r202_0 : AReg := ⟨[0, 1, 2], [], [
    ⟨some 3, .box 5 (.t 0), none, false⟩,
    ⟨some 5, .box 17 (.t 2), none, false⟩,
    ⟨some 6, .mv (.c (.dat (.bool false))), none, false⟩], []⟩
@[simp] def r202_1 : AReg := ⟨[1, 3, 5], [], [
    ⟨some 7, .ld 5 true (.t 3), none, false⟩,
    ⟨some 8, .mv (.t 1), none, false⟩,
    ⟨some 9, .call 242 [((.t 7), false), ((.t 8), false)] true, none, false⟩,
    ⟨some 10, .bin .int .eql (.t 9) (.c (.dat (.int .i64 0))), none, false⟩,
    ⟨some 11, .mv (.t 10), none, false⟩,
    ⟨some 12, .ld 5 true (.t 3), some (11, true), false⟩,
    ⟨some 13, .mv (.t 1), some (11, true), false⟩,
    ⟨some 14, .ld 17 true (.t 5), some (11, true), false⟩,
    ⟨some 15, .call 258 [((.t 12), false), ((.t 13), false), ((.t 14), false)] true, some (11, true), false⟩,
    ⟨some 16, .pick (.t 11) (.t 15) (.c (.dat (.bool false))), none, false⟩,
    ⟨some 6, .mv (.t 16), none, false⟩], []⟩
@[simp] def fn202 : AFun := ⟨3, [.t 6], false,
  .seq (.reg r202_0) (.seq (.reg r202_1) (.ret)), none⟩

theorem c202 : cFun Tryz.prog ann202 false 202 = some fn202 := by kernel_rfl

/-! 207: modelcheck/thread.at -/

def ann207 : Ann := [{ id := 0, live := [0, 1] },
  { id := 1, live := [2, 3, 4] },
  { id := 2, live := [3, 4, 6] },
  { id := 3, live := [4] },
  { id := 4, live := [3, 4, 6] }]

@[simp] def r207_0 : AReg := ⟨[0, 1], [], [
    ⟨some 2, .box 5 (.t 0), none, false⟩,
    ⟨some 3, .box 17 (.t 1), none, false⟩,
    ⟨some 4, .alc [(.dat (.int .i64 0)), (.dat (.int .i64 0)), (.dat (.int .i64 0)), (.dat (.int .i64 0)), (.dat (.int .i64 0)), (.dat (.int .i64 0)), (.dat (.int .i64 0)), (.dat (.int .i64 0))], none, false⟩,
    ⟨some 5, .mv (.c (.dat (.bool false))), none, false⟩], []⟩
@[simp] def r207_1 : AReg := ⟨[2, 3, 4], [], [
    ⟨some 7, .fAddr 3 (.t 2), none, false⟩,
    ⟨some 8, .ld 1 false (.t 7), none, false⟩,
    ⟨some 9, .fAddr 1 (.t 3), none, false⟩,
    ⟨some 10, .ld 1 false (.t 9), none, false⟩,
    ⟨some 11, .iAddr 2 (.t 8) (.t 10), none, false⟩,
    ⟨some 12, .fAddr 1 (.t 11), none, false⟩,
    ⟨some 13, .ld 1 false (.t 12), none, false⟩,
    ⟨some 6, .mv (.t 13), none, false⟩], []⟩
@[simp] def r207_2 : AReg := ⟨[3, 4, 6], [], [
    ⟨some 14, .fAddr 2 (.t 3), none, false⟩,
    ⟨some 15, .ld 1 false (.t 14), none, false⟩,
    ⟨some 16, .mv (.t 6), none, false⟩,
    ⟨some 17, .len false (.t 16), none, false⟩,
    ⟨some 18, .bin .int .geq (.t 15) (.t 17), none, false⟩], []⟩
@[simp] def r207_3 : AReg := ⟨[4], [], [
    ⟨some 19, .bld [(.dat (.int .i64 0)), (.dat (.int .i64 0)), (.dat (.int .i64 0)), (.dat (.int .i64 0)), (.dat (.int .i64 0)), (.dat (.int .i64 0)), (.dat (.int .i64 0)), (.dat (.int .i64 0))] [], none, false⟩,
    ⟨none, .st false 8 (.t 4) (.t 19), none, false⟩,
    ⟨some 5, .mv (.c (.dat (.bool false))), none, false⟩], []⟩
@[simp] def r207_4 : AReg := ⟨[3, 4, 6], [], [
    ⟨some 20, .mv (.t 6), none, false⟩,
    ⟨some 21, .fAddr 2 (.t 3), none, false⟩,
    ⟨some 22, .ld 1 false (.t 21), none, false⟩,
    ⟨some 23, .iAddr 8 (.t 20) (.t 22), none, false⟩,
    ⟨some 24, .ld 8 true (.t 23), none, false⟩,
    ⟨none, .st false 8 (.t 4) (.t 24), none, false⟩,
    ⟨some 5, .mv (.c (.dat (.bool true))), none, false⟩], []⟩
@[simp] def fn207 : AFun := ⟨2, [.cell 4 8 true, .t 5], false,
  .seq (.reg r207_0) (.seq (.reg r207_1) (.seq (.seq (.reg r207_2) (.cond (.t 18) (.seq (.reg r207_3) (.ret)) (.skip))) (.seq (.reg r207_4) (.ret)))), none⟩

theorem c207 : cFun Tryz.prog ann207 false 207 = some fn207 := by kernel_rfl

/-! 210: modelcheck/memory.Free -/

def ann210 : Ann := [{ id := 0, live := [0, 1] },
  { id := 1, live := [1, 2] }]

@[simp] def r210_0 : AReg := ⟨[0, 1], [], [
    ⟨some 2, .box 4 (.t 0), none, false⟩,
    ⟨some 4, .mv (.c (.dat (.bool false))), none, false⟩], []⟩
@[simp] def r210_1 : AReg := ⟨[1, 2], [], [
    ⟨some 5, .ld 4 true (.t 2), none, false⟩,
    ⟨some 6, .mv (.t 1), none, false⟩,
    ⟨some 7, .fAddr 1 (.t 2), none, false⟩,
    ⟨some 8, .ld 1 false (.t 7), none, false⟩,
    ⟨some 9, .len false (.t 8), none, false⟩,
    ⟨some 10, .call 264 [((.t 5), false), ((.t 6), false), ((.t 9), false)] true, none, false⟩,
    ⟨some 11, .bin .int .eql (.t 10) (.c (.dat (.int .i64 0))), none, false⟩,
    ⟨some 12, .mv (.t 11), none, false⟩,
    ⟨some 13, .fAddr 1 (.t 2), some (12, true), false⟩,
    ⟨some 14, .ld 1 false (.t 13), some (12, true), false⟩,
    ⟨some 15, .mv (.t 1), some (12, true), false⟩,
    ⟨some 16, .iAddr 1 (.t 14) (.t 15), some (12, true), false⟩,
    ⟨some 17, .ld 1 false (.t 16), some (12, true), false⟩,
    ⟨some 18, .bin .int .eql (.t 17) (.c (.dat (.int .i64 (-1)))), some (12, true), false⟩,
    ⟨some 19, .pick (.t 12) (.t 18) (.c (.dat (.bool false))), none, false⟩,
    ⟨some 4, .mv (.t 19), none, false⟩], []⟩
@[simp] def fn210 : AFun := ⟨2, [.t 4], false,
  .seq (.reg r210_0) (.seq (.reg r210_1) (.ret)), none⟩

theorem c210 : cFun Tryz.prog ann210 false 210 = some fn210 := by kernel_rfl

/-! 211: modelcheck/thread.Find -/

def ann211 : Ann := [{ id := 0, live := [0, 1] },
  { id := 1, live := [0, 3], marks := [(2, { byRef := [1] })] },
  { id := 2, live := [6] }]

@[simp] def r211_0 : AReg := ⟨[0, 1], [], [
    ⟨some 3, .box 1 (.t 1), none, false⟩,
    ⟨some 4, .mv (.c (.dat (.int .i64 0))), none, false⟩,
    ⟨some 5, .mv (.c (.dat (.bool false))), none, false⟩], []⟩
@[simp] def r211_1 : AReg := ⟨[0, 3], [], [
    ⟨some 7, .mv (.t 0), none, false⟩,
    ⟨some 8, .mkf 267 [(.t 3)], none, false⟩,
    ⟨some 9, .call 266 [((.t 7), false), ((.t 8), true)] true, none, false⟩,
    ⟨some 6, .mv (.t 9), none, false⟩], []⟩
@[simp] def r211_2 : AReg := ⟨[6], [], [
    ⟨some 10, .mv (.t 6), none, false⟩,
    ⟨some 11, .mm true (.t 10) [(.c (.dat (.int .i64 0)))], none, false⟩,
    ⟨some 12, .mv (.t 6), none, false⟩,
    ⟨some 13, .bin .int .geq (.t 12) (.c (.dat (.int .i64 0))), none, false⟩,
    ⟨some 4, .mv (.t 11), none, false⟩,
    ⟨some 5, .mv (.t 13), none, false⟩], []⟩
@[simp] def fn211 : AFun := ⟨2, [.t 4, .t 5], false,
  .seq (.reg r211_0) (.seq (.reg r211_1) (.seq (.reg r211_2) (.ret))), none⟩

theorem c211 : cFun Tryz.prog ann211 false 211 = some fn211 := by kernel_rfl

/-! 212: slices.insertionSortOrdered[int] -/

def ann212 : Ann := [{ id := 0, live := [0, 1, 2] },
  { id := 1, live := [0, 1, 2, 6] },
  { id := 3, live := [0, 1, 2, 6] },
  { id := 4, live := [0, 1, 2, 6, 7] },
  { id := 6, live := [0, 1, 2, 6, 7] },
  { id := 5, live := [0, 1, 2, 6, 7] },
  { id := 2, live := [0, 1, 2, 6] }]

@[simp] def r212_0 : AReg := ⟨[0, 1, 2], [], [
    ⟨some 8, .mv (.t 1), none, false⟩,
    ⟨some 9, .bin .int .add (.t 8) (.c (.dat (.int .i64 1))), none, false⟩,
    ⟨some 6, .mv (.t 9), none, false⟩], []⟩
@[simp] def r212_1 : AReg := ⟨[0, 1, 2, 6], [], [
    ⟨some 10, .mv (.t 6), none, false⟩,
    ⟨some 11, .mv (.t 2), none, false⟩,
    ⟨some 12, .bin .int .lss (.t 10) (.t 11), none, false⟩], []⟩
@[simp] def r212_2 : AReg := ⟨[0, 1, 2, 6], [], [
    ⟨some 15, .mv (.t 6), none, false⟩,
    ⟨some 7, .mv (.t 15), none, false⟩], []⟩
@[simp] def r212_3 : AReg := ⟨[0, 1, 2, 6, 7], [], [
    ⟨some 16, .mv (.t 7), none, false⟩,
    ⟨some 17, .mv (.t 1), none, false⟩,
    ⟨some 18, .bin .int .gtr (.t 16) (.t 17), none, false⟩,
    ⟨some 19, .mv (.t 18), none, false⟩,
    ⟨some 20, .mv (.t 0), some (19, true), false⟩,
    ⟨some 21, .mv (.t 7), some (19, true), false⟩,
    ⟨some 22, .iAddr 1 (.t 20) (.t 21), some (19, true), false⟩,
    ⟨some 23, .ld 1 false (.t 22), some (19, true), false⟩,
    ⟨some 24, .mv (.t 0), some (19, true), false⟩,
    ⟨some 25, .mv (.t 7), some (19, true), false⟩,
    ⟨some 26, .bin .int .sub (.t 25) (.c (.dat (.int .i64 1))), some (19, true), false⟩,
    ⟨some 27, .iAddr 1 (.t 24) (.t 26), some (19, true), false⟩,
    ⟨some 28, .ld 1 false (.t 27), some (19, true), false⟩,
    ⟨some 29, .call 218 [((.t 23), false), ((.t 28), false)] true, some (19, true), false⟩,
    ⟨some 30, .pick (.t 19) (.t 29) (.c (.dat (.bool false))), none, false⟩], []⟩
@[simp] def r212_4 : AReg := ⟨[0, 1, 2, 6, 7], [], [
    ⟨some 33, .mv (.t 0), none, false⟩,
    ⟨some 34, .mv (.t 7), none, false⟩,
    ⟨some 35, .mv (.t 0), none, false⟩,
    ⟨some 36, .mv (.t 7), none, false⟩,
    ⟨some 37, .bin .int .sub (.t 36) (.c (.dat (.int .i64 1))), none, false⟩,
    ⟨some 38, .mv (.t 0), none, false⟩,
    ⟨some 39, .mv (.t 7), none, false⟩,
    ⟨some 40, .bin .int .sub (.t 39) (.c (.dat (.int .i64 1))), none, false⟩,
    ⟨some 41, .iAddr 1 (.t 38) (.t 40), none, false⟩,
    ⟨some 42, .ld 1 false (.t 41), none, false⟩,
    ⟨some 43, .mv (.t 0), none, false⟩,
    ⟨some 44, .mv (.t 7), none, false⟩,
    ⟨some 45, .iAddr 1 (.t 43) (.t 44), none, false⟩,
    ⟨some 46, .ld 1 false (.t 45), none, false⟩,
    ⟨some 47, .iAddr 1 (.t 33) (.t 34), none, false⟩,
    ⟨none, .st false 1 (.t 47) (.t 42), none, false⟩,
    ⟨some 48, .iAddr 1 (.t 35) (.t 37), none, false⟩,
    ⟨none, .st false 1 (.t 48) (.t 46), none, false⟩], []⟩
@[simp] def r212_5 : AReg := ⟨[0, 1, 2, 6, 7], [], [
    ⟨some 31, .mv (.t 7), none, false⟩,
    ⟨some 32, .bin .int .sub (.t 31) (.c (.dat (.int .i64 1))), none, false⟩,
    ⟨some 7, .mv (.t 32), none, false⟩], []⟩
def l212_0 : AC := .seq (.seq (.reg r212_3) (.cond (.t 30) (.skip) (.exit 2))) (.seq (.block 3 (.reg r212_4)) (.reg r212_5))
@[simp] theorem l212_0e (K : Orc) (s : St) : exec K l212_0 s = exec K (.seq (.seq (.reg r212_3) (.cond (.t 30) (.skip) (.exit 2))) (.seq (.block 3 (.reg r212_4)) (.reg r212_5))) s := rfl
@[simp] def r212_6 : AReg := ⟨[0, 1, 2, 6], [], [
    ⟨some 13, .mv (.t 6), none, false⟩,
    ⟨some 14, .bin .int .add (.t 13) (.c (.dat (.int .i64 1))), none, false⟩,
    ⟨some 6, .mv (.t 14), none, false⟩], []⟩
def l212_1 : AC := .seq (.seq (.reg r212_1) (.cond (.t 12) (.skip) (.exit 0))) (.seq (.block 1 (.seq (.reg r212_2) (.block 2 (.loop l212_0)))) (.reg r212_6))
@[simp] theorem l212_1e (K : Orc) (s : St) : exec K l212_1 s = exec K (.seq (.seq (.reg r212_1) (.cond (.t 12) (.skip) (.exit 0))) (.seq (.block 1 (.seq (.reg r212_2) (.block 2 (.loop l212_0)))) (.reg r212_6))) s := rfl
@[simp] def fn212 : AFun := ⟨3, [], false,
  .seq (.reg r212_0) (.block 0 (.loop l212_1)), none⟩

theorem c212 : cFun Tryz.prog ann212 false 212 = some fn212 := by kernel_rfl

/-! 218: cmp.Less[int] -/

def ann218 : Ann := [{ id := 0, live := [0, 1] },
  { id := 1, live := [0, 1] }]

@[simp] def r218_0 : AReg := ⟨[0, 1], [], [
    ⟨some 4, .mv (.c (.dat (.bool false))), none, false⟩], []⟩
@[simp] def r218_1 : AReg := ⟨[0, 1], [], [
    ⟨some 5, .mv (.t 0), none, false⟩,
    ⟨some 6, .call 273 [((.t 5), false)] true, none, false⟩,
    ⟨some 7, .mv (.t 6), none, false⟩,
    ⟨some 8, .mv (.t 1), some (7, true), false⟩,
    ⟨some 9, .call 273 [((.t 8), false)] true, some (7, true), false⟩,
    ⟨some 10, .un .not (.t 9), some (7, true), false⟩,
    ⟨some 11, .pick (.t 7) (.t 10) (.c (.dat (.bool false))), none, false⟩,
    ⟨some 12, .mv (.t 11), none, false⟩,
    ⟨some 13, .mv (.t 0), some (12, false), false⟩,
    ⟨some 14, .mv (.t 1), some (12, false), false⟩,
    ⟨some 15, .bin .int .lss (.t 13) (.t 14), some (12, false), false⟩,
    ⟨some 16, .pick (.t 12) (.c (.dat (.bool true))) (.t 15), none, false⟩,
    ⟨some 4, .mv (.t 16), none, false⟩], []⟩
@[simp] def fn218 : AFun := ⟨2, [.t 4], false,
  .seq (.reg r218_0) (.seq (.reg r218_1) (.ret)), none⟩

theorem c218 : cFun Tryz.prog ann218 false 218 = some fn218 := by kernel_rfl

/-! 222: math/bits.Len64 -/

def ann222 : Ann := [{ id := 0, live := [0] },
  { id := 1, live := [0, 2] },
  { id := 2, live := [0] },
  { id := 3, live := [0] },
  { id := 4, live := [0, 2] },
  { id := 5, live := [0, 2] },
  { id := 6, live := [0, 2] },
  { id := 7, live := [0, 2] },
  { id := 8, live := [0, 2] },
  { id := 9, live := [0, 2] },
  { id := 10, live := [0, 2] }]

@[simp] def r222_0 : AReg := ⟨[0], [], [
    ⟨some 2, .mv (.c (.dat (.int .i64 0))), none, false⟩], []⟩
@[simp] def r222_1 : AReg := ⟨[0, 2], [], [
    ⟨some 3, .mv (.t 0), none, false⟩,
    ⟨some 4, .bin .int .geq (.t 3) (.c (.dat (.int .u64 4294967296))), none, false⟩], []⟩
@[simp] def r222_2 : AReg := ⟨[0], [], [
    ⟨some 5, .mv (.t 0), none, false⟩,
    ⟨some 6, .bin .int .shr (.t 5) (.c (.dat (.int .u64 32))), none, false⟩,
    ⟨some 0, .mv (.t 6), none, false⟩], []⟩
@[simp] def r222_3 : AReg := ⟨[0], [], [
    ⟨some 2, .mv (.c (.dat (.int .i64 32))), none, false⟩], []⟩
@[simp] def r222_4 : AReg := ⟨[0, 2], [], [
    ⟨some 7, .mv (.t 0), none, false⟩,
    ⟨some 8, .bin .int .geq (.t 7) (.c (.dat (.int .u64 65536))), none, false⟩], []⟩
@[simp] def r222_5 : AReg := ⟨[0, 2], [], [
    ⟨some 9, .mv (.t 0), none, false⟩,
    ⟨some 10, .bin .int .shr (.t 9) (.c (.dat (.int .u64 16))), none, false⟩,
    ⟨some 0, .mv (.t 10), none, false⟩], []⟩
@[simp] def r222_6 : AReg := ⟨[0, 2], [], [
    ⟨some 11, .mv (.t 2), none, false⟩,
    ⟨some 12, .bin .int .add (.t 11) (.c (.dat (.int .i64 16))), none, false⟩,
    ⟨some 2, .mv (.t 12), none, false⟩], []⟩
@[simp] def r222_7 : AReg := ⟨[0, 2], [], [
    ⟨some 13, .mv (.t 0), none, false⟩,
    ⟨some 14, .bin .int .geq (.t 13) (.c (.dat (.int .u64 256))), none, false⟩], []⟩
@[simp] def r222_8 : AReg := ⟨[0, 2], [], [
    ⟨some 15, .mv (.t 0), none, false⟩,
    ⟨some 16, .bin .int .shr (.t 15) (.c (.dat (.int .u64 8))), none, false⟩,
    ⟨some 0, .mv (.t 16), none, false⟩], []⟩
@[simp] def r222_9 : AReg := ⟨[0, 2], [], [
    ⟨some 17, .mv (.t 2), none, false⟩,
    ⟨some 18, .bin .int .add (.t 17) (.c (.dat (.int .i64 8))), none, false⟩,
    ⟨some 2, .mv (.t 18), none, false⟩], []⟩
@[simp] def r222_10 : AReg := ⟨[0, 2], [], [
    ⟨some 19, .mv (.t 2), none, false⟩,
    ⟨some 20, .mv (.t 0), none, false⟩,
    ⟨some 21, .cvt .u8 (.t 20), none, false⟩,
    ⟨some 22, .idxS (.c (.dat (.str [0, 1, 2, 2, 3, 3, 3, 3, 4, 4, 4, 4, 4, 4, 4, 4, 5, 5, 5, 5, 5, 5, 5, 5, 5, 5, 5, 5, 5, 5, 5, 5, 6, 6, 6, 6, 6, 6, 6, 6, 6, 6, 6, 6, 6, 6, 6, 6, 6, 6, 6, 6, 6, 6, 6, 6, 6, 6, 6, 6, 6, 6, 6, 6, 7, 7, 7, 7, 7, 7, 7, 7, 7, 7, 7, 7, 7, 7, 7, 7, 7, 7, 7, 7, 7, 7, 7, 7, 7, 7, 7, 7, 7, 7, 7, 7, 7, 7, 7, 7, 7, 7, 7, 7, 7, 7, 7, 7, 7, 7, 7, 7, 7, 7, 7, 7, 7, 7, 7, 7, 7, 7, 7, 7, 7, 7, 7, 7, 8, 8, 8, 8, 8, 8, 8, 8, 8, 8, 8, 8, 8, 8, 8, 8, 8, 8, 8, 8, 8, 8, 8, 8, 8, 8, 8, 8, 8, 8, 8, 8, 8, 8, 8, 8, 8, 8, 8, 8, 8, 8, 8, 8, 8, 8, 8, 8, 8, 8, 8, 8, 8, 8, 8, 8, 8, 8, 8, 8, 8, 8, 8, 8, 8, 8, 8, 8, 8, 8, 8, 8, 8, 8, 8, 8, 8, 8, 8, 8, 8, 8, 8, 8, 8, 8, 8, 8, 8, 8, 8, 8, 8, 8, 8, 8, 8, 8, 8, 8, 8, 8, 8, 8, 8, 8, 8, 8, 8, 8, 8, 8, 8, 8, 8, 8, 8, 8, 8, 8, 8, 8, 8, 8, 8, 8, 8, 8]))) (.t 21), none, false⟩,
    ⟨some 23, .cvt .i64 (.t 22), none, false⟩,
    ⟨some 24, .bin .int .add (.t 19) (.t 23), none, false⟩,
    ⟨some 2, .mv (.t 24), none, false⟩], []⟩
@[simp] def fn222 : AFun := ⟨1, [.t 2], false,
  .seq (.reg r222_0) (.seq (.seq (.reg r222_1) (.cond (.t 4) (.seq (.reg r222_2) (.reg r222_3)) (.skip))) (.seq (.seq (.reg r222_4) (.cond (.t 8) (.seq (.reg r222_5) (.reg r222_6)) (.skip))) (.seq (.seq (.reg r222_7) (.cond (.t 14) (.seq (.reg r222_8) (.reg r222_9)) (.skip))) (.seq (.reg r222_10) (.ret))))), none⟩

theorem c222 : cFun Tryz.prog ann222 false 222 = some fn222 := by kernel_rfl

/-! 226: slices.Clone[[]int,int] -/

def ann226 : Ann := [{ id := 0, live := [0] },
  { id := 1, live := [0] },
  { id := 2, live := [], marks := [(0, { md := .o })] },
  { id := 3, live := [0], marks := [(0, { md := .o }), (2, { md := .o })] }]

@[simp] def r226_0 : AReg := ⟨[0], [], [
    ⟨some 2, .mv (.c .nils), none, false⟩], []⟩
@[simp] def r226_1 : AReg := ⟨[0], [], [
    ⟨some 3, .mv (.t 0), none, false⟩,
    ⟨some 4, .bin .slc .eql (.t 3) (.c .nils), none, false⟩], []⟩
@[simp] def r226_2 : AReg := ⟨[], [], [
    ⟨some 2, .mvNil .o 1, none, false⟩], []⟩
@[simp] def r226_3 : AReg := ⟨[0], [], [
    ⟨some 5, .bldS .o 1 [], none, false⟩,
    ⟨some 6, .mv (.t 0), none, false⟩,
    ⟨some 7, .app .o 1 8 (.t 5) (.t 6), none, false⟩,
    ⟨some 2, .mv (.t 7), none, false⟩], []⟩
@[simp] def fn226 : AFun := ⟨1, [.t 2], true,
  .seq (.reg r226_0) (.seq (.seq (.reg r226_1) (.cond (.t 4) (.seq (.reg r226_2) (.ret)) (.skip))) (.seq (.reg r226_3) (.ret))), none⟩

theorem c226 : cFun Tryz.prog ann226 true 226 = some fn226 := by kernel_rfl

/-! 237: modelcheck/program.ValidName -/

def ann237 : Ann := [{ id := 0, live := [0] },
  { id := 1, live := [0] },
  { id := 2, live := [] },
  { id := 3, live := [0] },
  { id := 4, live := [0, 19, 20] },
  { id := 5, live := [0, 19, 20] },
  { id := 6, live := [0, 3, 19, 20] },
  { id := 7, live := [] },
  { id := 8, live := [0, 19, 20] },
  { id := 9, live := [] }]

@[simp] def r237_0 : AReg := ⟨[0], [], [
    ⟨some 2, .mv (.c (.dat (.bool false))), none, false⟩], []⟩
@[simp] def r237_1 : AReg := ⟨[0], [], [
    ⟨some 4, .mv (.t 0), none, false⟩,
    ⟨some 5, .len true (.t 4), none, false⟩,
    ⟨some 6, .bin .int .lss (.t 5) (.c (.dat (.int .i64 1))), none, false⟩,
    ⟨some 7, .mv (.t 6), none, false⟩,
    ⟨some 8, .mv (.t 0), some (7, false), false⟩,
    ⟨some 9, .len true (.t 8), some (7, false), false⟩,
    ⟨some 10, .bin .int .gtr (.t 9) (.c (.dat (.int .i64 16))), some (7, false), false⟩,
    ⟨some 11, .pick (.t 7) (.c (.dat (.bool true))) (.t 10), none, false⟩,
    ⟨some 12, .mv (.t 11), none, false⟩,
    ⟨some 13, .mv (.t 0), some (12, false), false⟩,
    ⟨some 14, .idxS (.t 13) (.c (.dat (.int .i64 0))), some (12, false), false⟩,
    ⟨some 15, .call 284 [((.t 14), false)] true, some (12, false), false⟩,
    ⟨some 16, .un .not (.t 15), some (12, false), false⟩,
    ⟨some 17, .pick (.t 12) (.c (.dat (.bool true))) (.t 16), none, false⟩], []⟩
@[simp] def r237_2 : AReg := ⟨[], [], [
    ⟨some 2, .mv (.c (.dat (.bool false))), none, false⟩], []⟩
@[simp] def r237_3 : AReg := ⟨[0], [], [
    ⟨some 18, .mv (.t 0), none, false⟩,
    ⟨some 19, .len true (.t 18), none, false⟩,
    ⟨some 20, .mv (.c (.dat (.int .i64 0))), none, false⟩], []⟩
@[simp] def r237_4 : AReg := ⟨[0, 19, 20], [], [
    ⟨some 21, .bin .int .lss (.t 20) (.t 19), none, false⟩], []⟩
@[simp] def r237_5 : AReg := ⟨[0, 19, 20], [], [
    ⟨some 22, .mv (.t 20), none, false⟩,
    ⟨some 3, .mv (.t 22), none, false⟩], []⟩
@[simp] def r237_6 : AReg := ⟨[0, 3, 19, 20], [], [
    ⟨some 23, .mv (.t 0), none, false⟩,
    ⟨some 24, .mv (.t 3), none, false⟩,
    ⟨some 25, .idxS (.t 23) (.t 24), none, false⟩,
    ⟨some 26, .call 284 [((.t 25), false)] true, none, false⟩,
    ⟨some 27, .un .not (.t 26), none, false⟩,
    ⟨some 28, .mv (.t 27), none, false⟩,
    ⟨some 29, .mv (.t 0), some (28, true), false⟩,
    ⟨some 30, .mv (.t 3), some (28, true), false⟩,
    ⟨some 31, .idxS (.t 29) (.t 30), some (28, true), false⟩,
    ⟨some 32, .bin .int .neq (.t 31) (.c (.dat (.int .u8 95))), some (28, true), false⟩,
    ⟨some 33, .pick (.t 28) (.t 32) (.c (.dat (.bool false))), none, false⟩,
    ⟨some 34, .mv (.t 33), none, false⟩,
    ⟨some 35, .mv (.t 0), some (34, true), false⟩,
    ⟨some 36, .mv (.t 3), some (34, true), false⟩,
    ⟨some 37, .idxS (.t 35) (.t 36), some (34, true), false⟩,
    ⟨some 38, .bin .int .lss (.t 37) (.c (.dat (.int .u8 48))), some (34, true), false⟩,
    ⟨some 39, .mv (.t 38), some (34, true), false⟩,
    ⟨some 40, .mv (.t 0), some (39, false), false⟩,
    ⟨some 41, .mv (.t 3), some (39, false), false⟩,
    ⟨some 42, .idxS (.t 40) (.t 41), some (39, false), false⟩,
    ⟨some 43, .bin .int .gtr (.t 42) (.c (.dat (.int .u8 57))), some (39, false), false⟩,
    ⟨some 44, .pick (.t 39) (.c (.dat (.bool true))) (.t 43), some (34, true), false⟩,
    ⟨some 45, .pick (.t 34) (.t 44) (.c (.dat (.bool false))), none, false⟩], []⟩
@[simp] def r237_7 : AReg := ⟨[], [], [
    ⟨some 2, .mv (.c (.dat (.bool false))), none, false⟩], []⟩
@[simp] def r237_8 : AReg := ⟨[0, 19, 20], [], [
    ⟨some 46, .bin .int .add (.t 20) (.c (.dat (.int .i64 1))), none, false⟩,
    ⟨some 20, .mv (.t 46), none, false⟩], []⟩
def l237_0 : AC := .seq (.reg r237_4) (.seq (.cond (.t 21) (.skip) (.exit 0)) (.seq (.block 1 (.seq (.reg r237_5) (.seq (.reg r237_6) (.cond (.t 45) (.seq (.reg r237_7) (.ret)) (.skip))))) (.reg r237_8)))
@[simp] theorem l237_0e (K : Orc) (s : St) : exec K l237_0 s = exec K (.seq (.reg r237_4) (.seq (.cond (.t 21) (.skip) (.exit 0)) (.seq (.block 1 (.seq (.reg r237_5) (.seq (.reg r237_6) (.cond (.t 45) (.seq (.reg r237_7) (.ret)) (.skip))))) (.reg r237_8)))) s := rfl
@[simp] def r237_9 : AReg := ⟨[], [], [
    ⟨some 2, .mv (.c (.dat (.bool true))), none, false⟩], []⟩
@[simp] def fn237 : AFun := ⟨1, [.t 2], false,
  .seq (.reg r237_0) (.seq (.seq (.reg r237_1) (.cond (.t 17) (.seq (.reg r237_2) (.ret)) (.skip))) (.seq (.seq (.reg r237_3) (.block 0 (.loop l237_0))) (.seq (.reg r237_9) (.ret)))), none⟩

theorem c237 : cFun Tryz.prog ann237 false 237 = some fn237 := by kernel_rfl

/-! 238: slices.Contains[[]string,string] -/

def ann238 : Ann := [{ id := 0, live := [0, 1] },
  { id := 1, live := [0, 1] }]

@[simp] def r238_0 : AReg := ⟨[0, 1], [], [
    ⟨some 4, .mv (.c (.dat (.bool false))), none, false⟩], []⟩
@[simp] def r238_1 : AReg := ⟨[0, 1], [], [
    ⟨some 5, .mv (.t 0), none, false⟩,
    ⟨some 6, .mv (.t 1), none, false⟩,
    ⟨some 7, .call 285 [((.t 5), false), ((.t 6), false)] true, none, false⟩,
    ⟨some 8, .bin .int .geq (.t 7) (.c (.dat (.int .i64 0))), none, false⟩,
    ⟨some 4, .mv (.t 8), none, false⟩], []⟩
@[simp] def fn238 : AFun := ⟨2, [.t 4], false,
  .seq (.reg r238_0) (.seq (.reg r238_1) (.ret)), none⟩

theorem c238 : cFun Tryz.prog ann238 false 238 = some fn238 := by kernel_rfl

/-! 239: modelcheck/program.instructions$1 -/

def ann239 : Ann := [{ id := 0, live := [0, 1] },
  { id := 1, live := [0, 8, 9, 10], drop := [0, 8] },
  { id := 2, live := [0, 8, 9, 10] },
  { id := 3, live := [0, 3, 4, 8, 9, 10] },
  { id := 4, live := [0, 3, 8, 9, 10, 16, 17, 18], drop := [0, 8, 16] },
  { id := 5, live := [0, 3, 8, 9, 10, 16, 17, 18] },
  { id := 6, live := [0, 3, 5, 6, 8, 9, 10, 16, 17, 18] },
  { id := 7, live := [0, 3, 8, 9, 10, 16, 17, 18] },
  { id := 8, live := [0, 8, 9, 10] }]

@[simp] def r239_0 : AReg := ⟨[0, 1], [], [
    ⟨some 7, .fAddr 3 (.t 1), none, false⟩,
    ⟨some 8, .ld 1 false (.t 7), none, false⟩,
    ⟨some 9, .len false (.t 8), none, false⟩,
    ⟨some 10, .mv (.c (.dat (.int .i64 0))), none, false⟩], []⟩
@[simp] def r239_1 : AReg := ⟨[0, 8, 9, 10], [0, 8], [
    ⟨some 11, .bin .int .lss (.t 10) (.t 9), none, false⟩], []⟩
@[simp] def r239_2 : AReg := ⟨[0, 8, 9, 10], [], [
    ⟨some 12, .mv (.t 10), none, false⟩,
    ⟨some 13, .iAddr 2 (.t 8) (.t 10), none, false⟩,
    ⟨some 14, .ld 2 true (.t 13), none, false⟩,
    ⟨some 4, .alc [(.dat (.str [])), .nils], none, false⟩,
    ⟨some 3, .mv (.t 12), none, false⟩,
    ⟨none, .st false 2 (.t 4) (.t 14), none, false⟩], []⟩
@[simp] def r239_3 : AReg := ⟨[0, 3, 4, 8, 9, 10], [], [
    ⟨some 15, .fAddr 1 (.t 4), none, false⟩,
    ⟨some 16, .ld 1 false (.t 15), none, false⟩,
    ⟨some 17, .len false (.t 16), none, false⟩,
    ⟨some 18, .mv (.c (.dat (.int .i64 0))), none, false⟩], []⟩
@[simp] def r239_4 : AReg := ⟨[0, 3, 8, 9, 10, 16, 17, 18], [0, 8, 16], [
    ⟨some 19, .bin .int .lss (.t 18) (.t 17), none, false⟩], []⟩
@[simp] def r239_5 : AReg := ⟨[0, 3, 8, 9, 10, 16, 17, 18], [], [
    ⟨some 20, .mv (.t 18), none, false⟩,
    ⟨some 21, .iAddr 8 (.t 16) (.t 18), none, false⟩,
    ⟨some 22, .ld 8 true (.t 21), none, false⟩,
    ⟨some 6, .alc [(.dat (.int .i64 0)), (.dat (.int .i64 0)), (.dat (.int .i64 0)), (.dat (.int .i64 0)), (.dat (.int .i64 0)), (.dat (.int .i64 0)), (.dat (.int .i64 0)), (.dat (.int .i64 0))], none, false⟩,
    ⟨some 5, .mv (.t 20), none, false⟩,
    ⟨none, .st false 8 (.t 6) (.t 22), none, false⟩], []⟩
@[simp] def r239_6 : AReg := ⟨[0, 3, 5, 6, 8, 9, 10, 16, 17, 18], [], [
    ⟨some 23, .mv (.t 0), none, false⟩,
    ⟨some 24, .mv (.t 3), none, false⟩,
    ⟨some 25, .mv (.t 5), none, false⟩,
    ⟨some 26, .bld [(.dat (.int .i64 0)), (.dat (.int .i64 0))] [(0, 1, (.t 24)), (1, 1, (.t 25))], none, false⟩,
    ⟨some 27, .ld 8 true (.t 6), none, false⟩,
    ⟨some 28, .callV (.t 23) [((.t 26), false), ((.t 27), false)] true, none, false⟩,
    ⟨some 29, .un .not (.t 28), none, false⟩], []⟩
@[simp] def r239_7 : AReg := ⟨[0, 3, 8, 9, 10, 16, 17, 18], [], [
    ⟨some 30, .bin .int .add (.t 18) (.c (.dat (.int .i64 1))), none, false⟩,
    ⟨some 18, .mv (.t 30), none, false⟩], []⟩
def l239_0 : AC := .seq (.reg r239_4) (.seq (.cond (.t 19) (.skip) (.exit 2)) (.seq (.block 3 (.seq (.reg r239_5) (.seq (.reg r239_6) (.cond (.t 29) (.ret) (.skip))))) (.reg r239_7)))
@[simp] theorem l239_0e (K : Orc) (s : St) : exec K l239_0 s = exec K (.seq (.reg r239_4) (.seq (.cond (.t 19) (.skip) (.exit 2)) (.seq (.block 3 (.seq (.reg r239_5) (.seq (.reg r239_6) (.cond (.t 29) (.ret) (.skip))))) (.reg r239_7)))) s := rfl
@[simp] def r239_8 : AReg := ⟨[0, 8, 9, 10], [], [
    ⟨some 31, .bin .int .add (.t 10) (.c (.dat (.int .i64 1))), none, false⟩,
    ⟨some 10, .mv (.t 31), none, false⟩], []⟩
def l239_1 : AC := .seq (.reg r239_1) (.seq (.cond (.t 11) (.skip) (.exit 0)) (.seq (.block 1 (.seq (.reg r239_2) (.seq (.reg r239_3) (.block 2 (.loop l239_0))))) (.reg r239_8)))
@[simp] theorem l239_1e (K : Orc) (s : St) : exec K l239_1 s = exec K (.seq (.reg r239_1) (.seq (.cond (.t 11) (.skip) (.exit 0)) (.seq (.block 1 (.seq (.reg r239_2) (.seq (.reg r239_3) (.block 2 (.loop l239_0))))) (.reg r239_8)))) s := rfl
@[simp] def fn239 : AFun := ⟨2, [], false,
  .seq (.reg r239_0) (.block 0 (.loop l239_1)), none⟩

theorem c239 : cFun Tryz.prog ann239 false 239 = some fn239 := by kernel_rfl

/-! 240: modelcheck/inst.Check -/

def ann240 : Ann := [{ id := 0, live := [0] },
  { id := 1, live := [1] },
  { id := 2, live := [] },
  { id := 3, live := [1] },
  { id := 4, live := [1, 3] },
  { id := 5, live := [1, 3, 19, 20] },
  { id := 6, live := [1, 3, 19, 20] },
  { id := 7, live := [1, 3, 4, 5, 19, 20] },
  { id := 8, live := [] },
  { id := 9, live := [1, 3, 19, 20] },
  { id := 10, live := [1, 3] },
  { id := 11, live := [1, 3, 39, 40] },
  { id := 12, live := [1, 3, 39, 40] },
  { id := 13, live := [1, 3, 6, 7, 39, 40] },
  { id := 14, live := [] },
  { id := 15, live := [1, 3, 39, 40] },
  { id := 16, live := [1, 3] },
  { id := 17, live := [] },
  { id := 18, live := [1, 3] },
  { id := 19, live := [] },
  { id := 20, live := [1] },
  { id := 21, live := [] },
  { id := 22, live := [] }]

@[simp] def r240_0 : AReg := ⟨[0], [], [
    ⟨some 1, .box 8 (.t 0), none, false⟩,
    ⟨some 2, .mv (.c (.dat (.int .i64 0))), none, false⟩], []⟩
@[simp] def r240_1 : AReg := ⟨[1], [], [
    ⟨some 8, .fAddr 0 (.t 1), none, false⟩,
    ⟨some 9, .ld 1 false (.t 8), none, false⟩,
    ⟨some 10, .call 286 [((.t 9), false)] true, none, false⟩,
    ⟨some 11, .un .not (.t 10), none, false⟩], []⟩
@[simp] def r240_2 : AReg := ⟨[], [], [
    ⟨some 2, .mv (.c (.dat (.int .i64 8))), none, false⟩], []⟩
@[simp] def r240_3 : AReg := ⟨[1], [], [
    ⟨some 12, .fAddr 0 (.t 1), none, false⟩,
    ⟨some 13, .ld 1 false (.t 12), none, false⟩,
    ⟨some 14, .bin .int .sub (.t 13) (.c (.dat (.int .i64 1))), none, false⟩,
    ⟨some 15, .iAddrA 22 8 (.c (.fp glob1)) (.t 14), none, false⟩,
    ⟨some 16, .fAddr 1 (.t 15), none, false⟩,
    ⟨some 17, .ld 7 true (.t 16), none, false⟩,
    ⟨some 3, .alc [(.dat (.bool false)), (.dat (.bool false)), (.dat (.bool false)), (.dat (.bool false)), (.dat (.bool false)), (.dat (.bool false)), (.dat (.bool false))], none, false⟩,
    ⟨none, .st false 7 (.t 3) (.t 17), none, false⟩], []⟩
@[simp] def r240_4 : AReg := ⟨[1, 3], [], [
    ⟨some 18, .ld 8 true (.t 1), none, false⟩,
    ⟨some 19, .call 287 [((.t 18), false)] false, none, false⟩,
    ⟨some 20, .mv (.c (.dat (.int .i64 0))), none, false⟩], []⟩
@[simp] def r240_5 : AReg := ⟨[1, 3, 19, 20], [], [
    ⟨some 21, .bin .int .lss (.t 20) (.c (.dat (.int .i64 7))), none, false⟩], []⟩
@[simp] def r240_6 : AReg := ⟨[1, 3, 19, 20], [], [
    ⟨some 22, .mv (.t 20), none, false⟩,
    ⟨some 23, .idx 7 1 false (.t 19) (.t 20), none, false⟩,
    ⟨some 4, .mv (.t 22), none, false⟩,
    ⟨some 5, .mv (.t 23), none, false⟩], []⟩
@[simp] def r240_7 : AReg := ⟨[1, 3, 4, 5, 19, 20], [], [
    ⟨some 24, .mv (.t 4), none, false⟩,
    ⟨some 25, .iAddrA 7 1 (.t 3) (.t 24), none, false⟩,
    ⟨some 26, .ld 1 false (.t 25), none, false⟩,
    ⟨some 27, .un .not (.t 26), none, false⟩,
    ⟨some 28, .mv (.t 27), none, false⟩,
    ⟨some 29, .mv (.t 5), some (28, true), false⟩,
    ⟨some 30, .bin .int .neq (.t 29) (.c (.dat (.int .i64 0))), some (28, true), false⟩,
    ⟨some 31, .pick (.t 28) (.t 30) (.c (.dat (.bool false))), none, false⟩], []⟩
@[simp] def r240_8 : AReg := ⟨[], [], [
    ⟨some 2, .mv (.c (.dat (.int .i64 9))), none, false⟩], []⟩
@[simp] def r240_9 : AReg := ⟨[1, 3, 19, 20], [], [
    ⟨some 32, .bin .int .add (.t 20) (.c (.dat (.int .i64 1))), none, false⟩,
    ⟨some 20, .mv (.t 32), none, false⟩], []⟩
def l240_0 : AC := .seq (.reg r240_5) (.seq (.cond (.t 21) (.skip) (.exit 0)) (.seq (.block 1 (.seq (.reg r240_6) (.seq (.reg r240_7) (.cond (.t 31) (.seq (.reg r240_8) (.ret)) (.skip))))) (.reg r240_9)))
@[simp] theorem l240_0e (K : Orc) (s : St) : exec K l240_0 s = exec K (.seq (.reg r240_5) (.seq (.cond (.t 21) (.skip) (.exit 0)) (.seq (.block 1 (.seq (.reg r240_6) (.seq (.reg r240_7) (.cond (.t 31) (.seq (.reg r240_8) (.ret)) (.skip))))) (.reg r240_9)))) s := rfl
@[simp] def r240_10 : AReg := ⟨[1, 3], [], [
    ⟨some 33, .fAddr 1 (.t 1), none, false⟩,
    ⟨some 34, .ld 1 false (.t 33), none, false⟩,
    ⟨some 35, .fAddr 2 (.t 1), none, false⟩,
    ⟨some 36, .ld 1 false (.t 35), none, false⟩,
    ⟨some 37, .fAddr 3 (.t 1), none, false⟩,
    ⟨some 38, .ld 1 false (.t 37), none, false⟩,
    ⟨some 39, .bld [(.dat (.int .i64 0)), (.dat (.int .i64 0)), (.dat (.int .i64 0))] [(0, 1, (.t 34)), (1, 1, (.t 36)), (2, 1, (.t 38))], none, false⟩,
    ⟨some 40, .mv (.c (.dat (.int .i64 0))), none, false⟩], []⟩
@[simp] def r240_11 : AReg := ⟨[1, 3, 39, 40], [], [
    ⟨some 41, .bin .int .lss (.t 40) (.c (.dat (.int .i64 3))), none, false⟩], []⟩
@[simp] def r240_12 : AReg := ⟨[1, 3, 39, 40], [], [
    ⟨some 42, .mv (.t 40), none, false⟩,
    ⟨some 43, .idx 3 1 false (.t 39) (.t 40), none, false⟩,
    ⟨some 6, .mv (.t 42), none, false⟩,
    ⟨some 7, .mv (.t 43), none, false⟩], []⟩
@[simp] def r240_13 : AReg := ⟨[1, 3, 6, 7, 39, 40], [], [
    ⟨some 44, .mv (.t 6), none, false⟩,
    ⟨some 45, .iAddrA 7 1 (.t 3) (.t 44), none, false⟩,
    ⟨some 46, .ld 1 false (.t 45), none, false⟩,
    ⟨some 47, .mv (.t 46), none, false⟩,
    ⟨some 48, .mv (.t 7), some (47, true), false⟩,
    ⟨some 49, .bin .int .lss (.t 48) (.c (.dat (.int .i64 0))), some (47, true), false⟩,
    ⟨some 50, .mv (.t 49), some (47, true), false⟩,
    ⟨some 51, .mv (.t 7), some (50, false), false⟩,
    ⟨some 52, .bin .int .geq (.t 51) (.c (.dat (.int .i64 8))), some (50, false), false⟩,
    ⟨some 53, .pick (.t 50) (.c (.dat (.bool true))) (.t 52), some (47, true), false⟩,
    ⟨some 54, .pick (.t 47) (.t 53) (.c (.dat (.bool false))), none, false⟩], []⟩
@[simp] def r240_14 : AReg := ⟨[], [], [
    ⟨some 2, .mv (.c (.dat (.int .i64 10))), none, false⟩], []⟩
@[simp] def r240_15 : AReg := ⟨[1, 3, 39, 40], [], [
    ⟨some 55, .bin .int .add (.t 40) (.c (.dat (.int .i64 1))), none, false⟩,
    ⟨some 40, .mv (.t 55), none, false⟩], []⟩
def l240_1 : AC := .seq (.reg r240_11) (.seq (.cond (.t 41) (.skip) (.exit 2)) (.seq (.block 3 (.seq (.reg r240_12) (.seq (.reg r240_13) (.cond (.t 54) (.seq (.reg r240_14) (.ret)) (.skip))))) (.reg r240_15)))
@[simp] theorem l240_1e (K : Orc) (s : St) : exec K l240_1 s = exec K (.seq (.reg r240_11) (.seq (.cond (.t 41) (.skip) (.exit 2)) (.seq (.block 3 (.seq (.reg r240_12) (.seq (.reg r240_13) (.cond (.t 54) (.seq (.reg r240_14) (.ret)) (.skip))))) (.reg r240_15)))) s := rfl
@[simp] def r240_16 : AReg := ⟨[1, 3], [], [
    ⟨some 56, .iAddrA 7 1 (.t 3) (.c (.dat (.int .i64 6))), none, false⟩,
    ⟨some 57, .ld 1 false (.t 56), none, false⟩,
    ⟨some 58, .mv (.t 57), none, false⟩,
    ⟨some 59, .fAddr 7 (.t 1), some (58, true), false⟩,
    ⟨some 60, .ld 1 false (.t 59), some (58, true), false⟩,
    ⟨some 61, .bin .int .lss (.t 60) (.c (.dat (.int .i64 0))), some (58, true), false⟩,
    ⟨some 62, .mv (.t 61), some (58, true), false⟩,
    ⟨some 63, .fAddr 7 (.t 1), some (62, false), false⟩,
    ⟨some 64, .ld 1 false (.t 63), some (62, false), false⟩,
    ⟨some 65, .bin .int .gtr (.t 64) (.c (.dat (.int .i64 2))), some (62, false), false⟩,
    ⟨some 66, .pick (.t 62) (.c (.dat (.bool true))) (.t 65), some (58, true), false⟩,
    ⟨some 67, .pick (.t 58) (.t 66) (.c (.dat (.bool false))), none, false⟩], []⟩
@[simp] def r240_17 : AReg := ⟨[], [], [
    ⟨some 2, .mv (.c (.dat (.int .i64 13))), none, false⟩], []⟩
@[simp] def r240_18 : AReg := ⟨[1, 3], [], [
    ⟨some 68, .iAddrA 7 1 (.t 3) (.c (.dat (.int .i64 5))), none, false⟩,
    ⟨some 69, .ld 1 false (.t 68), none, false⟩,
    ⟨some 70, .mv (.t 69), none, false⟩,
    ⟨some 71, .fAddr 6 (.t 1), some (70, true), false⟩,
    ⟨some 72, .ld 1 false (.t 71), some (70, true), false⟩,
    ⟨some 73, .call 288 [((.t 72), false)] true, some (70, true), false⟩,
    ⟨some 74, .bin .str .eql (.t 73) (.c (.dat (.str []))), some (70, true), false⟩,
    ⟨some 75, .pick (.t 70) (.t 74) (.c (.dat (.bool false))), none, false⟩], []⟩
@[simp] def r240_19 : AReg := ⟨[], [], [
    ⟨some 2, .mv (.c (.dat (.int .i64 8))), none, false⟩], []⟩
@[simp] def r240_20 : AReg := ⟨[1], [], [
    ⟨some 76, .fAddr 0 (.t 1), none, false⟩,
    ⟨some 77, .ld 1 false (.t 76), none, false⟩,
    ⟨some 78, .bin .int .eql (.t 77) (.c (.dat (.int .i64 1))), none, false⟩,
    ⟨some 79, .mv (.t 78), none, false⟩,
    ⟨some 80, .fAddr 5 (.t 1), some (79, true), false⟩,
    ⟨some 81, .ld 1 false (.t 80), some (79, true), false⟩,
    ⟨some 82, .bin .int .lss (.t 81) (.c (.dat (.int .i64 (-2147483648)))), some (79, true), false⟩,
    ⟨some 83, .mv (.t 82), some (79, true), false⟩,
    ⟨some 84, .fAddr 5 (.t 1), some (83, false), false⟩,
    ⟨some 85, .ld 1 false (.t 84), some (83, false), false⟩,
    ⟨some 86, .bin .int .gtr (.t 85) (.c (.dat (.int .i64 2147483647))), some (83, false), false⟩,
    ⟨some 87, .pick (.t 83) (.c (.dat (.bool true))) (.t 86), some (79, true), false⟩,
    ⟨some 88, .pick (.t 79) (.t 87) (.c (.dat (.bool false))), none, false⟩], []⟩
@[simp] def r240_21 : AReg := ⟨[], [], [
    ⟨some 2, .mv (.c (.dat (.int .i64 2))), none, false⟩], []⟩
@[simp] def r240_22 : AReg := ⟨[], [], [
    ⟨some 2, .mv (.c (.dat (.int .i64 0))), none, false⟩], []⟩
@[simp] def fn240 : AFun := ⟨1, [.t 2], false,
  .seq (.reg r240_0) (.seq (.seq (.reg r240_1) (.cond (.t 11) (.seq (.reg r240_2) (.ret)) (.skip))) (.seq (.reg r240_3) (.seq (.seq (.reg r240_4) (.block 0 (.loop l240_0))) (.seq (.seq (.reg r240_10) (.block 2 (.loop l240_1))) (.seq (.seq (.reg r240_16) (.cond (.t 67) (.seq (.reg r240_17) (.ret)) (.skip))) (.seq (.seq (.reg r240_18) (.cond (.t 75) (.seq (.reg r240_19) (.ret)) (.skip))) (.seq (.seq (.reg r240_20) (.cond (.t 88) (.seq (.reg r240_21) (.ret)) (.skip))) (.seq (.reg r240_22) (.ret))))))))), none⟩

theorem c240 : cFun Tryz.prog ann240 false 240 = some fn240 := by kernel_rfl

/-! 241: modelcheck/program.objects -/

def ann241 : Ann := [{ id := 0, live := [0, 1] },
  { id := 1, live := [1, 2] },
  { id := 2, live := [2, 5] },
  { id := 3, live := [2, 5] },
  { id := 4, live := [2, 5] },
  { id := 5, live := [2, 5] },
  { id := 6, live := [2, 5] },
  { id := 7, live := [2, 5] },
  { id := 8, live := [2] },
  { id := 9, live := [2, 5] },
  { id := 10, live := [2, 5] },
  { id := 11, live := [2, 5] },
  { id := 12, live := [2] },
  { id := 13, live := [2, 5] },
  { id := 14, live := [2, 5] },
  { id := 15, live := [2, 5] },
  { id := 16, live := [2] },
  { id := 17, live := [2, 5] },
  { id := 18, live := [2] },
  { id := 19, live := [] }]

@[simp] def r241_0 : AReg := ⟨[0, 1], [], [
    ⟨some 2, .box 5 (.t 0), none, false⟩,
    ⟨some 4, .mv (.c (.dat (.int .i64 0))), none, false⟩], []⟩
@[simp] def r241_1 : AReg := ⟨[1, 2], [], [
    ⟨some 5, .mv (.t 1), none, false⟩], []⟩
@[simp] def r241_2 : AReg := ⟨[2, 5], [], [
    ⟨some 7, .bin .int .eql (.t 5) (.c (.dat (.int .i64 8))), none, false⟩,
    ⟨some 6, .mv (.t 7), none, false⟩], []⟩
@[simp] def r241_3 : AReg := ⟨[2, 5], [], [
    ⟨some 8, .bin .int .eql (.t 5) (.c (.dat (.int .i64 9))), none, false⟩,
    ⟨some 6, .mv (.t 8), none, false⟩], []⟩
@[simp] def r241_4 : AReg := ⟨[2, 5], [], [
    ⟨some 9, .bin .int .eql (.t 5) (.c (.dat (.int .i64 10))), none, false⟩,
    ⟨some 6, .mv (.t 9), none, false⟩], []⟩
@[simp] def r241_5 : AReg := ⟨[2, 5], [], [
    ⟨some 10, .bin .int .eql (.t 5) (.c (.dat (.int .i64 11))), none, false⟩,
    ⟨some 6, .mv (.t 10), none, false⟩], []⟩
@[simp] def r241_6 : AReg := ⟨[2, 5], [], [
    ⟨some 11, .bin .int .eql (.t 5) (.c (.dat (.int .i64 12))), none, false⟩,
    ⟨some 6, .mv (.t 11), none, false⟩], []⟩
@[simp] def r241_7 : AReg := ⟨[2, 5], [], [
    ⟨some 12, .bin .int .eql (.t 5) (.c (.dat (.int .i64 14))), none, false⟩,
    ⟨some 6, .mv (.t 12), none, false⟩], []⟩
@[simp] def r241_8 : AReg := ⟨[2], [], [
    ⟨some 13, .fAddr 0 (.t 2), none, false⟩,
    ⟨some 14, .ld 1 false (.t 13), none, false⟩,
    ⟨some 15, .len false (.t 14), none, false⟩,
    ⟨some 4, .mv (.t 15), none, false⟩], []⟩
@[simp] def r241_9 : AReg := ⟨[2, 5], [], [
    ⟨some 17, .bin .int .eql (.t 5) (.c (.dat (.int .i64 15))), none, false⟩,
    ⟨some 16, .mv (.t 17), none, false⟩], []⟩
@[simp] def r241_10 : AReg := ⟨[2, 5], [], [
    ⟨some 18, .bin .int .eql (.t 5) (.c (.dat (.int .i64 16))), none, false⟩,
    ⟨some 16, .mv (.t 18), none, false⟩], []⟩
@[simp] def r241_11 : AReg := ⟨[2, 5], [], [
    ⟨some 19, .bin .int .eql (.t 5) (.c (.dat (.int .i64 17))), none, false⟩,
    ⟨some 16, .mv (.t 19), none, false⟩], []⟩
@[simp] def r241_12 : AReg := ⟨[2], [], [
    ⟨some 20, .fAddr 1 (.t 2), none, false⟩,
    ⟨some 21, .ld 1 false (.t 20), none, false⟩,
    ⟨some 22, .len false (.t 21), none, false⟩,
    ⟨some 4, .mv (.t 22), none, false⟩], []⟩
@[simp] def r241_13 : AReg := ⟨[2, 5], [], [
    ⟨some 24, .bin .int .eql (.t 5) (.c (.dat (.int .i64 18))), none, false⟩,
    ⟨some 23, .mv (.t 24), none, false⟩], []⟩
@[simp] def r241_14 : AReg := ⟨[2, 5], [], [
    ⟨some 25, .bin .int .eql (.t 5) (.c (.dat (.int .i64 19))), none, false⟩,
    ⟨some 23, .mv (.t 25), none, false⟩], []⟩
@[simp] def r241_15 : AReg := ⟨[2, 5], [], [
    ⟨some 26, .bin .int .eql (.t 5) (.c (.dat (.int .i64 20))), none, false⟩,
    ⟨some 23, .mv (.t 26), none, false⟩], []⟩
@[simp] def r241_16 : AReg := ⟨[2], [], [
    ⟨some 27, .fAddr 2 (.t 2), none, false⟩,
    ⟨some 28, .ld 1 false (.t 27), none, false⟩,
    ⟨some 29, .len false (.t 28), none, false⟩,
    ⟨some 4, .mv (.t 29), none, false⟩], []⟩
@[simp] def r241_17 : AReg := ⟨[2, 5], [], [
    ⟨some 31, .bin .int .eql (.t 5) (.c (.dat (.int .i64 21))), none, false⟩,
    ⟨some 30, .mv (.t 31), none, false⟩], []⟩
@[simp] def r241_18 : AReg := ⟨[2], [], [
    ⟨some 32, .fAddr 3 (.t 2), none, false⟩,
    ⟨some 33, .ld 1 false (.t 32), none, false⟩,
    ⟨some 34, .len false (.t 33), none, false⟩,
    ⟨some 4, .mv (.t 34), none, false⟩], []⟩
@[simp] def r241_19 : AReg := ⟨[], [], [
    ⟨some 4, .mv (.c (.dat (.int .i64 (-1)))), none, false⟩], []⟩
@[simp] def fn241 : AFun := ⟨2, [.t 4], false,
  .seq (.reg r241_0) (.seq (.seq (.reg r241_1) (.block 0 (.seq (.seq (.reg r241_2) (.cond (.t 6) (.skip) (.seq (.reg r241_3) (.cond (.t 6) (.skip) (.seq (.reg r241_4) (.cond (.t 6) (.skip) (.seq (.reg r241_5) (.cond (.t 6) (.skip) (.seq (.reg r241_6) (.cond (.t 6) (.skip) (.reg r241_7))))))))))) (.cond (.t 6) (.seq (.reg r241_8) (.ret)) (.seq (.seq (.reg r241_9) (.cond (.t 16) (.skip) (.seq (.reg r241_10) (.cond (.t 16) (.skip) (.reg r241_11))))) (.cond (.t 16) (.seq (.reg r241_12) (.ret)) (.seq (.seq (.reg r241_13) (.cond (.t 23) (.skip) (.seq (.reg r241_14) (.cond (.t 23) (.skip) (.reg r241_15))))) (.cond (.t 23) (.seq (.reg r241_16) (.ret)) (.seq (.reg r241_17) (.cond (.t 30) (.seq (.reg r241_18) (.ret)) (.skip))))))))))) (.seq (.reg r241_19) (.ret))), none⟩

theorem c241 : cFun Tryz.prog ann241 false 241 = some fn241 := by kernel_rfl

/-! 242: modelcheck/thread.standard -/

def ann242 : Ann := [{ id := 0, live := [0, 1] },
  { id := 1, live := [1, 2] },
  { id := 2, live := [1, 5] },
  { id := 3, live := [5] },
  { id := 4, live := [1] },
  { id := 5, live := [] },
  { id := 6, live := [] }]

@[simp] def r242_0 : AReg := ⟨[0, 1], [], [
    ⟨some 2, .box 5 (.t 0), none, false⟩,
    ⟨some 4, .mv (.c (.dat (.int .i64 0))), none, false⟩], []⟩
@[simp] def r242_1 : AReg := ⟨[1, 2], [], [
    ⟨some 9, .ld 5 true (.t 2), none, false⟩,
    ⟨some 10, .call 136 [((.t 9), false)] true, none, false⟩,
    ⟨some 8, .mv (.t 10), none, false⟩,
    ⟨some 11, .ext 0 (.t 8), none, false⟩,
    ⟨some 12, .ext 1 (.t 8), none, false⟩,
    ⟨some 13, .ext 2 (.t 8), none, false⟩,
    ⟨some 5, .mv (.t 11), none, false⟩,
    ⟨some 6, .mv (.t 12), none, false⟩,
    ⟨some 7, .mv (.t 13), none, false⟩], []⟩
@[simp] def r242_2 : AReg := ⟨[1, 5], [], [
    ⟨some 14, .mv (.t 5), none, false⟩,
    ⟨some 15, .bin .int .neq (.t 14) (.c (.dat (.int .i64 0))), none, false⟩], []⟩
@[simp] def r242_3 : AReg := ⟨[5], [], [
    ⟨some 16, .mv (.t 5), none, false⟩,
    ⟨some 4, .mv (.t 16), none, false⟩], []⟩
@[simp] def r242_4 : AReg := ⟨[1], [], [
    ⟨some 17, .mv (.t 1), none, false⟩,
    ⟨some 18, .bin .int .lss (.t 17) (.c (.dat (.int .i64 1))), none, false⟩,
    ⟨some 19, .mv (.t 18), none, false⟩,
    ⟨some 20, .mv (.t 1), some (19, false), false⟩,
    ⟨some 21, .bin .int .gtr (.t 20) (.c (.dat (.int .i64 32))), some (19, false), false⟩,
    ⟨some 22, .pick (.t 19) (.c (.dat (.bool true))) (.t 21), none, false⟩], []⟩
@[simp] def r242_5 : AReg := ⟨[], [], [
    ⟨some 4, .mv (.c (.dat (.int .i64 2))), none, false⟩], []⟩
@[simp] def r242_6 : AReg := ⟨[], [], [
    ⟨some 4, .mv (.c (.dat (.int .i64 0))), none, false⟩], []⟩
@[simp] def fn242 : AFun := ⟨2, [.t 4], false,
  .seq (.reg r242_0) (.seq (.seq (.reg r242_1) (.seq (.reg r242_2) (.cond (.t 15) (.seq (.reg r242_3) (.ret)) (.skip)))) (.seq (.seq (.reg r242_4) (.cond (.t 22) (.seq (.reg r242_5) (.ret)) (.skip))) (.seq (.reg r242_6) (.ret)))), none⟩

theorem c242 : cFun Tryz.prog ann242 false 242 = some fn242 := by kernel_rfl

/-! 243: modelcheck/thread.depth -/

def ann243 : Ann := [{ id := 0, live := [0] },
  { id := 1, live := [0] },
  { id := 2, live := [] },
  { id := 3, live := [0] },
  { id := 4, live := [0, 8] },
  { id := 5, live := [0, 8] },
  { id := 6, live := [0, 3, 8] },
  { id := 7, live := [3] },
  { id := 8, live := [0, 8] },
  { id := 9, live := [4, 5, 8] },
  { id := 10, live := [] },
  { id := 11, live := [4, 8] },
  { id := 12, live := [0, 8] },
  { id := 13, live := [] }]

@[simp] def r243_0 : AReg := ⟨[0], [], [
    ⟨some 2, .mv (.c (.dat (.int .i64 0))), none, false⟩], []⟩
@[simp] def r243_1 : AReg := ⟨[0], [], [
    ⟨some 6, .mv (.t 0), none, false⟩,
    ⟨some 7, .bin .int .lss (.t 6) (.c (.dat (.int .i64 0))), none, false⟩], []⟩
@[simp] def r243_2 : AReg := ⟨[], [], [
    ⟨some 2, .mv (.c (.dat (.int .i64 (-1)))), none, false⟩], []⟩
@[simp] def r243_3 : AReg := ⟨[0], [], [
    ⟨some 8, .mv (.c (.dat (.int .i64 0))), none, false⟩], []⟩
@[simp] def r243_4 : AReg := ⟨[0, 8], [], [
    ⟨some 9, .bin .int .lss (.t 8) (.c (.dat (.int .i64 5))), none, false⟩], []⟩
@[simp] def r243_5 : AReg := ⟨[0, 8], [], [
    ⟨some 10, .mv (.t 8), none, false⟩,
    ⟨some 3, .mv (.t 10), none, false⟩], []⟩
@[simp] def r243_6 : AReg := ⟨[0, 3, 8], [], [
    ⟨some 11, .mv (.t 0), none, false⟩,
    ⟨some 12, .bin .int .lss (.t 11) (.c (.dat (.int .i64 8))), none, false⟩], []⟩
@[simp] def r243_7 : AReg := ⟨[3], [], [
    ⟨some 13, .mv (.t 3), none, false⟩,
    ⟨some 2, .mv (.t 13), none, false⟩], []⟩
@[simp] def r243_8 : AReg := ⟨[0, 8], [], [
    ⟨some 15, .mv (.t 0), none, false⟩,
    ⟨some 16, .call 289 [((.t 15), false)] true, none, false⟩,
    ⟨some 14, .mv (.t 16), none, false⟩,
    ⟨some 17, .ext 0 (.t 14), none, false⟩,
    ⟨some 18, .ext 1 (.t 14), none, false⟩,
    ⟨some 4, .mv (.t 17), none, false⟩,
    ⟨some 5, .mv (.t 18), none, false⟩], []⟩
@[simp] def r243_9 : AReg := ⟨[4, 5, 8], [], [
    ⟨some 19, .mv (.t 5), none, false⟩,
    ⟨some 20, .bin .int .geq (.t 19) (.c (.dat (.int .i64 7))), none, false⟩], []⟩
@[simp] def r243_10 : AReg := ⟨[], [], [
    ⟨some 2, .mv (.c (.dat (.int .i64 (-1)))), none, false⟩], []⟩
@[simp] def r243_11 : AReg := ⟨[4, 8], [], [
    ⟨some 21, .mv (.t 4), none, false⟩,
    ⟨some 0, .mv (.t 21), none, false⟩], []⟩
@[simp] def r243_12 : AReg := ⟨[0, 8], [], [
    ⟨some 22, .bin .int .add (.t 8) (.c (.dat (.int .i64 1))), none, false⟩,
    ⟨some 8, .mv (.t 22), none, false⟩], []⟩
def l243_0 : AC := .seq (.reg r243_4) (.seq (.cond (.t 9) (.skip) (.exit 0)) (.seq (.block 1 (.seq (.reg r243_5) (.seq (.seq (.reg r243_6) (.cond (.t 12) (.seq (.reg r243_7) (.ret)) (.skip))) (.seq (.reg r243_8) (.seq (.seq (.reg r243_9) (.cond (.t 20) (.seq (.reg r243_10) (.ret)) (.skip))) (.reg r243_11)))))) (.reg r243_12)))
@[simp] theorem l243_0e (K : Orc) (s : St) : exec K l243_0 s = exec K (.seq (.reg r243_4) (.seq (.cond (.t 9) (.skip) (.exit 0)) (.seq (.block 1 (.seq (.reg r243_5) (.seq (.seq (.reg r243_6) (.cond (.t 12) (.seq (.reg r243_7) (.ret)) (.skip))) (.seq (.reg r243_8) (.seq (.seq (.reg r243_9) (.cond (.t 20) (.seq (.reg r243_10) (.ret)) (.skip))) (.reg r243_11)))))) (.reg r243_12)))) s := rfl
@[simp] def r243_13 : AReg := ⟨[], [], [
    ⟨some 2, .mv (.c (.dat (.int .i64 (-1)))), none, false⟩], []⟩
@[simp] def fn243 : AFun := ⟨1, [.t 2], false,
  .seq (.reg r243_0) (.seq (.seq (.reg r243_1) (.cond (.t 7) (.seq (.reg r243_2) (.ret)) (.skip))) (.seq (.seq (.reg r243_3) (.block 0 (.loop l243_0))) (.seq (.reg r243_13) (.ret)))), none⟩

theorem c243 : cFun Tryz.prog ann243 false 243 = some fn243 := by kernel_rfl

/-! 244: modelcheck/value.Wrap -/

def ann244 : Ann := [{ id := 0, live := [0] },
  { id := 1, live := [0] }]

@[simp] def r244_0 : AReg := ⟨[0], [], [
    ⟨some 2, .mv (.c (.dat (.int .i64 0))), none, false⟩], []⟩
@[simp] def r244_1 : AReg := ⟨[0], [], [
    ⟨some 3, .mv (.t 0), none, false⟩,
    ⟨some 4, .cvt .u32 (.t 3), none, false⟩,
    ⟨some 5, .cvt .i32 (.t 4), none, false⟩,
    ⟨some 6, .cvt .i64 (.t 5), none, false⟩,
    ⟨some 2, .mv (.t 6), none, false⟩], []⟩
@[simp] def fn244 : AFun := ⟨1, [.t 2], false,
  .seq (.reg r244_0) (.seq (.reg r244_1) (.ret)), none⟩

theorem c244 : cFun Tryz.prog ann244 false 244 = some fn244 := by kernel_rfl

/-! 245: modelcheck/thread.settle -/

def ann245 : Ann := [{ id := 0, live := [0, 1, 2] },
  { id := 1, live := [1, 3, 5, 6] },
  { id := 2, live := [1, 3, 5, 6] },
  { id := 4, live := [1, 3, 5, 6, 7], drop := [3, 5, 6] },
  { id := 5, live := [1, 3, 5, 6, 7, 8, 9] },
  { id := 6, live := [5, 6] },
  { id := 7, live := [1, 3, 5, 6, 7, 8] },
  { id := 8, live := [1, 5, 6, 8] },
  { id := 9, live := [1, 5, 6, 10] },
  { id := 10, live := [5, 6, 10] },
  { id := 11, live := [1, 5, 6] },
  { id := 12, live := [5, 6] },
  { id := 13, live := [5, 6] },
  { id := 14, live := [1, 3, 5, 6, 7, 8] },
  { id := 15, live := [5, 6] },
  { id := 16, live := [1, 3, 5, 6, 7, 8] },
  { id := 17, live := [1, 3, 5, 6, 7, 8] },
  { id := 18, live := [1, 3, 5, 6, 7, 11] },
  { id := 19, live := [5, 6] },
  { id := 3, live := [1, 3, 5, 6, 7] }]

@[simp] def r245_0 : AReg := ⟨[0, 1, 2], [], [
    ⟨some 3, .box 5 (.t 0), none, false⟩,
    ⟨some 5, .box 17 (.t 2), none, false⟩,
    ⟨some 6, .alc [(.dat (.int .i64 0)), (.dat (.int .i64 0)), (.dat (.int .i64 0)), (.dat (.int .i64 0)), (.dat (.int .i64 0)), (.dat (.int .i64 0)), (.dat (.int .i64 0)), (.dat (.int .i64 0)), (.dat (.int .i64 0)), (.dat (.int .i64 0)), (.dat (.int .i64 0)), (.dat (.int .i64 0)), (.dat (.int .i64 0)), (.dat (.int .i64 0)), (.dat (.int .i64 0)), (.dat (.int .i64 0)), .nils], none, false⟩], []⟩
@[simp] def r245_1 : AReg := ⟨[1, 3, 5, 6], [], [
    ⟨some 12, .fAddr 16 (.t 5), none, false⟩,
    ⟨some 13, .ld 1 false (.t 12), none, false⟩,
    ⟨some 14, .call 226 [((.t 13), false)] false, none, false⟩,
    ⟨some 15, .fAddr 16 (.t 5), none, false⟩,
    ⟨none, .st false 1 (.t 15) (.t 14), none, false⟩], []⟩
@[simp] def r245_2 : AReg := ⟨[1, 3, 5, 6], [], [
    ⟨some 7, .mv (.c (.dat (.int .i64 0))), none, false⟩], []⟩
@[simp] def r245_3 : AReg := ⟨[1, 3, 5, 6, 7], [3, 5, 6], [
    ⟨some 19, .ld 5 true (.t 3), none, false⟩,
    ⟨some 20, .ld 17 true (.t 5), none, false⟩,
    ⟨some 21, .call 207 [((.t 19), false), ((.t 20), false)] false, none, false⟩,
    ⟨some 18, .mv (.t 21), none, false⟩,
    ⟨some 22, .ext 0 (.t 18), none, false⟩,
    ⟨some 23, .ext 1 (.t 18), none, false⟩,
    ⟨some 8, .alc [(.dat (.int .i64 0)), (.dat (.int .i64 0)), (.dat (.int .i64 0)), (.dat (.int .i64 0)), (.dat (.int .i64 0)), (.dat (.int .i64 0)), (.dat (.int .i64 0)), (.dat (.int .i64 0))], none, false⟩,
    ⟨none, .st false 8 (.t 8) (.t 22), none, false⟩,
    ⟨some 9, .mv (.t 23), none, false⟩], []⟩
@[simp] def r245_4 : AReg := ⟨[1, 3, 5, 6, 7, 8, 9], [], [
    ⟨some 24, .mv (.t 9), none, false⟩,
    ⟨some 25, .un .not (.t 24), none, false⟩], []⟩
@[simp] def r245_5 : AReg := ⟨[5, 6], [], [
    ⟨some 26, .ld 17 true (.t 5), none, false⟩,
    ⟨some 27, .call 290 [((.t 26), false), ((.c (.dat (.int .i64 2))), false), ((.c (.dat (.int .i64 0))), false)] false, none, false⟩,
    ⟨none, .st false 17 (.t 6) (.t 27), none, false⟩], []⟩
@[simp] def r245_6 : AReg := ⟨[1, 3, 5, 6, 7, 8], [], [
    ⟨some 28, .fAddr 0 (.t 8), none, false⟩,
    ⟨some 29, .ld 1 false (.t 28), none, false⟩,
    ⟨some 30, .call 291 [((.t 29), false)] true, none, false⟩], []⟩
@[simp] def r245_7 : AReg := ⟨[1, 5, 6, 8], [], [
    ⟨some 31, .ld 17 true (.t 5), none, false⟩,
    ⟨some 32, .ld 8 true (.t 8), none, false⟩,
    ⟨some 33, .call 292 [((.t 31), false), ((.t 32), false)] true, none, false⟩,
    ⟨some 10, .mv (.t 33), none, false⟩], []⟩
@[simp] def r245_8 : AReg := ⟨[1, 5, 6, 10], [], [
    ⟨some 34, .mv (.t 10), none, false⟩,
    ⟨some 35, .bin .int .neq (.t 34) (.c (.dat (.int .i64 0))), none, false⟩], []⟩
@[simp] def r245_9 : AReg := ⟨[5, 6, 10], [], [
    ⟨some 36, .ld 17 true (.t 5), none, false⟩,
    ⟨some 37, .mv (.t 10), none, false⟩,
    ⟨some 38, .call 290 [((.t 36), false), ((.c (.dat (.int .i64 3))), false), ((.t 37), false)] false, none, false⟩,
    ⟨none, .st false 17 (.t 6) (.t 38), none, false⟩], []⟩
@[simp] def r245_10 : AReg := ⟨[1, 5, 6], [], [
    ⟨some 39, .fAddr 11 (.t 5), none, false⟩,
    ⟨some 40, .ld 1 false (.t 39), none, false⟩,
    ⟨some 41, .mv (.t 1), none, false⟩,
    ⟨some 42, .bin .int .eql (.t 40) (.t 41), none, false⟩], []⟩
@[simp] def r245_11 : AReg := ⟨[5, 6], [], [
    ⟨some 43, .ld 17 true (.t 5), none, false⟩,
    ⟨some 44, .call 290 [((.t 43), false), ((.c (.dat (.int .i64 4))), false), ((.c (.dat (.int .i64 0))), false)] false, none, false⟩,
    ⟨none, .st false 17 (.t 6) (.t 44), none, false⟩], []⟩
@[simp] def r245_12 : AReg := ⟨[5, 6], [], [
    ⟨some 45, .ld 17 true (.t 5), none, false⟩,
    ⟨none, .st false 17 (.t 6) (.t 45), none, false⟩], []⟩
@[simp] def r245_13 : AReg := ⟨[1, 3, 5, 6, 7, 8], [], [
    ⟨some 46, .mv (.t 7), none, false⟩,
    ⟨some 47, .bin .int .eql (.t 46) (.c (.dat (.int .i64 256))), none, false⟩], []⟩
@[simp] def r245_14 : AReg := ⟨[5, 6], [], [
    ⟨some 48, .ld 17 true (.t 5), none, false⟩,
    ⟨some 49, .call 290 [((.t 48), false), ((.c (.dat (.int .i64 3))), false), ((.c (.dat (.int .i64 29))), false)] false, none, false⟩,
    ⟨none, .st false 17 (.t 6) (.t 49), none, false⟩], []⟩
@[simp] def r245_15 : AReg := ⟨[1, 3, 5, 6, 7, 8], [], [
    ⟨some 11, .mv (.c (.dat (.bool false))), none, false⟩], []⟩
@[simp] def r245_16 : AReg := ⟨[1, 3, 5, 6, 7, 8], [], [
    ⟨some 51, .ld 17 true (.t 5), none, false⟩,
    ⟨some 52, .ld 8 true (.t 8), none, false⟩,
    ⟨some 53, .call 293 [((.t 51), false), ((.t 52), false)] false, none, false⟩,
    ⟨some 50, .mv (.t 53), none, false⟩,
    ⟨some 54, .ext 0 (.t 50), none, false⟩,
    ⟨some 55, .ext 1 (.t 50), none, false⟩,
    ⟨none, .st false 17 (.t 5) (.t 54), none, false⟩,
    ⟨some 11, .mv (.t 55), none, false⟩], []⟩
@[simp] def r245_17 : AReg := ⟨[1, 3, 5, 6, 7, 11], [], [
    ⟨some 56, .mv (.t 11), none, false⟩,
    ⟨some 57, .un .not (.t 56), none, false⟩], []⟩
@[simp] def r245_18 : AReg := ⟨[5, 6], [], [
    ⟨some 58, .ld 17 true (.t 5), none, false⟩,
    ⟨none, .st false 17 (.t 6) (.t 58), none, false⟩], []⟩
@[simp] def r245_19 : AReg := ⟨[1, 3, 5, 6, 7], [], [
    ⟨some 16, .mv (.t 7), none, false⟩,
    ⟨some 17, .bin .int .add (.t 16) (.c (.dat (.int .i64 1))), none, false⟩,
    ⟨some 7, .mv (.t 17), none, false⟩], []⟩
def l245_0 : AC := .seq (.block 1 (.seq (.reg r245_3) (.seq (.seq (.reg r245_4) (.cond (.t 25) (.seq (.reg r245_5) (.ret)) (.skip))) (.seq (.seq (.reg r245_6) (.cond (.t 30) (.seq (.seq (.reg r245_7) (.seq (.reg r245_8) (.cond (.t 35) (.seq (.reg r245_9) (.ret)) (.skip)))) (.seq (.seq (.reg r245_10) (.cond (.t 42) (.seq (.reg r245_11) (.ret)) (.skip))) (.seq (.reg r245_12) (.ret)))) (.skip))) (.seq (.seq (.reg r245_13) (.cond (.t 47) (.seq (.reg r245_14) (.ret)) (.skip))) (.seq (.reg r245_15) (.seq (.reg r245_16) (.seq (.reg r245_17) (.cond (.t 57) (.seq (.reg r245_18) (.ret)) (.skip)))))))))) (.reg r245_19)
@[simp] theorem l245_0e (K : Orc) (s : St) : exec K l245_0 s = exec K (.seq (.block 1 (.seq (.reg r245_3) (.seq (.seq (.reg r245_4) (.cond (.t 25) (.seq (.reg r245_5) (.ret)) (.skip))) (.seq (.seq (.reg r245_6) (.cond (.t 30) (.seq (.seq (.reg r245_7) (.seq (.reg r245_8) (.cond (.t 35) (.seq (.reg r245_9) (.ret)) (.skip)))) (.seq (.seq (.reg r245_10) (.cond (.t 42) (.seq (.reg r245_11) (.ret)) (.skip))) (.seq (.reg r245_12) (.ret)))) (.skip))) (.seq (.seq (.reg r245_13) (.cond (.t 47) (.seq (.reg r245_14) (.ret)) (.skip))) (.seq (.reg r245_15) (.seq (.reg r245_16) (.seq (.reg r245_17) (.cond (.t 57) (.seq (.reg r245_18) (.ret)) (.skip)))))))))) (.reg r245_19)) s := rfl
@[simp] def fn245 : AFun := ⟨3, [.cell 6 17 true], false,
  .seq (.reg r245_0) (.seq (.reg r245_1) (.seq (.reg r245_2) (.block 0 (.loop l245_0)))), none⟩

theorem c245 : cFun Tryz.prog ann245 false 245 = some fn245 := by kernel_rfl

/-! 250: modelcheck/machine.running -/

def ann250 : Ann := [{ id := 0, live := [0, 1, 2] },
  { id := 1, live := [2, 3, 4, 6, 7] },
  { id := 2, live := [3, 4, 6, 7, 9, 10] },
  { id := 3, live := [6, 7] },
  { id := 4, live := [3, 4, 6, 7, 9] },
  { id := 5, live := [4, 6, 7, 9, 10, 11] }]

@[simp] def r250_0 : AReg := ⟨[0, 1, 2], [], [
    ⟨some 3, .box 5 (.t 0), none, false⟩,
    ⟨some 4, .box 6 (.t 1), none, false⟩,
    ⟨some 6, .alc [(.dat (.int .i64 0)), (.dat (.int .i64 0)), (.dat (.int .i64 0)), (.dat (.int .i64 0)), (.dat (.int .i64 0)), (.dat (.int .i64 0)), (.dat (.int .i64 0)), (.dat (.int .i64 0)), (.dat (.int .i64 0)), (.dat (.int .i64 0)), (.dat (.int .i64 0)), (.dat (.int .i64 0)), (.dat (.int .i64 0)), (.dat (.int .i64 0)), (.dat (.int .i64 0)), (.dat (.int .i64 0)), .nils], none, false⟩,
    ⟨some 7, .alc [(.dat (.int .i64 0)), (.dat (.int .i64 0)), (.dat (.int .i64 0)), (.dat (.int .i64 0)), (.dat (.int .i64 0)), (.dat (.int .i64 0)), (.dat (.int .i64 0)), (.dat (.int .i64 0))], none, false⟩,
    ⟨some 8, .mv (.c (.dat (.bool false))), none, false⟩], []⟩
@[simp] def r250_1 : AReg := ⟨[2, 3, 4, 6, 7], [], [
    ⟨some 13, .fAddr 0 (.t 4), none, false⟩,
    ⟨some 14, .ld 1 false (.t 13), none, false⟩,
    ⟨some 15, .mv (.t 2), none, false⟩,
    ⟨some 16, .call 211 [((.t 14), false), ((.t 15), false)] true, none, false⟩,
    ⟨some 12, .mv (.t 16), none, false⟩,
    ⟨some 17, .ext 0 (.t 12), none, false⟩,
    ⟨some 18, .ext 1 (.t 12), none, false⟩,
    ⟨some 9, .mv (.t 17), none, false⟩,
    ⟨some 10, .mv (.t 18), none, false⟩], []⟩
@[simp] def r250_2 : AReg := ⟨[3, 4, 6, 7, 9, 10], [], [
    ⟨some 19, .mv (.t 10), none, false⟩,
    ⟨some 20, .un .not (.t 19), none, false⟩], []⟩
@[simp] def r250_3 : AReg := ⟨[6, 7], [], [
    ⟨some 21, .bld [(.dat (.int .i64 0)), (.dat (.int .i64 0)), (.dat (.int .i64 0)), (.dat (.int .i64 0)), (.dat (.int .i64 0)), (.dat (.int .i64 0)), (.dat (.int .i64 0)), (.dat (.int .i64 0)), (.dat (.int .i64 0)), (.dat (.int .i64 0)), (.dat (.int .i64 0)), (.dat (.int .i64 0)), (.dat (.int .i64 0)), (.dat (.int .i64 0)), (.dat (.int .i64 0)), (.dat (.int .i64 0)), .nils] [], none, false⟩,
    ⟨some 22, .bld [(.dat (.int .i64 0)), (.dat (.int .i64 0)), (.dat (.int .i64 0)), (.dat (.int .i64 0)), (.dat (.int .i64 0)), (.dat (.int .i64 0)), (.dat (.int .i64 0)), (.dat (.int .i64 0))] [], none, false⟩,
    ⟨none, .st false 17 (.t 6) (.t 21), none, false⟩,
    ⟨none, .st false 8 (.t 7) (.t 22), none, false⟩,
    ⟨some 8, .mv (.c (.dat (.bool false))), none, false⟩], []⟩
@[simp] def r250_4 : AReg := ⟨[3, 4, 6, 7, 9], [], [
    ⟨some 24, .ld 5 true (.t 3), none, true⟩,
    ⟨some 25, .fAddr 0 (.t 4), none, false⟩,
    ⟨some 26, .ld 1 false (.t 25), none, true⟩,
    ⟨some 27, .mv (.t 9), none, false⟩,
    ⟨some 28, .iAddr 17 (.t 26) (.t 27), none, false⟩,
    ⟨some 29, .ld 17 true (.t 28), none, true⟩,
    ⟨some 30, .call 171 [((.t 24), false), ((.t 29), false)] false, none, true⟩,
    ⟨some 23, .mv (.t 30), none, false⟩,
    ⟨some 31, .ext 0 (.t 23), none, false⟩,
    ⟨some 32, .ext 1 (.t 23), none, false⟩,
    ⟨some 11, .alc [(.dat (.int .i64 0)), (.dat (.int .i64 0)), (.dat (.int .i64 0)), (.dat (.int .i64 0)), (.dat (.int .i64 0)), (.dat (.int .i64 0)), (.dat (.int .i64 0)), (.dat (.int .i64 0))], none, true⟩,
    ⟨none, .st false 8 (.t 11) (.t 31), none, false⟩,
    ⟨some 10, .mv (.t 32), none, false⟩], [(0, 10), (2, 10), (5, 10), (6, 10)]⟩
@[simp] def r250_5 : AReg := ⟨[4, 6, 7, 9, 10, 11], [], [
    ⟨some 33, .fAddr 0 (.t 4), none, false⟩,
    ⟨some 34, .ld 1 false (.t 33), none, false⟩,
    ⟨some 35, .mv (.t 9), none, false⟩,
    ⟨some 36, .iAddr 17 (.t 34) (.t 35), none, false⟩,
    ⟨some 37, .ld 17 true (.t 36), none, false⟩,
    ⟨some 38, .ld 8 true (.t 11), none, true⟩,
    ⟨some 39, .mv (.t 10), none, false⟩,
    ⟨none, .st false 17 (.t 6) (.t 37), none, true⟩,
    ⟨none, .st false 8 (.t 7) (.t 38), none, false⟩,
    ⟨some 8, .mv (.t 39), none, false⟩], [(5, 7)]⟩
@[simp] def fn250 : AFun := ⟨3, [.cell 6 17 true, .cell 7 8 true, .t 8], false,
  .seq (.reg r250_0) (.seq (.reg r250_1) (.seq (.seq (.reg r250_2) (.cond (.t 20) (.seq (.reg r250_3) (.ret)) (.skip))) (.seq (.reg r250_4) (.seq (.reg r250_5) (.ret))))), none⟩

theorem c250 : cFun Tryz.prog ann250 false 250 = some fn250 := by kernel_rfl

/-! 251: modelcheck/machine.label -/

def ann251 : Ann := [{ id := 0, live := [0, 1, 2] },
  { id := 1, live := [3, 4, 5, 6] },
  { id := 2, live := [3, 4, 5, 6, 7] },
  { id := 4, live := [3, 4, 5, 6, 7, 16] },
  { id := 5, live := [6, 7] },
  { id := 6, live := [3, 4, 5, 6, 7, 16] },
  { id := 7, live := [6, 7] },
  { id := 8, live := [3, 4, 5, 6, 7, 16] },
  { id := 9, live := [6, 7] },
  { id := 10, live := [3, 4, 5, 6, 7, 16] },
  { id := 11, live := [3, 5, 6, 7] },
  { id := 12, live := [3, 5, 6, 7] },
  { id := 13, live := [3, 4, 5, 6, 7, 16] },
  { id := 14, live := [4, 5, 6, 7] },
  { id := 15, live := [3, 4, 5, 6, 7, 16] },
  { id := 16, live := [3, 5, 6, 7] },
  { id := 17, live := [3, 5, 6, 7] },
  { id := 18, live := [3, 4, 5, 6, 7, 16] },
  { id := 19, live := [3, 5, 6, 7] },
  { id := 20, live := [3, 5, 6, 7] },
  { id := 21, live := [3, 4, 5, 6, 7, 16] },
  { id := 22, live := [4, 6, 7] },
  { id := 23, live := [4, 6, 7] },
  { id := 24, live := [3, 4, 5, 6, 7, 16] },
  { id := 25, live := [4, 5, 6, 7] },
  { id := 26, live := [4, 5, 6, 7] },
  { id := 3, live := [3, 4, 5, 6, 7] },
  { id := 27, live := [6, 7] }]

@[simp] def r251_0 : AReg := ⟨[0, 1, 2], [], [
    ⟨some 3, .box 6 (.t 0), none, false⟩,
    ⟨some 4, .box 17 (.t 1), none, false⟩,
    ⟨some 5, .box 8 (.t 2), none, false⟩,
    ⟨some 6, .alc [(.dat (.int .i64 0)), (.dat (.int .i64 0)), (.dat (.int .i64 0)), (.dat (.int .i64 0)), (.dat (.int .i64 0)), (.dat (.int .i64 0)), (.dat (.int .i64 0)), (.dat (.int .i64 0)), (.dat (.int .i64 0))], none, false⟩], []⟩
@[simp] def r251_1 : AReg := ⟨[3, 4, 5, 6], [], [
    ⟨some 8, .fAddr 0 (.t 4), none, false⟩,
    ⟨some 9, .ld 1 false (.t 8), none, false⟩,
    ⟨some 10, .fAddr 11 (.t 4), none, false⟩,
    ⟨some 11, .ld 1 false (.t 10), none, false⟩,
    ⟨some 12, .fAddr 4 (.t 5), none, false⟩,
    ⟨some 13, .ld 1 false (.t 12), none, false⟩,
    ⟨some 14, .bld [(.dat (.int .i64 0)), (.dat (.int .i64 0)), (.dat (.int .i64 0)), (.dat (.int .i64 0)), (.dat (.int .i64 0)), (.dat (.int .i64 0)), (.dat (.int .i64 0)), (.dat (.int .i64 0)), (.dat (.int .i64 0))] [(0, 1, (.t 9)), (1, 1, (.t 11)), (3, 1, (.t 13)), (5, 1, (.c (.dat (.int .i64 (-1))))), (4, 1, (.c (.dat (.int .i64 (-1)))))], none, false⟩,
    ⟨some 7, .alc [(.dat (.int .i64 0)), (.dat (.int .i64 0)), (.dat (.int .i64 0)), (.dat (.int .i64 0)), (.dat (.int .i64 0)), (.dat (.int .i64 0)), (.dat (.int .i64 0)), (.dat (.int .i64 0)), (.dat (.int .i64 0))], none, false⟩,
    ⟨none, .st false 9 (.t 7) (.t 14), none, false⟩], []⟩
@[simp] def r251_2 : AReg := ⟨[3, 4, 5, 6, 7], [], [
    ⟨some 15, .fAddr 0 (.t 5), none, false⟩,
    ⟨some 16, .ld 1 false (.t 15), none, false⟩], []⟩
@[simp] def r251_3 : AReg := ⟨[3, 4, 5, 6, 7, 16], [], [
    ⟨some 23, .bin .int .eql (.t 16) (.c (.dat (.int .i64 13))), none, false⟩,
    ⟨some 22, .mv (.t 23), none, false⟩], []⟩
@[simp] def r251_4 : AReg := ⟨[6, 7], [], [
    ⟨some 24, .fAddr 2 (.t 7), none, false⟩,
    ⟨none, .st false 1 (.t 24) (.c (.dat (.int .i64 7))), none, false⟩], []⟩
@[simp] def r251_5 : AReg := ⟨[3, 4, 5, 6, 7, 16], [], [
    ⟨some 26, .bin .int .eql (.t 16) (.c (.dat (.int .i64 15))), none, false⟩,
    ⟨some 25, .mv (.t 26), none, false⟩], []⟩
@[simp] def r251_6 : AReg := ⟨[6, 7], [], [
    ⟨some 27, .fAddr 2 (.t 7), none, false⟩,
    ⟨none, .st false 1 (.t 27) (.c (.dat (.int .i64 9))), none, false⟩], []⟩
@[simp] def r251_7 : AReg := ⟨[3, 4, 5, 6, 7, 16], [], [
    ⟨some 29, .bin .int .eql (.t 16) (.c (.dat (.int .i64 16))), none, false⟩,
    ⟨some 28, .mv (.t 29), none, false⟩], []⟩
@[simp] def r251_8 : AReg := ⟨[6, 7], [], [
    ⟨some 30, .fAddr 2 (.t 7), none, false⟩,
    ⟨none, .st false 1 (.t 30) (.c (.dat (.int .i64 10))), none, false⟩], []⟩
@[simp] def r251_9 : AReg := ⟨[3, 4, 5, 6, 7, 16], [], [
    ⟨some 32, .bin .int .eql (.t 16) (.c (.dat (.int .i64 17))), none, false⟩,
    ⟨some 31, .mv (.t 32), none, false⟩], []⟩
@[simp] def r251_10 : AReg := ⟨[3, 5, 6, 7], [], [
    ⟨some 33, .fAddr 2 (.t 7), none, false⟩,
    ⟨none, .st false 1 (.t 33) (.c (.dat (.int .i64 11))), none, false⟩], []⟩
@[simp] def r251_11 : AReg := ⟨[3, 5, 6, 7], [], [
    ⟨some 34, .fAddr 1 (.t 3), none, false⟩,
    ⟨some 35, .ld 4 true (.t 34), none, false⟩,
    ⟨some 36, .fAddr 4 (.t 5), none, false⟩,
    ⟨some 37, .ld 1 false (.t 36), none, false⟩,
    ⟨some 38, .call 210 [((.t 35), false), ((.t 37), false)] true, none, false⟩,
    ⟨some 39, .call 300 [((.t 38), false)] true, none, false⟩,
    ⟨some 40, .fAddr 7 (.t 7), none, false⟩,
    ⟨none, .st false 1 (.t 40) (.t 39), none, false⟩], []⟩
@[simp] def r251_12 : AReg := ⟨[3, 4, 5, 6, 7, 16], [], [
    ⟨some 42, .bin .int .eql (.t 16) (.c (.dat (.int .i64 18))), none, false⟩,
    ⟨some 41, .mv (.t 42), none, false⟩], []⟩
@[simp] def r251_13 : AReg := ⟨[4, 5, 6, 7], [], [
    ⟨some 43, .ld 17 true (.t 4), none, false⟩,
    ⟨some 44, .ld 8 true (.t 5), none, false⟩,
    ⟨some 45, .ld 9 true (.t 7), none, false⟩,
    ⟨some 46, .call 301 [((.t 43), false), ((.t 44), false), ((.t 45), false)] false, none, false⟩,
    ⟨none, .st false 9 (.t 6) (.t 46), none, false⟩], []⟩
@[simp] def r251_14 : AReg := ⟨[3, 4, 5, 6, 7, 16], [], [
    ⟨some 48, .bin .int .eql (.t 16) (.c (.dat (.int .i64 19))), none, false⟩,
    ⟨some 47, .mv (.t 48), none, false⟩], []⟩
@[simp] def r251_15 : AReg := ⟨[3, 5, 6, 7], [], [
    ⟨some 49, .fAddr 2 (.t 7), none, false⟩,
    ⟨none, .st false 1 (.t 49) (.c (.dat (.int .i64 14))), none, false⟩], []⟩
@[simp] def r251_16 : AReg := ⟨[3, 5, 6, 7], [], [
    ⟨some 50, .fAddr 1 (.t 3), none, false⟩,
    ⟨some 51, .fAddr 2 (.t 50), none, false⟩,
    ⟨some 52, .ld 1 false (.t 51), none, false⟩,
    ⟨some 53, .fAddr 4 (.t 5), none, false⟩,
    ⟨some 54, .ld 1 false (.t 53), none, false⟩,
    ⟨some 55, .iAddr 1 (.t 52) (.t 54), none, false⟩,
    ⟨some 56, .ld 1 false (.t 55), none, false⟩,
    ⟨some 57, .len false (.t 56), none, false⟩,
    ⟨some 58, .mm false (.c (.dat (.int .i64 1))) [(.t 57)], none, false⟩,
    ⟨some 59, .fAddr 7 (.t 7), none, false⟩,
    ⟨none, .st false 1 (.t 59) (.t 58), none, false⟩], []⟩
@[simp] def r251_17 : AReg := ⟨[3, 4, 5, 6, 7, 16], [], [
    ⟨some 61, .bin .int .eql (.t 16) (.c (.dat (.int .i64 20))), none, false⟩,
    ⟨some 60, .mv (.t 61), none, false⟩], []⟩
@[simp] def r251_18 : AReg := ⟨[3, 5, 6, 7], [], [
    ⟨some 62, .fAddr 2 (.t 7), none, false⟩,
    ⟨none, .st false 1 (.t 62) (.c (.dat (.int .i64 15))), none, false⟩], []⟩
@[simp] def r251_19 : AReg := ⟨[3, 5, 6, 7], [], [
    ⟨some 63, .fAddr 1 (.t 3), none, false⟩,
    ⟨some 64, .fAddr 2 (.t 63), none, false⟩,
    ⟨some 65, .ld 1 false (.t 64), none, false⟩,
    ⟨some 66, .fAddr 4 (.t 5), none, false⟩,
    ⟨some 67, .ld 1 false (.t 66), none, false⟩,
    ⟨some 68, .iAddr 1 (.t 65) (.t 67), none, false⟩,
    ⟨some 69, .ld 1 false (.t 68), none, false⟩,
    ⟨some 70, .len false (.t 69), none, false⟩,
    ⟨some 71, .fAddr 7 (.t 7), none, false⟩,
    ⟨none, .st false 1 (.t 71) (.t 70), none, false⟩], []⟩
@[simp] def r251_20 : AReg := ⟨[3, 4, 5, 6, 7, 16], [], [
    ⟨some 73, .bin .int .eql (.t 16) (.c (.dat (.int .i64 21))), none, false⟩,
    ⟨some 72, .mv (.t 73), none, false⟩], []⟩
@[simp] def r251_21 : AReg := ⟨[4, 6, 7], [], [
    ⟨some 74, .fAddr 2 (.t 7), none, false⟩,
    ⟨none, .st false 1 (.t 74) (.c (.dat (.int .i64 16))), none, false⟩], []⟩
@[simp] def r251_22 : AReg := ⟨[4, 6, 7], [], [
    ⟨some 76, .ld 17 true (.t 4), none, false⟩,
    ⟨some 77, .call 302 [((.t 76), false)] true, none, false⟩,
    ⟨some 75, .mv (.t 77), none, false⟩,
    ⟨some 78, .ext 0 (.t 75), none, false⟩,
    ⟨some 79, .ext 1 (.t 75), none, false⟩,
    ⟨some 80, .fAddr 3 (.t 7), none, false⟩,
    ⟨none, .st false 1 (.t 80) (.t 78), none, false⟩], []⟩
@[simp] def r251_23 : AReg := ⟨[3, 4, 5, 6, 7, 16], [], [
    ⟨some 82, .bin .int .eql (.t 16) (.c (.dat (.int .i64 22))), none, false⟩,
    ⟨some 81, .mv (.t 82), none, false⟩], []⟩
@[simp] def r251_24 : AReg := ⟨[4, 5, 6, 7], [], [
    ⟨some 83, .fAddr 2 (.t 7), none, false⟩,
    ⟨none, .st false 1 (.t 83) (.c (.dat (.int .i64 17))), none, false⟩], []⟩
@[simp] def r251_25 : AReg := ⟨[4, 5, 6, 7], [], [
    ⟨some 84, .fAddr 2 (.t 5), none, false⟩,
    ⟨some 85, .ld 1 false (.t 84), none, false⟩,
    ⟨some 86, .fAddr 3 (.t 4), none, false⟩,
    ⟨some 87, .iAddrA 8 1 (.t 86) (.t 85), none, false⟩,
    ⟨some 88, .ld 1 false (.t 87), none, false⟩,
    ⟨some 89, .fAddr 3 (.t 7), none, false⟩,
    ⟨none, .st false 1 (.t 89) (.t 88), none, false⟩], []⟩
@[simp] def r251_26 : AReg := ⟨[3, 4, 5, 6, 7], [], [
    ⟨some 17, .ld 6 true (.t 3), none, false⟩,
    ⟨some 18, .ld 17 true (.t 4), none, false⟩,
    ⟨some 19, .ld 8 true (.t 5), none, false⟩,
    ⟨some 20, .ld 9 true (.t 7), none, false⟩,
    ⟨some 21, .call 303 [((.t 17), false), ((.t 18), false), ((.t 19), false), ((.t 20), false)] false, none, false⟩,
    ⟨none, .st false 9 (.t 6) (.t 21), none, false⟩], []⟩
@[simp] def r251_27 : AReg := ⟨[6, 7], [], [
    ⟨some 90, .ld 9 true (.t 7), none, false⟩,
    ⟨none, .st false 9 (.t 6) (.t 90), none, false⟩], []⟩
@[simp] def fn251 : AFun := ⟨3, [.cell 6 9 true], true,
  .seq (.reg r251_0) (.seq (.reg r251_1) (.seq (.seq (.reg r251_2) (.block 0 (.seq (.reg r251_3) (.cond (.t 22) (.reg r251_4) (.seq (.reg r251_5) (.cond (.t 25) (.reg r251_6) (.seq (.reg r251_7) (.cond (.t 28) (.reg r251_8) (.seq (.reg r251_9) (.cond (.t 31) (.seq (.reg r251_10) (.reg r251_11)) (.seq (.reg r251_12) (.cond (.t 41) (.seq (.reg r251_13) (.ret)) (.seq (.reg r251_14) (.cond (.t 47) (.seq (.reg r251_15) (.reg r251_16)) (.seq (.reg r251_17) (.cond (.t 60) (.seq (.reg r251_18) (.reg r251_19)) (.seq (.reg r251_20) (.cond (.t 72) (.seq (.reg r251_21) (.reg r251_22)) (.seq (.reg r251_23) (.cond (.t 81) (.seq (.reg r251_24) (.reg r251_25)) (.seq (.reg r251_26) (.ret)))))))))))))))))))))) (.seq (.reg r251_27) (.ret)))), none⟩

theorem c251 : cFun Tryz.prog ann251 true 251 = some fn251 := by kernel_rfl

/-! 252: modelcheck/machine.Clone -/

def ann252 : Ann := [{ id := 0, live := [0] },
  { id := 1, live := [1, 2] },
  { id := 2, live := [1, 2, 3], marks := [(3, { md := .o })] },
  { id := 3, live := [1, 2, 3] },
  { id := 4, live := [1, 2, 3] },
  { id := 5, live := [1, 2, 3, 22, 23], drop := [1, 2, 3] },
  { id := 6, live := [1, 2, 3, 22, 23] },
  { id := 7, live := [1, 2, 3, 4, 22, 23], marks := [(12, { md := .f })] },
  { id := 8, live := [1, 2, 3, 22, 23] },
  { id := 9, live := [1, 2, 3], marks := [(3, { md := .o })] },
  { id := 10, live := [1, 2, 3] },
  { id := 11, live := [1, 2, 3] },
  { id := 12, live := [1, 2, 3, 51, 52], drop := [1, 2, 3] },
  { id := 13, live := [1, 2, 3, 51, 52] },
  { id := 14, live := [1, 2, 3, 5, 51, 52], marks := [(12, { md := .f })] },
  { id := 15, live := [1, 2, 3, 51, 52] },
  { id := 16, live := [2, 3] }]

@[simp] def r252_0 : AReg := ⟨[0], [], [
    ⟨some 1, .box 6 (.t 0), none, false⟩,
    ⟨some 2, .alc [.nils, .nils, .nils, .nils, .nils, .nils], none, false⟩], []⟩
@[simp] def r252_1 : AReg := ⟨[1, 2], [], [
    ⟨some 6, .fAddr 1 (.t 1), none, false⟩,
    ⟨some 7, .ld 4 true (.t 6), none, false⟩,
    ⟨some 8, .call 254 [((.t 7), false)] false, none, false⟩,
    ⟨some 9, .bld [.nils, .nils, .nils, .nils, .nils, .nils] [(1, 4, (.t 8))], none, false⟩,
    ⟨some 3, .alc [.nils, .nils, .nils, .nils, .nils, .nils], none, false⟩,
    ⟨none, .st false 6 (.t 3) (.t 9), none, false⟩], []⟩
@[simp] def r252_2 : AReg := ⟨[1, 2, 3], [], [
    ⟨some 10, .fAddr 0 (.t 1), none, false⟩,
    ⟨some 11, .ld 1 false (.t 10), none, false⟩,
    ⟨some 12, .len false (.t 11), none, false⟩,
    ⟨some 13, .mk .o 17 152 [(.dat (.int .i64 0)), (.dat (.int .i64 0)), (.dat (.int .i64 0)), (.dat (.int .i64 0)), (.dat (.int .i64 0)), (.dat (.int .i64 0)), (.dat (.int .i64 0)), (.dat (.int .i64 0)), (.dat (.int .i64 0)), (.dat (.int .i64 0)), (.dat (.int .i64 0)), (.dat (.int .i64 0)), (.dat (.int .i64 0)), (.dat (.int .i64 0)), (.dat (.int .i64 0)), (.dat (.int .i64 0)), .nils] (.t 12) (.t 12), none, false⟩,
    ⟨some 14, .fAddr 0 (.t 3), none, false⟩,
    ⟨none, .st false 1 (.t 14) (.t 13), none, false⟩], []⟩
@[simp] def r252_3 : AReg := ⟨[1, 2, 3], [], [
    ⟨some 15, .fAddr 0 (.t 3), none, false⟩,
    ⟨some 16, .ld 1 false (.t 15), none, false⟩,
    ⟨some 17, .fAddr 0 (.t 1), none, false⟩,
    ⟨some 18, .ld 1 false (.t 17), none, false⟩,
    ⟨some 19, .cpy 17 (.t 16) (.t 18), none, false⟩], []⟩
@[simp] def r252_4 : AReg := ⟨[1, 2, 3], [], [
    ⟨some 20, .fAddr 0 (.t 3), none, false⟩,
    ⟨some 21, .ld 1 false (.t 20), none, false⟩,
    ⟨some 22, .len false (.t 21), none, false⟩,
    ⟨some 23, .mv (.c (.dat (.int .i64 0))), none, false⟩], []⟩
@[simp] def r252_5 : AReg := ⟨[1, 2, 3, 22, 23], [1, 2, 3], [
    ⟨some 24, .bin .int .lss (.t 23) (.t 22), none, false⟩], []⟩
@[simp] def r252_6 : AReg := ⟨[1, 2, 3, 22, 23], [], [
    ⟨some 25, .mv (.t 23), none, false⟩,
    ⟨some 4, .mv (.t 25), none, false⟩], []⟩
@[simp] def r252_7 : AReg := ⟨[1, 2, 3, 4, 22, 23], [], [
    ⟨some 26, .fAddr 0 (.t 3), none, false⟩,
    ⟨some 27, .ld 1 false (.t 26), none, true⟩,
    ⟨some 28, .mv (.t 4), none, false⟩,
    ⟨some 29, .fAddr 0 (.t 1), none, false⟩,
    ⟨some 30, .ld 1 false (.t 29), none, false⟩,
    ⟨some 31, .mv (.t 4), none, false⟩,
    ⟨some 32, .iAddr 17 (.t 30) (.t 31), none, false⟩,
    ⟨some 33, .fAddr 16 (.t 32), none, false⟩,
    ⟨some 34, .ld 1 false (.t 33), none, false⟩,
    ⟨some 35, .call 226 [((.t 34), false)] false, none, true⟩,
    ⟨some 36, .iAddr 17 (.t 27) (.t 28), none, false⟩,
    ⟨some 37, .fAddr 16 (.t 36), none, false⟩,
    ⟨none, .st true 1 (.t 37) (.t 35), none, false⟩], [(1, 9)]⟩
@[simp] def r252_8 : AReg := ⟨[1, 2, 3, 22, 23], [], [
    ⟨some 38, .bin .int .add (.t 23) (.c (.dat (.int .i64 1))), none, false⟩,
    ⟨some 23, .mv (.t 38), none, false⟩], []⟩
def l252_0 : AC := .seq (.reg r252_5) (.seq (.cond (.t 24) (.skip) (.exit 0)) (.seq (.block 1 (.seq (.reg r252_6) (.reg r252_7))) (.reg r252_8)))
@[simp] theorem l252_0e (K : Orc) (s : St) : exec K l252_0 s = exec K (.seq (.reg r252_5) (.seq (.cond (.t 24) (.skip) (.exit 0)) (.seq (.block 1 (.seq (.reg r252_6) (.reg r252_7))) (.reg r252_8)))) s := rfl
@[simp] def r252_9 : AReg := ⟨[1, 2, 3], [], [
    ⟨some 39, .fAddr 5 (.t 1), none, false⟩,
    ⟨some 40, .ld 1 false (.t 39), none, false⟩,
    ⟨some 41, .len false (.t 40), none, false⟩,
    ⟨some 42, .mk .o 3 40 [(.dat (.int .i64 0)), (.dat (.int .i64 0)), .nils] (.t 41) (.t 41), none, false⟩,
    ⟨some 43, .fAddr 5 (.t 3), none, false⟩,
    ⟨none, .st false 1 (.t 43) (.t 42), none, false⟩], []⟩
@[simp] def r252_10 : AReg := ⟨[1, 2, 3], [], [
    ⟨some 44, .fAddr 5 (.t 3), none, false⟩,
    ⟨some 45, .ld 1 false (.t 44), none, false⟩,
    ⟨some 46, .fAddr 5 (.t 1), none, false⟩,
    ⟨some 47, .ld 1 false (.t 46), none, false⟩,
    ⟨some 48, .cpy 3 (.t 45) (.t 47), none, false⟩], []⟩
@[simp] def r252_11 : AReg := ⟨[1, 2, 3], [], [
    ⟨some 49, .fAddr 5 (.t 3), none, false⟩,
    ⟨some 50, .ld 1 false (.t 49), none, false⟩,
    ⟨some 51, .len false (.t 50), none, false⟩,
    ⟨some 52, .mv (.c (.dat (.int .i64 0))), none, false⟩], []⟩
@[simp] def r252_12 : AReg := ⟨[1, 2, 3, 51, 52], [1, 2, 3], [
    ⟨some 53, .bin .int .lss (.t 52) (.t 51), none, false⟩], []⟩
@[simp] def r252_13 : AReg := ⟨[1, 2, 3, 51, 52], [], [
    ⟨some 54, .mv (.t 52), none, false⟩,
    ⟨some 5, .mv (.t 54), none, false⟩], []⟩
@[simp] def r252_14 : AReg := ⟨[1, 2, 3, 5, 51, 52], [], [
    ⟨some 55, .fAddr 5 (.t 3), none, false⟩,
    ⟨some 56, .ld 1 false (.t 55), none, true⟩,
    ⟨some 57, .mv (.t 5), none, false⟩,
    ⟨some 58, .fAddr 5 (.t 1), none, false⟩,
    ⟨some 59, .ld 1 false (.t 58), none, false⟩,
    ⟨some 60, .mv (.t 5), none, false⟩,
    ⟨some 61, .iAddr 3 (.t 59) (.t 60), none, false⟩,
    ⟨some 62, .fAddr 2 (.t 61), none, false⟩,
    ⟨some 63, .ld 1 false (.t 62), none, false⟩,
    ⟨some 64, .call 304 [((.t 63), false)] false, none, true⟩,
    ⟨some 65, .iAddr 3 (.t 56) (.t 57), none, false⟩,
    ⟨some 66, .fAddr 2 (.t 65), none, false⟩,
    ⟨none, .st true 1 (.t 66) (.t 64), none, false⟩], [(1, 9)]⟩
@[simp] def r252_15 : AReg := ⟨[1, 2, 3, 51, 52], [], [
    ⟨some 67, .bin .int .add (.t 52) (.c (.dat (.int .i64 1))), none, false⟩,
    ⟨some 52, .mv (.t 67), none, false⟩], []⟩
def l252_1 : AC := .seq (.reg r252_12) (.seq (.cond (.t 53) (.skip) (.exit 2)) (.seq (.block 3 (.seq (.reg r252_13) (.reg r252_14))) (.reg r252_15)))
@[simp] theorem l252_1e (K : Orc) (s : St) : exec K l252_1 s = exec K (.seq (.reg r252_12) (.seq (.cond (.t 53) (.skip) (.exit 2)) (.seq (.block 3 (.seq (.reg r252_13) (.reg r252_14))) (.reg r252_15)))) s := rfl
@[simp] def r252_16 : AReg := ⟨[2, 3], [], [
    ⟨some 68, .ld 6 true (.t 3), none, false⟩,
    ⟨none, .st false 6 (.t 2) (.t 68), none, false⟩], []⟩
@[simp] def fn252 : AFun := ⟨1, [.cell 2 6 true], true,
  .seq (.reg r252_0) (.seq (.reg r252_1) (.seq (.reg r252_2) (.seq (.reg r252_3) (.seq (.seq (.reg r252_4) (.block 0 (.loop l252_0))) (.seq (.reg r252_9) (.seq (.reg r252_10) (.seq (.seq (.reg r252_11) (.block 2 (.loop l252_1))) (.seq (.reg r252_16) (.ret))))))))), none⟩

theorem c252 : cFun Tryz.prog ann252 true 252 = some fn252 := by kernel_rfl

/-! 253: modelcheck/machine.effect -/

def ann253 : Ann := [{ id := 0, live := [0, 1, 2, 3] },
  { id := 1, live := [4, 5, 6, 7, 8] },
  { id := 2, live := [4, 5, 6, 7, 8, 11] },
  { id := 3, live := [4, 5, 6, 7, 8, 11, 12] },
  { id := 4, live := [4, 5, 6, 7, 8, 11, 12, 14] },
  { id := 5, live := [4, 5, 7, 8, 11, 12, 14] },
  { id := 6, live := [4, 5, 7, 8, 11, 12, 14] },
  { id := 7, live := [4, 5, 7, 8, 11, 12, 14] },
  { id := 8, live := [4, 5, 7, 8, 11, 12, 14] },
  { id := 9, live := [4, 5, 7, 8, 11, 12, 14] },
  { id := 10, live := [4, 5, 7, 8, 11, 12, 14] },
  { id := 11, live := [4, 5, 7, 8, 11, 12, 14] },
  { id := 12, live := [4, 5, 7, 8, 11, 12, 14] },
  { id := 13, live := [4, 7, 8, 11, 12, 14] },
  { id := 14, live := [4, 7, 8, 11, 12, 14] },
  { id := 15, live := [4, 7, 8, 11, 12, 14] },
  { id := 16, live := [4, 6, 7, 8] },
  { id := 17, live := [4, 6, 7, 8, 11] },
  { id := 18, live := [4, 6, 8, 11, 12] },
  { id := 19, live := [4, 8, 11] },
  { id := 20, live := [4, 7, 8, 12] },
  { id := 21, live := [4, 7, 8, 11] },
  { id := 22, live := [4, 5, 7, 8, 11, 12] },
  { id := 23, live := [4, 5, 7, 8] },
  { id := 24, live := [4, 5, 7, 8, 12] },
  { id := 25, live := [4, 5, 7, 8, 12] },
  { id := 26, live := [4, 5, 7, 8, 12] },
  { id := 27, live := [4, 5, 7, 8, 11, 12] },
  { id := 28, live := [4, 5, 7, 8, 12] },
  { id := 29, live := [4, 5, 8, 12] },
  { id := 30, live := [4, 7, 8, 12] },
  { id := 31, live := [4, 7, 8, 12] },
  { id := 32, live := [4, 7, 8, 11] },
  { id := 33, live := [4, 8, 11, 12] }]

@[simp] def r253_0 : AReg := ⟨[0, 1, 2, 3], [], [
    ⟨some 4, .box 4 (.t 0), none, false⟩,
    ⟨some 5, .box 17 (.t 1), none, false⟩,
    ⟨some 6, .box 8 (.t 2), none, false⟩,
    ⟨some 7, .box 9 (.t 3), none, false⟩,
    ⟨some 8, .alc [.nils, .nils, .nils, .nils], none, false⟩,
    ⟨some 9, .mv (.c (.dat (.int .i64 0))), none, false⟩,
    ⟨some 10, .mv (.c (.dat (.int .i64 0))), none, false⟩], []⟩
@[simp] def r253_1 : AReg := ⟨[4, 5, 6, 7, 8], [], [
    ⟨some 11, .mv (.c (.dat (.int .i64 0))), none, false⟩], []⟩
@[simp] def r253_2 : AReg := ⟨[4, 5, 6, 7, 8, 11], [], [
    ⟨some 12, .mv (.c (.dat (.int .i64 0))), none, false⟩], []⟩
@[simp] def r253_3 : AReg := ⟨[4, 5, 6, 7, 8, 11, 12], [], [
    ⟨some 13, .fAddr 2 (.t 7), none, false⟩,
    ⟨some 14, .ld 1 false (.t 13), none, false⟩], []⟩
@[simp] def r253_4 : AReg := ⟨[4, 5, 6, 7, 8, 11, 12, 14], [], [
    ⟨some 16, .bin .int .eql (.t 14) (.c (.dat (.int .i64 5))), none, false⟩,
    ⟨some 15, .mv (.t 16), none, false⟩], []⟩
@[simp] def r253_5 : AReg := ⟨[4, 5, 7, 8, 11, 12, 14], [], [
    ⟨some 18, .bin .int .eql (.t 14) (.c (.dat (.int .i64 2))), none, false⟩,
    ⟨some 17, .mv (.t 18), none, false⟩], []⟩
@[simp] def r253_6 : AReg := ⟨[4, 5, 7, 8, 11, 12, 14], [], [
    ⟨some 20, .bin .int .eql (.t 14) (.c (.dat (.int .i64 1))), none, false⟩,
    ⟨some 19, .mv (.t 20), none, false⟩], []⟩
@[simp] def r253_7 : AReg := ⟨[4, 5, 7, 8, 11, 12, 14], [], [
    ⟨some 21, .bin .int .eql (.t 14) (.c (.dat (.int .i64 8))), none, false⟩,
    ⟨some 19, .mv (.t 21), none, false⟩], []⟩
@[simp] def r253_8 : AReg := ⟨[4, 5, 7, 8, 11, 12, 14], [], [
    ⟨some 23, .bin .int .eql (.t 14) (.c (.dat (.int .i64 11))), none, false⟩,
    ⟨some 22, .mv (.t 23), none, false⟩], []⟩
@[simp] def r253_9 : AReg := ⟨[4, 5, 7, 8, 11, 12, 14], [], [
    ⟨some 25, .bin .int .eql (.t 14) (.c (.dat (.int .i64 9))), none, false⟩,
    ⟨some 24, .mv (.t 25), none, false⟩], []⟩
@[simp] def r253_10 : AReg := ⟨[4, 5, 7, 8, 11, 12, 14], [], [
    ⟨some 27, .bin .int .eql (.t 14) (.c (.dat (.int .i64 10))), none, false⟩,
    ⟨some 26, .mv (.t 27), none, false⟩], []⟩
@[simp] def r253_11 : AReg := ⟨[4, 5, 7, 8, 11, 12, 14], [], [
    ⟨some 29, .bin .int .eql (.t 14) (.c (.dat (.int .i64 12))), none, false⟩,
    ⟨some 28, .mv (.t 29), none, false⟩], []⟩
@[simp] def r253_12 : AReg := ⟨[4, 5, 7, 8, 11, 12, 14], [], [
    ⟨some 31, .bin .int .eql (.t 14) (.c (.dat (.int .i64 13))), none, false⟩,
    ⟨some 30, .mv (.t 31), none, false⟩], []⟩
@[simp] def r253_13 : AReg := ⟨[4, 7, 8, 11, 12, 14], [], [
    ⟨some 33, .bin .int .eql (.t 14) (.c (.dat (.int .i64 14))), none, false⟩,
    ⟨some 32, .mv (.t 33), none, false⟩], []⟩
@[simp] def r253_14 : AReg := ⟨[4, 7, 8, 11, 12, 14], [], [
    ⟨some 35, .bin .int .eql (.t 14) (.c (.dat (.int .i64 15))), none, false⟩,
    ⟨some 34, .mv (.t 35), none, false⟩], []⟩
@[simp] def r253_15 : AReg := ⟨[4, 7, 8, 11, 12, 14], [], [
    ⟨some 37, .bin .int .eql (.t 14) (.c (.dat (.int .i64 16))), none, false⟩,
    ⟨some 36, .mv (.t 37), none, false⟩], []⟩
@[simp] def r253_16 : AReg := ⟨[4, 6, 7, 8], [], [
    ⟨some 39, .ld 4 true (.t 4), none, false⟩,
    ⟨some 40, .fAddr 3 (.t 7), none, false⟩,
    ⟨some 41, .ld 1 false (.t 40), none, false⟩,
    ⟨some 42, .fAddr 8 (.t 7), none, false⟩,
    ⟨some 43, .ld 1 false (.t 42), none, false⟩,
    ⟨some 44, .call 297 [((.t 39), false), ((.t 41), false), ((.t 43), false)] false, none, false⟩,
    ⟨some 38, .mv (.t 44), none, false⟩,
    ⟨some 45, .ext 0 (.t 38), none, false⟩,
    ⟨some 46, .ext 1 (.t 38), none, false⟩,
    ⟨none, .st false 4 (.t 4) (.t 45), none, false⟩,
    ⟨some 11, .mv (.t 46), none, false⟩], []⟩
@[simp] def r253_17 : AReg := ⟨[4, 6, 7, 8, 11], [], [
    ⟨some 47, .fAddr 7 (.t 7), none, false⟩,
    ⟨some 48, .ld 1 false (.t 47), none, false⟩,
    ⟨some 12, .mv (.t 48), none, false⟩], []⟩
@[simp] def r253_18 : AReg := ⟨[4, 6, 8, 11, 12], [], [
    ⟨some 49, .fAddr 0 (.t 6), none, false⟩,
    ⟨some 50, .ld 1 false (.t 49), none, false⟩,
    ⟨some 51, .bin .int .eql (.t 50) (.c (.dat (.int .i64 12))), none, false⟩], []⟩
@[simp] def r253_19 : AReg := ⟨[4, 8, 11], [], [
    ⟨some 12, .mv (.c (.dat (.int .i64 1))), none, false⟩], []⟩
@[simp] def r253_20 : AReg := ⟨[4, 7, 8, 12], [], [
    ⟨some 53, .ld 4 true (.t 4), none, false⟩,
    ⟨some 54, .fAddr 3 (.t 7), none, false⟩,
    ⟨some 55, .ld 1 false (.t 54), none, false⟩,
    ⟨some 56, .fAddr 8 (.t 7), none, false⟩,
    ⟨some 57, .ld 1 false (.t 56), none, false⟩,
    ⟨some 58, .call 297 [((.t 53), false), ((.t 55), false), ((.t 57), false)] false, none, false⟩,
    ⟨some 52, .mv (.t 58), none, false⟩,
    ⟨some 59, .ext 0 (.t 52), none, false⟩,
    ⟨some 60, .ext 1 (.t 52), none, false⟩,
    ⟨none, .st false 4 (.t 4) (.t 59), none, false⟩,
    ⟨some 11, .mv (.t 60), none, false⟩], []⟩
@[simp] def r253_21 : AReg := ⟨[4, 7, 8, 11], [], [
    ⟨some 61, .fAddr 7 (.t 7), none, false⟩,
    ⟨some 62, .ld 1 false (.t 61), none, false⟩,
    ⟨some 12, .mv (.t 62), none, false⟩], []⟩
@[simp] def r253_22 : AReg := ⟨[4, 5, 7, 8, 11, 12], [], [
    ⟨some 63, .fAddr 7 (.t 7), none, false⟩,
    ⟨some 64, .ld 1 false (.t 63), none, false⟩,
    ⟨some 65, .bin .int .eql (.t 64) (.c (.dat (.int .i64 0))), none, false⟩], []⟩
@[simp] def r253_23 : AReg := ⟨[4, 5, 7, 8], [], [
    ⟨some 12, .mv (.c (.dat (.int .i64 1))), none, false⟩], []⟩
@[simp] def r253_24 : AReg := ⟨[4, 5, 7, 8, 12], [], [
    ⟨some 67, .ld 4 true (.t 4), none, false⟩,
    ⟨some 68, .fAddr 3 (.t 7), none, false⟩,
    ⟨some 69, .ld 1 false (.t 68), none, false⟩,
    ⟨some 70, .fAddr 0 (.t 5), none, false⟩,
    ⟨some 71, .ld 1 false (.t 70), none, false⟩,
    ⟨some 72, .call 305 [((.t 67), false), ((.t 69), false), ((.t 71), false)] false, none, false⟩,
    ⟨some 66, .mv (.t 72), none, false⟩,
    ⟨some 73, .ext 0 (.t 66), none, false⟩,
    ⟨some 74, .ext 1 (.t 66), none, false⟩,
    ⟨none, .st false 4 (.t 4) (.t 73), none, false⟩,
    ⟨some 11, .mv (.t 74), none, false⟩], []⟩
@[simp] def r253_25 : AReg := ⟨[4, 5, 7, 8, 12], [], [
    ⟨some 76, .ld 4 true (.t 4), none, false⟩,
    ⟨some 77, .fAddr 3 (.t 7), none, false⟩,
    ⟨some 78, .ld 1 false (.t 77), none, false⟩,
    ⟨some 79, .fAddr 0 (.t 5), none, false⟩,
    ⟨some 80, .ld 1 false (.t 79), none, false⟩,
    ⟨some 81, .call 306 [((.t 76), false), ((.t 78), false), ((.t 80), false)] false, none, false⟩,
    ⟨some 75, .mv (.t 81), none, false⟩,
    ⟨some 82, .ext 0 (.t 75), none, false⟩,
    ⟨some 83, .ext 1 (.t 75), none, false⟩,
    ⟨none, .st false 4 (.t 4) (.t 82), none, false⟩,
    ⟨some 11, .mv (.t 83), none, false⟩], []⟩
@[simp] def r253_26 : AReg := ⟨[4, 5, 7, 8, 12], [], [
    ⟨some 85, .ld 4 true (.t 4), none, false⟩,
    ⟨some 86, .fAddr 4 (.t 7), none, false⟩,
    ⟨some 87, .ld 1 false (.t 86), none, false⟩,
    ⟨some 88, .fAddr 0 (.t 5), none, false⟩,
    ⟨some 89, .ld 1 false (.t 88), none, false⟩,
    ⟨some 90, .call 306 [((.t 85), false), ((.t 87), false), ((.t 89), false)] false, none, false⟩,
    ⟨some 84, .mv (.t 90), none, false⟩,
    ⟨some 91, .ext 0 (.t 84), none, false⟩,
    ⟨some 92, .ext 1 (.t 84), none, false⟩,
    ⟨none, .st false 4 (.t 4) (.t 91), none, false⟩,
    ⟨some 11, .mv (.t 92), none, false⟩], []⟩
@[simp] def r253_27 : AReg := ⟨[4, 5, 7, 8, 11, 12], [], [
    ⟨some 93, .mv (.t 11), none, false⟩,
    ⟨some 94, .bin .int .eql (.t 93) (.c (.dat (.int .i64 0))), none, false⟩], []⟩
@[simp] def r253_28 : AReg := ⟨[4, 5, 7, 8, 12], [], [
    ⟨some 96, .ld 4 true (.t 4), none, false⟩,
    ⟨some 97, .fAddr 3 (.t 7), none, false⟩,
    ⟨some 98, .ld 1 false (.t 97), none, false⟩,
    ⟨some 99, .fAddr 0 (.t 5), none, false⟩,
    ⟨some 100, .ld 1 false (.t 99), none, false⟩,
    ⟨some 101, .call 307 [((.t 96), false), ((.t 98), false), ((.t 100), false)] false, none, false⟩,
    ⟨some 95, .mv (.t 101), none, false⟩,
    ⟨some 102, .ext 0 (.t 95), none, false⟩,
    ⟨some 103, .ext 1 (.t 95), none, false⟩,
    ⟨none, .st false 4 (.t 4) (.t 102), none, false⟩,
    ⟨some 11, .mv (.t 103), none, false⟩], []⟩
@[simp] def r253_29 : AReg := ⟨[4, 5, 8, 12], [], [
    ⟨some 105, .ld 4 true (.t 4), none, false⟩,
    ⟨some 106, .fAddr 0 (.t 5), none, false⟩,
    ⟨some 107, .ld 1 false (.t 106), none, false⟩,
    ⟨some 108, .call 308 [((.t 105), false), ((.t 107), false)] false, none, false⟩,
    ⟨some 104, .mv (.t 108), none, false⟩,
    ⟨some 109, .ext 0 (.t 104), none, false⟩,
    ⟨some 110, .ext 1 (.t 104), none, false⟩,
    ⟨none, .st false 4 (.t 4) (.t 109), none, false⟩,
    ⟨some 11, .mv (.t 110), none, false⟩], []⟩
@[simp] def r253_30 : AReg := ⟨[4, 7, 8, 12], [], [
    ⟨some 112, .ld 4 true (.t 4), none, false⟩,
    ⟨some 113, .fAddr 3 (.t 7), none, false⟩,
    ⟨some 114, .ld 1 false (.t 113), none, false⟩,
    ⟨some 115, .call 309 [((.t 112), false), ((.t 114), false)] false, none, false⟩,
    ⟨some 111, .mv (.t 115), none, false⟩,
    ⟨some 116, .ext 0 (.t 111), none, false⟩,
    ⟨some 117, .ext 1 (.t 111), none, false⟩,
    ⟨some 118, .ext 2 (.t 111), none, false⟩,
    ⟨none, .st false 4 (.t 4) (.t 116), none, false⟩,
    ⟨some 11, .mv (.t 118), none, false⟩], []⟩
@[simp] def r253_31 : AReg := ⟨[4, 7, 8, 12], [], [
    ⟨some 120, .ld 4 true (.t 4), none, false⟩,
    ⟨some 121, .fAddr 3 (.t 7), none, false⟩,
    ⟨some 122, .ld 1 false (.t 121), none, false⟩,
    ⟨some 123, .call 310 [((.t 120), false), ((.t 122), false)] false, none, false⟩,
    ⟨some 119, .mv (.t 123), none, false⟩,
    ⟨some 124, .ext 0 (.t 119), none, false⟩,
    ⟨some 125, .ext 1 (.t 119), none, false⟩,
    ⟨some 126, .ext 2 (.t 119), none, false⟩,
    ⟨none, .st false 4 (.t 4) (.t 124), none, false⟩,
    ⟨some 11, .mv (.t 126), none, false⟩], []⟩
@[simp] def r253_32 : AReg := ⟨[4, 7, 8, 11], [], [
    ⟨some 127, .fAddr 3 (.t 7), none, false⟩,
    ⟨some 128, .ld 1 false (.t 127), none, false⟩,
    ⟨some 12, .mv (.t 128), none, false⟩], []⟩
@[simp] def r253_33 : AReg := ⟨[4, 8, 11, 12], [], [
    ⟨some 129, .ld 4 true (.t 4), none, false⟩,
    ⟨some 130, .mv (.t 12), none, false⟩,
    ⟨some 131, .mv (.t 11), none, false⟩,
    ⟨none, .st false 4 (.t 8) (.t 129), none, false⟩,
    ⟨some 9, .mv (.t 130), none, false⟩,
    ⟨some 10, .mv (.t 131), none, false⟩], []⟩
@[simp] def fn253 : AFun := ⟨4, [.cell 8 4 true, .t 9, .t 10], false,
  .seq (.reg r253_0) (.seq (.reg r253_1) (.seq (.reg r253_2) (.seq (.seq (.reg r253_3) (.block 0 (.seq (.block 11 (.seq (.block 10 (.seq (.block 9 (.seq (.block 8 (.seq (.block 7 (.seq (.block 6 (.seq (.block 5 (.seq (.block 4 (.seq (.block 3 (.seq (.block 2 (.seq (.block 1 (.seq (.seq (.seq (.reg r253_4) (.cond (.t 15) (.exit 1) (.skip))) (.seq (.seq (.reg r253_5) (.cond (.t 17) (.exit 2) (.skip))) (.seq (.seq (.seq (.reg r253_6) (.cond (.t 19) (.skip) (.reg r253_7))) (.cond (.t 19) (.exit 3) (.skip))) (.seq (.seq (.reg r253_8) (.cond (.t 22) (.exit 4) (.skip))) (.seq (.seq (.reg r253_9) (.cond (.t 24) (.exit 5) (.skip))) (.seq (.seq (.reg r253_10) (.cond (.t 26) (.exit 6) (.skip))) (.seq (.seq (.reg r253_11) (.cond (.t 28) (.exit 7) (.skip))) (.seq (.seq (.reg r253_12) (.cond (.t 30) (.exit 8) (.skip))) (.seq (.seq (.reg r253_13) (.cond (.t 32) (.exit 9) (.skip))) (.seq (.seq (.reg r253_14) (.cond (.t 34) (.exit 10) (.skip))) (.seq (.reg r253_15) (.cond (.t 36) (.exit 11) (.skip))))))))))))) (.exit 0))) (.seq (.seq (.reg r253_16) (.seq (.reg r253_17) (.seq (.reg r253_18) (.cond (.t 51) (.reg r253_19) (.skip))))) (.exit 0)))) (.seq (.reg r253_20) (.exit 0)))) (.seq (.reg r253_21) (.exit 0)))) (.seq (.seq (.reg r253_22) (.cond (.t 65) (.exit 0) (.skip))) (.reg r253_23)))) (.seq (.reg r253_24) (.exit 0)))) (.seq (.reg r253_25) (.exit 0)))) (.seq (.seq (.reg r253_26) (.seq (.reg r253_27) (.cond (.t 94) (.reg r253_28) (.skip)))) (.exit 0)))) (.seq (.reg r253_29) (.exit 0)))) (.seq (.reg r253_30) (.exit 0)))) (.seq (.reg r253_31) (.exit 0)))) (.seq (.reg r253_32) (.exit 0))))) (.seq (.reg r253_33) (.ret))))), none⟩

theorem c253 : cFun Tryz.prog ann253 false 253 = some fn253 := by kernel_rfl

/-! 254: modelcheck/memory.Clone -/

def ann254 : Ann := [{ id := 0, live := [0] },
  { id := 1, live := [1, 2], marks := [(9, { md := .f })] },
  { id := 2, live := [1, 2, 3] },
  { id := 3, live := [2, 3, 21, 22, 23], drop := [2, 3, 21] },
  { id := 4, live := [2, 3, 21, 22, 23] },
  { id := 5, live := [2, 3, 4, 5, 21, 22, 23], marks := [(6, { md := .f })] },
  { id := 6, live := [2, 3, 21, 22, 23] },
  { id := 7, live := [2, 3] }]

@[simp] def r254_0 : AReg := ⟨[0], [], [
    ⟨some 1, .box 4 (.t 0), none, false⟩,
    ⟨some 2, .alc [.nils, .nils, .nils, .nils], none, false⟩], []⟩
@[simp] def r254_1 : AReg := ⟨[1, 2], [], [
    ⟨some 6, .fAddr 0 (.t 1), none, false⟩,
    ⟨some 7, .ld 1 false (.t 6), none, true⟩,
    ⟨some 8, .call 311 [((.t 7), false)] false, none, true⟩,
    ⟨some 9, .fAddr 1 (.t 1), none, false⟩,
    ⟨some 10, .ld 1 false (.t 9), none, true⟩,
    ⟨some 11, .call 311 [((.t 10), false)] false, none, true⟩,
    ⟨some 12, .fAddr 2 (.t 1), none, false⟩,
    ⟨some 13, .ld 1 false (.t 12), none, true⟩,
    ⟨some 14, .len false (.t 13), none, false⟩,
    ⟨some 15, .mk .f 1 24 [.nils] (.t 14) (.t 14), none, true⟩,
    ⟨some 16, .fAddr 3 (.t 1), none, false⟩,
    ⟨some 17, .ld 1 false (.t 16), none, true⟩,
    ⟨some 18, .call 311 [((.t 17), false)] false, none, true⟩,
    ⟨some 19, .bld [.nils, .nils, .nils, .nils] [(0, 1, (.t 8)), (1, 1, (.t 11)), (2, 1, (.t 15)), (3, 1, (.t 18))], none, false⟩,
    ⟨some 3, .alc [.nils, .nils, .nils, .nils], none, true⟩,
    ⟨none, .st false 4 (.t 3) (.t 19), none, false⟩], [(2, 4), (2, 7), (5, 7), (1, 9), (2, 9), (4, 9), (5, 9), (2, 11), (5, 11), (9, 11), (7, 12), (9, 12), (1, 14), (2, 14), (4, 14), (5, 14), (7, 14), (9, 14), (11, 14), (12, 14)]⟩
@[simp] def r254_2 : AReg := ⟨[1, 2, 3], [], [
    ⟨some 20, .fAddr 2 (.t 1), none, false⟩,
    ⟨some 21, .ld 1 false (.t 20), none, false⟩,
    ⟨some 22, .len false (.t 21), none, false⟩,
    ⟨some 23, .mv (.c (.dat (.int .i64 0))), none, false⟩], []⟩
@[simp] def r254_3 : AReg := ⟨[2, 3, 21, 22, 23], [2, 3, 21], [
    ⟨some 24, .bin .int .lss (.t 23) (.t 22), none, false⟩], []⟩
@[simp] def r254_4 : AReg := ⟨[2, 3, 21, 22, 23], [], [
    ⟨some 25, .mv (.t 23), none, false⟩,
    ⟨some 26, .iAddr 1 (.t 21) (.t 23), none, false⟩,
    ⟨some 27, .ld 1 false (.t 26), none, false⟩,
    ⟨some 4, .mv (.t 25), none, false⟩,
    ⟨some 5, .mv (.t 27), none, false⟩], []⟩
@[simp] def r254_5 : AReg := ⟨[2, 3, 4, 5, 21, 22, 23], [], [
    ⟨some 28, .fAddr 2 (.t 3), none, false⟩,
    ⟨some 29, .ld 1 false (.t 28), none, true⟩,
    ⟨some 30, .mv (.t 4), none, false⟩,
    ⟨some 31, .mv (.t 5), none, false⟩,
    ⟨some 32, .call 311 [((.t 31), false)] false, none, true⟩,
    ⟨some 33, .iAddr 1 (.t 29) (.t 30), none, false⟩,
    ⟨none, .st true 1 (.t 33) (.t 32), none, false⟩], [(1, 4)]⟩
@[simp] def r254_6 : AReg := ⟨[2, 3, 21, 22, 23], [], [
    ⟨some 34, .bin .int .add (.t 23) (.c (.dat (.int .i64 1))), none, false⟩,
    ⟨some 23, .mv (.t 34), none, false⟩], []⟩
def l254_0 : AC := .seq (.reg r254_3) (.seq (.cond (.t 24) (.skip) (.exit 0)) (.seq (.block 1 (.seq (.reg r254_4) (.reg r254_5))) (.reg r254_6)))
@[simp] theorem l254_0e (K : Orc) (s : St) : exec K l254_0 s = exec K (.seq (.reg r254_3) (.seq (.cond (.t 24) (.skip) (.exit 0)) (.seq (.block 1 (.seq (.reg r254_4) (.reg r254_5))) (.reg r254_6)))) s := rfl
@[simp] def r254_7 : AReg := ⟨[2, 3], [], [
    ⟨some 35, .ld 4 true (.t 3), none, false⟩,
    ⟨none, .st false 4 (.t 2) (.t 35), none, false⟩], []⟩
@[simp] def fn254 : AFun := ⟨1, [.cell 2 4 true], true,
  .seq (.reg r254_0) (.seq (.reg r254_1) (.seq (.seq (.reg r254_2) (.block 0 (.loop l254_0))) (.seq (.reg r254_7) (.ret)))), none⟩

theorem c254 : cFun Tryz.prog ann254 true 254 = some fn254 := by kernel_rfl

/-! 256: modelcheck/thread.Complete -/

def ann256 : Ann := [{ id := 0, live := [0, 1, 2, 3] },
  { id := 1, live := [1, 3, 4, 6, 8] },
  { id := 2, live := [1, 3, 4, 6, 8, 10] },
  { id := 3, live := [8, 10] },
  { id := 4, live := [1, 3, 4, 6, 8] },
  { id := 5, live := [8] },
  { id := 6, live := [1, 3, 4, 6, 8] },
  { id := 7, live := [8] },
  { id := 8, live := [1, 3, 4, 6, 8] },
  { id := 9, live := [8] },
  { id := 10, live := [1, 3, 4, 6, 8] },
  { id := 11, live := [1, 3, 4, 6, 8, 11] },
  { id := 12, live := [1, 3, 4, 6, 8, 11] },
  { id := 13, live := [1, 3, 4, 6, 8, 11, 13, 14] },
  { id := 14, live := [1, 3, 4, 6, 8, 11, 13] },
  { id := 15, live := [1, 3, 4, 6, 8, 11] },
  { id := 16, live := [1, 4, 6, 8, 11] },
  { id := 17, live := [1, 3, 4, 6, 8, 11] },
  { id := 18, live := [1, 3, 4, 6, 8, 11, 68] },
  { id := 19, live := [1, 4, 6, 8, 11, 68] },
  { id := 20, live := [1, 4, 6, 8, 11, 68] },
  { id := 21, live := [1, 4, 6, 8, 68] },
  { id := 22, live := [1, 3, 4, 6, 8, 11] },
  { id := 23, live := [1, 4, 6, 8, 11] },
  { id := 24, live := [1, 4, 6, 8, 11] },
  { id := 25, live := [1, 4, 6, 8] },
  { id := 26, live := [1, 4, 6, 8] },
  { id := 27, live := [1, 4, 6, 8] }]

@[simp] def r256_0 : AReg := ⟨[0, 1, 2, 3], [], [
    ⟨some 4, .box 5 (.t 0), none, false⟩,
    ⟨some 6, .box 17 (.t 2), none, false⟩,
    ⟨some 8, .alc [(.dat (.int .i64 0)), (.dat (.int .i64 0)), (.dat (.int .i64 0)), (.dat (.int .i64 0)), (.dat (.int .i64 0)), (.dat (.int .i64 0)), (.dat (.int .i64 0)), (.dat (.int .i64 0)), (.dat (.int .i64 0)), (.dat (.int .i64 0)), (.dat (.int .i64 0)), (.dat (.int .i64 0)), (.dat (.int .i64 0)), (.dat (.int .i64 0)), (.dat (.int .i64 0)), (.dat (.int .i64 0)), .nils], none, false⟩,
    ⟨some 9, .mv (.c (.dat (.int .i64 0))), none, false⟩], []⟩
@[simp] def r256_1 : AReg := ⟨[1, 3, 4, 6, 8], [], [
    ⟨some 15, .ld 5 true (.t 4), none, false⟩,
    ⟨some 16, .mv (.t 1), none, false⟩,
    ⟨some 17, .call 242 [((.t 15), false), ((.t 16), false)] true, none, false⟩,
    ⟨some 10, .mv (.t 17), none, false⟩], []⟩
@[simp] def r256_2 : AReg := ⟨[1, 3, 4, 6, 8, 10], [], [
    ⟨some 18, .mv (.t 10), none, false⟩,
    ⟨some 19, .bin .int .neq (.t 18) (.c (.dat (.int .i64 0))), none, false⟩], []⟩
@[simp] def r256_3 : AReg := ⟨[8, 10], [], [
    ⟨some 20, .bld [(.dat (.int .i64 0)), (.dat (.int .i64 0)), (.dat (.int .i64 0)), (.dat (.int .i64 0)), (.dat (.int .i64 0)), (.dat (.int .i64 0)), (.dat (.int .i64 0)), (.dat (.int .i64 0)), (.dat (.int .i64 0)), (.dat (.int .i64 0)), (.dat (.int .i64 0)), (.dat (.int .i64 0)), (.dat (.int .i64 0)), (.dat (.int .i64 0)), (.dat (.int .i64 0)), (.dat (.int .i64 0)), .nils] [], none, false⟩,
    ⟨some 21, .mv (.t 10), none, false⟩,
    ⟨none, .st false 17 (.t 8) (.t 20), none, false⟩,
    ⟨some 9, .mv (.t 21), none, false⟩], []⟩
@[simp] def r256_4 : AReg := ⟨[1, 3, 4, 6, 8], [], [
    ⟨some 22, .ld 5 true (.t 4), none, false⟩,
    ⟨some 23, .mv (.t 1), none, false⟩,
    ⟨some 24, .ld 17 true (.t 6), none, false⟩,
    ⟨some 25, .call 258 [((.t 22), false), ((.t 23), false), ((.t 24), false)] true, none, false⟩,
    ⟨some 26, .un .not (.t 25), none, false⟩], []⟩
@[simp] def r256_5 : AReg := ⟨[8], [], [
    ⟨some 27, .bld [(.dat (.int .i64 0)), (.dat (.int .i64 0)), (.dat (.int .i64 0)), (.dat (.int .i64 0)), (.dat (.int .i64 0)), (.dat (.int .i64 0)), (.dat (.int .i64 0)), (.dat (.int .i64 0)), (.dat (.int .i64 0)), (.dat (.int .i64 0)), (.dat (.int .i64 0)), (.dat (.int .i64 0)), (.dat (.int .i64 0)), (.dat (.int .i64 0)), (.dat (.int .i64 0)), (.dat (.int .i64 0)), .nils] [], none, false⟩,
    ⟨none, .st false 17 (.t 8) (.t 27), none, false⟩,
    ⟨some 9, .mv (.c (.dat (.int .i64 1))), none, false⟩], []⟩
@[simp] def r256_6 : AReg := ⟨[1, 3, 4, 6, 8], [], [
    ⟨some 28, .fAddr 14 (.t 6), none, false⟩,
    ⟨some 29, .ld 1 false (.t 28), none, false⟩,
    ⟨some 30, .bin .int .neq (.t 29) (.c (.dat (.int .i64 1))), none, false⟩], []⟩
@[simp] def r256_7 : AReg := ⟨[8], [], [
    ⟨some 31, .bld [(.dat (.int .i64 0)), (.dat (.int .i64 0)), (.dat (.int .i64 0)), (.dat (.int .i64 0)), (.dat (.int .i64 0)), (.dat (.int .i64 0)), (.dat (.int .i64 0)), (.dat (.int .i64 0)), (.dat (.int .i64 0)), (.dat (.int .i64 0)), (.dat (.int .i64 0)), (.dat (.int .i64 0)), (.dat (.int .i64 0)), (.dat (.int .i64 0)), (.dat (.int .i64 0)), (.dat (.int .i64 0)), .nils] [], none, false⟩,
    ⟨none, .st false 17 (.t 8) (.t 31), none, false⟩,
    ⟨some 9, .mv (.c (.dat (.int .i64 30))), none, false⟩], []⟩
@[simp] def r256_8 : AReg := ⟨[1, 3, 4, 6, 8], [], [
    ⟨some 32, .mv (.t 3), none, false⟩,
    ⟨some 33, .call 244 [((.t 32), false)] true, none, false⟩,
    ⟨some 34, .mv (.t 3), none, false⟩,
    ⟨some 35, .bin .int .neq (.t 33) (.t 34), none, false⟩], []⟩
@[simp] def r256_9 : AReg := ⟨[8], [], [
    ⟨some 36, .bld [(.dat (.int .i64 0)), (.dat (.int .i64 0)), (.dat (.int .i64 0)), (.dat (.int .i64 0)), (.dat (.int .i64 0)), (.dat (.int .i64 0)), (.dat (.int .i64 0)), (.dat (.int .i64 0)), (.dat (.int .i64 0)), (.dat (.int .i64 0)), (.dat (.int .i64 0)), (.dat (.int .i64 0)), (.dat (.int .i64 0)), (.dat (.int .i64 0)), (.dat (.int .i64 0)), (.dat (.int .i64 0)), .nils] [], none, false⟩,
    ⟨none, .st false 17 (.t 8) (.t 36), none, false⟩,
    ⟨some 9, .mv (.c (.dat (.int .i64 2))), none, false⟩], []⟩
@[simp] def r256_10 : AReg := ⟨[1, 3, 4, 6, 8], [], [
    ⟨some 38, .ld 5 true (.t 4), none, false⟩,
    ⟨some 39, .ld 17 true (.t 6), none, false⟩,
    ⟨some 40, .call 207 [((.t 38), false), ((.t 39), false)] false, none, false⟩,
    ⟨some 37, .mv (.t 40), none, false⟩,
    ⟨some 41, .ext 0 (.t 37), none, false⟩,
    ⟨some 42, .ext 1 (.t 37), none, false⟩,
    ⟨some 11, .alc [(.dat (.int .i64 0)), (.dat (.int .i64 0)), (.dat (.int .i64 0)), (.dat (.int .i64 0)), (.dat (.int .i64 0)), (.dat (.int .i64 0)), (.dat (.int .i64 0)), (.dat (.int .i64 0))], none, false⟩,
    ⟨none, .st false 8 (.t 11) (.t 41), none, false⟩,
    ⟨some 12, .mv (.t 42), none, false⟩], []⟩
@[simp] def r256_11 : AReg := ⟨[1, 3, 4, 6, 8, 11], [], [
    ⟨some 43, .fAddr 11 (.t 6), none, false⟩,
    ⟨some 44, .ld 1 false (.t 43), none, false⟩,
    ⟨some 45, .bin .int .add (.t 44) (.c (.dat (.int .i64 1))), none, false⟩,
    ⟨some 46, .fAddr 11 (.t 6), none, false⟩,
    ⟨none, .st false 1 (.t 46) (.t 45), none, false⟩], []⟩
@[simp] def r256_12 : AReg := ⟨[1, 3, 4, 6, 8, 11], [], [
    ⟨some 48, .ld 8 true (.t 11), none, false⟩,
    ⟨some 49, .call 312 [((.t 48), false)] true, none, false⟩,
    ⟨some 47, .mv (.t 49), none, false⟩,
    ⟨some 50, .ext 0 (.t 47), none, false⟩,
    ⟨some 51, .ext 1 (.t 47), none, false⟩,
    ⟨some 13, .mv (.t 50), none, false⟩,
    ⟨some 14, .mv (.t 51), none, false⟩], []⟩
@[simp] def r256_13 : AReg := ⟨[1, 3, 4, 6, 8, 11, 13, 14], [], [
    ⟨some 52, .mv (.t 14), none, false⟩], []⟩
@[simp] def r256_14 : AReg := ⟨[1, 3, 4, 6, 8, 11, 13], [], [
    ⟨some 53, .mv (.t 13), none, false⟩,
    ⟨some 54, .mv (.t 3), none, false⟩,
    ⟨some 55, .fAddr 3 (.t 6), none, false⟩,
    ⟨some 56, .iAddrA 8 1 (.t 55) (.t 53), none, false⟩,
    ⟨none, .st false 1 (.t 56) (.t 54), none, false⟩], []⟩
@[simp] def r256_15 : AReg := ⟨[1, 3, 4, 6, 8, 11], [], [
    ⟨some 57, .fAddr 0 (.t 11), none, false⟩,
    ⟨some 58, .ld 1 false (.t 57), none, false⟩,
    ⟨some 59, .bin .int .eql (.t 58) (.c (.dat (.int .i64 18))), none, false⟩], []⟩
@[simp] def r256_16 : AReg := ⟨[1, 4, 6, 8, 11], [], [
    ⟨some 60, .ld 5 true (.t 4), none, true⟩,
    ⟨some 61, .mv (.t 1), none, false⟩,
    ⟨some 62, .ld 17 true (.t 6), none, false⟩,
    ⟨some 63, .fAddr 5 (.t 11), none, false⟩,
    ⟨some 64, .ld 1 false (.t 63), none, false⟩,
    ⟨some 65, .call 313 [((.t 62), false), ((.t 64), false)] false, none, true⟩,
    ⟨some 66, .call 245 [((.t 60), false), ((.t 61), false), ((.t 65), false)] false, none, false⟩,
    ⟨none, .st false 17 (.t 8) (.t 66), none, false⟩,
    ⟨some 9, .mv (.c (.dat (.int .i64 0))), none, false⟩], [(0, 5)]⟩
@[simp] def r256_17 : AReg := ⟨[1, 3, 4, 6, 8, 11], [], [
    ⟨some 67, .fAddr 0 (.t 11), none, false⟩,
    ⟨some 68, .ld 1 false (.t 67), none, false⟩], []⟩
@[simp] def r256_18 : AReg := ⟨[1, 3, 4, 6, 8, 11, 68], [], [
    ⟨some 70, .bin .int .eql (.t 68) (.c (.dat (.int .i64 17))), none, false⟩,
    ⟨some 69, .mv (.t 70), none, false⟩], []⟩
@[simp] def r256_19 : AReg := ⟨[1, 4, 6, 8, 11, 68], [], [
    ⟨some 72, .bin .int .eql (.t 68) (.c (.dat (.int .i64 15))), none, false⟩,
    ⟨some 71, .mv (.t 72), none, false⟩], []⟩
@[simp] def r256_20 : AReg := ⟨[1, 4, 6, 8, 11, 68], [], [
    ⟨some 74, .bin .int .eql (.t 68) (.c (.dat (.int .i64 16))), none, false⟩,
    ⟨some 73, .mv (.t 74), none, false⟩], []⟩
@[simp] def r256_21 : AReg := ⟨[1, 4, 6, 8, 68], [], [
    ⟨some 76, .bin .int .eql (.t 68) (.c (.dat (.int .i64 21))), none, false⟩,
    ⟨some 75, .mv (.t 76), none, false⟩], []⟩
@[simp] def r256_22 : AReg := ⟨[1, 3, 4, 6, 8, 11], [], [
    ⟨some 77, .mv (.t 3), none, false⟩,
    ⟨some 78, .bin .int .eql (.t 77) (.c (.dat (.int .i64 0))), none, false⟩], []⟩
@[simp] def r256_23 : AReg := ⟨[1, 4, 6, 8, 11], [], [
    ⟨some 79, .fAddr 16 (.t 6), none, false⟩,
    ⟨some 80, .ld 1 false (.t 79), none, false⟩,
    ⟨some 81, .fAddr 4 (.t 11), none, false⟩,
    ⟨some 82, .ld 1 false (.t 81), none, false⟩,
    ⟨some 83, .call 314 [((.t 80), false), ((.t 82), false)] false, none, false⟩,
    ⟨some 84, .fAddr 16 (.t 6), none, false⟩,
    ⟨none, .st false 1 (.t 84) (.t 83), none, false⟩], []⟩
@[simp] def r256_24 : AReg := ⟨[1, 4, 6, 8, 11], [], [
    ⟨some 85, .fAddr 16 (.t 6), none, false⟩,
    ⟨some 86, .ld 1 false (.t 85), none, false⟩,
    ⟨some 87, .fAddr 4 (.t 11), none, false⟩,
    ⟨some 88, .ld 1 false (.t 87), none, false⟩,
    ⟨some 89, .call 315 [((.t 86), false), ((.t 88), false)] false, none, false⟩,
    ⟨some 90, .fAddr 16 (.t 6), none, false⟩,
    ⟨none, .st false 1 (.t 90) (.t 89), none, false⟩], []⟩
@[simp] def r256_25 : AReg := ⟨[1, 4, 6, 8], [], [
    ⟨some 91, .fAddr 12 (.t 6), none, false⟩,
    ⟨some 92, .ld 1 false (.t 91), none, false⟩,
    ⟨some 93, .bin .int .add (.t 92) (.c (.dat (.int .i64 1))), none, false⟩,
    ⟨some 94, .fAddr 12 (.t 6), none, false⟩,
    ⟨none, .st false 1 (.t 94) (.t 93), none, false⟩], []⟩
@[simp] def r256_26 : AReg := ⟨[1, 4, 6, 8], [], [
    ⟨some 95, .fAddr 2 (.t 6), none, false⟩,
    ⟨some 96, .ld 1 false (.t 95), none, false⟩,
    ⟨some 97, .bin .int .add (.t 96) (.c (.dat (.int .i64 1))), none, false⟩,
    ⟨some 98, .fAddr 2 (.t 6), none, false⟩,
    ⟨none, .st false 1 (.t 98) (.t 97), none, false⟩], []⟩
@[simp] def r256_27 : AReg := ⟨[1, 4, 6, 8], [], [
    ⟨some 99, .ld 5 true (.t 4), none, false⟩,
    ⟨some 100, .mv (.t 1), none, false⟩,
    ⟨some 101, .ld 17 true (.t 6), none, false⟩,
    ⟨some 102, .call 245 [((.t 99), false), ((.t 100), false), ((.t 101), false)] false, none, false⟩,
    ⟨none, .st false 17 (.t 8) (.t 102), none, false⟩,
    ⟨some 9, .mv (.c (.dat (.int .i64 0))), none, false⟩], []⟩
@[simp] def fn256 : AFun := ⟨4, [.cell 8 17 true, .t 9], false,
  .seq (.reg r256_0) (.seq (.seq (.reg r256_1) (.seq (.reg r256_2) (.cond (.t 19) (.seq (.reg r256_3) (.ret)) (.skip)))) (.seq (.seq (.reg r256_4) (.cond (.t 26) (.seq (.reg r256_5) (.ret)) (.skip))) (.seq (.seq (.reg r256_6) (.cond (.t 30) (.seq (.reg r256_7) (.ret)) (.skip))) (.seq (.seq (.reg r256_8) (.cond (.t 35) (.seq (.reg r256_9) (.ret)) (.skip))) (.seq (.reg r256_10) (.seq (.reg r256_11) (.seq (.seq (.reg r256_12) (.seq (.reg r256_13) (.cond (.t 52) (.reg r256_14) (.skip)))) (.seq (.seq (.reg r256_15) (.cond (.t 59) (.seq (.reg r256_16) (.ret)) (.skip))) (.seq (.seq (.reg r256_17) (.block 0 (.seq (.block 4 (.seq (.block 3 (.seq (.block 2 (.seq (.block 1 (.seq (.seq (.seq (.reg r256_18) (.cond (.t 69) (.exit 1) (.skip))) (.seq (.seq (.reg r256_19) (.cond (.t 71) (.exit 2) (.skip))) (.seq (.seq (.reg r256_20) (.cond (.t 73) (.exit 3) (.skip))) (.seq (.reg r256_21) (.cond (.t 75) (.exit 4) (.skip)))))) (.exit 0))) (.seq (.reg r256_22) (.cond (.t 78) (.exit 0) (.skip))))) (.seq (.reg r256_23) (.exit 0)))) (.seq (.reg r256_24) (.exit 0)))) (.seq (.reg r256_25) (.exit 0))))) (.seq (.reg r256_26) (.seq (.reg r256_27) (.ret)))))))))))), none⟩

theorem c256 : cFun Tryz.prog ann256 false 256 = some fn256 := by kernel_rfl


end Go.Am
