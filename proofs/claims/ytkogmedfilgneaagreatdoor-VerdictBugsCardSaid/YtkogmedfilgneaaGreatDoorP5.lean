/- Parts of the proofs of the statement, joined: VCode4. -/
import Derived.Test.YtkogmedfilgneaaGreatDoorP4

namespace Go.Am
open Go.Proofs

/-! 257: modelcheck/memory.formed -/

def ann257 : Ann := [{ id := 0, live := [0] },
  { id := 1, live := [1] },
  { id := 2, live := [] },
  { id := 3, live := [1] },
  { id := 4, live := [1, 35, 36, 37] },
  { id := 5, live := [1, 35, 36, 37] },
  { id := 6, live := [1, 4, 35, 36, 37] },
  { id := 7, live := [] },
  { id := 8, live := [1, 35, 36, 37] },
  { id := 9, live := [1] },
  { id := 10, live := [1, 49, 50, 51] },
  { id := 11, live := [1, 49, 50, 51] },
  { id := 12, live := [1, 6, 49, 50, 51] },
  { id := 13, live := [] },
  { id := 14, live := [1, 49, 50, 51] },
  { id := 15, live := [1] },
  { id := 16, live := [1, 7] },
  { id := 17, live := [7, 62, 63, 64], drop := [7, 62] },
  { id := 18, live := [7, 62, 63, 64] },
  { id := 19, live := [7, 9, 62, 63, 64], marks := [(2, { md := .o })] },
  { id := 20, live := [7, 62, 63, 64] },
  { id := 21, live := [7] },
  { id := 22, live := [7, 72, 73, 74] },
  { id := 23, live := [7, 72, 73, 74] },
  { id := 24, live := [7, 10, 11, 72, 73, 74] },
  { id := 25, live := [] },
  { id := 26, live := [7, 72, 73, 74] },
  { id := 27, live := [] }]

@[simp] def r257_0 : AReg := ⟨[0], [], [
    ⟨some 1, .box 4 (.t 0), none, false⟩,
    ⟨some 2, .mv (.c (.dat (.bool false))), none, false⟩], []⟩
@[simp] def r257_1 : AReg := ⟨[1], [], [
    ⟨some 12, .fAddr 0 (.t 1), none, false⟩,
    ⟨some 13, .ld 1 false (.t 12), none, false⟩,
    ⟨some 14, .len false (.t 13), none, false⟩,
    ⟨some 15, .bin .int .gtr (.t 14) (.c (.dat (.int .i64 8))), none, false⟩,
    ⟨some 16, .mv (.t 15), none, false⟩,
    ⟨some 17, .fAddr 1 (.t 1), some (16, false), false⟩,
    ⟨some 18, .ld 1 false (.t 17), some (16, false), false⟩,
    ⟨some 19, .len false (.t 18), some (16, false), false⟩,
    ⟨some 20, .bin .int .gtr (.t 19) (.c (.dat (.int .i64 4))), some (16, false), false⟩,
    ⟨some 21, .pick (.t 16) (.c (.dat (.bool true))) (.t 20), none, false⟩,
    ⟨some 22, .mv (.t 21), none, false⟩,
    ⟨some 23, .fAddr 2 (.t 1), some (22, false), false⟩,
    ⟨some 24, .ld 1 false (.t 23), some (22, false), false⟩,
    ⟨some 25, .len false (.t 24), some (22, false), false⟩,
    ⟨some 26, .bin .int .gtr (.t 25) (.c (.dat (.int .i64 4))), some (22, false), false⟩,
    ⟨some 27, .pick (.t 22) (.c (.dat (.bool true))) (.t 26), none, false⟩,
    ⟨some 28, .mv (.t 27), none, false⟩,
    ⟨some 29, .fAddr 3 (.t 1), some (28, false), false⟩,
    ⟨some 30, .ld 1 false (.t 29), some (28, false), false⟩,
    ⟨some 31, .call 316 [((.t 30), false)] true, some (28, false), false⟩,
    ⟨some 32, .un .not (.t 31), some (28, false), false⟩,
    ⟨some 33, .pick (.t 28) (.c (.dat (.bool true))) (.t 32), none, false⟩], []⟩
@[simp] def r257_2 : AReg := ⟨[], [], [
    ⟨some 2, .mv (.c (.dat (.bool false))), none, false⟩], []⟩
@[simp] def r257_3 : AReg := ⟨[1], [], [
    ⟨some 34, .fAddr 0 (.t 1), none, false⟩,
    ⟨some 35, .ld 1 false (.t 34), none, false⟩,
    ⟨some 36, .len false (.t 35), none, false⟩,
    ⟨some 37, .mv (.c (.dat (.int .i64 0))), none, false⟩], []⟩
@[simp] def r257_4 : AReg := ⟨[1, 35, 36, 37], [], [
    ⟨some 38, .bin .int .lss (.t 37) (.t 36), none, false⟩], []⟩
@[simp] def r257_5 : AReg := ⟨[1, 35, 36, 37], [], [
    ⟨some 39, .iAddr 1 (.t 35) (.t 37), none, false⟩,
    ⟨some 40, .ld 1 false (.t 39), none, false⟩,
    ⟨some 4, .mv (.t 40), none, false⟩], []⟩
@[simp] def r257_6 : AReg := ⟨[1, 4, 35, 36, 37], [], [
    ⟨some 41, .mv (.t 4), none, false⟩,
    ⟨some 42, .bin .int .lss (.t 41) (.c (.dat (.int .i64 (-2147483648)))), none, false⟩,
    ⟨some 43, .mv (.t 42), none, false⟩,
    ⟨some 44, .mv (.t 4), some (43, false), false⟩,
    ⟨some 45, .bin .int .gtr (.t 44) (.c (.dat (.int .i64 2147483647))), some (43, false), false⟩,
    ⟨some 46, .pick (.t 43) (.c (.dat (.bool true))) (.t 45), none, false⟩], []⟩
@[simp] def r257_7 : AReg := ⟨[], [], [
    ⟨some 2, .mv (.c (.dat (.bool false))), none, false⟩], []⟩
@[simp] def r257_8 : AReg := ⟨[1, 35, 36, 37], [], [
    ⟨some 47, .bin .int .add (.t 37) (.c (.dat (.int .i64 1))), none, false⟩,
    ⟨some 37, .mv (.t 47), none, false⟩], []⟩
def l257_0 : AC := .seq (.reg r257_4) (.seq (.cond (.t 38) (.skip) (.exit 0)) (.seq (.block 1 (.seq (.reg r257_5) (.seq (.reg r257_6) (.cond (.t 46) (.seq (.reg r257_7) (.ret)) (.skip))))) (.reg r257_8)))
@[simp] theorem l257_0e (K : Orc) (s : St) : exec K l257_0 s = exec K (.seq (.reg r257_4) (.seq (.cond (.t 38) (.skip) (.exit 0)) (.seq (.block 1 (.seq (.reg r257_5) (.seq (.reg r257_6) (.cond (.t 46) (.seq (.reg r257_7) (.ret)) (.skip))))) (.reg r257_8)))) s := rfl
@[simp] def r257_9 : AReg := ⟨[1], [], [
    ⟨some 48, .fAddr 1 (.t 1), none, false⟩,
    ⟨some 49, .ld 1 false (.t 48), none, false⟩,
    ⟨some 50, .len false (.t 49), none, false⟩,
    ⟨some 51, .mv (.c (.dat (.int .i64 0))), none, false⟩], []⟩
@[simp] def r257_10 : AReg := ⟨[1, 49, 50, 51], [], [
    ⟨some 52, .bin .int .lss (.t 51) (.t 50), none, false⟩], []⟩
@[simp] def r257_11 : AReg := ⟨[1, 49, 50, 51], [], [
    ⟨some 53, .iAddr 1 (.t 49) (.t 51), none, false⟩,
    ⟨some 54, .ld 1 false (.t 53), none, false⟩,
    ⟨some 6, .mv (.t 54), none, false⟩], []⟩
@[simp] def r257_12 : AReg := ⟨[1, 6, 49, 50, 51], [], [
    ⟨some 55, .mv (.t 6), none, false⟩,
    ⟨some 56, .bin .int .lss (.t 55) (.c (.dat (.int .i64 (-1)))), none, false⟩], []⟩
@[simp] def r257_13 : AReg := ⟨[], [], [
    ⟨some 2, .mv (.c (.dat (.bool false))), none, false⟩], []⟩
@[simp] def r257_14 : AReg := ⟨[1, 49, 50, 51], [], [
    ⟨some 57, .bin .int .add (.t 51) (.c (.dat (.int .i64 1))), none, false⟩,
    ⟨some 51, .mv (.t 57), none, false⟩], []⟩
def l257_1 : AC := .seq (.reg r257_10) (.seq (.cond (.t 52) (.skip) (.exit 2)) (.seq (.block 3 (.seq (.reg r257_11) (.seq (.reg r257_12) (.cond (.t 56) (.seq (.reg r257_13) (.ret)) (.skip))))) (.reg r257_14)))
@[simp] theorem l257_1e (K : Orc) (s : St) : exec K l257_1 s = exec K (.seq (.reg r257_10) (.seq (.cond (.t 52) (.skip) (.exit 2)) (.seq (.block 3 (.seq (.reg r257_11) (.seq (.reg r257_12) (.cond (.t 56) (.seq (.reg r257_13) (.ret)) (.skip))))) (.reg r257_14)))) s := rfl
@[simp] def r257_15 : AReg := ⟨[1], [], [
    ⟨some 58, .fAddr 3 (.t 1), none, false⟩,
    ⟨some 59, .ld 1 false (.t 58), none, false⟩,
    ⟨some 60, .call 311 [((.t 59), false)] false, none, false⟩,
    ⟨some 7, .mv (.t 60), none, false⟩], []⟩
@[simp] def r257_16 : AReg := ⟨[1, 7], [], [
    ⟨some 61, .fAddr 2 (.t 1), none, false⟩,
    ⟨some 62, .ld 1 false (.t 61), none, false⟩,
    ⟨some 63, .len false (.t 62), none, false⟩,
    ⟨some 64, .mv (.c (.dat (.int .i64 0))), none, false⟩], []⟩
@[simp] def r257_17 : AReg := ⟨[7, 62, 63, 64], [7, 62], [
    ⟨some 65, .bin .int .lss (.t 64) (.t 63), none, false⟩], []⟩
@[simp] def r257_18 : AReg := ⟨[7, 62, 63, 64], [], [
    ⟨some 66, .iAddr 1 (.t 62) (.t 64), none, false⟩,
    ⟨some 67, .ld 1 false (.t 66), none, false⟩,
    ⟨some 9, .mv (.t 67), none, false⟩], []⟩
@[simp] def r257_19 : AReg := ⟨[7, 9, 62, 63, 64], [], [
    ⟨some 68, .mv (.t 7), none, false⟩,
    ⟨some 69, .mv (.t 9), none, false⟩,
    ⟨some 70, .app .o 1 8 (.t 68) (.t 69), none, false⟩,
    ⟨some 7, .mv (.t 70), none, false⟩], []⟩
@[simp] def r257_20 : AReg := ⟨[7, 62, 63, 64], [], [
    ⟨some 71, .bin .int .add (.t 64) (.c (.dat (.int .i64 1))), none, false⟩,
    ⟨some 64, .mv (.t 71), none, false⟩], []⟩
def l257_2 : AC := .seq (.reg r257_17) (.seq (.cond (.t 65) (.skip) (.exit 4)) (.seq (.block 5 (.seq (.reg r257_18) (.reg r257_19))) (.reg r257_20)))
@[simp] theorem l257_2e (K : Orc) (s : St) : exec K l257_2 s = exec K (.seq (.reg r257_17) (.seq (.cond (.t 65) (.skip) (.exit 4)) (.seq (.block 5 (.seq (.reg r257_18) (.reg r257_19))) (.reg r257_20)))) s := rfl
@[simp] def r257_21 : AReg := ⟨[7], [], [
    ⟨some 72, .mv (.t 7), none, false⟩,
    ⟨some 73, .len false (.t 72), none, false⟩,
    ⟨some 74, .mv (.c (.dat (.int .i64 0))), none, false⟩], []⟩
@[simp] def r257_22 : AReg := ⟨[7, 72, 73, 74], [], [
    ⟨some 75, .bin .int .lss (.t 74) (.t 73), none, false⟩], []⟩
@[simp] def r257_23 : AReg := ⟨[7, 72, 73, 74], [], [
    ⟨some 76, .mv (.t 74), none, false⟩,
    ⟨some 77, .iAddr 1 (.t 72) (.t 74), none, false⟩,
    ⟨some 78, .ld 1 false (.t 77), none, false⟩,
    ⟨some 10, .mv (.t 76), none, false⟩,
    ⟨some 11, .mv (.t 78), none, false⟩], []⟩
@[simp] def r257_24 : AReg := ⟨[7, 10, 11, 72, 73, 74], [], [
    ⟨some 79, .mv (.t 11), none, false⟩,
    ⟨some 80, .bin .int .lss (.t 79) (.c (.dat (.int .i64 0))), none, false⟩,
    ⟨some 81, .mv (.t 80), none, false⟩,
    ⟨some 82, .mv (.t 7), some (81, false), false⟩,
    ⟨some 83, .mv (.t 10), some (81, false), false⟩,
    ⟨some 84, .slc false 1 (.t 82) none (some (.t 83)), some (81, false), false⟩,
    ⟨some 85, .mv (.t 11), some (81, false), false⟩,
    ⟨some 86, .call 97 [((.t 84), false), ((.t 85), false)] true, some (81, false), false⟩,
    ⟨some 87, .pick (.t 81) (.c (.dat (.bool true))) (.t 86), none, false⟩], []⟩
@[simp] def r257_25 : AReg := ⟨[], [], [
    ⟨some 2, .mv (.c (.dat (.bool false))), none, false⟩], []⟩
@[simp] def r257_26 : AReg := ⟨[7, 72, 73, 74], [], [
    ⟨some 88, .bin .int .add (.t 74) (.c (.dat (.int .i64 1))), none, false⟩,
    ⟨some 74, .mv (.t 88), none, false⟩], []⟩
def l257_3 : AC := .seq (.reg r257_22) (.seq (.cond (.t 75) (.skip) (.exit 6)) (.seq (.block 7 (.seq (.reg r257_23) (.seq (.reg r257_24) (.cond (.t 87) (.seq (.reg r257_25) (.ret)) (.skip))))) (.reg r257_26)))
@[simp] theorem l257_3e (K : Orc) (s : St) : exec K l257_3 s = exec K (.seq (.reg r257_22) (.seq (.cond (.t 75) (.skip) (.exit 6)) (.seq (.block 7 (.seq (.reg r257_23) (.seq (.reg r257_24) (.cond (.t 87) (.seq (.reg r257_25) (.ret)) (.skip))))) (.reg r257_26)))) s := rfl
@[simp] def r257_27 : AReg := ⟨[], [], [
    ⟨some 2, .mv (.c (.dat (.bool true))), none, false⟩], []⟩
@[simp] def fn257 : AFun := ⟨1, [.t 2], false,
  .seq (.reg r257_0) (.seq (.seq (.reg r257_1) (.cond (.t 33) (.seq (.reg r257_2) (.ret)) (.skip))) (.seq (.seq (.reg r257_3) (.block 0 (.loop l257_0))) (.seq (.seq (.reg r257_9) (.block 2 (.loop l257_1))) (.seq (.reg r257_15) (.seq (.seq (.reg r257_16) (.block 4 (.loop l257_2))) (.seq (.seq (.reg r257_21) (.block 6 (.loop l257_3))) (.seq (.reg r257_27) (.ret)))))))), none⟩

theorem c257 : cFun Tryz.prog ann257 false 257 = some fn257 := by kernel_rfl

/-! 258: modelcheck/thread.valid -/

def ann258 : Ann := [{ id := 0, live := [0, 1, 2] },
  { id := 1, live := [1, 3, 5] },
  { id := 2, live := [] },
  { id := 3, live := [1, 3, 5] },
  { id := 4, live := [1, 5, 7, 8] },
  { id := 5, live := [1, 5, 7, 8, 21] },
  { id := 6, live := [1, 5, 7, 8, 21] },
  { id := 7, live := [1, 5, 7, 8] },
  { id := 8, live := [] },
  { id := 9, live := [1, 5] },
  { id := 10, live := [5, 7, 8, 21] },
  { id := 11, live := [5, 7, 8] },
  { id := 12, live := [5, 7, 8, 21] },
  { id := 13, live := [5, 7, 8] },
  { id := 14, live := [] },
  { id := 15, live := [5, 7] },
  { id := 16, live := [5, 7, 92] },
  { id := 17, live := [5, 7] },
  { id := 18, live := [5, 7, 92] },
  { id := 19, live := [7] },
  { id := 20, live := [5, 7] },
  { id := 21, live := [] }]

@[simp] def r258_0 : AReg := ⟨[0, 1, 2], [], [
    ⟨some 3, .box 5 (.t 0), none, false⟩,
    ⟨some 5, .box 17 (.t 2), none, false⟩,
    ⟨some 6, .mv (.c (.dat (.bool false))), none, false⟩], []⟩
@[simp] def r258_1 : AReg := ⟨[1, 3, 5], [], [
    ⟨some 9, .ld 5 true (.t 3), none, false⟩,
    ⟨some 10, .mv (.t 1), none, false⟩,
    ⟨some 11, .ld 17 true (.t 5), none, false⟩,
    ⟨some 12, .call 317 [((.t 9), false), ((.t 10), false), ((.t 11), false)] true, none, false⟩,
    ⟨some 13, .un .not (.t 12), none, false⟩], []⟩
@[simp] def r258_2 : AReg := ⟨[], [], [
    ⟨some 6, .mv (.c (.dat (.bool false))), none, false⟩], []⟩
@[simp] def r258_3 : AReg := ⟨[1, 3, 5], [], [
    ⟨some 15, .ld 5 true (.t 3), none, false⟩,
    ⟨some 16, .ld 17 true (.t 5), none, false⟩,
    ⟨some 17, .call 207 [((.t 15), false), ((.t 16), false)] false, none, false⟩,
    ⟨some 14, .mv (.t 17), none, false⟩,
    ⟨some 18, .ext 0 (.t 14), none, false⟩,
    ⟨some 19, .ext 1 (.t 14), none, false⟩,
    ⟨some 7, .alc [(.dat (.int .i64 0)), (.dat (.int .i64 0)), (.dat (.int .i64 0)), (.dat (.int .i64 0)), (.dat (.int .i64 0)), (.dat (.int .i64 0)), (.dat (.int .i64 0)), (.dat (.int .i64 0))], none, false⟩,
    ⟨none, .st false 8 (.t 7) (.t 18), none, false⟩,
    ⟨some 8, .mv (.t 19), none, false⟩], []⟩
@[simp] def r258_4 : AReg := ⟨[1, 5, 7, 8], [], [
    ⟨some 20, .fAddr 14 (.t 5), none, false⟩,
    ⟨some 21, .ld 1 false (.t 20), none, false⟩], []⟩
@[simp] def r258_5 : AReg := ⟨[1, 5, 7, 8, 21], [], [
    ⟨some 23, .bin .int .eql (.t 21) (.c (.dat (.int .i64 1))), none, false⟩,
    ⟨some 22, .mv (.t 23), none, false⟩], []⟩
@[simp] def r258_6 : AReg := ⟨[1, 5, 7, 8, 21], [], [
    ⟨some 24, .bin .int .eql (.t 21) (.c (.dat (.int .i64 4))), none, false⟩,
    ⟨some 22, .mv (.t 24), none, false⟩], []⟩
@[simp] def r258_7 : AReg := ⟨[1, 5, 7, 8], [], [
    ⟨some 25, .fAddr 15 (.t 5), none, false⟩,
    ⟨some 26, .ld 1 false (.t 25), none, false⟩,
    ⟨some 27, .bin .int .neq (.t 26) (.c (.dat (.int .i64 0))), none, false⟩,
    ⟨some 28, .mv (.t 27), none, false⟩,
    ⟨some 29, .mv (.t 8), some (28, false), false⟩,
    ⟨some 30, .un .not (.t 29), some (28, false), false⟩,
    ⟨some 31, .pick (.t 28) (.c (.dat (.bool true))) (.t 30), none, false⟩,
    ⟨some 32, .mv (.t 31), none, false⟩,
    ⟨some 33, .fAddr 0 (.t 7), some (32, false), false⟩,
    ⟨some 34, .ld 1 false (.t 33), some (32, false), false⟩,
    ⟨some 35, .call 291 [((.t 34), false)] true, some (32, false), false⟩,
    ⟨some 36, .un .not (.t 35), some (32, false), false⟩,
    ⟨some 37, .pick (.t 32) (.c (.dat (.bool true))) (.t 36), none, false⟩,
    ⟨some 38, .mv (.t 37), none, false⟩,
    ⟨some 39, .ld 17 true (.t 5), some (38, false), false⟩,
    ⟨some 40, .ld 8 true (.t 7), some (38, false), false⟩,
    ⟨some 41, .call 292 [((.t 39), false), ((.t 40), false)] true, some (38, false), false⟩,
    ⟨some 42, .bin .int .neq (.t 41) (.c (.dat (.int .i64 0))), some (38, false), false⟩,
    ⟨some 43, .pick (.t 38) (.c (.dat (.bool true))) (.t 42), none, false⟩], []⟩
@[simp] def r258_8 : AReg := ⟨[], [], [
    ⟨some 6, .mv (.c (.dat (.bool false))), none, false⟩], []⟩
@[simp] def r258_9 : AReg := ⟨[1, 5], [], [
    ⟨some 44, .fAddr 14 (.t 5), none, false⟩,
    ⟨some 45, .ld 1 false (.t 44), none, false⟩,
    ⟨some 46, .bin .int .eql (.t 45) (.c (.dat (.int .i64 1))), none, false⟩,
    ⟨some 47, .mv (.t 46), none, false⟩,
    ⟨some 48, .fAddr 11 (.t 5), some (47, true), false⟩,
    ⟨some 49, .ld 1 false (.t 48), some (47, true), false⟩,
    ⟨some 50, .mv (.t 1), some (47, true), false⟩,
    ⟨some 51, .bin .int .lss (.t 49) (.t 50), some (47, true), false⟩,
    ⟨some 52, .pick (.t 47) (.t 51) (.c (.dat (.bool false))), none, false⟩,
    ⟨some 53, .mv (.t 52), none, false⟩,
    ⟨some 54, .fAddr 14 (.t 5), some (53, false), false⟩,
    ⟨some 55, .ld 1 false (.t 54), some (53, false), false⟩,
    ⟨some 56, .bin .int .eql (.t 55) (.c (.dat (.int .i64 4))), some (53, false), false⟩,
    ⟨some 57, .mv (.t 56), some (53, false), false⟩,
    ⟨some 58, .fAddr 11 (.t 5), some (57, true), false⟩,
    ⟨some 59, .ld 1 false (.t 58), some (57, true), false⟩,
    ⟨some 60, .bin .int .geq (.t 59) (.c (.dat (.int .i64 1))), some (57, true), false⟩,
    ⟨some 61, .pick (.t 57) (.t 60) (.c (.dat (.bool false))), some (53, false), false⟩,
    ⟨some 62, .pick (.t 53) (.c (.dat (.bool true))) (.t 61), none, false⟩,
    ⟨some 6, .mv (.t 62), none, false⟩], []⟩
@[simp] def r258_10 : AReg := ⟨[5, 7, 8, 21], [], [
    ⟨some 64, .bin .int .eql (.t 21) (.c (.dat (.int .i64 2))), none, false⟩,
    ⟨some 63, .mv (.t 64), none, false⟩], []⟩
@[simp] def r258_11 : AReg := ⟨[5, 7, 8], [], [
    ⟨some 65, .fAddr 15 (.t 5), none, false⟩,
    ⟨some 66, .ld 1 false (.t 65), none, false⟩,
    ⟨some 67, .bin .int .eql (.t 66) (.c (.dat (.int .i64 0))), none, false⟩,
    ⟨some 68, .mv (.t 67), none, false⟩,
    ⟨some 69, .fAddr 13 (.t 5), some (68, true), false⟩,
    ⟨some 70, .ld 1 false (.t 69), some (68, true), false⟩,
    ⟨some 71, .bin .int .eql (.t 70) (.c (.dat (.int .i64 0))), some (68, true), false⟩,
    ⟨some 72, .pick (.t 68) (.t 71) (.c (.dat (.bool false))), none, false⟩,
    ⟨some 73, .mv (.t 72), none, false⟩,
    ⟨some 74, .mv (.t 8), some (73, true), false⟩,
    ⟨some 75, .un .not (.t 74), some (73, true), false⟩,
    ⟨some 76, .mv (.t 75), some (73, true), false⟩,
    ⟨some 77, .fAddr 0 (.t 7), some (76, false), false⟩,
    ⟨some 78, .ld 1 false (.t 77), some (76, false), false⟩,
    ⟨some 79, .bin .int .eql (.t 78) (.c (.dat (.int .i64 7))), some (76, false), false⟩,
    ⟨some 80, .pick (.t 76) (.c (.dat (.bool true))) (.t 79), some (73, true), false⟩,
    ⟨some 81, .pick (.t 73) (.t 80) (.c (.dat (.bool false))), none, false⟩,
    ⟨some 6, .mv (.t 81), none, false⟩], []⟩
@[simp] def r258_12 : AReg := ⟨[5, 7, 8, 21], [], [
    ⟨some 83, .bin .int .eql (.t 21) (.c (.dat (.int .i64 3))), none, false⟩,
    ⟨some 82, .mv (.t 83), none, false⟩], []⟩
@[simp] def r258_13 : AReg := ⟨[5, 7, 8], [], [
    ⟨some 84, .fAddr 13 (.t 5), none, false⟩,
    ⟨some 85, .ld 1 false (.t 84), none, false⟩,
    ⟨some 86, .bin .int .neq (.t 85) (.c (.dat (.int .i64 0))), none, false⟩,
    ⟨some 87, .mv (.t 86), none, false⟩,
    ⟨some 88, .mv (.t 8), some (87, false), false⟩,
    ⟨some 89, .un .not (.t 88), some (87, false), false⟩,
    ⟨some 90, .pick (.t 87) (.c (.dat (.bool true))) (.t 89), none, false⟩], []⟩
@[simp] def r258_14 : AReg := ⟨[], [], [
    ⟨some 6, .mv (.c (.dat (.bool false))), none, false⟩], []⟩
@[simp] def r258_15 : AReg := ⟨[5, 7], [], [
    ⟨some 91, .fAddr 15 (.t 5), none, false⟩,
    ⟨some 92, .ld 1 false (.t 91), none, false⟩], []⟩
@[simp] def r258_16 : AReg := ⟨[5, 7, 92], [], [
    ⟨some 94, .bin .int .eql (.t 92) (.c (.dat (.int .i64 26))), none, false⟩,
    ⟨some 93, .mv (.t 94), none, false⟩], []⟩
@[simp] def r258_17 : AReg := ⟨[5, 7], [], [
    ⟨some 95, .fAddr 0 (.t 7), none, false⟩,
    ⟨some 96, .ld 1 false (.t 95), none, false⟩,
    ⟨some 97, .bin .int .eql (.t 96) (.c (.dat (.int .i64 6))), none, false⟩,
    ⟨some 98, .mv (.t 97), none, false⟩,
    ⟨some 99, .fAddr 2 (.t 7), some (98, true), false⟩,
    ⟨some 100, .ld 1 false (.t 99), some (98, true), false⟩,
    ⟨some 101, .fAddr 3 (.t 5), some (98, true), false⟩,
    ⟨some 102, .iAddrA 8 1 (.t 101) (.t 100), some (98, true), false⟩,
    ⟨some 103, .ld 1 false (.t 102), some (98, true), false⟩,
    ⟨some 104, .bin .int .eql (.t 103) (.c (.dat (.int .i64 0))), some (98, true), false⟩,
    ⟨some 105, .pick (.t 98) (.t 104) (.c (.dat (.bool false))), none, false⟩,
    ⟨some 6, .mv (.t 105), none, false⟩], []⟩
@[simp] def r258_18 : AReg := ⟨[5, 7, 92], [], [
    ⟨some 107, .bin .int .eql (.t 92) (.c (.dat (.int .i64 29))), none, false⟩,
    ⟨some 106, .mv (.t 107), none, false⟩], []⟩
@[simp] def r258_19 : AReg := ⟨[7], [], [
    ⟨some 108, .fAddr 0 (.t 7), none, false⟩,
    ⟨some 109, .ld 1 false (.t 108), none, false⟩,
    ⟨some 110, .call 291 [((.t 109), false)] true, none, false⟩,
    ⟨some 111, .un .not (.t 110), none, false⟩,
    ⟨some 6, .mv (.t 111), none, false⟩], []⟩
@[simp] def r258_20 : AReg := ⟨[5, 7], [], [
    ⟨some 112, .fAddr 15 (.t 5), none, false⟩,
    ⟨some 113, .ld 1 false (.t 112), none, false⟩,
    ⟨some 114, .bin .int .neq (.t 113) (.c (.dat (.int .i64 0))), none, false⟩,
    ⟨some 115, .mv (.t 114), none, false⟩,
    ⟨some 116, .ld 17 true (.t 5), some (115, true), false⟩,
    ⟨some 117, .ld 8 true (.t 7), some (115, true), false⟩,
    ⟨some 118, .call 292 [((.t 116), false), ((.t 117), false)] true, some (115, true), true⟩,
    ⟨some 119, .fAddr 15 (.t 5), some (115, true), false⟩,
    ⟨some 120, .ld 1 false (.t 119), some (115, true), true⟩,
    ⟨some 121, .bin .int .eql (.t 118) (.t 120), some (115, true), false⟩,
    ⟨some 122, .pick (.t 115) (.t 121) (.c (.dat (.bool false))), none, false⟩,
    ⟨some 6, .mv (.t 122), none, false⟩], [(6, 8)]⟩
@[simp] def r258_21 : AReg := ⟨[], [], [
    ⟨some 6, .mv (.c (.dat (.bool false))), none, false⟩], []⟩
@[simp] def fn258 : AFun := ⟨3, [.t 6], false,
  .seq (.reg r258_0) (.seq (.seq (.reg r258_1) (.cond (.t 13) (.seq (.reg r258_2) (.ret)) (.skip))) (.seq (.reg r258_3) (.seq (.seq (.reg r258_4) (.block 0 (.seq (.seq (.reg r258_5) (.cond (.t 22) (.skip) (.reg r258_6))) (.cond (.t 22) (.seq (.seq (.reg r258_7) (.cond (.t 43) (.seq (.reg r258_8) (.ret)) (.skip))) (.seq (.reg r258_9) (.ret))) (.seq (.reg r258_10) (.cond (.t 63) (.seq (.reg r258_11) (.ret)) (.seq (.reg r258_12) (.cond (.t 82) (.seq (.seq (.reg r258_13) (.cond (.t 90) (.seq (.reg r258_14) (.ret)) (.skip))) (.seq (.seq (.reg r258_15) (.block 1 (.seq (.reg r258_16) (.cond (.t 93) (.seq (.reg r258_17) (.ret)) (.seq (.reg r258_18) (.cond (.t 106) (.seq (.reg r258_19) (.ret)) (.skip))))))) (.seq (.reg r258_20) (.ret)))) (.skip))))))))) (.seq (.reg r258_21) (.ret))))), none⟩

theorem c258 : cFun Tryz.prog ann258 false 258 = some fn258 := by kernel_rfl

/-! 264: modelcheck/memory.inside -/

def ann264 : Ann := [{ id := 0, live := [0, 1, 2] },
  { id := 1, live := [1, 2, 3] },
  { id := 2, live := [] },
  { id := 3, live := [1, 2] },
  { id := 4, live := [] },
  { id := 5, live := [] }]

@[simp] def r264_0 : AReg := ⟨[0, 1, 2], [], [
    ⟨some 3, .box 4 (.t 0), none, false⟩,
    ⟨some 6, .mv (.c (.dat (.int .i64 0))), none, false⟩], []⟩
@[simp] def r264_1 : AReg := ⟨[1, 2, 3], [], [
    ⟨some 7, .ld 4 true (.t 3), none, false⟩,
    ⟨some 8, .call 257 [((.t 7), false)] true, none, false⟩,
    ⟨some 9, .un .not (.t 8), none, false⟩], []⟩
@[simp] def r264_2 : AReg := ⟨[], [], [
    ⟨some 6, .mv (.c (.dat (.int .i64 1))), none, false⟩], []⟩
@[simp] def r264_3 : AReg := ⟨[1, 2], [], [
    ⟨some 10, .mv (.t 1), none, false⟩,
    ⟨some 11, .bin .int .lss (.t 10) (.c (.dat (.int .i64 0))), none, false⟩,
    ⟨some 12, .mv (.t 11), none, false⟩,
    ⟨some 13, .mv (.t 1), some (12, false), false⟩,
    ⟨some 14, .mv (.t 2), some (12, false), false⟩,
    ⟨some 15, .bin .int .geq (.t 13) (.t 14), some (12, false), false⟩,
    ⟨some 16, .pick (.t 12) (.c (.dat (.bool true))) (.t 15), none, false⟩], []⟩
@[simp] def r264_4 : AReg := ⟨[], [], [
    ⟨some 6, .mv (.c (.dat (.int .i64 11))), none, false⟩], []⟩
@[simp] def r264_5 : AReg := ⟨[], [], [
    ⟨some 6, .mv (.c (.dat (.int .i64 0))), none, false⟩], []⟩
@[simp] def fn264 : AFun := ⟨3, [.t 6], false,
  .seq (.reg r264_0) (.seq (.seq (.reg r264_1) (.cond (.t 9) (.seq (.reg r264_2) (.ret)) (.skip))) (.seq (.seq (.reg r264_3) (.cond (.t 16) (.seq (.reg r264_4) (.ret)) (.skip))) (.seq (.reg r264_5) (.ret)))), none⟩

theorem c264 : cFun Tryz.prog ann264 false 264 = some fn264 := by kernel_rfl

/-! 266: slices.IndexFunc[[]modelcheck/api.Thread,modelcheck/api.Thread] -/

def ann266 : Ann := [{ id := 0, live := [0, 1] },
  { id := 1, live := [0, 1] },
  { id := 2, live := [0, 1, 7, 8] },
  { id := 3, live := [0, 1, 7, 8] },
  { id := 4, live := [0, 1, 5, 7, 8] },
  { id := 5, live := [5] },
  { id := 6, live := [0, 1, 7, 8] },
  { id := 7, live := [] }]

@[simp] def r266_0 : AReg := ⟨[0, 1], [], [
    ⟨some 4, .mv (.c (.dat (.int .i64 0))), none, false⟩], []⟩
@[simp] def r266_1 : AReg := ⟨[0, 1], [], [
    ⟨some 6, .mv (.t 0), none, false⟩,
    ⟨some 7, .len false (.t 6), none, false⟩,
    ⟨some 8, .mv (.c (.dat (.int .i64 0))), none, false⟩], []⟩
@[simp] def r266_2 : AReg := ⟨[0, 1, 7, 8], [], [
    ⟨some 9, .bin .int .lss (.t 8) (.t 7), none, false⟩], []⟩
@[simp] def r266_3 : AReg := ⟨[0, 1, 7, 8], [], [
    ⟨some 10, .mv (.t 8), none, false⟩,
    ⟨some 5, .mv (.t 10), none, false⟩], []⟩
@[simp] def r266_4 : AReg := ⟨[0, 1, 5, 7, 8], [], [
    ⟨some 11, .mv (.t 1), none, false⟩,
    ⟨some 12, .mv (.t 0), none, false⟩,
    ⟨some 13, .mv (.t 5), none, false⟩,
    ⟨some 14, .iAddr 17 (.t 12) (.t 13), none, false⟩,
    ⟨some 15, .ld 17 true (.t 14), none, false⟩,
    ⟨some 16, .callV (.t 11) [((.t 15), false)] true, none, false⟩], []⟩
@[simp] def r266_5 : AReg := ⟨[5], [], [
    ⟨some 17, .mv (.t 5), none, false⟩,
    ⟨some 4, .mv (.t 17), none, false⟩], []⟩
@[simp] def r266_6 : AReg := ⟨[0, 1, 7, 8], [], [
    ⟨some 18, .bin .int .add (.t 8) (.c (.dat (.int .i64 1))), none, false⟩,
    ⟨some 8, .mv (.t 18), none, false⟩], []⟩
def l266_0 : AC := .seq (.reg r266_2) (.seq (.cond (.t 9) (.skip) (.exit 0)) (.seq (.block 1 (.seq (.reg r266_3) (.seq (.reg r266_4) (.cond (.t 16) (.seq (.reg r266_5) (.ret)) (.skip))))) (.reg r266_6)))
@[simp] theorem l266_0e (K : Orc) (s : St) : exec K l266_0 s = exec K (.seq (.reg r266_2) (.seq (.cond (.t 9) (.skip) (.exit 0)) (.seq (.block 1 (.seq (.reg r266_3) (.seq (.reg r266_4) (.cond (.t 16) (.seq (.reg r266_5) (.ret)) (.skip))))) (.reg r266_6)))) s := rfl
@[simp] def r266_7 : AReg := ⟨[], [], [
    ⟨some 4, .mv (.c (.dat (.int .i64 (-1)))), none, false⟩], []⟩
@[simp] def fn266 : AFun := ⟨2, [.t 4], false,
  .seq (.reg r266_0) (.seq (.seq (.reg r266_1) (.block 0 (.loop l266_0))) (.seq (.reg r266_7) (.ret))), none⟩

theorem c266 : cFun Tryz.prog ann266 false 266 = some fn266 := by kernel_rfl

/-! 267: modelcheck/thread.Find$1 -/

def ann267 : Ann := [{ id := 0, live := [0, 1] },
  { id := 1, live := [1, 2] }]

@[simp] def r267_0 : AReg := ⟨[0, 1], [], [
    ⟨some 2, .box 17 (.t 0), none, false⟩,
    ⟨some 3, .mv (.c (.dat (.bool false))), none, false⟩], []⟩
@[simp] def r267_1 : AReg := ⟨[1, 2], [], [
    ⟨some 4, .fAddr 0 (.t 2), none, false⟩,
    ⟨some 5, .ld 1 false (.t 4), none, false⟩,
    ⟨some 6, .ld 1 false (.t 1), none, false⟩,
    ⟨some 7, .bin .int .eql (.t 5) (.t 6), none, false⟩,
    ⟨some 3, .mv (.t 7), none, false⟩], []⟩
@[simp] def fn267 : AFun := ⟨2, [.t 3], false,
  .seq (.reg r267_0) (.seq (.reg r267_1) (.ret)), none⟩

theorem c267 : cFun Tryz.prog ann267 false 267 = some fn267 := by kernel_rfl

/-! 273: cmp.isNaN[int] -/

def ann273 : Ann := [{ id := 0, live := [0] },
  { id := 1, live := [0] }]

@[simp] def r273_0 : AReg := ⟨[0], [], [
    ⟨some 2, .mv (.c (.dat (.bool false))), none, false⟩], []⟩
@[simp] def r273_1 : AReg := ⟨[0], [], [
    ⟨some 3, .mv (.t 0), none, false⟩,
    ⟨some 4, .mv (.t 0), none, false⟩,
    ⟨some 5, .bin .int .neq (.t 3) (.t 4), none, false⟩,
    ⟨some 2, .mv (.t 5), none, false⟩], []⟩
@[simp] def fn273 : AFun := ⟨1, [.t 2], false,
  .seq (.reg r273_0) (.seq (.reg r273_1) (.ret)), none⟩

theorem c273 : cFun Tryz.prog ann273 false 273 = some fn273 := by kernel_rfl

/-! 284: modelcheck/program.letter -/

def ann284 : Ann := [{ id := 0, live := [0] },
  { id := 1, live := [0] }]

@[simp] def r284_0 : AReg := ⟨[0], [], [
    ⟨some 2, .mv (.c (.dat (.bool false))), none, false⟩], []⟩
@[simp] def r284_1 : AReg := ⟨[0], [], [
    ⟨some 3, .mv (.t 0), none, false⟩,
    ⟨some 4, .bin .int .geq (.t 3) (.c (.dat (.int .u8 97))), none, false⟩,
    ⟨some 5, .mv (.t 4), none, false⟩,
    ⟨some 6, .mv (.t 0), some (5, true), false⟩,
    ⟨some 7, .bin .int .leq (.t 6) (.c (.dat (.int .u8 122))), some (5, true), false⟩,
    ⟨some 8, .pick (.t 5) (.t 7) (.c (.dat (.bool false))), none, false⟩,
    ⟨some 9, .mv (.t 8), none, false⟩,
    ⟨some 10, .mv (.t 0), some (9, false), false⟩,
    ⟨some 11, .bin .int .geq (.t 10) (.c (.dat (.int .u8 65))), some (9, false), false⟩,
    ⟨some 12, .mv (.t 11), some (9, false), false⟩,
    ⟨some 13, .mv (.t 0), some (12, true), false⟩,
    ⟨some 14, .bin .int .leq (.t 13) (.c (.dat (.int .u8 90))), some (12, true), false⟩,
    ⟨some 15, .pick (.t 12) (.t 14) (.c (.dat (.bool false))), some (9, false), false⟩,
    ⟨some 16, .pick (.t 9) (.c (.dat (.bool true))) (.t 15), none, false⟩,
    ⟨some 2, .mv (.t 16), none, false⟩], []⟩
@[simp] def fn284 : AFun := ⟨1, [.t 2], false,
  .seq (.reg r284_0) (.seq (.reg r284_1) (.ret)), none⟩

theorem c284 : cFun Tryz.prog ann284 false 284 = some fn284 := by kernel_rfl

/-! 285: slices.Index[[]string,string] -/

def ann285 : Ann := [{ id := 0, live := [0, 1] },
  { id := 1, live := [0, 1] },
  { id := 2, live := [0, 1, 7, 8] },
  { id := 3, live := [0, 1, 7, 8] },
  { id := 4, live := [0, 1, 5, 7, 8] },
  { id := 5, live := [5] },
  { id := 6, live := [0, 1, 7, 8] },
  { id := 7, live := [] }]

@[simp] def r285_0 : AReg := ⟨[0, 1], [], [
    ⟨some 4, .mv (.c (.dat (.int .i64 0))), none, false⟩], []⟩
@[simp] def r285_1 : AReg := ⟨[0, 1], [], [
    ⟨some 6, .mv (.t 0), none, false⟩,
    ⟨some 7, .len false (.t 6), none, false⟩,
    ⟨some 8, .mv (.c (.dat (.int .i64 0))), none, false⟩], []⟩
@[simp] def r285_2 : AReg := ⟨[0, 1, 7, 8], [], [
    ⟨some 9, .bin .int .lss (.t 8) (.t 7), none, false⟩], []⟩
@[simp] def r285_3 : AReg := ⟨[0, 1, 7, 8], [], [
    ⟨some 10, .mv (.t 8), none, false⟩,
    ⟨some 5, .mv (.t 10), none, false⟩], []⟩
@[simp] def r285_4 : AReg := ⟨[0, 1, 5, 7, 8], [], [
    ⟨some 11, .mv (.t 1), none, false⟩,
    ⟨some 12, .mv (.t 0), none, false⟩,
    ⟨some 13, .mv (.t 5), none, false⟩,
    ⟨some 14, .iAddr 1 (.t 12) (.t 13), none, false⟩,
    ⟨some 15, .ld 1 false (.t 14), none, false⟩,
    ⟨some 16, .bin .str .eql (.t 11) (.t 15), none, false⟩], []⟩
@[simp] def r285_5 : AReg := ⟨[5], [], [
    ⟨some 17, .mv (.t 5), none, false⟩,
    ⟨some 4, .mv (.t 17), none, false⟩], []⟩
@[simp] def r285_6 : AReg := ⟨[0, 1, 7, 8], [], [
    ⟨some 18, .bin .int .add (.t 8) (.c (.dat (.int .i64 1))), none, false⟩,
    ⟨some 8, .mv (.t 18), none, false⟩], []⟩
def l285_0 : AC := .seq (.reg r285_2) (.seq (.cond (.t 9) (.skip) (.exit 0)) (.seq (.block 1 (.seq (.reg r285_3) (.seq (.reg r285_4) (.cond (.t 16) (.seq (.reg r285_5) (.ret)) (.skip))))) (.reg r285_6)))
@[simp] theorem l285_0e (K : Orc) (s : St) : exec K l285_0 s = exec K (.seq (.reg r285_2) (.seq (.cond (.t 9) (.skip) (.exit 0)) (.seq (.block 1 (.seq (.reg r285_3) (.seq (.reg r285_4) (.cond (.t 16) (.seq (.reg r285_5) (.ret)) (.skip))))) (.reg r285_6)))) s := rfl
@[simp] def r285_7 : AReg := ⟨[], [], [
    ⟨some 4, .mv (.c (.dat (.int .i64 (-1)))), none, false⟩], []⟩
@[simp] def fn285 : AFun := ⟨2, [.t 4], false,
  .seq (.reg r285_0) (.seq (.seq (.reg r285_1) (.block 0 (.loop l285_0))) (.seq (.reg r285_7) (.ret))), none⟩

theorem c285 : cFun Tryz.prog ann285 false 285 = some fn285 := by kernel_rfl

/-! 286: modelcheck/inst.known -/

def ann286 : Ann := [{ id := 0, live := [0] },
  { id := 1, live := [0] }]

@[simp] def r286_0 : AReg := ⟨[0], [], [
    ⟨some 2, .mv (.c (.dat (.bool false))), none, false⟩], []⟩
@[simp] def r286_1 : AReg := ⟨[0], [], [
    ⟨some 3, .mv (.t 0), none, false⟩,
    ⟨some 4, .bin .int .geq (.t 3) (.c (.dat (.int .i64 1))), none, false⟩,
    ⟨some 5, .mv (.t 4), none, false⟩,
    ⟨some 6, .mv (.t 0), some (5, true), false⟩,
    ⟨some 7, .bin .int .leq (.t 6) (.c (.dat (.int .i64 22))), some (5, true), false⟩,
    ⟨some 8, .pick (.t 5) (.t 7) (.c (.dat (.bool false))), none, false⟩,
    ⟨some 2, .mv (.t 8), none, false⟩], []⟩
@[simp] def fn286 : AFun := ⟨1, [.t 2], false,
  .seq (.reg r286_0) (.seq (.reg r286_1) (.ret)), none⟩

theorem c286 : cFun Tryz.prog ann286 false 286 = some fn286 := by kernel_rfl

/-! 287: modelcheck/inst.values -/

def ann287 : Ann := [{ id := 0, live := [0] },
  { id := 1, live := [1, 2] }]

@[simp] def r287_0 : AReg := ⟨[0], [], [
    ⟨some 1, .box 8 (.t 0), none, false⟩,
    ⟨some 2, .alc [(.dat (.int .i64 0)), (.dat (.int .i64 0)), (.dat (.int .i64 0)), (.dat (.int .i64 0)), (.dat (.int .i64 0)), (.dat (.int .i64 0)), (.dat (.int .i64 0))], none, false⟩], []⟩
@[simp] def r287_1 : AReg := ⟨[1, 2], [], [
    ⟨some 3, .fAddr 1 (.t 1), none, false⟩,
    ⟨some 4, .ld 1 false (.t 3), none, false⟩,
    ⟨some 5, .fAddr 2 (.t 1), none, false⟩,
    ⟨some 6, .ld 1 false (.t 5), none, false⟩,
    ⟨some 7, .fAddr 3 (.t 1), none, false⟩,
    ⟨some 8, .ld 1 false (.t 7), none, false⟩,
    ⟨some 9, .fAddr 4 (.t 1), none, false⟩,
    ⟨some 10, .ld 1 false (.t 9), none, false⟩,
    ⟨some 11, .fAddr 5 (.t 1), none, false⟩,
    ⟨some 12, .ld 1 false (.t 11), none, false⟩,
    ⟨some 13, .fAddr 6 (.t 1), none, false⟩,
    ⟨some 14, .ld 1 false (.t 13), none, false⟩,
    ⟨some 15, .fAddr 7 (.t 1), none, false⟩,
    ⟨some 16, .ld 1 false (.t 15), none, false⟩,
    ⟨some 17, .bld [(.dat (.int .i64 0)), (.dat (.int .i64 0)), (.dat (.int .i64 0)), (.dat (.int .i64 0)), (.dat (.int .i64 0)), (.dat (.int .i64 0)), (.dat (.int .i64 0))] [(0, 1, (.t 4)), (1, 1, (.t 6)), (2, 1, (.t 8)), (3, 1, (.t 10)), (4, 1, (.t 12)), (5, 1, (.t 14)), (6, 1, (.t 16))], none, false⟩,
    ⟨none, .st false 7 (.t 2) (.t 17), none, false⟩], []⟩
@[simp] def fn287 : AFun := ⟨1, [.cell 2 7 true], false,
  .seq (.reg r287_0) (.seq (.reg r287_1) (.ret)), none⟩

theorem c287 : cFun Tryz.prog ann287 false 287 = some fn287 := by kernel_rfl

/-! 290: modelcheck/thread.end -/

def ann290 : Ann := [{ id := 0, live := [0, 1, 2] },
  { id := 1, live := [1, 2, 3, 6] },
  { id := 2, live := [3, 6] }]

@[simp] def r290_0 : AReg := ⟨[0, 1, 2], [], [
    ⟨some 3, .box 17 (.t 0), none, false⟩,
    ⟨some 6, .alc [(.dat (.int .i64 0)), (.dat (.int .i64 0)), (.dat (.int .i64 0)), (.dat (.int .i64 0)), (.dat (.int .i64 0)), (.dat (.int .i64 0)), (.dat (.int .i64 0)), (.dat (.int .i64 0)), (.dat (.int .i64 0)), (.dat (.int .i64 0)), (.dat (.int .i64 0)), (.dat (.int .i64 0)), (.dat (.int .i64 0)), (.dat (.int .i64 0)), (.dat (.int .i64 0)), (.dat (.int .i64 0)), .nils], none, false⟩], []⟩
@[simp] def r290_1 : AReg := ⟨[1, 2, 3, 6], [], [
    ⟨some 7, .mv (.t 1), none, false⟩,
    ⟨some 8, .mv (.t 2), none, false⟩,
    ⟨some 9, .fAddr 14 (.t 3), none, false⟩,
    ⟨none, .st false 1 (.t 9) (.t 7), none, false⟩,
    ⟨some 10, .fAddr 15 (.t 3), none, false⟩,
    ⟨none, .st false 1 (.t 10) (.t 8), none, false⟩], []⟩
@[simp] def r290_2 : AReg := ⟨[3, 6], [], [
    ⟨some 11, .ld 17 true (.t 3), none, false⟩,
    ⟨none, .st false 17 (.t 6) (.t 11), none, false⟩], []⟩
@[simp] def fn290 : AFun := ⟨3, [.cell 6 17 true], false,
  .seq (.reg r290_0) (.seq (.reg r290_1) (.seq (.reg r290_2) (.ret))), none⟩

theorem c290 : cFun Tryz.prog ann290 false 290 = some fn290 := by kernel_rfl

/-! 291: modelcheck/inst.Visible -/

def ann291 : Ann := [{ id := 0, live := [0] },
  { id := 1, live := [0] }]

@[simp] def r291_0 : AReg := ⟨[0], [], [
    ⟨some 2, .mv (.c (.dat (.bool false))), none, false⟩], []⟩
@[simp] def r291_1 : AReg := ⟨[0], [], [
    ⟨some 3, .mv (.t 0), none, false⟩,
    ⟨some 4, .bin .int .geq (.t 3) (.c (.dat (.int .i64 8))), none, false⟩,
    ⟨some 5, .mv (.t 4), none, false⟩,
    ⟨some 6, .mv (.t 0), some (5, true), false⟩,
    ⟨some 7, .bin .int .leq (.t 6) (.c (.dat (.int .i64 22))), some (5, true), false⟩,
    ⟨some 8, .pick (.t 5) (.t 7) (.c (.dat (.bool false))), none, false⟩,
    ⟨some 2, .mv (.t 8), none, false⟩], []⟩
@[simp] def fn291 : AFun := ⟨1, [.t 2], false,
  .seq (.reg r291_0) (.seq (.reg r291_1) (.ret)), none⟩

theorem c291 : cFun Tryz.prog ann291 false 291 = some fn291 := by kernel_rfl

/-! 292: modelcheck/thread.obstacle -/

def ann292 : Ann := [{ id := 0, live := [0, 1] },
  { id := 1, live := [2, 3] },
  { id := 2, live := [] },
  { id := 3, live := [2, 3] },
  { id := 4, live := [2, 3, 5] },
  { id := 5, live := [2, 3, 5, 14] },
  { id := 6, live := [2, 5, 14] },
  { id := 7, live := [2, 14] },
  { id := 8, live := [2, 3] },
  { id := 9, live := [2, 5] },
  { id := 10, live := [] },
  { id := 11, live := [2] },
  { id := 12, live := [7] },
  { id := 13, live := [] },
  { id := 14, live := [] }]

@[simp] def r292_0 : AReg := ⟨[0, 1], [], [
    ⟨some 2, .box 17 (.t 0), none, false⟩,
    ⟨some 3, .box 8 (.t 1), none, false⟩,
    ⟨some 4, .mv (.c (.dat (.int .i64 0))), none, false⟩], []⟩
@[simp] def r292_1 : AReg := ⟨[2, 3], [], [
    ⟨some 8, .fAddr 13 (.t 2), none, false⟩,
    ⟨some 9, .ld 1 false (.t 8), none, false⟩,
    ⟨some 10, .bin .int .neq (.t 9) (.c (.dat (.int .i64 0))), none, false⟩], []⟩
@[simp] def r292_2 : AReg := ⟨[], [], [
    ⟨some 4, .mv (.c (.dat (.int .i64 0))), none, false⟩], []⟩
@[simp] def r292_3 : AReg := ⟨[2, 3], [], [
    ⟨some 11, .fAddr 4 (.t 3), none, false⟩,
    ⟨some 12, .ld 1 false (.t 11), none, false⟩,
    ⟨some 5, .mv (.t 12), none, false⟩], []⟩
@[simp] def r292_4 : AReg := ⟨[2, 3, 5], [], [
    ⟨some 13, .fAddr 0 (.t 3), none, false⟩,
    ⟨some 14, .ld 1 false (.t 13), none, false⟩], []⟩
@[simp] def r292_5 : AReg := ⟨[2, 3, 5, 14], [], [
    ⟨some 16, .bin .int .eql (.t 14) (.c (.dat (.int .i64 18))), none, false⟩,
    ⟨some 15, .mv (.t 16), none, false⟩], []⟩
@[simp] def r292_6 : AReg := ⟨[2, 5, 14], [], [
    ⟨some 18, .bin .int .eql (.t 14) (.c (.dat (.int .i64 16))), none, false⟩,
    ⟨some 17, .mv (.t 18), none, false⟩], []⟩
@[simp] def r292_7 : AReg := ⟨[2, 14], [], [
    ⟨some 20, .bin .int .eql (.t 14) (.c (.dat (.int .i64 21))), none, false⟩,
    ⟨some 19, .mv (.t 20), none, false⟩], []⟩
@[simp] def r292_8 : AReg := ⟨[2, 3], [], [
    ⟨some 21, .fAddr 5 (.t 3), none, false⟩,
    ⟨some 22, .ld 1 false (.t 21), none, false⟩,
    ⟨some 5, .mv (.t 22), none, false⟩], []⟩
@[simp] def r292_9 : AReg := ⟨[2, 5], [], [
    ⟨some 23, .fAddr 16 (.t 2), none, false⟩,
    ⟨some 24, .ld 1 false (.t 23), none, false⟩,
    ⟨some 25, .mv (.t 5), none, false⟩,
    ⟨some 26, .call 336 [((.t 24), false), ((.t 25), false)] true, none, false⟩,
    ⟨some 27, .un .not (.t 26), none, false⟩], []⟩
@[simp] def r292_10 : AReg := ⟨[], [], [
    ⟨some 4, .mv (.c (.dat (.int .i64 27))), none, false⟩], []⟩
@[simp] def r292_11 : AReg := ⟨[2], [], [
    ⟨some 29, .ld 17 true (.t 2), none, false⟩,
    ⟨some 30, .call 302 [((.t 29), false)] true, none, false⟩,
    ⟨some 28, .mv (.t 30), none, false⟩,
    ⟨some 31, .ext 0 (.t 28), none, false⟩,
    ⟨some 32, .ext 1 (.t 28), none, false⟩,
    ⟨some 6, .mv (.t 31), none, false⟩,
    ⟨some 7, .mv (.t 32), none, false⟩], []⟩
@[simp] def r292_12 : AReg := ⟨[7], [], [
    ⟨some 33, .mv (.t 7), none, false⟩,
    ⟨some 34, .un .not (.t 33), none, false⟩], []⟩
@[simp] def r292_13 : AReg := ⟨[], [], [
    ⟨some 4, .mv (.c (.dat (.int .i64 28))), none, false⟩], []⟩
@[simp] def r292_14 : AReg := ⟨[], [], [
    ⟨some 4, .mv (.c (.dat (.int .i64 0))), none, false⟩], []⟩
@[simp] def fn292 : AFun := ⟨2, [.t 4], false,
  .seq (.reg r292_0) (.seq (.seq (.reg r292_1) (.cond (.t 10) (.seq (.reg r292_2) (.ret)) (.skip))) (.seq (.reg r292_3) (.seq (.seq (.reg r292_4) (.block 0 (.seq (.block 3 (.seq (.block 2 (.seq (.block 1 (.seq (.seq (.seq (.reg r292_5) (.cond (.t 15) (.exit 1) (.skip))) (.seq (.seq (.reg r292_6) (.cond (.t 17) (.exit 2) (.skip))) (.seq (.reg r292_7) (.cond (.t 19) (.exit 3) (.skip))))) (.exit 0))) (.reg r292_8))) (.seq (.seq (.reg r292_9) (.cond (.t 27) (.seq (.reg r292_10) (.ret)) (.skip))) (.exit 0)))) (.seq (.seq (.reg r292_11) (.seq (.reg r292_12) (.cond (.t 34) (.seq (.reg r292_13) (.ret)) (.skip)))) (.exit 0))))) (.seq (.reg r292_14) (.ret))))), none⟩

theorem c292 : cFun Tryz.prog ann292 false 292 = some fn292 := by kernel_rfl

/-! 301: modelcheck/machine.wait -/

def ann301 : Ann := [{ id := 0, live := [0, 1, 2] },
  { id := 1, live := [3, 4, 5, 6] },
  { id := 4, live := [4, 5, 6, 8] },
  { id := 5, live := [4, 5, 6] },
  { id := 6, live := [4, 5, 6] },
  { id := 7, live := [4, 5, 6, 8] },
  { id := 8, live := [5, 6] },
  { id := 2, live := [4, 5, 6] },
  { id := 3, live := [4, 5, 6] },
  { id := 9, live := [5, 6] }]

@[simp] def r301_0 : AReg := ⟨[0, 1, 2], [], [
    ⟨some 3, .box 17 (.t 0), none, false⟩,
    ⟨some 4, .box 8 (.t 1), none, false⟩,
    ⟨some 5, .box 9 (.t 2), none, false⟩,
    ⟨some 6, .alc [(.dat (.int .i64 0)), (.dat (.int .i64 0)), (.dat (.int .i64 0)), (.dat (.int .i64 0)), (.dat (.int .i64 0)), (.dat (.int .i64 0)), (.dat (.int .i64 0)), (.dat (.int .i64 0)), (.dat (.int .i64 0))], none, false⟩], []⟩
@[simp] def r301_1 : AReg := ⟨[3, 4, 5, 6], [], [
    ⟨some 7, .fAddr 13 (.t 3), none, false⟩,
    ⟨some 8, .ld 1 false (.t 7), none, false⟩], []⟩
@[simp] def r301_2 : AReg := ⟨[4, 5, 6, 8], [], [
    ⟨some 14, .bin .int .eql (.t 8) (.c (.dat (.int .i64 0))), none, false⟩,
    ⟨some 13, .mv (.t 14), none, false⟩], []⟩
@[simp] def r301_3 : AReg := ⟨[4, 5, 6], [], [
    ⟨some 15, .fAddr 2 (.t 5), none, false⟩,
    ⟨none, .st false 1 (.t 15) (.c (.dat (.int .i64 12))), none, false⟩], []⟩
@[simp] def r301_4 : AReg := ⟨[4, 5, 6], [], [
    ⟨some 16, .fAddr 5 (.t 4), none, false⟩,
    ⟨some 17, .ld 1 false (.t 16), none, false⟩,
    ⟨some 18, .fAddr 4 (.t 5), none, false⟩,
    ⟨none, .st false 1 (.t 18) (.t 17), none, false⟩], []⟩
@[simp] def r301_5 : AReg := ⟨[4, 5, 6, 8], [], [
    ⟨some 20, .bin .int .eql (.t 8) (.c (.dat (.int .i64 1))), none, false⟩,
    ⟨some 19, .mv (.t 20), none, false⟩], []⟩
@[simp] def r301_6 : AReg := ⟨[5, 6], [], [
    ⟨some 21, .fAddr 2 (.t 5), none, false⟩,
    ⟨none, .st false 1 (.t 21) (.c (.dat (.int .i64 13))), none, false⟩], []⟩
@[simp] def r301_7 : AReg := ⟨[4, 5, 6], [], [
    ⟨some 9, .fAddr 2 (.t 5), none, false⟩,
    ⟨none, .st false 1 (.t 9) (.c (.dat (.int .i64 9))), none, false⟩], []⟩
@[simp] def r301_8 : AReg := ⟨[4, 5, 6], [], [
    ⟨some 10, .fAddr 5 (.t 4), none, false⟩,
    ⟨some 11, .ld 1 false (.t 10), none, false⟩,
    ⟨some 12, .fAddr 3 (.t 5), none, false⟩,
    ⟨none, .st false 1 (.t 12) (.t 11), none, false⟩], []⟩
@[simp] def r301_9 : AReg := ⟨[5, 6], [], [
    ⟨some 22, .ld 9 true (.t 5), none, false⟩,
    ⟨none, .st false 9 (.t 6) (.t 22), none, false⟩], []⟩
@[simp] def fn301 : AFun := ⟨3, [.cell 6 9 true], true,
  .seq (.reg r301_0) (.seq (.seq (.reg r301_1) (.block 0 (.seq (.reg r301_2) (.cond (.t 13) (.seq (.reg r301_3) (.reg r301_4)) (.seq (.reg r301_5) (.cond (.t 19) (.reg r301_6) (.seq (.reg r301_7) (.reg r301_8)))))))) (.seq (.reg r301_9) (.ret))), none⟩

theorem c301 : cFun Tryz.prog ann301 true 301 = some fn301 := by kernel_rfl

/-! 305: modelcheck/memory.Acquire -/

def ann305 : Ann := [{ id := 0, live := [0, 1, 2] },
  { id := 1, live := [1, 2, 3, 6] }]

@[simp] def r305_0 : AReg := ⟨[0, 1, 2], [], [
    ⟨some 3, .box 4 (.t 0), none, false⟩,
    ⟨some 6, .alc [.nils, .nils, .nils, .nils], none, false⟩,
    ⟨some 7, .mv (.c (.dat (.int .i64 0))), none, false⟩], []⟩
@[simp] def r305_1 : AReg := ⟨[1, 2, 3, 6], [], [
    ⟨some 8, .ld 4 true (.t 3), none, false⟩,
    ⟨some 9, .mv (.t 1), none, false⟩,
    ⟨some 10, .mv (.t 2), none, false⟩,
    ⟨some 11, .mv (.t 2), none, false⟩,
    ⟨some 12, .call 339 [((.t 8), false), ((.t 9), false), ((.t 10), false), ((.c (.dat (.int .i64 (-1)))), false), ((.t 11), false)] false, none, false⟩,
    ⟨some 13, .ext 0 (.t 12), none, false⟩,
    ⟨some 14, .ext 1 (.t 12), none, false⟩,
    ⟨none, .st false 4 (.t 6) (.t 13), none, false⟩,
    ⟨some 7, .mv (.t 14), none, false⟩], []⟩
@[simp] def fn305 : AFun := ⟨3, [.cell 6 4 true, .t 7], false,
  .seq (.reg r305_0) (.seq (.reg r305_1) (.ret)), none⟩

theorem c305 : cFun Tryz.prog ann305 false 305 = some fn305 := by kernel_rfl

/-! 306: modelcheck/memory.Release -/

def ann306 : Ann := [{ id := 0, live := [0, 1, 2] },
  { id := 1, live := [1, 2, 3, 6] }]

@[simp] def r306_0 : AReg := ⟨[0, 1, 2], [], [
    ⟨some 3, .box 4 (.t 0), none, false⟩,
    ⟨some 6, .alc [.nils, .nils, .nils, .nils], none, false⟩,
    ⟨some 7, .mv (.c (.dat (.int .i64 0))), none, false⟩], []⟩
@[simp] def r306_1 : AReg := ⟨[1, 2, 3, 6], [], [
    ⟨some 8, .ld 4 true (.t 3), none, false⟩,
    ⟨some 9, .mv (.t 1), none, false⟩,
    ⟨some 10, .mv (.t 2), none, false⟩,
    ⟨some 11, .mv (.t 2), none, false⟩,
    ⟨some 12, .call 339 [((.t 8), false), ((.t 9), false), ((.t 10), false), ((.t 11), false), ((.c (.dat (.int .i64 (-1)))), false)] false, none, false⟩,
    ⟨some 13, .ext 0 (.t 12), none, false⟩,
    ⟨some 14, .ext 1 (.t 12), none, false⟩,
    ⟨none, .st false 4 (.t 6) (.t 13), none, false⟩,
    ⟨some 7, .mv (.t 14), none, false⟩], []⟩
@[simp] def fn306 : AFun := ⟨3, [.cell 6 4 true, .t 7], false,
  .seq (.reg r306_0) (.seq (.reg r306_1) (.ret)), none⟩

theorem c306 : cFun Tryz.prog ann306 false 306 = some fn306 := by kernel_rfl

/-! 307: modelcheck/memory.Enqueue -/

def ann307 : Ann := [{ id := 0, live := [0, 1, 2] },
  { id := 1, live := [1, 2, 3, 6] },
  { id := 2, live := [1, 2, 3, 6, 8] },
  { id := 3, live := [6, 8] },
  { id := 4, live := [1, 2, 3, 6] },
  { id := 5, live := [6] },
  { id := 6, live := [1, 2, 3, 6] },
  { id := 7, live := [6] },
  { id := 8, live := [1, 2, 3, 6] },
  { id := 9, live := [1, 2, 6, 9], marks := [(10, { md := .o }), (12, { md := .f })] },
  { id := 10, live := [6, 9] }]

@[simp] def r307_0 : AReg := ⟨[0, 1, 2], [], [
    ⟨some 3, .box 4 (.t 0), none, false⟩,
    ⟨some 6, .alc [.nils, .nils, .nils, .nils], none, false⟩,
    ⟨some 7, .mv (.c (.dat (.int .i64 0))), none, false⟩], []⟩
@[simp] def r307_1 : AReg := ⟨[1, 2, 3, 6], [], [
    ⟨some 10, .ld 4 true (.t 3), none, false⟩,
    ⟨some 11, .mv (.t 1), none, false⟩,
    ⟨some 12, .fAddr 2 (.t 3), none, false⟩,
    ⟨some 13, .ld 1 false (.t 12), none, false⟩,
    ⟨some 14, .len false (.t 13), none, false⟩,
    ⟨some 15, .call 264 [((.t 10), false), ((.t 11), false), ((.t 14), false)] true, none, false⟩,
    ⟨some 8, .mv (.t 15), none, false⟩], []⟩
@[simp] def r307_2 : AReg := ⟨[1, 2, 3, 6, 8], [], [
    ⟨some 16, .mv (.t 8), none, false⟩,
    ⟨some 17, .bin .int .neq (.t 16) (.c (.dat (.int .i64 0))), none, false⟩], []⟩
@[simp] def r307_3 : AReg := ⟨[6, 8], [], [
    ⟨some 18, .bld [.nils, .nils, .nils, .nils] [], none, false⟩,
    ⟨some 19, .mv (.t 8), none, false⟩,
    ⟨none, .st false 4 (.t 6) (.t 18), none, false⟩,
    ⟨some 7, .mv (.t 19), none, false⟩], []⟩
@[simp] def r307_4 : AReg := ⟨[1, 2, 3, 6], [], [
    ⟨some 20, .mv (.t 2), none, false⟩,
    ⟨some 21, .bin .int .lss (.t 20) (.c (.dat (.int .i64 0))), none, false⟩], []⟩
@[simp] def r307_5 : AReg := ⟨[6], [], [
    ⟨some 22, .bld [.nils, .nils, .nils, .nils] [], none, false⟩,
    ⟨none, .st false 4 (.t 6) (.t 22), none, false⟩,
    ⟨some 7, .mv (.c (.dat (.int .i64 2))), none, false⟩], []⟩
@[simp] def r307_6 : AReg := ⟨[1, 2, 3, 6], [], [
    ⟨some 23, .ld 4 true (.t 3), none, false⟩,
    ⟨some 24, .mv (.t 2), none, false⟩,
    ⟨some 25, .call 340 [((.t 23), false), ((.t 24), false)] true, none, false⟩], []⟩
@[simp] def r307_7 : AReg := ⟨[6], [], [
    ⟨some 26, .bld [.nils, .nils, .nils, .nils] [], none, false⟩,
    ⟨none, .st false 4 (.t 6) (.t 26), none, false⟩,
    ⟨some 7, .mv (.c (.dat (.int .i64 30))), none, false⟩], []⟩
@[simp] def r307_8 : AReg := ⟨[1, 2, 3, 6], [], [
    ⟨some 27, .ld 4 true (.t 3), none, false⟩,
    ⟨some 28, .call 254 [((.t 27), false)] false, none, false⟩,
    ⟨some 9, .alc [.nils, .nils, .nils, .nils], none, false⟩,
    ⟨none, .st false 4 (.t 9) (.t 28), none, false⟩], []⟩
@[simp] def r307_9 : AReg := ⟨[1, 2, 6, 9], [], [
    ⟨some 29, .fAddr 2 (.t 9), none, false⟩,
    ⟨some 30, .ld 1 false (.t 29), none, true⟩,
    ⟨some 31, .mv (.t 1), none, false⟩,
    ⟨some 32, .fAddr 2 (.t 9), none, false⟩,
    ⟨some 33, .ld 1 false (.t 32), none, true⟩,
    ⟨some 34, .mv (.t 1), none, false⟩,
    ⟨some 35, .iAddr 1 (.t 33) (.t 34), none, false⟩,
    ⟨some 36, .ld 1 false (.t 35), none, true⟩,
    ⟨some 37, .mv (.t 2), none, false⟩,
    ⟨some 38, .bldS .d 1 [(.t 37)], none, true⟩,
    ⟨some 39, .app .o 1 8 (.t 36) (.t 38), none, true⟩,
    ⟨some 40, .iAddr 1 (.t 30) (.t 31), none, false⟩,
    ⟨none, .st true 1 (.t 40) (.t 39), none, false⟩], [(1, 9), (4, 9), (7, 9), (1, 10)]⟩
@[simp] def r307_10 : AReg := ⟨[6, 9], [], [
    ⟨some 41, .ld 4 true (.t 9), none, false⟩,
    ⟨none, .st false 4 (.t 6) (.t 41), none, false⟩,
    ⟨some 7, .mv (.c (.dat (.int .i64 0))), none, false⟩], []⟩
@[simp] def fn307 : AFun := ⟨3, [.cell 6 4 true, .t 7], false,
  .seq (.reg r307_0) (.seq (.seq (.reg r307_1) (.seq (.reg r307_2) (.cond (.t 17) (.seq (.reg r307_3) (.ret)) (.skip)))) (.seq (.seq (.reg r307_4) (.cond (.t 21) (.seq (.reg r307_5) (.ret)) (.skip))) (.seq (.seq (.reg r307_6) (.cond (.t 25) (.seq (.reg r307_7) (.ret)) (.skip))) (.seq (.reg r307_8) (.seq (.reg r307_9) (.seq (.reg r307_10) (.ret))))))), none⟩

theorem c307 : cFun Tryz.prog ann307 false 307 = some fn307 := by kernel_rfl

/-! 309: modelcheck/memory.Signal -/

def ann309 : Ann := [{ id := 0, live := [0, 1] },
  { id := 1, live := [1, 2, 4] }]

@[simp] def r309_0 : AReg := ⟨[0, 1], [], [
    ⟨some 2, .box 4 (.t 0), none, false⟩,
    ⟨some 4, .alc [.nils, .nils, .nils, .nils], none, false⟩,
    ⟨some 5, .mv (.c (.dat (.int .i64 0))), none, false⟩,
    ⟨some 6, .mv (.c (.dat (.int .i64 0))), none, false⟩], []⟩
@[simp] def r309_1 : AReg := ⟨[1, 2, 4], [], [
    ⟨some 7, .ld 4 true (.t 2), none, false⟩,
    ⟨some 8, .mv (.t 1), none, false⟩,
    ⟨some 9, .call 341 [((.t 7), false), ((.t 8), false), ((.c (.dat (.int .i64 1))), false)] false, none, false⟩,
    ⟨some 10, .ext 0 (.t 9), none, false⟩,
    ⟨some 11, .ext 1 (.t 9), none, false⟩,
    ⟨some 12, .ext 2 (.t 9), none, false⟩,
    ⟨none, .st false 4 (.t 4) (.t 10), none, false⟩,
    ⟨some 5, .mv (.t 11), none, false⟩,
    ⟨some 6, .mv (.t 12), none, false⟩], []⟩
@[simp] def fn309 : AFun := ⟨2, [.cell 4 4 true, .t 5, .t 6], false,
  .seq (.reg r309_0) (.seq (.reg r309_1) (.ret)), none⟩

theorem c309 : cFun Tryz.prog ann309 false 309 = some fn309 := by kernel_rfl

/-! 311: modelcheck/memory.cloned[int] -/

def ann311 : Ann := [{ id := 0, live := [0] },
  { id := 1, live := [0], marks := [(2, { md := .o })] },
  { id := 2, live := [0, 3] },
  { id := 3, live := [3] }]

@[simp] def r311_0 : AReg := ⟨[0], [], [
    ⟨some 2, .mv (.c .nils), none, false⟩], []⟩
@[simp] def r311_1 : AReg := ⟨[0], [], [
    ⟨some 4, .mv (.t 0), none, false⟩,
    ⟨some 5, .len false (.t 4), none, false⟩,
    ⟨some 6, .mk .o 1 8 [(.dat (.int .i64 0))] (.t 5) (.t 5), none, false⟩,
    ⟨some 3, .mv (.t 6), none, false⟩], []⟩
@[simp] def r311_2 : AReg := ⟨[0, 3], [], [
    ⟨some 7, .mv (.t 3), none, false⟩,
    ⟨some 8, .mv (.t 0), none, false⟩,
    ⟨some 9, .cpy 1 (.t 7) (.t 8), none, false⟩], []⟩
@[simp] def r311_3 : AReg := ⟨[3], [], [
    ⟨some 10, .mv (.t 3), none, false⟩,
    ⟨some 2, .mv (.t 10), none, false⟩], []⟩
@[simp] def fn311 : AFun := ⟨1, [.t 2], true,
  .seq (.reg r311_0) (.seq (.reg r311_1) (.seq (.reg r311_2) (.seq (.reg r311_3) (.ret)))), none⟩

theorem c311 : cFun Tryz.prog ann311 true 311 = some fn311 := by kernel_rfl

/-! 312: modelcheck/inst.Defines -/

def ann312 : Ann := [{ id := 0, live := [0] },
  { id := 1, live := [1] },
  { id := 2, live := [] },
  { id := 3, live := [1] }]

@[simp] def r312_0 : AReg := ⟨[0], [], [
    ⟨some 1, .box 8 (.t 0), none, false⟩,
    ⟨some 2, .mv (.c (.dat (.int .i64 0))), none, false⟩,
    ⟨some 3, .mv (.c (.dat (.bool false))), none, false⟩], []⟩
@[simp] def r312_1 : AReg := ⟨[1], [], [
    ⟨some 4, .ld 8 true (.t 1), none, false⟩,
    ⟨some 5, .call 240 [((.t 4), false)] true, none, false⟩,
    ⟨some 6, .bin .int .neq (.t 5) (.c (.dat (.int .i64 0))), none, false⟩,
    ⟨some 7, .mv (.t 6), none, false⟩,
    ⟨some 8, .fAddr 0 (.t 1), some (7, false), false⟩,
    ⟨some 9, .ld 1 false (.t 8), some (7, false), false⟩,
    ⟨some 10, .bin .int .sub (.t 9) (.c (.dat (.int .i64 1))), some (7, false), false⟩,
    ⟨some 11, .iAddrA 22 8 (.c (.fp glob1)) (.t 10), some (7, false), false⟩,
    ⟨some 12, .fAddr 1 (.t 11), some (7, false), false⟩,
    ⟨some 13, .iAddrA 7 1 (.t 12) (.c (.dat (.int .i64 0))), some (7, false), false⟩,
    ⟨some 14, .ld 1 false (.t 13), some (7, false), false⟩,
    ⟨some 15, .un .not (.t 14), some (7, false), false⟩,
    ⟨some 16, .pick (.t 7) (.c (.dat (.bool true))) (.t 15), none, false⟩], []⟩
@[simp] def r312_2 : AReg := ⟨[], [], [
    ⟨some 2, .mv (.c (.dat (.int .i64 0))), none, false⟩,
    ⟨some 3, .mv (.c (.dat (.bool false))), none, false⟩], []⟩
@[simp] def r312_3 : AReg := ⟨[1], [], [
    ⟨some 17, .fAddr 1 (.t 1), none, false⟩,
    ⟨some 18, .ld 1 false (.t 17), none, false⟩,
    ⟨some 2, .mv (.t 18), none, false⟩,
    ⟨some 3, .mv (.c (.dat (.bool true))), none, false⟩], []⟩
@[simp] def fn312 : AFun := ⟨1, [.t 2, .t 3], false,
  .seq (.reg r312_0) (.seq (.seq (.reg r312_1) (.cond (.t 16) (.seq (.reg r312_2) (.ret)) (.skip))) (.seq (.reg r312_3) (.ret))), none⟩

theorem c312 : cFun Tryz.prog ann312 false 312 = some fn312 := by kernel_rfl

/-! 313: modelcheck/thread.wait -/

def ann313 : Ann := [{ id := 0, live := [0, 1] },
  { id := 1, live := [1, 2, 4] },
  { id := 5, live := [1, 2, 4, 6] },
  { id := 6, live := [1, 2, 4] },
  { id := 7, live := [2, 4] },
  { id := 8, live := [1, 2, 4, 6] },
  { id := 9, live := [2, 4] },
  { id := 2, live := [1, 2, 4] },
  { id := 3, live := [2, 4] },
  { id := 4, live := [2, 4] },
  { id := 10, live := [2, 4] }]

@[simp] def r313_0 : AReg := ⟨[0, 1], [], [
    ⟨some 2, .box 17 (.t 0), none, false⟩,
    ⟨some 4, .alc [(.dat (.int .i64 0)), (.dat (.int .i64 0)), (.dat (.int .i64 0)), (.dat (.int .i64 0)), (.dat (.int .i64 0)), (.dat (.int .i64 0)), (.dat (.int .i64 0)), (.dat (.int .i64 0)), (.dat (.int .i64 0)), (.dat (.int .i64 0)), (.dat (.int .i64 0)), (.dat (.int .i64 0)), (.dat (.int .i64 0)), (.dat (.int .i64 0)), (.dat (.int .i64 0)), (.dat (.int .i64 0)), .nils], none, false⟩], []⟩
@[simp] def r313_1 : AReg := ⟨[1, 2, 4], [], [
    ⟨some 5, .fAddr 13 (.t 2), none, false⟩,
    ⟨some 6, .ld 1 false (.t 5), none, false⟩], []⟩
@[simp] def r313_2 : AReg := ⟨[1, 2, 4, 6], [], [
    ⟨some 18, .bin .int .eql (.t 6) (.c (.dat (.int .i64 0))), none, false⟩,
    ⟨some 17, .mv (.t 18), none, false⟩], []⟩
@[simp] def r313_3 : AReg := ⟨[1, 2, 4], [], [
    ⟨some 19, .fAddr 16 (.t 2), none, false⟩,
    ⟨some 20, .ld 1 false (.t 19), none, false⟩,
    ⟨some 21, .mv (.t 1), none, false⟩,
    ⟨some 22, .call 315 [((.t 20), false), ((.t 21), false)] false, none, false⟩,
    ⟨some 23, .fAddr 16 (.t 2), none, false⟩,
    ⟨none, .st false 1 (.t 23) (.t 22), none, false⟩], []⟩
@[simp] def r313_4 : AReg := ⟨[2, 4], [], [
    ⟨some 24, .fAddr 13 (.t 2), none, false⟩,
    ⟨none, .st false 1 (.t 24) (.c (.dat (.int .i64 1))), none, false⟩], []⟩
@[simp] def r313_5 : AReg := ⟨[1, 2, 4, 6], [], [
    ⟨some 26, .bin .int .eql (.t 6) (.c (.dat (.int .i64 1))), none, false⟩,
    ⟨some 25, .mv (.t 26), none, false⟩], []⟩
@[simp] def r313_6 : AReg := ⟨[2, 4], [], [
    ⟨some 27, .fAddr 13 (.t 2), none, false⟩,
    ⟨none, .st false 1 (.t 27) (.c (.dat (.int .i64 2))), none, false⟩], []⟩
@[simp] def r313_7 : AReg := ⟨[1, 2, 4], [], [
    ⟨some 7, .fAddr 16 (.t 2), none, false⟩,
    ⟨some 8, .ld 1 false (.t 7), none, false⟩,
    ⟨some 9, .mv (.t 1), none, false⟩,
    ⟨some 10, .call 314 [((.t 8), false), ((.t 9), false)] false, none, false⟩,
    ⟨some 11, .fAddr 16 (.t 2), none, false⟩,
    ⟨none, .st false 1 (.t 11) (.t 10), none, false⟩], []⟩
@[simp] def r313_8 : AReg := ⟨[2, 4], [], [
    ⟨some 12, .fAddr 13 (.t 2), none, false⟩,
    ⟨none, .st false 1 (.t 12) (.c (.dat (.int .i64 0))), none, false⟩], []⟩
@[simp] def r313_9 : AReg := ⟨[2, 4], [], [
    ⟨some 13, .fAddr 2 (.t 2), none, false⟩,
    ⟨some 14, .ld 1 false (.t 13), none, false⟩,
    ⟨some 15, .bin .int .add (.t 14) (.c (.dat (.int .i64 1))), none, false⟩,
    ⟨some 16, .fAddr 2 (.t 2), none, false⟩,
    ⟨none, .st false 1 (.t 16) (.t 15), none, false⟩], []⟩
@[simp] def r313_10 : AReg := ⟨[2, 4], [], [
    ⟨some 28, .ld 17 true (.t 2), none, false⟩,
    ⟨none, .st false 17 (.t 4) (.t 28), none, false⟩], []⟩
@[simp] def fn313 : AFun := ⟨2, [.cell 4 17 true], false,
  .seq (.reg r313_0) (.seq (.seq (.reg r313_1) (.block 0 (.seq (.reg r313_2) (.cond (.t 17) (.seq (.reg r313_3) (.reg r313_4)) (.seq (.reg r313_5) (.cond (.t 25) (.reg r313_6) (.seq (.reg r313_7) (.seq (.reg r313_8) (.reg r313_9))))))))) (.seq (.reg r313_10) (.ret))), none⟩

theorem c313 : cFun Tryz.prog ann313 false 313 = some fn313 := by kernel_rfl

/-! 314: modelcheck/intset.Add -/

def ann314 : Ann := [{ id := 0, live := [0, 1] },
  { id := 1, live := [0, 1], marks := [(4, { md := .o })] }]

@[simp] def r314_0 : AReg := ⟨[0, 1], [], [
    ⟨some 4, .mv (.c .nils), none, false⟩], []⟩
@[simp] def r314_1 : AReg := ⟨[0, 1], [], [
    ⟨some 5, .mv (.t 0), none, false⟩,
    ⟨some 6, .call 226 [((.t 5), false)] false, none, false⟩,
    ⟨some 7, .mv (.t 1), none, false⟩,
    ⟨some 8, .bldS .d 1 [(.t 7)], none, false⟩,
    ⟨some 9, .app .o 1 8 (.t 6) (.t 8), none, false⟩,
    ⟨some 10, .call 342 [((.t 9), false)] false, none, false⟩,
    ⟨some 4, .mv (.t 10), none, false⟩], []⟩
@[simp] def fn314 : AFun := ⟨2, [.t 4], true,
  .seq (.reg r314_0) (.seq (.reg r314_1) (.ret)), none⟩

theorem c314 : cFun Tryz.prog ann314 true 314 = some fn314 := by kernel_rfl

/-! 315: modelcheck/intset.Remove -/

def ann315 : Ann := [{ id := 0, live := [0, 1] },
  { id := 1, live := [0, 1] }]

@[simp] def r315_0 : AReg := ⟨[0, 1], [], [
    ⟨some 4, .mv (.c .nils), none, false⟩], []⟩
@[simp] def r315_1 : AReg := ⟨[0, 1], [], [
    ⟨some 5, .mv (.t 0), none, false⟩,
    ⟨some 6, .mv (.t 1), none, false⟩,
    ⟨some 7, .bldS .d 1 [(.t 6)], none, false⟩,
    ⟨some 8, .call 343 [((.t 5), false), ((.t 7), false), ((.c (.dat (.bool false))), false)] false, none, false⟩,
    ⟨some 4, .mv (.t 8), none, false⟩], []⟩
@[simp] def fn315 : AFun := ⟨2, [.t 4], false,
  .seq (.reg r315_0) (.seq (.reg r315_1) (.ret)), none⟩

theorem c315 : cFun Tryz.prog ann315 false 315 = some fn315 := by kernel_rfl

/-! 316: modelcheck/intset.Valid -/

def ann316 : Ann := [{ id := 0, live := [0] },
  { id := 1, live := [0] },
  { id := 2, live := [0, 3] },
  { id := 4, live := [0, 3] },
  { id := 5, live := [] },
  { id := 3, live := [0, 3] },
  { id := 6, live := [] }]

@[simp] def r316_0 : AReg := ⟨[0], [], [
    ⟨some 2, .mv (.c (.dat (.bool false))), none, false⟩], []⟩
@[simp] def r316_1 : AReg := ⟨[0], [], [
    ⟨some 3, .mv (.c (.dat (.int .i64 1))), none, false⟩], []⟩
@[simp] def r316_2 : AReg := ⟨[0, 3], [], [
    ⟨some 4, .mv (.t 3), none, false⟩,
    ⟨some 5, .mv (.t 0), none, false⟩,
    ⟨some 6, .len false (.t 5), none, false⟩,
    ⟨some 7, .bin .int .lss (.t 4) (.t 6), none, false⟩], []⟩
@[simp] def r316_3 : AReg := ⟨[0, 3], [], [
    ⟨some 10, .mv (.t 0), none, false⟩,
    ⟨some 11, .mv (.t 3), none, false⟩,
    ⟨some 12, .bin .int .sub (.t 11) (.c (.dat (.int .i64 1))), none, false⟩,
    ⟨some 13, .iAddr 1 (.t 10) (.t 12), none, false⟩,
    ⟨some 14, .ld 1 false (.t 13), none, false⟩,
    ⟨some 15, .mv (.t 0), none, false⟩,
    ⟨some 16, .mv (.t 3), none, false⟩,
    ⟨some 17, .iAddr 1 (.t 15) (.t 16), none, false⟩,
    ⟨some 18, .ld 1 false (.t 17), none, false⟩,
    ⟨some 19, .bin .int .geq (.t 14) (.t 18), none, false⟩], []⟩
@[simp] def r316_4 : AReg := ⟨[], [], [
    ⟨some 2, .mv (.c (.dat (.bool false))), none, false⟩], []⟩
@[simp] def r316_5 : AReg := ⟨[0, 3], [], [
    ⟨some 8, .mv (.t 3), none, false⟩,
    ⟨some 9, .bin .int .add (.t 8) (.c (.dat (.int .i64 1))), none, false⟩,
    ⟨some 3, .mv (.t 9), none, false⟩], []⟩
def l316_0 : AC := .seq (.seq (.reg r316_2) (.cond (.t 7) (.skip) (.exit 0))) (.seq (.block 1 (.seq (.reg r316_3) (.cond (.t 19) (.seq (.reg r316_4) (.ret)) (.skip)))) (.reg r316_5))
@[simp] theorem l316_0e (K : Orc) (s : St) : exec K l316_0 s = exec K (.seq (.seq (.reg r316_2) (.cond (.t 7) (.skip) (.exit 0))) (.seq (.block 1 (.seq (.reg r316_3) (.cond (.t 19) (.seq (.reg r316_4) (.ret)) (.skip)))) (.reg r316_5))) s := rfl
@[simp] def r316_6 : AReg := ⟨[], [], [
    ⟨some 2, .mv (.c (.dat (.bool true))), none, false⟩], []⟩
@[simp] def fn316 : AFun := ⟨1, [.t 2], false,
  .seq (.reg r316_0) (.seq (.seq (.reg r316_1) (.block 0 (.loop l316_0))) (.seq (.reg r316_6) (.ret))), none⟩

theorem c316 : cFun Tryz.prog ann316 false 316 = some fn316 := by kernel_rfl

/-! 317: modelcheck/thread.formed -/

def ann317 : Ann := [{ id := 0, live := [0, 1, 2] },
  { id := 1, live := [1, 3, 5] },
  { id := 2, live := [1, 3, 5, 7] },
  { id := 3, live := [] },
  { id := 4, live := [1, 3, 5, 7] },
  { id := 5, live := [1, 3, 5, 7, 51, 52] },
  { id := 6, live := [1, 3, 5, 7, 51, 52] },
  { id := 7, live := [1, 3, 5, 7, 9, 51, 52] },
  { id := 8, live := [] },
  { id := 9, live := [1, 3, 5, 7, 51, 52] },
  { id := 10, live := [1, 3, 5, 7] },
  { id := 11, live := [] },
  { id := 12, live := [3, 5] },
  { id := 13, live := [3, 5, 95, 96, 97] },
  { id := 14, live := [3, 5, 95, 96, 97] },
  { id := 15, live := [3, 5, 11, 95, 96, 97] },
  { id := 16, live := [] },
  { id := 17, live := [3, 5, 95, 96, 97] },
  { id := 18, live := [3, 5] },
  { id := 19, live := [] },
  { id := 20, live := [3, 5] },
  { id := 21, live := [5, 12, 13] }]

@[simp] def r317_0 : AReg := ⟨[0, 1, 2], [], [
    ⟨some 3, .box 5 (.t 0), none, false⟩,
    ⟨some 5, .box 17 (.t 2), none, false⟩,
    ⟨some 6, .mv (.c (.dat (.bool false))), none, false⟩], []⟩
@[simp] def r317_1 : AReg := ⟨[1, 3, 5], [], [
    ⟨some 14, .fAddr 0 (.t 5), none, false⟩,
    ⟨some 15, .ld 1 false (.t 14), none, false⟩,
    ⟨some 16, .call 243 [((.t 15), false)] true, none, false⟩,
    ⟨some 7, .mv (.t 16), none, false⟩], []⟩
@[simp] def r317_2 : AReg := ⟨[1, 3, 5, 7], [], [
    ⟨some 17, .mv (.t 7), none, false⟩,
    ⟨some 18, .bin .int .lss (.t 17) (.c (.dat (.int .i64 0))), none, false⟩,
    ⟨some 19, .mv (.t 18), none, false⟩,
    ⟨some 20, .fAddr 1 (.t 5), some (19, false), false⟩,
    ⟨some 21, .ld 1 false (.t 20), some (19, false), false⟩,
    ⟨some 22, .bin .int .lss (.t 21) (.c (.dat (.int .i64 0))), some (19, false), false⟩,
    ⟨some 23, .pick (.t 19) (.c (.dat (.bool true))) (.t 22), none, false⟩,
    ⟨some 24, .mv (.t 23), none, false⟩,
    ⟨some 25, .fAddr 1 (.t 5), some (24, false), false⟩,
    ⟨some 26, .ld 1 false (.t 25), some (24, false), false⟩,
    ⟨some 27, .fAddr 3 (.t 3), some (24, false), false⟩,
    ⟨some 28, .ld 1 false (.t 27), some (24, false), false⟩,
    ⟨some 29, .len false (.t 28), some (24, false), false⟩,
    ⟨some 30, .bin .int .geq (.t 26) (.t 29), some (24, false), false⟩,
    ⟨some 31, .pick (.t 24) (.c (.dat (.bool true))) (.t 30), none, false⟩,
    ⟨some 32, .mv (.t 31), none, false⟩,
    ⟨some 33, .fAddr 2 (.t 5), some (32, false), false⟩,
    ⟨some 34, .ld 1 false (.t 33), some (32, false), false⟩,
    ⟨some 35, .bin .int .lss (.t 34) (.c (.dat (.int .i64 0))), some (32, false), false⟩,
    ⟨some 36, .pick (.t 32) (.c (.dat (.bool true))) (.t 35), none, false⟩,
    ⟨some 37, .mv (.t 36), none, false⟩,
    ⟨some 38, .fAddr 2 (.t 5), some (37, false), false⟩,
    ⟨some 39, .ld 1 false (.t 38), some (37, false), false⟩,
    ⟨some 40, .fAddr 3 (.t 3), some (37, false), false⟩,
    ⟨some 41, .ld 1 false (.t 40), some (37, false), false⟩,
    ⟨some 42, .fAddr 1 (.t 5), some (37, false), false⟩,
    ⟨some 43, .ld 1 false (.t 42), some (37, false), false⟩,
    ⟨some 44, .iAddr 2 (.t 41) (.t 43), some (37, false), false⟩,
    ⟨some 45, .fAddr 1 (.t 44), some (37, false), false⟩,
    ⟨some 46, .ld 1 false (.t 45), some (37, false), false⟩,
    ⟨some 47, .len false (.t 46), some (37, false), false⟩,
    ⟨some 48, .bin .int .gtr (.t 39) (.t 47), some (37, false), false⟩,
    ⟨some 49, .pick (.t 37) (.c (.dat (.bool true))) (.t 48), none, false⟩], []⟩
@[simp] def r317_3 : AReg := ⟨[], [], [
    ⟨some 6, .mv (.c (.dat (.bool false))), none, false⟩], []⟩
@[simp] def r317_4 : AReg := ⟨[1, 3, 5, 7], [], [
    ⟨some 50, .fAddr 3 (.t 5), none, false⟩,
    ⟨some 51, .ld 8 true (.t 50), none, false⟩,
    ⟨some 52, .mv (.c (.dat (.int .i64 0))), none, false⟩], []⟩
@[simp] def r317_5 : AReg := ⟨[1, 3, 5, 7, 51, 52], [], [
    ⟨some 53, .bin .int .lss (.t 52) (.c (.dat (.int .i64 8))), none, false⟩], []⟩
@[simp] def r317_6 : AReg := ⟨[1, 3, 5, 7, 51, 52], [], [
    ⟨some 54, .idx 8 1 false (.t 51) (.t 52), none, false⟩,
    ⟨some 9, .mv (.t 54), none, false⟩], []⟩
@[simp] def r317_7 : AReg := ⟨[1, 3, 5, 7, 9, 51, 52], [], [
    ⟨some 55, .mv (.t 9), none, false⟩,
    ⟨some 56, .call 244 [((.t 55), false)] true, none, false⟩,
    ⟨some 57, .mv (.t 9), none, false⟩,
    ⟨some 58, .bin .int .neq (.t 56) (.t 57), none, false⟩], []⟩
@[simp] def r317_8 : AReg := ⟨[], [], [
    ⟨some 6, .mv (.c (.dat (.bool false))), none, false⟩], []⟩
@[simp] def r317_9 : AReg := ⟨[1, 3, 5, 7, 51, 52], [], [
    ⟨some 59, .bin .int .add (.t 52) (.c (.dat (.int .i64 1))), none, false⟩,
    ⟨some 52, .mv (.t 59), none, false⟩], []⟩
def l317_0 : AC := .seq (.reg r317_5) (.seq (.cond (.t 53) (.skip) (.exit 0)) (.seq (.block 1 (.seq (.reg r317_6) (.seq (.reg r317_7) (.cond (.t 58) (.seq (.reg r317_8) (.ret)) (.skip))))) (.reg r317_9)))
@[simp] theorem l317_0e (K : Orc) (s : St) : exec K l317_0 s = exec K (.seq (.reg r317_5) (.seq (.cond (.t 53) (.skip) (.exit 0)) (.seq (.block 1 (.seq (.reg r317_6) (.seq (.reg r317_7) (.cond (.t 58) (.seq (.reg r317_8) (.ret)) (.skip))))) (.reg r317_9)))) s := rfl
@[simp] def r317_10 : AReg := ⟨[1, 3, 5, 7], [], [
    ⟨some 60, .fAddr 11 (.t 5), none, false⟩,
    ⟨some 61, .ld 1 false (.t 60), none, false⟩,
    ⟨some 62, .bin .int .lss (.t 61) (.c (.dat (.int .i64 0))), none, false⟩,
    ⟨some 63, .mv (.t 62), none, false⟩,
    ⟨some 64, .fAddr 11 (.t 5), some (63, false), false⟩,
    ⟨some 65, .ld 1 false (.t 64), some (63, false), false⟩,
    ⟨some 66, .mv (.t 1), some (63, false), false⟩,
    ⟨some 67, .bin .int .gtr (.t 65) (.t 66), some (63, false), false⟩,
    ⟨some 68, .pick (.t 63) (.c (.dat (.bool true))) (.t 67), none, false⟩,
    ⟨some 69, .mv (.t 68), none, false⟩,
    ⟨some 70, .fAddr 12 (.t 5), some (69, false), false⟩,
    ⟨some 71, .ld 1 false (.t 70), some (69, false), false⟩,
    ⟨some 72, .bin .int .lss (.t 71) (.c (.dat (.int .i64 0))), some (69, false), false⟩,
    ⟨some 73, .pick (.t 69) (.c (.dat (.bool true))) (.t 72), none, false⟩,
    ⟨some 74, .mv (.t 73), none, false⟩,
    ⟨some 75, .fAddr 12 (.t 5), some (74, false), false⟩,
    ⟨some 76, .ld 1 false (.t 75), some (74, false), false⟩,
    ⟨some 77, .bin .int .gtr (.t 76) (.c (.dat (.int .i64 7))), some (74, false), false⟩,
    ⟨some 78, .pick (.t 74) (.c (.dat (.bool true))) (.t 77), none, false⟩,
    ⟨some 79, .mv (.t 78), none, false⟩,
    ⟨some 80, .mv (.t 7), some (79, false), false⟩,
    ⟨some 81, .bin .int .eql (.t 80) (.c (.dat (.int .i64 4))), some (79, false), false⟩,
    ⟨some 82, .mv (.t 81), some (79, false), false⟩,
    ⟨some 83, .fAddr 12 (.t 5), some (82, true), false⟩,
    ⟨some 84, .ld 1 false (.t 83), some (82, true), false⟩,
    ⟨some 85, .bin .int .neq (.t 84) (.c (.dat (.int .i64 0))), some (82, true), false⟩,
    ⟨some 86, .pick (.t 82) (.t 85) (.c (.dat (.bool false))), some (79, false), false⟩,
    ⟨some 87, .pick (.t 79) (.c (.dat (.bool true))) (.t 86), none, false⟩,
    ⟨some 88, .mv (.t 87), none, false⟩,
    ⟨some 89, .fAddr 16 (.t 5), some (88, false), false⟩,
    ⟨some 90, .ld 1 false (.t 89), some (88, false), false⟩,
    ⟨some 91, .call 316 [((.t 90), false)] true, some (88, false), false⟩,
    ⟨some 92, .un .not (.t 91), some (88, false), false⟩,
    ⟨some 93, .pick (.t 88) (.c (.dat (.bool true))) (.t 92), none, false⟩], []⟩
@[simp] def r317_11 : AReg := ⟨[], [], [
    ⟨some 6, .mv (.c (.dat (.bool false))), none, false⟩], []⟩
@[simp] def r317_12 : AReg := ⟨[3, 5], [], [
    ⟨some 94, .fAddr 16 (.t 5), none, false⟩,
    ⟨some 95, .ld 1 false (.t 94), none, false⟩,
    ⟨some 96, .len false (.t 95), none, false⟩,
    ⟨some 97, .mv (.c (.dat (.int .i64 0))), none, false⟩], []⟩
@[simp] def r317_13 : AReg := ⟨[3, 5, 95, 96, 97], [], [
    ⟨some 98, .bin .int .lss (.t 97) (.t 96), none, false⟩], []⟩
@[simp] def r317_14 : AReg := ⟨[3, 5, 95, 96, 97], [], [
    ⟨some 99, .iAddr 1 (.t 95) (.t 97), none, false⟩,
    ⟨some 100, .ld 1 false (.t 99), none, false⟩,
    ⟨some 11, .mv (.t 100), none, false⟩], []⟩
@[simp] def r317_15 : AReg := ⟨[3, 5, 11, 95, 96, 97], [], [
    ⟨some 101, .mv (.t 11), none, false⟩,
    ⟨some 102, .bin .int .lss (.t 101) (.c (.dat (.int .i64 0))), none, false⟩,
    ⟨some 103, .mv (.t 102), none, false⟩,
    ⟨some 104, .mv (.t 11), some (103, false), false⟩,
    ⟨some 105, .fAddr 1 (.t 3), some (103, false), false⟩,
    ⟨some 106, .ld 1 false (.t 105), some (103, false), false⟩,
    ⟨some 107, .len false (.t 106), some (103, false), false⟩,
    ⟨some 108, .bin .int .geq (.t 104) (.t 107), some (103, false), false⟩,
    ⟨some 109, .pick (.t 103) (.c (.dat (.bool true))) (.t 108), none, false⟩], []⟩
@[simp] def r317_16 : AReg := ⟨[], [], [
    ⟨some 6, .mv (.c (.dat (.bool false))), none, false⟩], []⟩
@[simp] def r317_17 : AReg := ⟨[3, 5, 95, 96, 97], [], [
    ⟨some 110, .bin .int .add (.t 97) (.c (.dat (.int .i64 1))), none, false⟩,
    ⟨some 97, .mv (.t 110), none, false⟩], []⟩
def l317_1 : AC := .seq (.reg r317_13) (.seq (.cond (.t 98) (.skip) (.exit 2)) (.seq (.block 3 (.seq (.reg r317_14) (.seq (.reg r317_15) (.cond (.t 109) (.seq (.reg r317_16) (.ret)) (.skip))))) (.reg r317_17)))
@[simp] theorem l317_1e (K : Orc) (s : St) : exec K l317_1 s = exec K (.seq (.reg r317_13) (.seq (.cond (.t 98) (.skip) (.exit 2)) (.seq (.block 3 (.seq (.reg r317_14) (.seq (.reg r317_15) (.cond (.t 109) (.seq (.reg r317_16) (.ret)) (.skip))))) (.reg r317_17)))) s := rfl
@[simp] def r317_18 : AReg := ⟨[3, 5], [], [
    ⟨some 111, .fAddr 13 (.t 5), none, false⟩,
    ⟨some 112, .ld 1 false (.t 111), none, false⟩,
    ⟨some 113, .bin .int .eql (.t 112) (.c (.dat (.int .i64 0))), none, false⟩], []⟩
@[simp] def r317_19 : AReg := ⟨[], [], [
    ⟨some 6, .mv (.c (.dat (.bool true))), none, false⟩], []⟩
@[simp] def r317_20 : AReg := ⟨[3, 5], [], [
    ⟨some 115, .ld 5 true (.t 3), none, false⟩,
    ⟨some 116, .ld 17 true (.t 5), none, false⟩,
    ⟨some 117, .call 207 [((.t 115), false), ((.t 116), false)] false, none, false⟩,
    ⟨some 114, .mv (.t 117), none, false⟩,
    ⟨some 118, .ext 0 (.t 114), none, false⟩,
    ⟨some 119, .ext 1 (.t 114), none, false⟩,
    ⟨some 12, .alc [(.dat (.int .i64 0)), (.dat (.int .i64 0)), (.dat (.int .i64 0)), (.dat (.int .i64 0)), (.dat (.int .i64 0)), (.dat (.int .i64 0)), (.dat (.int .i64 0)), (.dat (.int .i64 0))], none, false⟩,
    ⟨none, .st false 8 (.t 12) (.t 118), none, false⟩,
    ⟨some 13, .mv (.t 119), none, false⟩], []⟩
@[simp] def r317_21 : AReg := ⟨[5, 12, 13], [], [
    ⟨some 120, .fAddr 13 (.t 5), none, false⟩,
    ⟨some 121, .ld 1 false (.t 120), none, false⟩,
    ⟨some 122, .bin .int .eql (.t 121) (.c (.dat (.int .i64 1))), none, false⟩,
    ⟨some 123, .mv (.t 122), none, false⟩,
    ⟨some 124, .fAddr 13 (.t 5), some (123, false), false⟩,
    ⟨some 125, .ld 1 false (.t 124), some (123, false), false⟩,
    ⟨some 126, .bin .int .eql (.t 125) (.c (.dat (.int .i64 2))), some (123, false), false⟩,
    ⟨some 127, .pick (.t 123) (.c (.dat (.bool true))) (.t 126), none, false⟩,
    ⟨some 128, .mv (.t 127), none, false⟩,
    ⟨some 129, .mv (.t 13), some (128, true), false⟩,
    ⟨some 130, .pick (.t 128) (.t 129) (.c (.dat (.bool false))), none, false⟩,
    ⟨some 131, .mv (.t 130), none, false⟩,
    ⟨some 132, .fAddr 0 (.t 12), some (131, true), false⟩,
    ⟨some 133, .ld 1 false (.t 132), some (131, true), false⟩,
    ⟨some 134, .bin .int .eql (.t 133) (.c (.dat (.int .i64 18))), some (131, true), false⟩,
    ⟨some 135, .pick (.t 131) (.t 134) (.c (.dat (.bool false))), none, false⟩,
    ⟨some 136, .mv (.t 135), none, false⟩,
    ⟨some 137, .fAddr 16 (.t 5), some (136, true), false⟩,
    ⟨some 138, .ld 1 false (.t 137), some (136, true), false⟩,
    ⟨some 139, .fAddr 5 (.t 12), some (136, true), false⟩,
    ⟨some 140, .ld 1 false (.t 139), some (136, true), false⟩,
    ⟨some 141, .call 336 [((.t 138), false), ((.t 140), false)] true, some (136, true), false⟩,
    ⟨some 142, .un .not (.t 141), some (136, true), false⟩,
    ⟨some 143, .pick (.t 136) (.t 142) (.c (.dat (.bool false))), none, false⟩,
    ⟨some 6, .mv (.t 143), none, false⟩], []⟩
@[simp] def fn317 : AFun := ⟨3, [.t 6], false,
  .seq (.reg r317_0) (.seq (.reg r317_1) (.seq (.seq (.reg r317_2) (.cond (.t 49) (.seq (.reg r317_3) (.ret)) (.skip))) (.seq (.seq (.reg r317_4) (.block 0 (.loop l317_0))) (.seq (.seq (.reg r317_10) (.cond (.t 93) (.seq (.reg r317_11) (.ret)) (.skip))) (.seq (.seq (.reg r317_12) (.block 2 (.loop l317_1))) (.seq (.seq (.reg r317_18) (.cond (.t 113) (.seq (.reg r317_19) (.ret)) (.skip))) (.seq (.reg r317_20) (.seq (.reg r317_21) (.ret))))))))), none⟩

theorem c317 : cFun Tryz.prog ann317 false 317 = some fn317 := by kernel_rfl

/-! 336: modelcheck/intset.Has -/

def ann336 : Ann := [{ id := 0, live := [0, 1] },
  { id := 1, live := [0, 1] }]

@[simp] def r336_0 : AReg := ⟨[0, 1], [], [
    ⟨some 4, .mv (.c (.dat (.bool false))), none, false⟩], []⟩
@[simp] def r336_1 : AReg := ⟨[0, 1], [], [
    ⟨some 5, .mv (.t 0), none, false⟩,
    ⟨some 6, .mv (.t 1), none, false⟩,
    ⟨some 7, .call 97 [((.t 5), false), ((.t 6), false)] true, none, false⟩,
    ⟨some 4, .mv (.t 7), none, false⟩], []⟩
@[simp] def fn336 : AFun := ⟨2, [.t 4], false,
  .seq (.reg r336_0) (.seq (.reg r336_1) (.ret)), none⟩

theorem c336 : cFun Tryz.prog ann336 false 336 = some fn336 := by kernel_rfl

/-! 339: modelcheck/memory.own -/

def ann339 : Ann := [{ id := 0, live := [0, 1, 2, 3, 4] },
  { id := 1, live := [1, 2, 3, 4, 5, 10] },
  { id := 2, live := [1, 2, 3, 4, 5, 10, 12] },
  { id := 3, live := [10, 12] },
  { id := 4, live := [1, 2, 3, 4, 5, 10] },
  { id := 5, live := [10] },
  { id := 6, live := [1, 3, 4, 5, 10] },
  { id := 7, live := [10] },
  { id := 8, live := [1, 4, 5, 10] },
  { id := 9, live := [1, 4, 10, 13] },
  { id := 10, live := [10, 13] }]

@[simp] def r339_0 : AReg := ⟨[0, 1, 2, 3, 4], [], [
    ⟨some 5, .box 4 (.t 0), none, false⟩,
    ⟨some 10, .alc [.nils, .nils, .nils, .nils], none, false⟩,
    ⟨some 11, .mv (.c (.dat (.int .i64 0))), none, false⟩], []⟩
@[simp] def r339_1 : AReg := ⟨[1, 2, 3, 4, 5, 10], [], [
    ⟨some 14, .ld 4 true (.t 5), none, false⟩,
    ⟨some 15, .mv (.t 1), none, false⟩,
    ⟨some 16, .fAddr 1 (.t 5), none, false⟩,
    ⟨some 17, .ld 1 false (.t 16), none, false⟩,
    ⟨some 18, .len false (.t 17), none, false⟩,
    ⟨some 19, .call 264 [((.t 14), false), ((.t 15), false), ((.t 18), false)] true, none, false⟩,
    ⟨some 12, .mv (.t 19), none, false⟩], []⟩
@[simp] def r339_2 : AReg := ⟨[1, 2, 3, 4, 5, 10, 12], [], [
    ⟨some 20, .mv (.t 12), none, false⟩,
    ⟨some 21, .bin .int .neq (.t 20) (.c (.dat (.int .i64 0))), none, false⟩], []⟩
@[simp] def r339_3 : AReg := ⟨[10, 12], [], [
    ⟨some 22, .bld [.nils, .nils, .nils, .nils] [], none, false⟩,
    ⟨some 23, .mv (.t 12), none, false⟩,
    ⟨none, .st false 4 (.t 10) (.t 22), none, false⟩,
    ⟨some 11, .mv (.t 23), none, false⟩], []⟩
@[simp] def r339_4 : AReg := ⟨[1, 2, 3, 4, 5, 10], [], [
    ⟨some 24, .mv (.t 2), none, false⟩,
    ⟨some 25, .bin .int .lss (.t 24) (.c (.dat (.int .i64 0))), none, false⟩], []⟩
@[simp] def r339_5 : AReg := ⟨[10], [], [
    ⟨some 26, .bld [.nils, .nils, .nils, .nils] [], none, false⟩,
    ⟨none, .st false 4 (.t 10) (.t 26), none, false⟩,
    ⟨some 11, .mv (.c (.dat (.int .i64 2))), none, false⟩], []⟩
@[simp] def r339_6 : AReg := ⟨[1, 3, 4, 5, 10], [], [
    ⟨some 27, .fAddr 1 (.t 5), none, false⟩,
    ⟨some 28, .ld 1 false (.t 27), none, false⟩,
    ⟨some 29, .mv (.t 1), none, false⟩,
    ⟨some 30, .iAddr 1 (.t 28) (.t 29), none, false⟩,
    ⟨some 31, .ld 1 false (.t 30), none, false⟩,
    ⟨some 32, .mv (.t 3), none, false⟩,
    ⟨some 33, .bin .int .neq (.t 31) (.t 32), none, false⟩], []⟩
@[simp] def r339_7 : AReg := ⟨[10], [], [
    ⟨some 34, .bld [.nils, .nils, .nils, .nils] [], none, false⟩,
    ⟨none, .st false 4 (.t 10) (.t 34), none, false⟩,
    ⟨some 11, .mv (.c (.dat (.int .i64 30))), none, false⟩], []⟩
@[simp] def r339_8 : AReg := ⟨[1, 4, 5, 10], [], [
    ⟨some 35, .ld 4 true (.t 5), none, false⟩,
    ⟨some 36, .call 254 [((.t 35), false)] false, none, false⟩,
    ⟨some 13, .alc [.nils, .nils, .nils, .nils], none, false⟩,
    ⟨none, .st false 4 (.t 13) (.t 36), none, false⟩], []⟩
@[simp] def r339_9 : AReg := ⟨[1, 4, 10, 13], [], [
    ⟨some 37, .fAddr 1 (.t 13), none, false⟩,
    ⟨some 38, .ld 1 false (.t 37), none, false⟩,
    ⟨some 39, .mv (.t 1), none, false⟩,
    ⟨some 40, .mv (.t 4), none, false⟩,
    ⟨some 41, .iAddr 1 (.t 38) (.t 39), none, false⟩,
    ⟨none, .st false 1 (.t 41) (.t 40), none, false⟩], []⟩
@[simp] def r339_10 : AReg := ⟨[10, 13], [], [
    ⟨some 42, .ld 4 true (.t 13), none, false⟩,
    ⟨none, .st false 4 (.t 10) (.t 42), none, false⟩,
    ⟨some 11, .mv (.c (.dat (.int .i64 0))), none, false⟩], []⟩
@[simp] def fn339 : AFun := ⟨5, [.cell 10 4 true, .t 11], false,
  .seq (.reg r339_0) (.seq (.seq (.reg r339_1) (.seq (.reg r339_2) (.cond (.t 21) (.seq (.reg r339_3) (.ret)) (.skip)))) (.seq (.seq (.reg r339_4) (.cond (.t 25) (.seq (.reg r339_5) (.ret)) (.skip))) (.seq (.seq (.reg r339_6) (.cond (.t 33) (.seq (.reg r339_7) (.ret)) (.skip))) (.seq (.reg r339_8) (.seq (.reg r339_9) (.seq (.reg r339_10) (.ret))))))), none⟩

theorem c339 : cFun Tryz.prog ann339 false 339 = some fn339 := by kernel_rfl

/-! 340: modelcheck/memory.waits -/

def ann340 : Ann := [{ id := 0, live := [0, 1] },
  { id := 1, live := [1, 2] },
  { id := 2, live := [1, 2, 8, 9, 10] },
  { id := 3, live := [1, 2, 8, 9, 10] },
  { id := 4, live := [1, 2, 6, 8, 9, 10] },
  { id := 5, live := [] },
  { id := 6, live := [1, 2, 8, 9, 10] },
  { id := 7, live := [1, 2] }]

@[simp] def r340_0 : AReg := ⟨[0, 1], [], [
    ⟨some 2, .box 4 (.t 0), none, false⟩,
    ⟨some 4, .mv (.c (.dat (.bool false))), none, false⟩], []⟩
@[simp] def r340_1 : AReg := ⟨[1, 2], [], [
    ⟨some 7, .fAddr 2 (.t 2), none, false⟩,
    ⟨some 8, .ld 1 false (.t 7), none, false⟩,
    ⟨some 9, .len false (.t 8), none, false⟩,
    ⟨some 10, .mv (.c (.dat (.int .i64 0))), none, false⟩], []⟩
@[simp] def r340_2 : AReg := ⟨[1, 2, 8, 9, 10], [], [
    ⟨some 11, .bin .int .lss (.t 10) (.t 9), none, false⟩], []⟩
@[simp] def r340_3 : AReg := ⟨[1, 2, 8, 9, 10], [], [
    ⟨some 12, .iAddr 1 (.t 8) (.t 10), none, false⟩,
    ⟨some 13, .ld 1 false (.t 12), none, false⟩,
    ⟨some 6, .mv (.t 13), none, false⟩], []⟩
@[simp] def r340_4 : AReg := ⟨[1, 2, 6, 8, 9, 10], [], [
    ⟨some 14, .mv (.t 6), none, false⟩,
    ⟨some 15, .mv (.t 1), none, false⟩,
    ⟨some 16, .call 97 [((.t 14), false), ((.t 15), false)] true, none, false⟩], []⟩
@[simp] def r340_5 : AReg := ⟨[], [], [
    ⟨some 4, .mv (.c (.dat (.bool true))), none, false⟩], []⟩
@[simp] def r340_6 : AReg := ⟨[1, 2, 8, 9, 10], [], [
    ⟨some 17, .bin .int .add (.t 10) (.c (.dat (.int .i64 1))), none, false⟩,
    ⟨some 10, .mv (.t 17), none, false⟩], []⟩
def l340_0 : AC := .seq (.reg r340_2) (.seq (.cond (.t 11) (.skip) (.exit 0)) (.seq (.block 1 (.seq (.reg r340_3) (.seq (.reg r340_4) (.cond (.t 16) (.seq (.reg r340_5) (.ret)) (.skip))))) (.reg r340_6)))
@[simp] theorem l340_0e (K : Orc) (s : St) : exec K l340_0 s = exec K (.seq (.reg r340_2) (.seq (.cond (.t 11) (.skip) (.exit 0)) (.seq (.block 1 (.seq (.reg r340_3) (.seq (.reg r340_4) (.cond (.t 16) (.seq (.reg r340_5) (.ret)) (.skip))))) (.reg r340_6)))) s := rfl
@[simp] def r340_7 : AReg := ⟨[1, 2], [], [
    ⟨some 18, .fAddr 3 (.t 2), none, false⟩,
    ⟨some 19, .ld 1 false (.t 18), none, false⟩,
    ⟨some 20, .mv (.t 1), none, false⟩,
    ⟨some 21, .call 336 [((.t 19), false), ((.t 20), false)] true, none, false⟩,
    ⟨some 4, .mv (.t 21), none, false⟩], []⟩
@[simp] def fn340 : AFun := ⟨2, [.t 4], false,
  .seq (.reg r340_0) (.seq (.seq (.reg r340_1) (.block 0 (.loop l340_0))) (.seq (.reg r340_7) (.ret))), none⟩

theorem c340 : cFun Tryz.prog ann340 false 340 = some fn340 := by kernel_rfl

/-! 341: modelcheck/memory.wakes -/

def ann341 : Ann := [{ id := 0, live := [0, 1, 2] },
  { id := 1, live := [1, 2, 3, 6] },
  { id := 2, live := [1, 2, 3, 6, 9] },
  { id := 3, live := [6, 9] },
  { id := 4, live := [1, 2, 3, 6] },
  { id := 5, live := [1, 2, 6, 10] },
  { id := 6, live := [1, 2, 6, 10] },
  { id := 7, live := [1, 2, 6, 10, 39, 40, 41], drop := [6, 10, 39] },
  { id := 8, live := [1, 2, 6, 10, 39, 40, 41] },
  { id := 9, live := [1, 2, 6, 10, 12, 39, 40, 41] },
  { id := 10, live := [1, 2, 6, 10, 39, 40, 41] },
  { id := 11, live := [1, 2, 6, 10], marks := [(12, { md := .f })] },
  { id := 12, live := [2, 6, 10] }]

@[simp] def r341_0 : AReg := ⟨[0, 1, 2], [], [
    ⟨some 3, .box 4 (.t 0), none, false⟩,
    ⟨some 6, .alc [.nils, .nils, .nils, .nils], none, false⟩,
    ⟨some 7, .mv (.c (.dat (.int .i64 0))), none, false⟩,
    ⟨some 8, .mv (.c (.dat (.int .i64 0))), none, false⟩], []⟩
@[simp] def r341_1 : AReg := ⟨[1, 2, 3, 6], [], [
    ⟨some 13, .ld 4 true (.t 3), none, false⟩,
    ⟨some 14, .mv (.t 1), none, false⟩,
    ⟨some 15, .fAddr 2 (.t 3), none, false⟩,
    ⟨some 16, .ld 1 false (.t 15), none, false⟩,
    ⟨some 17, .len false (.t 16), none, false⟩,
    ⟨some 18, .call 264 [((.t 13), false), ((.t 14), false), ((.t 17), false)] true, none, false⟩,
    ⟨some 9, .mv (.t 18), none, false⟩], []⟩
@[simp] def r341_2 : AReg := ⟨[1, 2, 3, 6, 9], [], [
    ⟨some 19, .mv (.t 9), none, false⟩,
    ⟨some 20, .bin .int .neq (.t 19) (.c (.dat (.int .i64 0))), none, false⟩], []⟩
@[simp] def r341_3 : AReg := ⟨[6, 9], [], [
    ⟨some 21, .bld [.nils, .nils, .nils, .nils] [], none, false⟩,
    ⟨some 22, .mv (.t 9), none, false⟩,
    ⟨none, .st false 4 (.t 6) (.t 21), none, false⟩,
    ⟨some 7, .mv (.c (.dat (.int .i64 0))), none, false⟩,
    ⟨some 8, .mv (.t 22), none, false⟩], []⟩
@[simp] def r341_4 : AReg := ⟨[1, 2, 3, 6], [], [
    ⟨some 23, .ld 4 true (.t 3), none, false⟩,
    ⟨some 24, .call 254 [((.t 23), false)] false, none, false⟩,
    ⟨some 10, .alc [.nils, .nils, .nils, .nils], none, false⟩,
    ⟨none, .st false 4 (.t 10) (.t 24), none, false⟩], []⟩
@[simp] def r341_5 : AReg := ⟨[1, 2, 6, 10], [], [
    ⟨some 25, .mv (.t 2), none, false⟩,
    ⟨some 26, .fAddr 2 (.t 10), none, false⟩,
    ⟨some 27, .ld 1 false (.t 26), none, false⟩,
    ⟨some 28, .mv (.t 1), none, false⟩,
    ⟨some 29, .iAddr 1 (.t 27) (.t 28), none, false⟩,
    ⟨some 30, .ld 1 false (.t 29), none, false⟩,
    ⟨some 31, .len false (.t 30), none, false⟩,
    ⟨some 32, .mm false (.t 25) [(.t 31)], none, false⟩,
    ⟨some 2, .mv (.t 32), none, false⟩], []⟩
@[simp] def r341_6 : AReg := ⟨[1, 2, 6, 10], [], [
    ⟨some 33, .fAddr 2 (.t 10), none, false⟩,
    ⟨some 34, .ld 1 false (.t 33), none, false⟩,
    ⟨some 35, .mv (.t 1), none, false⟩,
    ⟨some 36, .iAddr 1 (.t 34) (.t 35), none, false⟩,
    ⟨some 37, .ld 1 false (.t 36), none, false⟩,
    ⟨some 38, .mv (.t 2), none, false⟩,
    ⟨some 39, .slc false 1 (.t 37) none (some (.t 38)), none, false⟩,
    ⟨some 40, .len false (.t 39), none, false⟩,
    ⟨some 41, .mv (.c (.dat (.int .i64 0))), none, false⟩], []⟩
@[simp] def r341_7 : AReg := ⟨[1, 2, 6, 10, 39, 40, 41], [6, 10, 39], [
    ⟨some 42, .bin .int .lss (.t 41) (.t 40), none, false⟩], []⟩
@[simp] def r341_8 : AReg := ⟨[1, 2, 6, 10, 39, 40, 41], [], [
    ⟨some 43, .iAddr 1 (.t 39) (.t 41), none, false⟩,
    ⟨some 44, .ld 1 false (.t 43), none, false⟩,
    ⟨some 12, .mv (.t 44), none, false⟩], []⟩
@[simp] def r341_9 : AReg := ⟨[1, 2, 6, 10, 12, 39, 40, 41], [], [
    ⟨some 45, .fAddr 3 (.t 10), none, false⟩,
    ⟨some 46, .ld 1 false (.t 45), none, false⟩,
    ⟨some 47, .mv (.t 12), none, false⟩,
    ⟨some 48, .call 314 [((.t 46), false), ((.t 47), false)] false, none, false⟩,
    ⟨some 49, .fAddr 3 (.t 10), none, false⟩,
    ⟨none, .st false 1 (.t 49) (.t 48), none, false⟩], []⟩
@[simp] def r341_10 : AReg := ⟨[1, 2, 6, 10, 39, 40, 41], [], [
    ⟨some 50, .bin .int .add (.t 41) (.c (.dat (.int .i64 1))), none, false⟩,
    ⟨some 41, .mv (.t 50), none, false⟩], []⟩
def l341_0 : AC := .seq (.reg r341_7) (.seq (.cond (.t 42) (.skip) (.exit 0)) (.seq (.block 1 (.seq (.reg r341_8) (.reg r341_9))) (.reg r341_10)))
@[simp] theorem l341_0e (K : Orc) (s : St) : exec K l341_0 s = exec K (.seq (.reg r341_7) (.seq (.cond (.t 42) (.skip) (.exit 0)) (.seq (.block 1 (.seq (.reg r341_8) (.reg r341_9))) (.reg r341_10)))) s := rfl
@[simp] def r341_11 : AReg := ⟨[1, 2, 6, 10], [], [
    ⟨some 51, .fAddr 2 (.t 10), none, false⟩,
    ⟨some 52, .ld 1 false (.t 51), none, true⟩,
    ⟨some 53, .mv (.t 1), none, false⟩,
    ⟨some 54, .fAddr 2 (.t 10), none, false⟩,
    ⟨some 55, .ld 1 false (.t 54), none, false⟩,
    ⟨some 56, .mv (.t 1), none, false⟩,
    ⟨some 57, .iAddr 1 (.t 55) (.t 56), none, false⟩,
    ⟨some 58, .ld 1 false (.t 57), none, false⟩,
    ⟨some 59, .mv (.t 2), none, false⟩,
    ⟨some 60, .slc false 1 (.t 58) (some (.t 59)) none, none, false⟩,
    ⟨some 61, .call 311 [((.t 60), false)] false, none, true⟩,
    ⟨some 62, .iAddr 1 (.t 52) (.t 53), none, false⟩,
    ⟨none, .st true 1 (.t 62) (.t 61), none, false⟩], [(1, 10)]⟩
@[simp] def r341_12 : AReg := ⟨[2, 6, 10], [], [
    ⟨some 63, .ld 4 true (.t 10), none, false⟩,
    ⟨some 64, .mv (.t 2), none, false⟩,
    ⟨none, .st false 4 (.t 6) (.t 63), none, false⟩,
    ⟨some 7, .mv (.t 64), none, false⟩,
    ⟨some 8, .mv (.c (.dat (.int .i64 0))), none, false⟩], []⟩
@[simp] def fn341 : AFun := ⟨3, [.cell 6 4 true, .t 7, .t 8], false,
  .seq (.reg r341_0) (.seq (.seq (.reg r341_1) (.seq (.reg r341_2) (.cond (.t 20) (.seq (.reg r341_3) (.ret)) (.skip)))) (.seq (.reg r341_4) (.seq (.reg r341_5) (.seq (.seq (.reg r341_6) (.block 0 (.loop l341_0))) (.seq (.reg r341_11) (.seq (.reg r341_12) (.ret))))))), none⟩

theorem c341 : cFun Tryz.prog ann341 false 341 = some fn341 := by kernel_rfl

/-! 342: modelcheck/intset.sorted[int] -/

def ann342 : Ann := [{ id := 0, live := [0] },
  { id := 1, live := [0] },
  { id := 2, live := [3], marks := [(1, { byRef := [0] })] },
  { id := 3, live := [3], marks := [(1, { byRef := [0] })] }]

@[simp] def r342_0 : AReg := ⟨[0], [], [
    ⟨some 2, .mv (.c .nils), none, false⟩], []⟩
@[simp] def r342_1 : AReg := ⟨[0], [], [
    ⟨some 4, .mv (.t 0), none, false⟩,
    ⟨some 5, .call 226 [((.t 4), false)] false, none, false⟩,
    ⟨some 3, .mv (.t 5), none, false⟩], []⟩
@[simp] def r342_2 : AReg := ⟨[3], [], [
    ⟨some 6, .mv (.t 3), none, false⟩,
    ⟨some 7, .call 143 [((.t 6), true)] true, none, false⟩], []⟩
@[simp] def r342_3 : AReg := ⟨[3], [], [
    ⟨some 8, .mv (.t 3), none, false⟩,
    ⟨some 9, .call 361 [((.t 8), true)] false, none, false⟩,
    ⟨some 2, .mv (.t 9), none, false⟩], []⟩
@[simp] def fn342 : AFun := ⟨1, [.t 2], true,
  .seq (.reg r342_0) (.seq (.reg r342_1) (.seq (.reg r342_2) (.seq (.reg r342_3) (.ret)))), none⟩

theorem c342 : cFun Tryz.prog ann342 true 342 = some fn342 := by kernel_rfl

/-! 343: modelcheck/intset.filter[int] -/

def ann343 : Ann := [{ id := 0, live := [0, 1, 2] },
  { id := 1, live := [0, 1, 2], marks := [(0, { md := .o })] },
  { id := 2, live := [0, 1, 2, 7] },
  { id := 3, live := [1, 2, 7, 11, 12, 13], drop := [1, 7, 11] },
  { id := 4, live := [1, 2, 7, 11, 12, 13] },
  { id := 5, live := [1, 2, 7, 9, 11, 12, 13] },
  { id := 6, live := [1, 2, 7, 9, 11, 12, 13], marks := [(3, { md := .o })] },
  { id := 7, live := [1, 2, 7, 11, 12, 13] },
  { id := 8, live := [7] }]

@[simp] def r343_0 : AReg := ⟨[0, 1, 2], [], [
    ⟨some 6, .mv (.c .nils), none, false⟩], []⟩
@[simp] def r343_1 : AReg := ⟨[0, 1, 2], [], [
    ⟨some 7, .mvNil .o 1, none, false⟩], []⟩
@[simp] def r343_2 : AReg := ⟨[0, 1, 2, 7], [], [
    ⟨some 10, .mv (.t 0), none, false⟩,
    ⟨some 11, .call 342 [((.t 10), false)] false, none, false⟩,
    ⟨some 12, .len false (.t 11), none, false⟩,
    ⟨some 13, .mv (.c (.dat (.int .i64 0))), none, false⟩], []⟩
@[simp] def r343_3 : AReg := ⟨[1, 2, 7, 11, 12, 13], [1, 7, 11], [
    ⟨some 14, .bin .int .lss (.t 13) (.t 12), none, false⟩], []⟩
@[simp] def r343_4 : AReg := ⟨[1, 2, 7, 11, 12, 13], [], [
    ⟨some 15, .iAddr 1 (.t 11) (.t 13), none, false⟩,
    ⟨some 16, .ld 1 false (.t 15), none, false⟩,
    ⟨some 9, .mv (.t 16), none, false⟩], []⟩
@[simp] def r343_5 : AReg := ⟨[1, 2, 7, 9, 11, 12, 13], [], [
    ⟨some 17, .mv (.t 1), none, false⟩,
    ⟨some 18, .mv (.t 9), none, false⟩,
    ⟨some 19, .call 97 [((.t 17), false), ((.t 18), false)] true, none, false⟩,
    ⟨some 20, .mv (.t 2), none, false⟩,
    ⟨some 21, .bin .bool .eql (.t 19) (.t 20), none, false⟩], []⟩
@[simp] def r343_6 : AReg := ⟨[1, 2, 7, 9, 11, 12, 13], [], [
    ⟨some 22, .mv (.t 7), none, false⟩,
    ⟨some 23, .mv (.t 9), none, false⟩,
    ⟨some 24, .bldS .d 1 [(.t 23)], none, false⟩,
    ⟨some 25, .app .o 1 8 (.t 22) (.t 24), none, false⟩,
    ⟨some 7, .mv (.t 25), none, false⟩], []⟩
@[simp] def r343_7 : AReg := ⟨[1, 2, 7, 11, 12, 13], [], [
    ⟨some 26, .bin .int .add (.t 13) (.c (.dat (.int .i64 1))), none, false⟩,
    ⟨some 13, .mv (.t 26), none, false⟩], []⟩
def l343_0 : AC := .seq (.reg r343_3) (.seq (.cond (.t 14) (.skip) (.exit 0)) (.seq (.block 1 (.seq (.reg r343_4) (.seq (.reg r343_5) (.cond (.t 21) (.reg r343_6) (.skip))))) (.reg r343_7)))
@[simp] theorem l343_0e (K : Orc) (s : St) : exec K l343_0 s = exec K (.seq (.reg r343_3) (.seq (.cond (.t 14) (.skip) (.exit 0)) (.seq (.block 1 (.seq (.reg r343_4) (.seq (.reg r343_5) (.cond (.t 21) (.reg r343_6) (.skip))))) (.reg r343_7)))) s := rfl
@[simp] def r343_8 : AReg := ⟨[7], [], [
    ⟨some 27, .mv (.t 7), none, false⟩,
    ⟨some 6, .mv (.t 27), none, false⟩], []⟩
@[simp] def fn343 : AFun := ⟨3, [.t 6], false,
  .seq (.reg r343_0) (.seq (.reg r343_1) (.seq (.seq (.reg r343_2) (.block 0 (.loop l343_0))) (.seq (.reg r343_8) (.ret)))), none⟩

theorem c343 : cFun Tryz.prog ann343 false 343 = some fn343 := by kernel_rfl

/-! 361: slices.Compact[[]int,int] -/

def ann361 : Ann := [{ id := 0, live := [0] },
  { id := 1, live := [0] },
  { id := 2, live := [0] },
  { id := 3, live := [0] },
  { id := 4, live := [0, 3] },
  { id := 6, live := [0, 3] },
  { id := 7, live := [0, 3] },
  { id := 8, live := [0, 3, 4] },
  { id := 9, live := [0, 3, 4, 5] },
  { id := 11, live := [0, 3, 4, 5] },
  { id := 12, live := [0, 3, 4, 5] },
  { id := 13, live := [0, 3, 4, 5] },
  { id := 10, live := [0, 3, 4, 5] },
  { id := 14, live := [0, 3] },
  { id := 15, live := [0, 3] },
  { id := 5, live := [0, 3] },
  { id := 16, live := [0] }]

@[simp] def r361_0 : AReg := ⟨[0], [], [
    ⟨some 2, .mv (.c .nils), none, false⟩], []⟩
@[simp] def r361_1 : AReg := ⟨[0], [], [
    ⟨some 6, .mv (.t 0), none, false⟩,
    ⟨some 7, .len false (.t 6), none, false⟩,
    ⟨some 8, .bin .int .lss (.t 7) (.c (.dat (.int .i64 2))), none, false⟩], []⟩
@[simp] def r361_2 : AReg := ⟨[0], [], [
    ⟨some 9, .mv (.t 0), none, false⟩,
    ⟨some 2, .mv (.t 9), none, false⟩], []⟩
@[simp] def r361_3 : AReg := ⟨[0], [], [
    ⟨some 3, .mv (.c (.dat (.int .i64 1))), none, false⟩], []⟩
@[simp] def r361_4 : AReg := ⟨[0, 3], [], [
    ⟨some 10, .mv (.t 3), none, false⟩,
    ⟨some 11, .mv (.t 0), none, false⟩,
    ⟨some 12, .len false (.t 11), none, false⟩,
    ⟨some 13, .bin .int .lss (.t 10) (.t 12), none, false⟩], []⟩
@[simp] def r361_5 : AReg := ⟨[0, 3], [], [
    ⟨some 16, .mv (.t 0), none, false⟩,
    ⟨some 17, .mv (.t 3), none, false⟩,
    ⟨some 18, .iAddr 1 (.t 16) (.t 17), none, false⟩,
    ⟨some 19, .ld 1 false (.t 18), none, false⟩,
    ⟨some 20, .mv (.t 0), none, false⟩,
    ⟨some 21, .mv (.t 3), none, false⟩,
    ⟨some 22, .bin .int .sub (.t 21) (.c (.dat (.int .i64 1))), none, false⟩,
    ⟨some 23, .iAddr 1 (.t 20) (.t 22), none, false⟩,
    ⟨some 24, .ld 1 false (.t 23), none, false⟩,
    ⟨some 25, .bin .int .eql (.t 19) (.t 24), none, false⟩], []⟩
@[simp] def r361_6 : AReg := ⟨[0, 3], [], [
    ⟨some 26, .mv (.t 0), none, false⟩,
    ⟨some 27, .mv (.t 3), none, false⟩,
    ⟨some 28, .slc false 1 (.t 26) (some (.t 27)) none, none, false⟩,
    ⟨some 4, .mv (.t 28), none, false⟩], []⟩
@[simp] def r361_7 : AReg := ⟨[0, 3, 4], [], [
    ⟨some 5, .mv (.c (.dat (.int .i64 1))), none, false⟩], []⟩
@[simp] def r361_8 : AReg := ⟨[0, 3, 4, 5], [], [
    ⟨some 29, .mv (.t 5), none, false⟩,
    ⟨some 30, .mv (.t 4), none, false⟩,
    ⟨some 31, .len false (.t 30), none, false⟩,
    ⟨some 32, .bin .int .lss (.t 29) (.t 31), none, false⟩], []⟩
@[simp] def r361_9 : AReg := ⟨[0, 3, 4, 5], [], [
    ⟨some 35, .mv (.t 4), none, false⟩,
    ⟨some 36, .mv (.t 5), none, false⟩,
    ⟨some 37, .iAddr 1 (.t 35) (.t 36), none, false⟩,
    ⟨some 38, .ld 1 false (.t 37), none, false⟩,
    ⟨some 39, .mv (.t 4), none, false⟩,
    ⟨some 40, .mv (.t 5), none, false⟩,
    ⟨some 41, .bin .int .sub (.t 40) (.c (.dat (.int .i64 1))), none, false⟩,
    ⟨some 42, .iAddr 1 (.t 39) (.t 41), none, false⟩,
    ⟨some 43, .ld 1 false (.t 42), none, false⟩,
    ⟨some 44, .bin .int .neq (.t 38) (.t 43), none, false⟩], []⟩
@[simp] def r361_10 : AReg := ⟨[0, 3, 4, 5], [], [
    ⟨some 45, .mv (.t 0), none, false⟩,
    ⟨some 46, .mv (.t 3), none, false⟩,
    ⟨some 47, .mv (.t 4), none, false⟩,
    ⟨some 48, .mv (.t 5), none, false⟩,
    ⟨some 49, .iAddr 1 (.t 47) (.t 48), none, false⟩,
    ⟨some 50, .ld 1 false (.t 49), none, false⟩,
    ⟨some 51, .iAddr 1 (.t 45) (.t 46), none, false⟩,
    ⟨none, .st false 1 (.t 51) (.t 50), none, false⟩], []⟩
@[simp] def r361_11 : AReg := ⟨[0, 3, 4, 5], [], [
    ⟨some 52, .mv (.t 3), none, false⟩,
    ⟨some 53, .bin .int .add (.t 52) (.c (.dat (.int .i64 1))), none, false⟩,
    ⟨some 3, .mv (.t 53), none, false⟩], []⟩
@[simp] def r361_12 : AReg := ⟨[0, 3, 4, 5], [], [
    ⟨some 33, .mv (.t 5), none, false⟩,
    ⟨some 34, .bin .int .add (.t 33) (.c (.dat (.int .i64 1))), none, false⟩,
    ⟨some 5, .mv (.t 34), none, false⟩], []⟩
def l361_0 : AC := .seq (.seq (.reg r361_8) (.cond (.t 32) (.skip) (.exit 2))) (.seq (.block 3 (.seq (.reg r361_9) (.cond (.t 44) (.seq (.reg r361_10) (.reg r361_11)) (.skip)))) (.reg r361_12))
@[simp] theorem l361_0e (K : Orc) (s : St) : exec K l361_0 s = exec K (.seq (.seq (.reg r361_8) (.cond (.t 32) (.skip) (.exit 2))) (.seq (.block 3 (.seq (.reg r361_9) (.cond (.t 44) (.seq (.reg r361_10) (.reg r361_11)) (.skip)))) (.reg r361_12))) s := rfl
@[simp] def r361_13 : AReg := ⟨[0, 3], [], [
    ⟨some 54, .mv (.t 0), none, false⟩,
    ⟨some 55, .mv (.t 3), none, false⟩,
    ⟨some 56, .slc false 1 (.t 54) (some (.t 55)) none, none, false⟩,
    ⟨none, .clr [(.dat (.int .i64 0))] (.t 56), none, false⟩], []⟩
@[simp] def r361_14 : AReg := ⟨[0, 3], [], [
    ⟨some 57, .mv (.t 0), none, false⟩,
    ⟨some 58, .mv (.t 3), none, false⟩,
    ⟨some 59, .slc false 1 (.t 57) none (some (.t 58)), none, false⟩,
    ⟨some 2, .mv (.t 59), none, false⟩], []⟩
@[simp] def r361_15 : AReg := ⟨[0, 3], [], [
    ⟨some 14, .mv (.t 3), none, false⟩,
    ⟨some 15, .bin .int .add (.t 14) (.c (.dat (.int .i64 1))), none, false⟩,
    ⟨some 3, .mv (.t 15), none, false⟩], []⟩
def l361_1 : AC := .seq (.seq (.reg r361_4) (.cond (.t 13) (.skip) (.exit 0))) (.seq (.block 1 (.seq (.reg r361_5) (.cond (.t 25) (.seq (.reg r361_6) (.seq (.seq (.reg r361_7) (.block 2 (.loop l361_0))) (.seq (.reg r361_13) (.seq (.reg r361_14) (.ret))))) (.skip)))) (.reg r361_15))
@[simp] theorem l361_1e (K : Orc) (s : St) : exec K l361_1 s = exec K (.seq (.seq (.reg r361_4) (.cond (.t 13) (.skip) (.exit 0))) (.seq (.block 1 (.seq (.reg r361_5) (.cond (.t 25) (.seq (.reg r361_6) (.seq (.seq (.reg r361_7) (.block 2 (.loop l361_0))) (.seq (.reg r361_13) (.seq (.reg r361_14) (.ret))))) (.skip)))) (.reg r361_15))) s := rfl
@[simp] def r361_16 : AReg := ⟨[0], [], [
    ⟨some 60, .mv (.t 0), none, false⟩,
    ⟨some 2, .mv (.t 60), none, false⟩], []⟩
@[simp] def fn361 : AFun := ⟨1, [.t 2], true,
  .seq (.reg r361_0) (.seq (.seq (.reg r361_1) (.cond (.t 8) (.seq (.reg r361_2) (.ret)) (.skip))) (.seq (.seq (.reg r361_3) (.block 0 (.loop l361_1))) (.seq (.reg r361_16) (.ret)))), none⟩

theorem c361 : cFun Tryz.prog ann361 true 361 = some fn361 := by kernel_rfl


end Go.Am
