/- Parts of the proofs of the statement, joined: VCode2. -/
import Derived.Test.YtkogmedfilgneaaGreatDoorP2

namespace Go.Am
open Go.Proofs

/-! 91: (modelcheck/exec.runner).run -/

def ann91 : Ann := [{ id := 0, live := [0, 1] },
  { id := 1, live := [1, 2, 4, 5] },
  { id := 2, live := [1, 2, 4, 5, 6, 7] },
  { id := 3, live := [4, 5, 7] },
  { id := 4, live := [1, 2, 4, 5, 6] },
  { id := 5, live := [4, 5] },
  { id := 6, live := [1, 2, 4, 5, 6] },
  { id := 7, live := [1, 2, 4, 5, 6, 8] },
  { id := 8, live := [4, 5, 8, 29] },
  { id := 9, live := [4, 5, 8, 9] },
  { id := 10, live := [4, 5, 9] },
  { id := 11, live := [8, 9], marks := [(5, { md := .o })] },
  { id := 12, live := [8, 9] },
  { id := 13, live := [4, 5, 8] },
  { id := 1000000, live := [4, 5, 8], drop := [91] }]

@[simp] def r91_0 : AReg := ⟨[0, 1], [], [
    ⟨some 2, .box 7 (.t 0), none, false⟩,
    ⟨some 4, .alc [.nils, .nils, .nils, .nils, .nils, .nils, .nils], none, false⟩,
    ⟨some 5, .alc [(.dat (.int .i64 0))], none, false⟩], []⟩
@[simp] def r91_1 : AReg := ⟨[1, 2, 4, 5], [], [
    ⟨some 11, .ld 7 true (.t 2), none, false⟩,
    ⟨some 12, .call 138 [((.t 11), false)] false, none, false⟩,
    ⟨some 10, .mv (.t 12), none, false⟩,
    ⟨some 13, .ext 0 (.t 10), none, false⟩,
    ⟨some 14, .ext 1 (.t 10), none, false⟩,
    ⟨some 6, .alc [.nils, .nils, .nils, .nils, .nils, .nils], none, false⟩,
    ⟨none, .st false 6 (.t 6) (.t 13), none, false⟩,
    ⟨some 7, .mv (.t 14), none, false⟩], []⟩
@[simp] def r91_2 : AReg := ⟨[1, 2, 4, 5, 6, 7], [], [
    ⟨some 15, .mv (.t 7), none, false⟩,
    ⟨some 16, .bin .int .neq (.t 15) (.c (.dat (.int .i64 0))), none, false⟩], []⟩
@[simp] def r91_3 : AReg := ⟨[4, 5, 7], [], [
    ⟨some 17, .bld [.nils, .nils, .nils, .nils, .nils, .nils, .nils] [], none, false⟩,
    ⟨some 18, .mv (.t 7), none, false⟩,
    ⟨none, .st false 7 (.t 4) (.t 17), none, false⟩,
    ⟨none, .st false 1 (.t 5) (.t 18), none, false⟩], []⟩
@[simp] def r91_4 : AReg := ⟨[1, 2, 4, 5, 6], [], [
    ⟨some 19, .mv (.t 1), none, false⟩,
    ⟨some 20, .len false (.t 19), none, false⟩,
    ⟨some 21, .bin .int .gtr (.t 20) (.c (.dat (.int .i64 512))), none, false⟩], []⟩
@[simp] def r91_5 : AReg := ⟨[4, 5], [], [
    ⟨some 22, .bld [.nils, .nils, .nils, .nils, .nils, .nils, .nils] [], none, false⟩,
    ⟨none, .st false 7 (.t 4) (.t 22), none, false⟩,
    ⟨none, .st false 1 (.t 5) (.c (.dat (.int .i64 4))), none, false⟩], []⟩
@[simp] def r91_6 : AReg := ⟨[1, 2, 4, 5, 6], [], [
    ⟨some 23, .ld 6 true (.t 6), none, false⟩,
    ⟨some 24, .bld [.nils, .nils, .nils, .nils, .nils, .nils, .nils] [(1, 6, (.t 23))], none, false⟩,
    ⟨some 8, .alc [.nils, .nils, .nils, .nils, .nils, .nils, .nils], none, false⟩,
    ⟨none, .st false 7 (.t 8) (.t 24), none, false⟩], []⟩
@[simp] def r91_7 : AReg := ⟨[1, 2, 4, 5, 6, 8], [], [
    ⟨some 25, .ld 7 true (.t 2), none, false⟩,
    ⟨some 26, .ld 6 true (.t 6), none, false⟩,
    ⟨some 27, .mv (.t 1), none, false⟩,
    ⟨some 28, .call 139 [((.t 25), false), ((.t 26), false), ((.t 27), false)] false, none, false⟩], []⟩
@[simp] def r91_8 : AReg := ⟨[4, 5, 8], [], [
    ⟨some 46, .ld 7 true (.t 8), none, false⟩,
    ⟨none, .st false 7 (.t 4) (.t 46), none, false⟩,
    ⟨none, .st false 1 (.t 5) (.c (.dat (.int .i64 0))), none, false⟩], []⟩
@[simp] def fn91 : AFun := ⟨2, [.cell 4 7 true, .cell 5 1 false], false,
  .seq (.reg r91_0) (.seq (.reg r91_1) (.seq (.seq (.reg r91_2) (.cond (.t 16) (.seq (.reg r91_3) (.ret)) (.skip))) (.seq (.seq (.reg r91_4) (.cond (.t 21) (.seq (.reg r91_5) (.ret)) (.skip))) (.seq (.reg r91_6) (.seq (.seq (.reg r91_7) (.block 0 (.rf (.t 28) 91 47 [4, 5, 8]))) (.seq (.reg r91_8) (.ret))))))), none⟩

theorem c91 : cFun Tryz.prog ann91 false 91 = some fn91 := by kernel_rfl

@[simp] def r91_500 : AReg := ⟨[4, 5, 8, 29], [], [
    ⟨some 9, .alc [.nils, .nils, .nils, .nils, .nils, .nils, (.dat (.int .i64 0)), (.dat (.int .i64 0)), (.dat (.int .i64 0)), (.dat (.int .i64 0)), (.dat (.int .i64 0)), (.dat (.int .i64 0)), (.dat (.int .i64 0)), (.dat (.int .i64 0)), (.dat (.int .i64 0)), (.dat (.int .i64 0))], none, false⟩,
    ⟨none, .st false 16 (.t 9) (.t 29), none, false⟩], []⟩
@[simp] def r91_501 : AReg := ⟨[4, 5, 8, 9], [], [
    ⟨some 30, .fAddr 15 (.t 9), none, false⟩,
    ⟨some 31, .ld 1 false (.t 30), none, false⟩,
    ⟨some 32, .bin .int .neq (.t 31) (.c (.dat (.int .i64 0))), none, false⟩], []⟩
@[simp] def r91_502 : AReg := ⟨[4, 5, 9], [], [
    ⟨some 33, .bld [.nils, .nils, .nils, .nils, .nils, .nils, .nils] [], none, false⟩,
    ⟨some 34, .fAddr 15 (.t 9), none, false⟩,
    ⟨some 35, .ld 1 false (.t 34), none, true⟩,
    ⟨none, .st false 7 (.t 4) (.t 33), none, true⟩,
    ⟨none, .st false 1 (.t 5) (.t 35), none, false⟩], [(2, 3)]⟩
@[simp] def r91_503 : AReg := ⟨[8, 9], [], [
    ⟨some 36, .fAddr 0 (.t 8), none, false⟩,
    ⟨some 37, .ld 1 false (.t 36), none, false⟩,
    ⟨some 38, .fAddr 6 (.t 9), none, false⟩,
    ⟨some 39, .ld 9 true (.t 38), none, false⟩,
    ⟨some 40, .bldS .d 9 [(.t 39)], none, false⟩,
    ⟨some 41, .app .o 9 72 (.t 37) (.t 40), none, false⟩,
    ⟨some 42, .fAddr 0 (.t 8), none, false⟩,
    ⟨none, .st false 1 (.t 42) (.t 41), none, false⟩], []⟩
@[simp] def r91_504 : AReg := ⟨[8, 9], [], [
    ⟨some 43, .fAddr 0 (.t 9), none, false⟩,
    ⟨some 44, .ld 6 true (.t 43), none, false⟩,
    ⟨some 45, .fAddr 1 (.t 8), none, false⟩,
    ⟨none, .st false 6 (.t 45) (.t 44), none, false⟩], []⟩
@[simp] def lp91 : ALoop := ⟨[29],
  .reg r91_500,
  .block 1 (.seq (.seq (.reg r91_501) (.cond (.t 32) (.seq (.reg r91_502) (.ret)) (.skip))) (.seq (.reg r91_503) (.reg r91_504)))⟩

theorem cl91 : cLoop Tryz.prog ann91 91 = some lp91 := by kernel_rfl

/-! 92: (modelcheck/exec.runner).enabled -/

def ann92 : Ann := [{ id := 0, live := [0, 1] },
  { id := 1, live := [2, 3] },
  { id := 2, live := [2, 3] },
  { id := 3, live := [2, 3] }]

@[simp] def r92_0 : AReg := ⟨[0, 1], [], [
    ⟨some 2, .box 7 (.t 0), none, false⟩,
    ⟨some 3, .box 6 (.t 1), none, false⟩,
    ⟨some 4, .mv (.c .nils), none, false⟩], []⟩
@[simp] def r92_1 : AReg := ⟨[2, 3], [], [
    ⟨some 5, .fAddr 5 (.t 2), none, false⟩,
    ⟨some 6, .fAddr 0 (.t 5), none, false⟩,
    ⟨some 7, .ld 1 false (.t 6), none, false⟩,
    ⟨some 8, .bin .int .eql (.t 7) (.c (.dat (.int .i64 2))), none, false⟩], []⟩
@[simp] def r92_2 : AReg := ⟨[2, 3], [], [
    ⟨some 9, .fAddr 0 (.t 2), none, false⟩,
    ⟨some 10, .ld 5 true (.t 9), none, false⟩,
    ⟨some 11, .ld 6 true (.t 3), none, false⟩,
    ⟨some 12, .call 140 [((.t 10), false), ((.t 11), false)] false, none, false⟩,
    ⟨some 4, .mv (.t 12), none, false⟩], []⟩
@[simp] def r92_3 : AReg := ⟨[2, 3], [], [
    ⟨some 13, .fAddr 0 (.t 2), none, false⟩,
    ⟨some 14, .ld 5 true (.t 13), none, false⟩,
    ⟨some 15, .ld 6 true (.t 3), none, false⟩,
    ⟨some 16, .call 141 [((.t 14), false), ((.t 15), false)] false, none, false⟩,
    ⟨some 4, .mv (.t 16), none, false⟩], []⟩
@[simp] def fn92 : AFun := ⟨2, [.t 4], true,
  .seq (.reg r92_0) (.seq (.seq (.reg r92_1) (.cond (.t 8) (.seq (.reg r92_2) (.ret)) (.skip))) (.seq (.reg r92_3) (.ret))), none⟩

theorem c92 : cFun Tryz.prog ann92 true 92 = some fn92 := by kernel_rfl

/-! 93: modelcheck/verdict.classify$1 -/

def ann93 : Ann := [{ id := 0, live := [0] },
  { id := 1, live := [1] }]

@[simp] def r93_0 : AReg := ⟨[0], [], [
    ⟨some 1, .box 1 (.t 0), none, false⟩,
    ⟨some 2, .mv (.c .junk), none, false⟩], []⟩
@[simp] def r93_1 : AReg := ⟨[1], [], [
    ⟨some 3, .mkf 94 [(.t 1)], none, false⟩,
    ⟨some 2, .mv (.t 3), none, false⟩], []⟩
@[simp] def fn93 : AFun := ⟨1, [.t 2], false,
  .seq (.reg r93_0) (.seq (.reg r93_1) (.ret)), none⟩

theorem c93 : cFun Tryz.prog ann93 false 93 = some fn93 := by kernel_rfl

/-! 94: modelcheck/verdict.classify$1$1 -/

def ann94 : Ann := [{ id := 0, live := [0, 1] },
  { id := 1, live := [1, 2] }]

@[simp] def r94_0 : AReg := ⟨[0, 1], [], [
    ⟨some 2, .box 17 (.t 0), none, false⟩,
    ⟨some 3, .mv (.c (.dat (.bool false))), none, false⟩], []⟩
@[simp] def r94_1 : AReg := ⟨[1, 2], [], [
    ⟨some 4, .fAddr 14 (.t 2), none, false⟩,
    ⟨some 5, .ld 1 false (.t 4), none, false⟩,
    ⟨some 6, .ld 1 false (.t 1), none, false⟩,
    ⟨some 7, .bin .int .eql (.t 5) (.t 6), none, false⟩,
    ⟨some 3, .mv (.t 7), none, false⟩], []⟩
@[simp] def fn94 : AFun := ⟨2, [.t 3], false,
  .seq (.reg r94_0) (.seq (.reg r94_1) (.ret)), none⟩

theorem c94 : cFun Tryz.prog ann94 false 94 = some fn94 := by kernel_rfl

/-! 95: modelcheck/verdict.chosen[modelcheck/api.Thread] -/

def ann95 : Ann := [{ id := 0, live := [0, 1] },
  { id := 1, live := [0, 1], marks := [(0, { md := .o })] },
  { id := 2, live := [0, 1, 5] },
  { id := 3, live := [1, 5, 8, 9, 10], drop := [1, 5, 8] },
  { id := 4, live := [1, 5, 8, 9, 10] },
  { id := 5, live := [1, 5, 7, 8, 9, 10] },
  { id := 6, live := [1, 5, 7, 8, 9, 10], marks := [(3, { md := .o })] },
  { id := 7, live := [1, 5, 8, 9, 10] },
  { id := 8, live := [5] }]

@[simp] def r95_0 : AReg := ⟨[0, 1], [], [
    ⟨some 4, .mv (.c .nils), none, false⟩], []⟩
@[simp] def r95_1 : AReg := ⟨[0, 1], [], [
    ⟨some 5, .mvNil .o 17, none, false⟩], []⟩
@[simp] def r95_2 : AReg := ⟨[0, 1, 5], [], [
    ⟨some 8, .mv (.t 0), none, false⟩,
    ⟨some 9, .len false (.t 8), none, false⟩,
    ⟨some 10, .mv (.c (.dat (.int .i64 0))), none, false⟩], []⟩
@[simp] def r95_3 : AReg := ⟨[1, 5, 8, 9, 10], [1, 5, 8], [
    ⟨some 11, .bin .int .lss (.t 10) (.t 9), none, false⟩], []⟩
@[simp] def r95_4 : AReg := ⟨[1, 5, 8, 9, 10], [], [
    ⟨some 12, .iAddr 17 (.t 8) (.t 10), none, false⟩,
    ⟨some 13, .ld 17 true (.t 12), none, false⟩,
    ⟨some 7, .alc [(.dat (.int .i64 0)), (.dat (.int .i64 0)), (.dat (.int .i64 0)), (.dat (.int .i64 0)), (.dat (.int .i64 0)), (.dat (.int .i64 0)), (.dat (.int .i64 0)), (.dat (.int .i64 0)), (.dat (.int .i64 0)), (.dat (.int .i64 0)), (.dat (.int .i64 0)), (.dat (.int .i64 0)), (.dat (.int .i64 0)), (.dat (.int .i64 0)), (.dat (.int .i64 0)), (.dat (.int .i64 0)), .nils], none, false⟩,
    ⟨none, .st false 17 (.t 7) (.t 13), none, false⟩], []⟩
@[simp] def r95_5 : AReg := ⟨[1, 5, 7, 8, 9, 10], [], [
    ⟨some 14, .mv (.t 1), none, false⟩,
    ⟨some 15, .ld 17 true (.t 7), none, false⟩,
    ⟨some 16, .callV (.t 14) [((.t 15), false)] true, none, false⟩], []⟩
@[simp] def r95_6 : AReg := ⟨[1, 5, 7, 8, 9, 10], [], [
    ⟨some 17, .mv (.t 5), none, false⟩,
    ⟨some 18, .ld 17 true (.t 7), none, false⟩,
    ⟨some 19, .bldS .d 17 [(.t 18)], none, false⟩,
    ⟨some 20, .app .o 17 152 (.t 17) (.t 19), none, false⟩,
    ⟨some 5, .mv (.t 20), none, false⟩], []⟩
@[simp] def r95_7 : AReg := ⟨[1, 5, 8, 9, 10], [], [
    ⟨some 21, .bin .int .add (.t 10) (.c (.dat (.int .i64 1))), none, false⟩,
    ⟨some 10, .mv (.t 21), none, false⟩], []⟩
def l95_0 : AC := .seq (.reg r95_3) (.seq (.cond (.t 11) (.skip) (.exit 0)) (.seq (.block 1 (.seq (.reg r95_4) (.seq (.reg r95_5) (.cond (.t 16) (.reg r95_6) (.skip))))) (.reg r95_7)))
@[simp] theorem l95_0e (K : Orc) (s : St) : exec K l95_0 s = exec K (.seq (.reg r95_3) (.seq (.cond (.t 11) (.skip) (.exit 0)) (.seq (.block 1 (.seq (.reg r95_4) (.seq (.reg r95_5) (.cond (.t 16) (.reg r95_6) (.skip))))) (.reg r95_7)))) s := rfl
@[simp] def r95_8 : AReg := ⟨[5], [], [
    ⟨some 22, .mv (.t 5), none, false⟩,
    ⟨some 4, .mv (.t 22), none, false⟩], []⟩
@[simp] def fn95 : AFun := ⟨2, [.t 4], false,
  .seq (.reg r95_0) (.seq (.reg r95_1) (.seq (.seq (.reg r95_2) (.block 0 (.loop l95_0))) (.seq (.reg r95_8) (.ret)))), none⟩

theorem c95 : cFun Tryz.prog ann95 false 95 = some fn95 := by kernel_rfl

/-! 96: modelcheck/verdict.classify$2 -/

def ann96 : Ann := [{ id := 0, live := [0, 1] },
  { id := 1, live := [1, 2] }]

@[simp] def r96_0 : AReg := ⟨[0, 1], [], [
    ⟨some 2, .box 17 (.t 0), none, false⟩,
    ⟨some 3, .mv (.c (.dat (.bool false))), none, false⟩], []⟩
@[simp] def r96_1 : AReg := ⟨[1, 2], [], [
    ⟨some 4, .fAddr 13 (.t 2), none, false⟩,
    ⟨some 5, .ld 1 false (.t 4), none, false⟩,
    ⟨some 6, .bin .int .eql (.t 5) (.c (.dat (.int .i64 1))), none, false⟩,
    ⟨some 7, .mv (.t 6), none, false⟩,
    ⟨some 8, .fAddr 3 (.t 1), some (7, true), false⟩,
    ⟨some 9, .ld 1 false (.t 8), some (7, true), false⟩,
    ⟨some 10, .fAddr 0 (.t 2), some (7, true), false⟩,
    ⟨some 11, .ld 1 false (.t 10), some (7, true), false⟩,
    ⟨some 12, .call 97 [((.t 9), false), ((.t 11), false)] true, some (7, true), false⟩,
    ⟨some 13, .un .not (.t 12), some (7, true), false⟩,
    ⟨some 14, .pick (.t 7) (.t 13) (.c (.dat (.bool false))), none, false⟩,
    ⟨some 3, .mv (.t 14), none, false⟩], []⟩
@[simp] def fn96 : AFun := ⟨2, [.t 3], false,
  .seq (.reg r96_0) (.seq (.reg r96_1) (.ret)), none⟩

theorem c96 : cFun Tryz.prog ann96 false 96 = some fn96 := by kernel_rfl

/-! 97: slices.Contains[[]int,int] -/

def ann97 : Ann := [{ id := 0, live := [0, 1] },
  { id := 1, live := [0, 1] }]

@[simp] def r97_0 : AReg := ⟨[0, 1], [], [
    ⟨some 4, .mv (.c (.dat (.bool false))), none, false⟩], []⟩
@[simp] def r97_1 : AReg := ⟨[0, 1], [], [
    ⟨some 5, .mv (.t 0), none, false⟩,
    ⟨some 6, .mv (.t 1), none, false⟩,
    ⟨some 7, .call 142 [((.t 5), false), ((.t 6), false)] true, none, false⟩,
    ⟨some 8, .bin .int .geq (.t 7) (.c (.dat (.int .i64 0))), none, false⟩,
    ⟨some 4, .mv (.t 8), none, false⟩], []⟩
@[simp] def fn97 : AFun := ⟨2, [.t 4], false,
  .seq (.reg r97_0) (.seq (.reg r97_1) (.ret)), none⟩

theorem c97 : cFun Tryz.prog ann97 false 97 = some fn97 := by kernel_rfl

/-! 98: modelcheck/verdict.ids -/

def ann98 : Ann := [{ id := 0, live := [0] },
  { id := 1, live := [0], marks := [(0, { md := .o })] },
  { id := 2, live := [0, 3] },
  { id := 3, live := [3, 6, 7, 8], drop := [3, 6] },
  { id := 4, live := [3, 6, 7, 8] },
  { id := 5, live := [3, 5, 6, 7, 8], marks := [(4, { md := .o })] },
  { id := 6, live := [3, 6, 7, 8] },
  { id := 7, live := [3], marks := [(1, { byRef := [0] })] },
  { id := 8, live := [3] }]

@[simp] def r98_0 : AReg := ⟨[0], [], [
    ⟨some 2, .mv (.c .nils), none, false⟩], []⟩
@[simp] def r98_1 : AReg := ⟨[0], [], [
    ⟨some 3, .mvNil .o 1, none, false⟩], []⟩
@[simp] def r98_2 : AReg := ⟨[0, 3], [], [
    ⟨some 6, .mv (.t 0), none, false⟩,
    ⟨some 7, .len false (.t 6), none, false⟩,
    ⟨some 8, .mv (.c (.dat (.int .i64 0))), none, false⟩], []⟩
@[simp] def r98_3 : AReg := ⟨[3, 6, 7, 8], [3, 6], [
    ⟨some 9, .bin .int .lss (.t 8) (.t 7), none, false⟩], []⟩
@[simp] def r98_4 : AReg := ⟨[3, 6, 7, 8], [], [
    ⟨some 10, .iAddr 17 (.t 6) (.t 8), none, false⟩,
    ⟨some 11, .ld 17 true (.t 10), none, false⟩,
    ⟨some 5, .alc [(.dat (.int .i64 0)), (.dat (.int .i64 0)), (.dat (.int .i64 0)), (.dat (.int .i64 0)), (.dat (.int .i64 0)), (.dat (.int .i64 0)), (.dat (.int .i64 0)), (.dat (.int .i64 0)), (.dat (.int .i64 0)), (.dat (.int .i64 0)), (.dat (.int .i64 0)), (.dat (.int .i64 0)), (.dat (.int .i64 0)), (.dat (.int .i64 0)), (.dat (.int .i64 0)), (.dat (.int .i64 0)), .nils], none, false⟩,
    ⟨none, .st false 17 (.t 5) (.t 11), none, false⟩], []⟩
@[simp] def r98_5 : AReg := ⟨[3, 5, 6, 7, 8], [], [
    ⟨some 12, .mv (.t 3), none, false⟩,
    ⟨some 13, .fAddr 0 (.t 5), none, false⟩,
    ⟨some 14, .ld 1 false (.t 13), none, false⟩,
    ⟨some 15, .bldS .d 1 [(.t 14)], none, false⟩,
    ⟨some 16, .app .o 1 8 (.t 12) (.t 15), none, false⟩,
    ⟨some 3, .mv (.t 16), none, false⟩], []⟩
@[simp] def r98_6 : AReg := ⟨[3, 6, 7, 8], [], [
    ⟨some 17, .bin .int .add (.t 8) (.c (.dat (.int .i64 1))), none, false⟩,
    ⟨some 8, .mv (.t 17), none, false⟩], []⟩
def l98_0 : AC := .seq (.reg r98_3) (.seq (.cond (.t 9) (.skip) (.exit 0)) (.seq (.block 1 (.seq (.reg r98_4) (.reg r98_5))) (.reg r98_6)))
@[simp] theorem l98_0e (K : Orc) (s : St) : exec K l98_0 s = exec K (.seq (.reg r98_3) (.seq (.cond (.t 9) (.skip) (.exit 0)) (.seq (.block 1 (.seq (.reg r98_4) (.reg r98_5))) (.reg r98_6)))) s := rfl
@[simp] def r98_7 : AReg := ⟨[3], [], [
    ⟨some 18, .mv (.t 3), none, false⟩,
    ⟨some 19, .call 143 [((.t 18), true)] true, none, false⟩], []⟩
@[simp] def r98_8 : AReg := ⟨[3], [], [
    ⟨some 20, .mv (.t 3), none, false⟩,
    ⟨some 2, .mv (.t 20), none, false⟩], []⟩
@[simp] def fn98 : AFun := ⟨1, [.t 2], false,
  .seq (.reg r98_0) (.seq (.reg r98_1) (.seq (.seq (.reg r98_2) (.block 0 (.loop l98_0))) (.seq (.reg r98_7) (.seq (.reg r98_8) (.ret))))), none⟩

theorem c98 : cFun Tryz.prog ann98 false 98 = some fn98 := by kernel_rfl

/-! 99: modelcheck/clock.Valid -/

def ann99 : Ann := [{ id := 0, live := [0] },
  { id := 1, live := [0] },
  { id := 2, live := [0, 5, 6, 7], drop := [0, 5] },
  { id := 3, live := [0, 5, 6, 7] },
  { id := 4, live := [0, 3, 4, 5, 6, 7] },
  { id := 5, live := [] },
  { id := 6, live := [0, 5, 6, 7] },
  { id := 7, live := [] }]

@[simp] def r99_0 : AReg := ⟨[0], [], [
    ⟨some 2, .mv (.c (.dat (.bool false))), none, false⟩], []⟩
@[simp] def r99_1 : AReg := ⟨[0], [], [
    ⟨some 5, .mv (.t 0), none, false⟩,
    ⟨some 6, .len false (.t 5), none, false⟩,
    ⟨some 7, .mv (.c (.dat (.int .i64 0))), none, false⟩], []⟩
@[simp] def r99_2 : AReg := ⟨[0, 5, 6, 7], [0, 5], [
    ⟨some 8, .bin .int .lss (.t 7) (.t 6), none, false⟩], []⟩
@[simp] def r99_3 : AReg := ⟨[0, 5, 6, 7], [], [
    ⟨some 9, .mv (.t 7), none, false⟩,
    ⟨some 10, .iAddr 2 (.t 5) (.t 7), none, false⟩,
    ⟨some 11, .ld 2 true (.t 10), none, false⟩,
    ⟨some 4, .alc [(.dat (.int .i64 0)), (.dat (.int .i64 0))], none, false⟩,
    ⟨some 3, .mv (.t 9), none, false⟩,
    ⟨none, .st false 2 (.t 4) (.t 11), none, false⟩], []⟩
@[simp] def r99_4 : AReg := ⟨[0, 3, 4, 5, 6, 7], [], [
    ⟨some 12, .fAddr 1 (.t 4), none, false⟩,
    ⟨some 13, .ld 1 false (.t 12), none, false⟩,
    ⟨some 14, .bin .int .lss (.t 13) (.c (.dat (.int .i64 1))), none, false⟩,
    ⟨some 15, .mv (.t 14), none, false⟩,
    ⟨some 16, .fAddr 1 (.t 4), some (15, false), false⟩,
    ⟨some 17, .ld 1 false (.t 16), some (15, false), false⟩,
    ⟨some 18, .bin .int .gtr (.t 17) (.c (.dat (.int .i64 2147483647))), some (15, false), false⟩,
    ⟨some 19, .pick (.t 15) (.c (.dat (.bool true))) (.t 18), none, false⟩,
    ⟨some 20, .mv (.t 19), none, false⟩,
    ⟨some 21, .mv (.t 3), some (20, false), false⟩,
    ⟨some 22, .bin .int .gtr (.t 21) (.c (.dat (.int .i64 0))), some (20, false), false⟩,
    ⟨some 23, .mv (.t 22), some (20, false), false⟩,
    ⟨some 24, .mv (.t 0), some (23, true), false⟩,
    ⟨some 25, .mv (.t 3), some (23, true), false⟩,
    ⟨some 26, .bin .int .sub (.t 25) (.c (.dat (.int .i64 1))), some (23, true), false⟩,
    ⟨some 27, .iAddr 2 (.t 24) (.t 26), some (23, true), false⟩,
    ⟨some 28, .fAddr 0 (.t 27), some (23, true), false⟩,
    ⟨some 29, .ld 1 false (.t 28), some (23, true), false⟩,
    ⟨some 30, .fAddr 0 (.t 4), some (23, true), false⟩,
    ⟨some 31, .ld 1 false (.t 30), some (23, true), false⟩,
    ⟨some 32, .bin .int .geq (.t 29) (.t 31), some (23, true), false⟩,
    ⟨some 33, .pick (.t 23) (.t 32) (.c (.dat (.bool false))), some (20, false), false⟩,
    ⟨some 34, .pick (.t 20) (.c (.dat (.bool true))) (.t 33), none, false⟩], []⟩
@[simp] def r99_5 : AReg := ⟨[], [], [
    ⟨some 2, .mv (.c (.dat (.bool false))), none, false⟩], []⟩
@[simp] def r99_6 : AReg := ⟨[0, 5, 6, 7], [], [
    ⟨some 35, .bin .int .add (.t 7) (.c (.dat (.int .i64 1))), none, false⟩,
    ⟨some 7, .mv (.t 35), none, false⟩], []⟩
def l99_0 : AC := .seq (.reg r99_2) (.seq (.cond (.t 8) (.skip) (.exit 0)) (.seq (.block 1 (.seq (.reg r99_3) (.seq (.reg r99_4) (.cond (.t 34) (.seq (.reg r99_5) (.ret)) (.skip))))) (.reg r99_6)))
@[simp] theorem l99_0e (K : Orc) (s : St) : exec K l99_0 s = exec K (.seq (.reg r99_2) (.seq (.cond (.t 8) (.skip) (.exit 0)) (.seq (.block 1 (.seq (.reg r99_3) (.seq (.reg r99_4) (.cond (.t 34) (.seq (.reg r99_5) (.ret)) (.skip))))) (.reg r99_6)))) s := rfl
@[simp] def r99_7 : AReg := ⟨[], [], [
    ⟨some 2, .mv (.c (.dat (.bool true))), none, false⟩], []⟩
@[simp] def fn99 : AFun := ⟨1, [.t 2], false,
  .seq (.reg r99_0) (.seq (.seq (.reg r99_1) (.block 0 (.loop l99_0))) (.seq (.reg r99_7) (.ret))), none⟩

theorem c99 : cFun Tryz.prog ann99 false 99 = some fn99 := by kernel_rfl

/-! 118: slices.IndexFunc[[]modelcheck/api.Event,modelcheck/api.Event] -/

def ann118 : Ann := [{ id := 0, live := [0, 1] },
  { id := 1, live := [0, 1] },
  { id := 2, live := [0, 1, 7, 8] },
  { id := 3, live := [0, 1, 7, 8] },
  { id := 4, live := [0, 1, 5, 7, 8] },
  { id := 5, live := [5] },
  { id := 6, live := [0, 1, 7, 8] },
  { id := 7, live := [] }]

@[simp] def r118_0 : AReg := ⟨[0, 1], [], [
    ⟨some 4, .mv (.c (.dat (.int .i64 0))), none, false⟩], []⟩
@[simp] def r118_1 : AReg := ⟨[0, 1], [], [
    ⟨some 6, .mv (.t 0), none, false⟩,
    ⟨some 7, .len false (.t 6), none, false⟩,
    ⟨some 8, .mv (.c (.dat (.int .i64 0))), none, false⟩], []⟩
@[simp] def r118_2 : AReg := ⟨[0, 1, 7, 8], [], [
    ⟨some 9, .bin .int .lss (.t 8) (.t 7), none, false⟩], []⟩
@[simp] def r118_3 : AReg := ⟨[0, 1, 7, 8], [], [
    ⟨some 10, .mv (.t 8), none, false⟩,
    ⟨some 5, .mv (.t 10), none, false⟩], []⟩
@[simp] def r118_4 : AReg := ⟨[0, 1, 5, 7, 8], [], [
    ⟨some 11, .mv (.t 1), none, false⟩,
    ⟨some 12, .mv (.t 0), none, false⟩,
    ⟨some 13, .mv (.t 5), none, false⟩,
    ⟨some 14, .iAddr 9 (.t 12) (.t 13), none, false⟩,
    ⟨some 15, .ld 9 true (.t 14), none, false⟩,
    ⟨some 16, .callV (.t 11) [((.t 15), false)] true, none, false⟩], []⟩
@[simp] def r118_5 : AReg := ⟨[5], [], [
    ⟨some 17, .mv (.t 5), none, false⟩,
    ⟨some 4, .mv (.t 17), none, false⟩], []⟩
@[simp] def r118_6 : AReg := ⟨[0, 1, 7, 8], [], [
    ⟨some 18, .bin .int .add (.t 8) (.c (.dat (.int .i64 1))), none, false⟩,
    ⟨some 8, .mv (.t 18), none, false⟩], []⟩
def l118_0 : AC := .seq (.reg r118_2) (.seq (.cond (.t 9) (.skip) (.exit 0)) (.seq (.block 1 (.seq (.reg r118_3) (.seq (.reg r118_4) (.cond (.t 16) (.seq (.reg r118_5) (.ret)) (.skip))))) (.reg r118_6)))
@[simp] theorem l118_0e (K : Orc) (s : St) : exec K l118_0 s = exec K (.seq (.reg r118_2) (.seq (.cond (.t 9) (.skip) (.exit 0)) (.seq (.block 1 (.seq (.reg r118_3) (.seq (.reg r118_4) (.cond (.t 16) (.seq (.reg r118_5) (.ret)) (.skip))))) (.reg r118_6)))) s := rfl
@[simp] def r118_7 : AReg := ⟨[], [], [
    ⟨some 4, .mv (.c (.dat (.int .i64 (-1)))), none, false⟩], []⟩
@[simp] def fn118 : AFun := ⟨2, [.t 4], false,
  .seq (.reg r118_0) (.seq (.seq (.reg r118_1) (.block 0 (.loop l118_0))) (.seq (.reg r118_7) (.ret))), none⟩

theorem c118 : cFun Tryz.prog ann118 false 118 = some fn118 := by kernel_rfl

/-! 119: modelcheck/event.IsFlusher -/

def ann119 : Ann := [{ id := 0, live := [0] },
  { id := 1, live := [0] }]

@[simp] def r119_0 : AReg := ⟨[0], [], [
    ⟨some 2, .mv (.c (.dat (.bool false))), none, false⟩], []⟩
@[simp] def r119_1 : AReg := ⟨[0], [], [
    ⟨some 3, .mv (.t 0), none, false⟩,
    ⟨some 4, .bin .int .lss (.t 3) (.c (.dat (.int .i64 0))), none, false⟩,
    ⟨some 2, .mv (.t 4), none, false⟩], []⟩
@[simp] def fn119 : AFun := ⟨1, [.t 2], false,
  .seq (.reg r119_0) (.seq (.reg r119_1) (.ret)), none⟩

theorem c119 : cFun Tryz.prog ann119 false 119 = some fn119 := by kernel_rfl

/-! 129: modelcheck/clock.joined -/

def ann129 : Ann := [{ id := 0, live := [0, 1] },
  { id := 1, live := [0, 1], marks := [(0, { md := .o })] },
  { id := 2, live := [0, 1, 5] },
  { id := 3, live := [0, 1, 5, 6, 7], drop := [0, 1, 5] },
  { id := 7, live := [0, 1, 5, 6, 7] },
  { id := 8, live := [0, 1, 5, 6, 7], marks := [(6, { md := .o })] },
  { id := 9, live := [0, 1, 5, 6, 7] },
  { id := 10, live := [0, 1, 5, 6, 7] },
  { id := 11, live := [0, 1, 5, 6, 7] },
  { id := 12, live := [0, 1, 5, 6, 7], marks := [(6, { md := .o })] },
  { id := 13, live := [0, 1, 5, 6, 7] },
  { id := 14, live := [0, 1, 5, 6, 7] },
  { id := 15, live := [0, 1, 5, 6, 7], marks := [(6, { md := .o })] },
  { id := 16, live := [0, 1, 5, 6, 7] },
  { id := 4, live := [0, 1, 5, 6, 7], marks := [(19, { md := .o })] },
  { id := 5, live := [0, 1, 5, 6, 7] },
  { id := 6, live := [0, 1, 5, 6, 7] },
  { id := 17, live := [0, 1, 5, 6, 7], marks := [(4, { md := .o })] },
  { id := 18, live := [1, 5, 7], marks := [(4, { md := .o })] }]

@[simp] def r129_0 : AReg := ⟨[0, 1], [], [
    ⟨some 4, .mv (.c .nils), none, false⟩], []⟩
@[simp] def r129_1 : AReg := ⟨[0, 1], [], [
    ⟨some 5, .mvNil .o 2, none, false⟩], []⟩
@[simp] def r129_2 : AReg := ⟨[0, 1, 5], [], [
    ⟨some 6, .mv (.c (.dat (.int .i64 0))), none, false⟩,
    ⟨some 7, .mv (.c (.dat (.int .i64 0))), none, false⟩], []⟩
@[simp] def r129_3 : AReg := ⟨[0, 1, 5, 6, 7], [0, 1, 5], [
    ⟨some 8, .mv (.t 6), none, false⟩,
    ⟨some 9, .mv (.t 0), none, false⟩,
    ⟨some 10, .len false (.t 9), none, false⟩,
    ⟨some 11, .bin .int .lss (.t 8) (.t 10), none, false⟩,
    ⟨some 12, .mv (.t 11), none, false⟩,
    ⟨some 13, .mv (.t 7), some (12, true), false⟩,
    ⟨some 14, .mv (.t 1), some (12, true), false⟩,
    ⟨some 15, .len false (.t 14), some (12, true), false⟩,
    ⟨some 16, .bin .int .lss (.t 13) (.t 15), some (12, true), false⟩,
    ⟨some 17, .pick (.t 12) (.t 16) (.c (.dat (.bool false))), none, false⟩], []⟩
@[simp] def r129_4 : AReg := ⟨[0, 1, 5, 6, 7], [], [
    ⟨some 43, .mv (.t 0), none, false⟩,
    ⟨some 44, .mv (.t 6), none, false⟩,
    ⟨some 45, .iAddr 2 (.t 43) (.t 44), none, false⟩,
    ⟨some 46, .ld 2 true (.t 45), none, false⟩,
    ⟨some 47, .mv (.t 1), none, false⟩,
    ⟨some 48, .mv (.t 7), none, false⟩,
    ⟨some 49, .iAddr 2 (.t 47) (.t 48), none, false⟩,
    ⟨some 50, .ld 2 true (.t 49), none, false⟩,
    ⟨some 51, .bin (.agg [.int .i64, .int .i64]) .eql (.t 46) (.t 50), none, false⟩,
    ⟨some 42, .mv (.t 51), none, false⟩], []⟩
@[simp] def r129_5 : AReg := ⟨[0, 1, 5, 6, 7], [], [
    ⟨some 52, .mv (.t 5), none, false⟩,
    ⟨some 53, .mv (.t 0), none, false⟩,
    ⟨some 54, .mv (.t 6), none, false⟩,
    ⟨some 55, .iAddr 2 (.t 53) (.t 54), none, false⟩,
    ⟨some 56, .ld 2 true (.t 55), none, false⟩,
    ⟨some 57, .bldS .d 2 [(.t 56)], none, false⟩,
    ⟨some 58, .app .o 2 16 (.t 52) (.t 57), none, false⟩,
    ⟨some 5, .mv (.t 58), none, false⟩], []⟩
@[simp] def r129_6 : AReg := ⟨[0, 1, 5, 6, 7], [], [
    ⟨some 59, .mv (.t 6), none, false⟩,
    ⟨some 60, .bin .int .add (.t 59) (.c (.dat (.int .i64 1))), none, false⟩,
    ⟨some 6, .mv (.t 60), none, false⟩], []⟩
@[simp] def r129_7 : AReg := ⟨[0, 1, 5, 6, 7], [], [
    ⟨some 61, .mv (.t 7), none, false⟩,
    ⟨some 62, .bin .int .add (.t 61) (.c (.dat (.int .i64 1))), none, false⟩,
    ⟨some 7, .mv (.t 62), none, false⟩], []⟩
@[simp] def r129_8 : AReg := ⟨[0, 1, 5, 6, 7], [], [
    ⟨some 64, .mv (.t 0), none, false⟩,
    ⟨some 65, .mv (.t 6), none, false⟩,
    ⟨some 66, .iAddr 2 (.t 64) (.t 65), none, false⟩,
    ⟨some 67, .fAddr 0 (.t 66), none, false⟩,
    ⟨some 68, .ld 1 false (.t 67), none, false⟩,
    ⟨some 69, .mv (.t 1), none, false⟩,
    ⟨some 70, .mv (.t 7), none, false⟩,
    ⟨some 71, .iAddr 2 (.t 69) (.t 70), none, false⟩,
    ⟨some 72, .fAddr 0 (.t 71), none, false⟩,
    ⟨some 73, .ld 1 false (.t 72), none, false⟩,
    ⟨some 74, .bin .int .lss (.t 68) (.t 73), none, false⟩,
    ⟨some 63, .mv (.t 74), none, false⟩], []⟩
@[simp] def r129_9 : AReg := ⟨[0, 1, 5, 6, 7], [], [
    ⟨some 75, .mv (.t 5), none, false⟩,
    ⟨some 76, .mv (.t 0), none, false⟩,
    ⟨some 77, .mv (.t 6), none, false⟩,
    ⟨some 78, .iAddr 2 (.t 76) (.t 77), none, false⟩,
    ⟨some 79, .ld 2 true (.t 78), none, false⟩,
    ⟨some 80, .bldS .d 2 [(.t 79)], none, false⟩,
    ⟨some 81, .app .o 2 16 (.t 75) (.t 80), none, false⟩,
    ⟨some 5, .mv (.t 81), none, false⟩], []⟩
@[simp] def r129_10 : AReg := ⟨[0, 1, 5, 6, 7], [], [
    ⟨some 82, .mv (.t 6), none, false⟩,
    ⟨some 83, .bin .int .add (.t 82) (.c (.dat (.int .i64 1))), none, false⟩,
    ⟨some 6, .mv (.t 83), none, false⟩], []⟩
@[simp] def r129_11 : AReg := ⟨[0, 1, 5, 6, 7], [], [
    ⟨some 85, .mv (.t 0), none, false⟩,
    ⟨some 86, .mv (.t 6), none, false⟩,
    ⟨some 87, .iAddr 2 (.t 85) (.t 86), none, false⟩,
    ⟨some 88, .fAddr 0 (.t 87), none, false⟩,
    ⟨some 89, .ld 1 false (.t 88), none, false⟩,
    ⟨some 90, .mv (.t 1), none, false⟩,
    ⟨some 91, .mv (.t 7), none, false⟩,
    ⟨some 92, .iAddr 2 (.t 90) (.t 91), none, false⟩,
    ⟨some 93, .fAddr 0 (.t 92), none, false⟩,
    ⟨some 94, .ld 1 false (.t 93), none, false⟩,
    ⟨some 95, .bin .int .gtr (.t 89) (.t 94), none, false⟩,
    ⟨some 84, .mv (.t 95), none, false⟩], []⟩
@[simp] def r129_12 : AReg := ⟨[0, 1, 5, 6, 7], [], [
    ⟨some 96, .mv (.t 5), none, false⟩,
    ⟨some 97, .mv (.t 1), none, false⟩,
    ⟨some 98, .mv (.t 7), none, false⟩,
    ⟨some 99, .iAddr 2 (.t 97) (.t 98), none, false⟩,
    ⟨some 100, .ld 2 true (.t 99), none, false⟩,
    ⟨some 101, .bldS .d 2 [(.t 100)], none, false⟩,
    ⟨some 102, .app .o 2 16 (.t 96) (.t 101), none, false⟩,
    ⟨some 5, .mv (.t 102), none, false⟩], []⟩
@[simp] def r129_13 : AReg := ⟨[0, 1, 5, 6, 7], [], [
    ⟨some 103, .mv (.t 7), none, false⟩,
    ⟨some 104, .bin .int .add (.t 103) (.c (.dat (.int .i64 1))), none, false⟩,
    ⟨some 7, .mv (.t 104), none, false⟩], []⟩
@[simp] def r129_14 : AReg := ⟨[0, 1, 5, 6, 7], [], [
    ⟨some 18, .mv (.t 5), none, false⟩,
    ⟨some 19, .mv (.t 0), none, false⟩,
    ⟨some 20, .mv (.t 6), none, false⟩,
    ⟨some 21, .iAddr 2 (.t 19) (.t 20), none, false⟩,
    ⟨some 22, .fAddr 0 (.t 21), none, false⟩,
    ⟨some 23, .ld 1 false (.t 22), none, false⟩,
    ⟨some 24, .mv (.t 0), none, false⟩,
    ⟨some 25, .mv (.t 6), none, false⟩,
    ⟨some 26, .iAddr 2 (.t 24) (.t 25), none, false⟩,
    ⟨some 27, .fAddr 1 (.t 26), none, false⟩,
    ⟨some 28, .ld 1 false (.t 27), none, false⟩,
    ⟨some 29, .mv (.t 1), none, false⟩,
    ⟨some 30, .mv (.t 7), none, false⟩,
    ⟨some 31, .iAddr 2 (.t 29) (.t 30), none, false⟩,
    ⟨some 32, .fAddr 1 (.t 31), none, false⟩,
    ⟨some 33, .ld 1 false (.t 32), none, false⟩,
    ⟨some 34, .mm true (.t 28) [(.t 33)], none, false⟩,
    ⟨some 35, .bld [(.dat (.int .i64 0)), (.dat (.int .i64 0))] [(0, 1, (.t 23)), (1, 1, (.t 34))], none, false⟩,
    ⟨some 36, .bldS .d 2 [(.t 35)], none, false⟩,
    ⟨some 37, .app .o 2 16 (.t 18) (.t 36), none, false⟩,
    ⟨some 5, .mv (.t 37), none, false⟩], []⟩
@[simp] def r129_15 : AReg := ⟨[0, 1, 5, 6, 7], [], [
    ⟨some 38, .mv (.t 6), none, false⟩,
    ⟨some 39, .bin .int .add (.t 38) (.c (.dat (.int .i64 1))), none, false⟩,
    ⟨some 6, .mv (.t 39), none, false⟩], []⟩
@[simp] def r129_16 : AReg := ⟨[0, 1, 5, 6, 7], [], [
    ⟨some 40, .mv (.t 7), none, false⟩,
    ⟨some 41, .bin .int .add (.t 40) (.c (.dat (.int .i64 1))), none, false⟩,
    ⟨some 7, .mv (.t 41), none, false⟩], []⟩
def l129_0 : AC := .seq (.seq (.reg r129_3) (.cond (.t 17) (.skip) (.exit 0))) (.block 1 (.block 2 (.seq (.reg r129_4) (.cond (.t 42) (.seq (.reg r129_5) (.seq (.reg r129_6) (.reg r129_7))) (.seq (.reg r129_8) (.cond (.t 63) (.seq (.reg r129_9) (.reg r129_10)) (.seq (.reg r129_11) (.cond (.t 84) (.seq (.reg r129_12) (.reg r129_13)) (.seq (.reg r129_14) (.seq (.reg r129_15) (.reg r129_16)))))))))))
@[simp] theorem l129_0e (K : Orc) (s : St) : exec K l129_0 s = exec K (.seq (.seq (.reg r129_3) (.cond (.t 17) (.skip) (.exit 0))) (.block 1 (.block 2 (.seq (.reg r129_4) (.cond (.t 42) (.seq (.reg r129_5) (.seq (.reg r129_6) (.reg r129_7))) (.seq (.reg r129_8) (.cond (.t 63) (.seq (.reg r129_9) (.reg r129_10)) (.seq (.reg r129_11) (.cond (.t 84) (.seq (.reg r129_12) (.reg r129_13)) (.seq (.reg r129_14) (.seq (.reg r129_15) (.reg r129_16)))))))))))) s := rfl
@[simp] def r129_17 : AReg := ⟨[0, 1, 5, 6, 7], [], [
    ⟨some 105, .mv (.t 5), none, false⟩,
    ⟨some 106, .mv (.t 0), none, false⟩,
    ⟨some 107, .mv (.t 6), none, false⟩,
    ⟨some 108, .slc false 2 (.t 106) (some (.t 107)) none, none, false⟩,
    ⟨some 109, .app .o 2 16 (.t 105) (.t 108), none, false⟩,
    ⟨some 5, .mv (.t 109), none, false⟩], []⟩
@[simp] def r129_18 : AReg := ⟨[1, 5, 7], [], [
    ⟨some 110, .mv (.t 5), none, false⟩,
    ⟨some 111, .mv (.t 1), none, false⟩,
    ⟨some 112, .mv (.t 7), none, false⟩,
    ⟨some 113, .slc false 2 (.t 111) (some (.t 112)) none, none, false⟩,
    ⟨some 114, .app .o 2 16 (.t 110) (.t 113), none, false⟩,
    ⟨some 4, .mv (.t 114), none, false⟩], []⟩
@[simp] def fn129 : AFun := ⟨2, [.t 4], false,
  .seq (.reg r129_0) (.seq (.reg r129_1) (.seq (.reg r129_2) (.seq (.block 0 (.loop l129_0)) (.seq (.reg r129_17) (.seq (.reg r129_18) (.ret)))))), none⟩

theorem c129 : cFun Tryz.prog ann129 false 129 = some fn129 := by kernel_rfl

/-! 130: modelcheck/clock.count -/

def ann130 : Ann := [{ id := 0, live := [0, 1] },
  { id := 1, live := [0, 1] },
  { id := 2, live := [1, 7, 8, 9], drop := [7] },
  { id := 3, live := [1, 7, 8, 9] },
  { id := 4, live := [1, 6, 7, 8, 9] },
  { id := 5, live := [6] },
  { id := 6, live := [1, 7, 8, 9] },
  { id := 7, live := [] }]

@[simp] def r130_0 : AReg := ⟨[0, 1], [], [
    ⟨some 4, .mv (.c (.dat (.int .i64 0))), none, false⟩], []⟩
@[simp] def r130_1 : AReg := ⟨[0, 1], [], [
    ⟨some 7, .mv (.t 0), none, false⟩,
    ⟨some 8, .len false (.t 7), none, false⟩,
    ⟨some 9, .mv (.c (.dat (.int .i64 0))), none, false⟩], []⟩
@[simp] def r130_2 : AReg := ⟨[1, 7, 8, 9], [7], [
    ⟨some 10, .bin .int .lss (.t 9) (.t 8), none, false⟩], []⟩
@[simp] def r130_3 : AReg := ⟨[1, 7, 8, 9], [], [
    ⟨some 11, .iAddr 2 (.t 7) (.t 9), none, false⟩,
    ⟨some 12, .ld 2 true (.t 11), none, false⟩,
    ⟨some 6, .alc [(.dat (.int .i64 0)), (.dat (.int .i64 0))], none, false⟩,
    ⟨none, .st false 2 (.t 6) (.t 12), none, false⟩], []⟩
@[simp] def r130_4 : AReg := ⟨[1, 6, 7, 8, 9], [], [
    ⟨some 13, .fAddr 0 (.t 6), none, false⟩,
    ⟨some 14, .ld 1 false (.t 13), none, false⟩,
    ⟨some 15, .mv (.t 1), none, false⟩,
    ⟨some 16, .bin .int .eql (.t 14) (.t 15), none, false⟩], []⟩
@[simp] def r130_5 : AReg := ⟨[6], [], [
    ⟨some 17, .fAddr 1 (.t 6), none, false⟩,
    ⟨some 18, .ld 1 false (.t 17), none, false⟩,
    ⟨some 4, .mv (.t 18), none, false⟩], []⟩
@[simp] def r130_6 : AReg := ⟨[1, 7, 8, 9], [], [
    ⟨some 19, .bin .int .add (.t 9) (.c (.dat (.int .i64 1))), none, false⟩,
    ⟨some 9, .mv (.t 19), none, false⟩], []⟩
def l130_0 : AC := .seq (.reg r130_2) (.seq (.cond (.t 10) (.skip) (.exit 0)) (.seq (.block 1 (.seq (.reg r130_3) (.seq (.reg r130_4) (.cond (.t 16) (.seq (.reg r130_5) (.ret)) (.skip))))) (.reg r130_6)))
@[simp] theorem l130_0e (K : Orc) (s : St) : exec K l130_0 s = exec K (.seq (.reg r130_2) (.seq (.cond (.t 10) (.skip) (.exit 0)) (.seq (.block 1 (.seq (.reg r130_3) (.seq (.reg r130_4) (.cond (.t 16) (.seq (.reg r130_5) (.ret)) (.skip))))) (.reg r130_6)))) s := rfl
@[simp] def r130_7 : AReg := ⟨[], [], [
    ⟨some 4, .mv (.c (.dat (.int .i64 0))), none, false⟩], []⟩
@[simp] def fn130 : AFun := ⟨2, [.t 4], false,
  .seq (.reg r130_0) (.seq (.seq (.reg r130_1) (.block 0 (.loop l130_0))) (.seq (.reg r130_7) (.ret))), none⟩

theorem c130 : cFun Tryz.prog ann130 false 130 = some fn130 := by kernel_rfl

/-! 131: modelcheck/clock.advanced -/

def ann131 : Ann := [{ id := 0, live := [0, 1] },
  { id := 1, live := [0, 1], marks := [(3, { md := .o })] },
  { id := 2, live := [0, 1, 5] },
  { id := 3, live := [0, 1, 5, 6] },
  { id := 4, live := [1, 5, 6, 13, 14, 15], drop := [5, 13] },
  { id := 5, live := [1, 5, 6, 13, 14, 15] },
  { id := 6, live := [1, 5, 6, 8, 13, 14, 15] },
  { id := 7, live := [1, 5, 8, 13, 14, 15] },
  { id := 8, live := [1, 5, 6, 8, 13, 14, 15] },
  { id := 9, live := [1, 5, 6, 8, 13, 14, 15] },
  { id := 10, live := [1, 5, 6, 8, 13, 14, 15], marks := [(4, { md := .o })] },
  { id := 11, live := [1, 5, 6, 8, 13, 14, 15], marks := [(3, { md := .o })] },
  { id := 12, live := [1, 5, 6, 13, 14, 15] },
  { id := 13, live := [1, 5, 6] },
  { id := 14, live := [1, 5], marks := [(4, { md := .o })] },
  { id := 15, live := [5] }]

@[simp] def r131_0 : AReg := ⟨[0, 1], [], [
    ⟨some 4, .mv (.c .nils), none, false⟩], []⟩
@[simp] def r131_1 : AReg := ⟨[0, 1], [], [
    ⟨some 9, .mv (.t 0), none, false⟩,
    ⟨some 10, .len false (.t 9), none, false⟩,
    ⟨some 11, .bin .int .add (.t 10) (.c (.dat (.int .i64 1))), none, false⟩,
    ⟨some 12, .mk .o 2 16 [(.dat (.int .i64 0)), (.dat (.int .i64 0))] (.c (.dat (.int .i64 0))) (.t 11), none, false⟩,
    ⟨some 5, .mv (.t 12), none, false⟩], []⟩
@[simp] def r131_2 : AReg := ⟨[0, 1, 5], [], [
    ⟨some 6, .mv (.c (.dat (.bool false))), none, false⟩], []⟩
@[simp] def r131_3 : AReg := ⟨[0, 1, 5, 6], [], [
    ⟨some 13, .mv (.t 0), none, false⟩,
    ⟨some 14, .len false (.t 13), none, false⟩,
    ⟨some 15, .mv (.c (.dat (.int .i64 0))), none, false⟩], []⟩
@[simp] def r131_4 : AReg := ⟨[1, 5, 6, 13, 14, 15], [5, 13], [
    ⟨some 16, .bin .int .lss (.t 15) (.t 14), none, false⟩], []⟩
@[simp] def r131_5 : AReg := ⟨[1, 5, 6, 13, 14, 15], [], [
    ⟨some 17, .iAddr 2 (.t 13) (.t 15), none, false⟩,
    ⟨some 18, .ld 2 true (.t 17), none, false⟩,
    ⟨some 8, .alc [(.dat (.int .i64 0)), (.dat (.int .i64 0))], none, false⟩,
    ⟨none, .st false 2 (.t 8) (.t 18), none, false⟩], []⟩
@[simp] def r131_6 : AReg := ⟨[1, 5, 6, 8, 13, 14, 15], [], [
    ⟨some 19, .mv (.t 6), none, false⟩,
    ⟨some 20, .un .not (.t 19), none, false⟩,
    ⟨some 21, .mv (.t 20), none, false⟩,
    ⟨some 22, .fAddr 0 (.t 8), some (21, true), false⟩,
    ⟨some 23, .ld 1 false (.t 22), some (21, true), false⟩,
    ⟨some 24, .mv (.t 1), some (21, true), false⟩,
    ⟨some 25, .bin .int .geq (.t 23) (.t 24), some (21, true), false⟩,
    ⟨some 26, .pick (.t 21) (.t 25) (.c (.dat (.bool false))), none, false⟩], []⟩
@[simp] def r131_7 : AReg := ⟨[1, 5, 8, 13, 14, 15], [], [
    ⟨some 6, .mv (.c (.dat (.bool true))), none, false⟩], []⟩
@[simp] def r131_8 : AReg := ⟨[1, 5, 6, 8, 13, 14, 15], [], [
    ⟨some 27, .fAddr 0 (.t 8), none, false⟩,
    ⟨some 28, .ld 1 false (.t 27), none, false⟩,
    ⟨some 29, .mv (.t 1), none, false⟩,
    ⟨some 30, .bin .int .eql (.t 28) (.t 29), none, false⟩], []⟩
@[simp] def r131_9 : AReg := ⟨[1, 5, 6, 8, 13, 14, 15], [], [
    ⟨some 31, .fAddr 1 (.t 8), none, false⟩,
    ⟨some 32, .ld 1 false (.t 31), none, false⟩,
    ⟨some 33, .bin .int .add (.t 32) (.c (.dat (.int .i64 1))), none, false⟩,
    ⟨some 34, .fAddr 1 (.t 8), none, false⟩,
    ⟨none, .st false 1 (.t 34) (.t 33), none, false⟩], []⟩
@[simp] def r131_10 : AReg := ⟨[1, 5, 6, 8, 13, 14, 15], [], [
    ⟨some 35, .mv (.t 5), none, false⟩,
    ⟨some 36, .mv (.t 1), none, false⟩,
    ⟨some 37, .bld [(.dat (.int .i64 0)), (.dat (.int .i64 0))] [(0, 1, (.t 36)), (1, 1, (.c (.dat (.int .i64 1))))], none, false⟩,
    ⟨some 38, .bldS .d 2 [(.t 37)], none, false⟩,
    ⟨some 39, .app .o 2 16 (.t 35) (.t 38), none, false⟩,
    ⟨some 5, .mv (.t 39), none, false⟩], []⟩
@[simp] def r131_11 : AReg := ⟨[1, 5, 6, 8, 13, 14, 15], [], [
    ⟨some 40, .mv (.t 5), none, false⟩,
    ⟨some 41, .ld 2 true (.t 8), none, false⟩,
    ⟨some 42, .bldS .d 2 [(.t 41)], none, false⟩,
    ⟨some 43, .app .o 2 16 (.t 40) (.t 42), none, false⟩,
    ⟨some 5, .mv (.t 43), none, false⟩], []⟩
@[simp] def r131_12 : AReg := ⟨[1, 5, 6, 13, 14, 15], [], [
    ⟨some 44, .bin .int .add (.t 15) (.c (.dat (.int .i64 1))), none, false⟩,
    ⟨some 15, .mv (.t 44), none, false⟩], []⟩
def l131_0 : AC := .seq (.reg r131_4) (.seq (.cond (.t 16) (.skip) (.exit 0)) (.seq (.block 1 (.seq (.reg r131_5) (.seq (.seq (.reg r131_6) (.cond (.t 26) (.seq (.reg r131_7) (.seq (.reg r131_8) (.cond (.t 30) (.reg r131_9) (.reg r131_10)))) (.skip))) (.reg r131_11)))) (.reg r131_12)))
@[simp] theorem l131_0e (K : Orc) (s : St) : exec K l131_0 s = exec K (.seq (.reg r131_4) (.seq (.cond (.t 16) (.skip) (.exit 0)) (.seq (.block 1 (.seq (.reg r131_5) (.seq (.seq (.reg r131_6) (.cond (.t 26) (.seq (.reg r131_7) (.seq (.reg r131_8) (.cond (.t 30) (.reg r131_9) (.reg r131_10)))) (.skip))) (.reg r131_11)))) (.reg r131_12)))) s := rfl
@[simp] def r131_13 : AReg := ⟨[1, 5, 6], [], [
    ⟨some 45, .mv (.t 6), none, false⟩,
    ⟨some 46, .un .not (.t 45), none, false⟩], []⟩
@[simp] def r131_14 : AReg := ⟨[1, 5], [], [
    ⟨some 47, .mv (.t 5), none, false⟩,
    ⟨some 48, .mv (.t 1), none, false⟩,
    ⟨some 49, .bld [(.dat (.int .i64 0)), (.dat (.int .i64 0))] [(0, 1, (.t 48)), (1, 1, (.c (.dat (.int .i64 1))))], none, false⟩,
    ⟨some 50, .bldS .d 2 [(.t 49)], none, false⟩,
    ⟨some 51, .app .o 2 16 (.t 47) (.t 50), none, false⟩,
    ⟨some 5, .mv (.t 51), none, false⟩], []⟩
@[simp] def r131_15 : AReg := ⟨[5], [], [
    ⟨some 52, .mv (.t 5), none, false⟩,
    ⟨some 4, .mv (.t 52), none, false⟩], []⟩
@[simp] def fn131 : AFun := ⟨2, [.t 4], false,
  .seq (.reg r131_0) (.seq (.reg r131_1) (.seq (.reg r131_2) (.seq (.seq (.reg r131_3) (.block 0 (.loop l131_0))) (.seq (.seq (.reg r131_13) (.cond (.t 46) (.reg r131_14) (.skip))) (.seq (.reg r131_15) (.ret)))))), none⟩

theorem c131 : cFun Tryz.prog ann131 false 131 = some fn131 := by kernel_rfl

/-! 136: modelcheck/program.Check -/

def ann136 : Ann := [{ id := 0, live := [0] },
  { id := 1, live := [1] },
  { id := 2, live := [1, 5, 6] },
  { id := 3, live := [1, 6] },
  { id := 4, live := [1, 5, 6] },
  { id := 5, live := [1, 6] },
  { id := 6, live := [1, 5, 6] },
  { id := 7, live := [1, 6] },
  { id := 8, live := [5, 6] },
  { id := 9, live := [5, 6] },
  { id := 10, live := [] }]

@[simp] def r136_0 : AReg := ⟨[0], [], [
    ⟨some 1, .box 5 (.t 0), none, false⟩,
    ⟨some 2, .mv (.c (.dat (.int .i64 0))), none, false⟩,
    ⟨some 3, .mv (.c (.dat (.int .i64 0))), none, false⟩,
    ⟨some 4, .mv (.c (.dat (.int .i64 0))), none, false⟩], []⟩
@[simp] def r136_1 : AReg := ⟨[1], [], [
    ⟨some 8, .ld 5 true (.t 1), none, false⟩,
    ⟨some 9, .call 160 [((.t 8), false)] false, none, false⟩,
    ⟨some 7, .mv (.t 9), none, false⟩,
    ⟨some 10, .ext 0 (.t 7), none, false⟩,
    ⟨some 11, .ext 1 (.t 7), none, false⟩,
    ⟨some 6, .alc [(.dat (.int .i64 0)), (.dat (.int .i64 0))], none, false⟩,
    ⟨some 5, .mv (.t 10), none, false⟩,
    ⟨none, .st false 2 (.t 6) (.t 11), none, false⟩], []⟩
@[simp] def r136_2 : AReg := ⟨[1, 5, 6], [], [
    ⟨some 12, .mv (.t 5), none, false⟩,
    ⟨some 13, .bin .int .eql (.t 12) (.c (.dat (.int .i64 0))), none, false⟩], []⟩
@[simp] def r136_3 : AReg := ⟨[1, 6], [], [
    ⟨some 15, .ld 5 true (.t 1), none, false⟩,
    ⟨some 16, .call 161 [((.t 15), false)] false, none, false⟩,
    ⟨some 14, .mv (.t 16), none, false⟩,
    ⟨some 17, .ext 0 (.t 14), none, false⟩,
    ⟨some 18, .ext 1 (.t 14), none, false⟩,
    ⟨some 5, .mv (.t 17), none, false⟩,
    ⟨none, .st false 2 (.t 6) (.t 18), none, false⟩], []⟩
@[simp] def r136_4 : AReg := ⟨[1, 5, 6], [], [
    ⟨some 19, .mv (.t 5), none, false⟩,
    ⟨some 20, .bin .int .eql (.t 19) (.c (.dat (.int .i64 0))), none, false⟩], []⟩
@[simp] def r136_5 : AReg := ⟨[1, 6], [], [
    ⟨some 22, .ld 5 true (.t 1), none, false⟩,
    ⟨some 23, .call 162 [((.t 22), false)] false, none, false⟩,
    ⟨some 21, .mv (.t 23), none, false⟩,
    ⟨some 24, .ext 0 (.t 21), none, false⟩,
    ⟨some 25, .ext 1 (.t 21), none, false⟩,
    ⟨some 5, .mv (.t 24), none, false⟩,
    ⟨none, .st false 2 (.t 6) (.t 25), none, false⟩], []⟩
@[simp] def r136_6 : AReg := ⟨[1, 5, 6], [], [
    ⟨some 26, .mv (.t 5), none, false⟩,
    ⟨some 27, .bin .int .eql (.t 26) (.c (.dat (.int .i64 0))), none, false⟩], []⟩
@[simp] def r136_7 : AReg := ⟨[1, 6], [], [
    ⟨some 29, .ld 5 true (.t 1), none, false⟩,
    ⟨some 30, .call 163 [((.t 29), false)] false, none, false⟩,
    ⟨some 28, .mv (.t 30), none, false⟩,
    ⟨some 31, .ext 0 (.t 28), none, false⟩,
    ⟨some 32, .ext 1 (.t 28), none, false⟩,
    ⟨some 5, .mv (.t 31), none, false⟩,
    ⟨none, .st false 2 (.t 6) (.t 32), none, false⟩], []⟩
@[simp] def r136_8 : AReg := ⟨[5, 6], [], [
    ⟨some 33, .mv (.t 5), none, false⟩,
    ⟨some 34, .bin .int .neq (.t 33) (.c (.dat (.int .i64 0))), none, false⟩], []⟩
@[simp] def r136_9 : AReg := ⟨[5, 6], [], [
    ⟨some 35, .mv (.t 5), none, false⟩,
    ⟨some 36, .fAddr 0 (.t 6), none, false⟩,
    ⟨some 37, .ld 1 false (.t 36), none, false⟩,
    ⟨some 38, .fAddr 1 (.t 6), none, false⟩,
    ⟨some 39, .ld 1 false (.t 38), none, false⟩,
    ⟨some 2, .mv (.t 35), none, false⟩,
    ⟨some 3, .mv (.t 37), none, false⟩,
    ⟨some 4, .mv (.t 39), none, false⟩], []⟩
@[simp] def r136_10 : AReg := ⟨[], [], [
    ⟨some 2, .mv (.c (.dat (.int .i64 0))), none, false⟩,
    ⟨some 3, .mv (.c (.dat (.int .i64 (-1)))), none, false⟩,
    ⟨some 4, .mv (.c (.dat (.int .i64 (-1)))), none, false⟩], []⟩
@[simp] def fn136 : AFun := ⟨1, [.t 2, .t 3, .t 4], false,
  .seq (.reg r136_0) (.seq (.reg r136_1) (.seq (.seq (.reg r136_2) (.cond (.t 13) (.reg r136_3) (.skip))) (.seq (.seq (.reg r136_4) (.cond (.t 20) (.reg r136_5) (.skip))) (.seq (.seq (.reg r136_6) (.cond (.t 27) (.reg r136_7) (.skip))) (.seq (.seq (.reg r136_8) (.cond (.t 34) (.seq (.reg r136_9) (.ret)) (.skip))) (.seq (.reg r136_10) (.ret))))))), none⟩

theorem c136 : cFun Tryz.prog ann136 false 136 = some fn136 := by kernel_rfl

/-! 137: modelcheck/program.CheckConfig -/

def ann137 : Ann := [{ id := 0, live := [0] },
  { id := 1, live := [1] },
  { id := 2, live := [] },
  { id := 3, live := [1] },
  { id := 4, live := [] },
  { id := 5, live := [] }]

@[simp] def r137_0 : AReg := ⟨[0], [], [
    ⟨some 1, .box 2 (.t 0), none, false⟩,
    ⟨some 2, .mv (.c (.dat (.int .i64 0))), none, false⟩], []⟩
@[simp] def r137_1 : AReg := ⟨[1], [], [
    ⟨some 3, .fAddr 0 (.t 1), none, false⟩,
    ⟨some 4, .ld 1 false (.t 3), none, false⟩,
    ⟨some 5, .bin .int .neq (.t 4) (.c (.dat (.int .i64 1))), none, false⟩,
    ⟨some 6, .mv (.t 5), none, false⟩,
    ⟨some 7, .fAddr 0 (.t 1), some (6, true), false⟩,
    ⟨some 8, .ld 1 false (.t 7), some (6, true), false⟩,
    ⟨some 9, .bin .int .neq (.t 8) (.c (.dat (.int .i64 2))), some (6, true), false⟩,
    ⟨some 10, .pick (.t 6) (.t 9) (.c (.dat (.bool false))), none, false⟩,
    ⟨some 11, .mv (.t 10), none, false⟩,
    ⟨some 12, .fAddr 0 (.t 1), some (11, true), false⟩,
    ⟨some 13, .ld 1 false (.t 12), some (11, true), false⟩,
    ⟨some 14, .bin .int .neq (.t 13) (.c (.dat (.int .i64 3))), some (11, true), false⟩,
    ⟨some 15, .pick (.t 11) (.t 14) (.c (.dat (.bool false))), none, false⟩], []⟩
@[simp] def r137_2 : AReg := ⟨[], [], [
    ⟨some 2, .mv (.c (.dat (.int .i64 18))), none, false⟩], []⟩
@[simp] def r137_3 : AReg := ⟨[1], [], [
    ⟨some 16, .fAddr 1 (.t 1), none, false⟩,
    ⟨some 17, .ld 1 false (.t 16), none, false⟩,
    ⟨some 18, .bin .int .lss (.t 17) (.c (.dat (.int .i64 1))), none, false⟩,
    ⟨some 19, .mv (.t 18), none, false⟩,
    ⟨some 20, .fAddr 1 (.t 1), some (19, false), false⟩,
    ⟨some 21, .ld 1 false (.t 20), some (19, false), false⟩,
    ⟨some 22, .bin .int .gtr (.t 21) (.c (.dat (.int .i64 32))), some (19, false), false⟩,
    ⟨some 23, .pick (.t 19) (.c (.dat (.bool true))) (.t 22), none, false⟩], []⟩
@[simp] def r137_4 : AReg := ⟨[], [], [
    ⟨some 2, .mv (.c (.dat (.int .i64 2))), none, false⟩], []⟩
@[simp] def r137_5 : AReg := ⟨[], [], [
    ⟨some 2, .mv (.c (.dat (.int .i64 0))), none, false⟩], []⟩
@[simp] def fn137 : AFun := ⟨1, [.t 2], false,
  .seq (.reg r137_0) (.seq (.seq (.reg r137_1) (.cond (.t 15) (.seq (.reg r137_2) (.ret)) (.skip))) (.seq (.seq (.reg r137_3) (.cond (.t 23) (.seq (.reg r137_4) (.ret)) (.skip))) (.seq (.reg r137_5) (.ret)))), none⟩

theorem c137 : cFun Tryz.prog ann137 false 137 = some fn137 := by kernel_rfl

/-! 138: (modelcheck/exec.runner).start -/

def ann138 : Ann := [{ id := 0, live := [0] },
  { id := 1, live := [1, 2] },
  { id := 2, live := [1, 2] },
  { id := 3, live := [1, 2] }]

@[simp] def r138_0 : AReg := ⟨[0], [], [
    ⟨some 1, .box 7 (.t 0), none, false⟩,
    ⟨some 2, .alc [.nils, .nils, .nils, .nils, .nils, .nils], none, false⟩,
    ⟨some 3, .mv (.c (.dat (.int .i64 0))), none, false⟩], []⟩
@[simp] def r138_1 : AReg := ⟨[1, 2], [], [
    ⟨some 4, .fAddr 5 (.t 1), none, false⟩,
    ⟨some 5, .fAddr 0 (.t 4), none, false⟩,
    ⟨some 6, .ld 1 false (.t 5), none, false⟩,
    ⟨some 7, .bin .int .eql (.t 6) (.c (.dat (.int .i64 2))), none, false⟩], []⟩
@[simp] def r138_2 : AReg := ⟨[1, 2], [], [
    ⟨some 8, .fAddr 0 (.t 1), none, false⟩,
    ⟨some 9, .ld 5 true (.t 8), none, false⟩,
    ⟨some 10, .fAddr 5 (.t 1), none, false⟩,
    ⟨some 11, .fAddr 1 (.t 10), none, false⟩,
    ⟨some 12, .ld 1 false (.t 11), none, false⟩,
    ⟨some 13, .call 164 [((.t 9), false), ((.t 12), false)] false, none, false⟩,
    ⟨some 14, .ext 0 (.t 13), none, false⟩,
    ⟨some 15, .ext 1 (.t 13), none, false⟩,
    ⟨none, .st false 6 (.t 2) (.t 14), none, false⟩,
    ⟨some 3, .mv (.t 15), none, false⟩], []⟩
@[simp] def r138_3 : AReg := ⟨[1, 2], [], [
    ⟨some 16, .fAddr 0 (.t 1), none, false⟩,
    ⟨some 17, .ld 5 true (.t 16), none, false⟩,
    ⟨some 18, .fAddr 5 (.t 1), none, false⟩,
    ⟨some 19, .fAddr 1 (.t 18), none, false⟩,
    ⟨some 20, .ld 1 false (.t 19), none, false⟩,
    ⟨some 21, .call 165 [((.t 17), false), ((.t 20), false)] false, none, false⟩,
    ⟨some 22, .ext 0 (.t 21), none, false⟩,
    ⟨some 23, .ext 1 (.t 21), none, false⟩,
    ⟨none, .st false 6 (.t 2) (.t 22), none, false⟩,
    ⟨some 3, .mv (.t 23), none, false⟩], []⟩
@[simp] def fn138 : AFun := ⟨1, [.cell 2 6 true, .t 3], true,
  .seq (.reg r138_0) (.seq (.seq (.reg r138_1) (.cond (.t 7) (.seq (.reg r138_2) (.ret)) (.skip))) (.seq (.reg r138_3) (.ret))), none⟩

theorem c138 : cFun Tryz.prog ann138 true 138 = some fn138 := by kernel_rfl

/-! 139: (modelcheck/exec.runner).steps -/

def ann139 : Ann := [{ id := 0, live := [0, 1, 2] },
  { id := 1, live := [3, 4, 5] }]

@[simp] def r139_0 : AReg := ⟨[0, 1, 2], [], [
    ⟨some 3, .box 7 (.t 0), none, false⟩,
    ⟨some 4, .box 6 (.t 1), none, false⟩,
    ⟨some 5, .box 1 (.t 2), none, false⟩,
    ⟨some 6, .mv (.c .junk), none, false⟩], []⟩
@[simp] def r139_1 : AReg := ⟨[3, 4, 5], [], [
    ⟨some 7, .mkf 166 [(.t 5), (.t 3), (.t 4)], none, false⟩,
    ⟨some 6, .mv (.t 7), none, false⟩], []⟩
@[simp] def fn139 : AFun := ⟨3, [.t 6], false,
  .seq (.reg r139_0) (.seq (.reg r139_1) (.ret)), none⟩

theorem c139 : cFun Tryz.prog ann139 false 139 = some fn139 := by kernel_rfl

/-! 141: modelcheck/machine.Enabled -/

def ann141 : Ann := [{ id := 0, live := [0, 1] },
  { id := 1, live := [2, 3] },
  { id := 2, live := [], marks := [(0, { md := .o })] },
  { id := 3, live := [2, 3], marks := [(0, { md := .o })] },
  { id := 4, live := [2, 3, 5] },
  { id := 5, live := [2, 3, 5, 15, 16, 17], drop := [2, 3, 5, 15] },
  { id := 6, live := [2, 3, 5, 15, 16, 17] },
  { id := 7, live := [2, 3, 5, 7, 15, 16, 17] },
  { id := 8, live := [2, 3, 5, 7, 8, 9, 15, 16, 17] },
  { id := 9, live := [2, 3, 5, 7, 15, 16, 17], marks := [(4, { md := .o })] },
  { id := 10, live := [2, 3, 5, 15, 16, 17] },
  { id := 11, live := [5] }]

@[simp] def r141_0 : AReg := ⟨[0, 1], [], [
    ⟨some 2, .box 5 (.t 0), none, false⟩,
    ⟨some 3, .box 6 (.t 1), none, false⟩,
    ⟨some 4, .mv (.c .nils), none, false⟩], []⟩
@[simp] def r141_1 : AReg := ⟨[2, 3], [], [
    ⟨some 10, .ld 5 true (.t 2), none, false⟩,
    ⟨some 11, .ld 6 true (.t 3), none, false⟩,
    ⟨some 12, .call 170 [((.t 10), false), ((.c (.dat (.int .i64 32))), false), ((.t 11), false)] true, none, false⟩,
    ⟨some 13, .un .not (.t 12), none, false⟩], []⟩
@[simp] def r141_2 : AReg := ⟨[], [], [
    ⟨some 4, .mvNil .o 1, none, false⟩], []⟩
@[simp] def r141_3 : AReg := ⟨[2, 3], [], [
    ⟨some 5, .mvNil .o 1, none, false⟩], []⟩
@[simp] def r141_4 : AReg := ⟨[2, 3, 5], [], [
    ⟨some 14, .fAddr 0 (.t 3), none, false⟩,
    ⟨some 15, .ld 1 false (.t 14), none, false⟩,
    ⟨some 16, .len false (.t 15), none, false⟩,
    ⟨some 17, .mv (.c (.dat (.int .i64 0))), none, false⟩], []⟩
@[simp] def r141_5 : AReg := ⟨[2, 3, 5, 15, 16, 17], [2, 3, 5, 15], [
    ⟨some 18, .bin .int .lss (.t 17) (.t 16), none, false⟩], []⟩
@[simp] def r141_6 : AReg := ⟨[2, 3, 5, 15, 16, 17], [], [
    ⟨some 19, .iAddr 17 (.t 15) (.t 17), none, false⟩,
    ⟨some 20, .ld 17 true (.t 19), none, false⟩,
    ⟨some 7, .alc [(.dat (.int .i64 0)), (.dat (.int .i64 0)), (.dat (.int .i64 0)), (.dat (.int .i64 0)), (.dat (.int .i64 0)), (.dat (.int .i64 0)), (.dat (.int .i64 0)), (.dat (.int .i64 0)), (.dat (.int .i64 0)), (.dat (.int .i64 0)), (.dat (.int .i64 0)), (.dat (.int .i64 0)), (.dat (.int .i64 0)), (.dat (.int .i64 0)), (.dat (.int .i64 0)), (.dat (.int .i64 0)), .nils], none, false⟩,
    ⟨none, .st false 17 (.t 7) (.t 20), none, false⟩], []⟩
@[simp] def r141_7 : AReg := ⟨[2, 3, 5, 7, 15, 16, 17], [], [
    ⟨some 22, .ld 5 true (.t 2), none, false⟩,
    ⟨some 23, .ld 17 true (.t 7), none, false⟩,
    ⟨some 24, .call 171 [((.t 22), false), ((.t 23), false)] false, none, false⟩,
    ⟨some 21, .mv (.t 24), none, false⟩,
    ⟨some 25, .ext 0 (.t 21), none, false⟩,
    ⟨some 26, .ext 1 (.t 21), none, false⟩,
    ⟨some 8, .alc [(.dat (.int .i64 0)), (.dat (.int .i64 0)), (.dat (.int .i64 0)), (.dat (.int .i64 0)), (.dat (.int .i64 0)), (.dat (.int .i64 0)), (.dat (.int .i64 0)), (.dat (.int .i64 0))], none, false⟩,
    ⟨none, .st false 8 (.t 8) (.t 25), none, false⟩,
    ⟨some 9, .mv (.t 26), none, false⟩], []⟩
@[simp] def r141_8 : AReg := ⟨[2, 3, 5, 7, 8, 9, 15, 16, 17], [], [
    ⟨some 27, .mv (.t 9), none, false⟩,
    ⟨some 28, .mv (.t 27), none, false⟩,
    ⟨some 29, .ld 6 true (.t 3), some (28, true), false⟩,
    ⟨some 30, .ld 17 true (.t 7), some (28, true), false⟩,
    ⟨some 31, .ld 8 true (.t 8), some (28, true), false⟩,
    ⟨some 32, .call 172 [((.t 29), false), ((.t 30), false), ((.t 31), false)] true, some (28, true), false⟩,
    ⟨some 33, .pick (.t 28) (.t 32) (.c (.dat (.bool false))), none, false⟩], []⟩
@[simp] def r141_9 : AReg := ⟨[2, 3, 5, 7, 15, 16, 17], [], [
    ⟨some 34, .mv (.t 5), none, false⟩,
    ⟨some 35, .fAddr 0 (.t 7), none, false⟩,
    ⟨some 36, .ld 1 false (.t 35), none, false⟩,
    ⟨some 37, .bldS .d 1 [(.t 36)], none, false⟩,
    ⟨some 38, .app .o 1 8 (.t 34) (.t 37), none, false⟩,
    ⟨some 5, .mv (.t 38), none, false⟩], []⟩
@[simp] def r141_10 : AReg := ⟨[2, 3, 5, 15, 16, 17], [], [
    ⟨some 39, .bin .int .add (.t 17) (.c (.dat (.int .i64 1))), none, false⟩,
    ⟨some 17, .mv (.t 39), none, false⟩], []⟩
def l141_0 : AC := .seq (.reg r141_5) (.seq (.cond (.t 18) (.skip) (.exit 0)) (.seq (.block 1 (.seq (.reg r141_6) (.seq (.reg r141_7) (.seq (.reg r141_8) (.cond (.t 33) (.reg r141_9) (.skip)))))) (.reg r141_10)))
@[simp] theorem l141_0e (K : Orc) (s : St) : exec K l141_0 s = exec K (.seq (.reg r141_5) (.seq (.cond (.t 18) (.skip) (.exit 0)) (.seq (.block 1 (.seq (.reg r141_6) (.seq (.reg r141_7) (.seq (.reg r141_8) (.cond (.t 33) (.reg r141_9) (.skip)))))) (.reg r141_10)))) s := rfl
@[simp] def r141_11 : AReg := ⟨[5], [], [
    ⟨some 40, .mv (.t 5), none, false⟩,
    ⟨some 4, .mv (.t 40), none, false⟩], []⟩
@[simp] def fn141 : AFun := ⟨2, [.t 4], true,
  .seq (.reg r141_0) (.seq (.seq (.reg r141_1) (.cond (.t 13) (.seq (.reg r141_2) (.ret)) (.skip))) (.seq (.reg r141_3) (.seq (.seq (.reg r141_4) (.block 0 (.loop l141_0))) (.seq (.reg r141_11) (.ret))))), none⟩

theorem c141 : cFun Tryz.prog ann141 true 141 = some fn141 := by kernel_rfl

/-! 142: slices.Index[[]int,int] -/

def ann142 : Ann := [{ id := 0, live := [0, 1] },
  { id := 1, live := [0, 1] },
  { id := 2, live := [0, 1, 7, 8] },
  { id := 3, live := [0, 1, 7, 8] },
  { id := 4, live := [0, 1, 5, 7, 8] },
  { id := 5, live := [5] },
  { id := 6, live := [0, 1, 7, 8] },
  { id := 7, live := [] }]

@[simp] def r142_0 : AReg := ⟨[0, 1], [], [
    ⟨some 4, .mv (.c (.dat (.int .i64 0))), none, false⟩], []⟩
@[simp] def r142_1 : AReg := ⟨[0, 1], [], [
    ⟨some 6, .mv (.t 0), none, false⟩,
    ⟨some 7, .len false (.t 6), none, false⟩,
    ⟨some 8, .mv (.c (.dat (.int .i64 0))), none, false⟩], []⟩
@[simp] def r142_2 : AReg := ⟨[0, 1, 7, 8], [], [
    ⟨some 9, .bin .int .lss (.t 8) (.t 7), none, false⟩], []⟩
@[simp] def r142_3 : AReg := ⟨[0, 1, 7, 8], [], [
    ⟨some 10, .mv (.t 8), none, false⟩,
    ⟨some 5, .mv (.t 10), none, false⟩], []⟩
@[simp] def r142_4 : AReg := ⟨[0, 1, 5, 7, 8], [], [
    ⟨some 11, .mv (.t 1), none, false⟩,
    ⟨some 12, .mv (.t 0), none, false⟩,
    ⟨some 13, .mv (.t 5), none, false⟩,
    ⟨some 14, .iAddr 1 (.t 12) (.t 13), none, false⟩,
    ⟨some 15, .ld 1 false (.t 14), none, false⟩,
    ⟨some 16, .bin .int .eql (.t 11) (.t 15), none, false⟩], []⟩
@[simp] def r142_5 : AReg := ⟨[5], [], [
    ⟨some 17, .mv (.t 5), none, false⟩,
    ⟨some 4, .mv (.t 17), none, false⟩], []⟩
@[simp] def r142_6 : AReg := ⟨[0, 1, 7, 8], [], [
    ⟨some 18, .bin .int .add (.t 8) (.c (.dat (.int .i64 1))), none, false⟩,
    ⟨some 8, .mv (.t 18), none, false⟩], []⟩
def l142_0 : AC := .seq (.reg r142_2) (.seq (.cond (.t 9) (.skip) (.exit 0)) (.seq (.block 1 (.seq (.reg r142_3) (.seq (.reg r142_4) (.cond (.t 16) (.seq (.reg r142_5) (.ret)) (.skip))))) (.reg r142_6)))
@[simp] theorem l142_0e (K : Orc) (s : St) : exec K l142_0 s = exec K (.seq (.reg r142_2) (.seq (.cond (.t 9) (.skip) (.exit 0)) (.seq (.block 1 (.seq (.reg r142_3) (.seq (.reg r142_4) (.cond (.t 16) (.seq (.reg r142_5) (.ret)) (.skip))))) (.reg r142_6)))) s := rfl
@[simp] def r142_7 : AReg := ⟨[], [], [
    ⟨some 4, .mv (.c (.dat (.int .i64 (-1)))), none, false⟩], []⟩
@[simp] def fn142 : AFun := ⟨2, [.t 4], false,
  .seq (.reg r142_0) (.seq (.seq (.reg r142_1) (.block 0 (.loop l142_0))) (.seq (.reg r142_7) (.ret))), none⟩

theorem c142 : cFun Tryz.prog ann142 false 142 = some fn142 := by kernel_rfl

/-! 143: slices.Sort[[]int,int] -/

def ann143 : Ann := [{ id := 0, live := [0] },
  { id := 1, live := [0, 2], marks := [(5, { byRef := [0] })] }]

@[simp] def r143_0 : AReg := ⟨[0], [], [
    ⟨some 3, .mv (.t 0), none, false⟩,
    ⟨some 4, .len false (.t 3), none, false⟩,
    ⟨some 2, .mv (.t 4), none, false⟩], []⟩
@[simp] def r143_1 : AReg := ⟨[0, 2], [], [
    ⟨some 5, .mv (.t 0), none, false⟩,
    ⟨some 6, .mv (.t 2), none, false⟩,
    ⟨some 7, .mv (.t 2), none, false⟩,
    ⟨some 8, .cvt .u64 (.t 7), none, false⟩,
    ⟨some 9, .call 174 [((.t 8), false)] true, none, false⟩,
    ⟨some 10, .call 173 [((.t 5), true), ((.c (.dat (.int .i64 0))), false), ((.t 6), false), ((.t 9), false)] true, none, false⟩], []⟩
@[simp] def fn143 : AFun := ⟨1, [], false,
  .seq (.reg r143_0) (.reg r143_1), none⟩

theorem c143 : cFun Tryz.prog ann143 false 143 = some fn143 := by kernel_rfl

/-! 160: modelcheck/program.checkNames -/

def ann160 : Ann := [{ id := 0, live := [0] },
  { id := 1, live := [1, 3] },
  { id := 2, live := [1, 3, 16, 17, 18], drop := [1, 3, 16] },
  { id := 3, live := [1, 3, 16, 17, 18] },
  { id := 4, live := [1, 3, 5, 16, 17, 18] },
  { id := 5, live := [1, 3, 6, 16, 17, 18] },
  { id := 6, live := [3, 6] },
  { id := 7, live := [1, 3, 16, 17, 18] },
  { id := 8, live := [1, 3] },
  { id := 9, live := [3, 8, 9] }]

@[simp] def r160_0 : AReg := ⟨[0], [], [
    ⟨some 1, .box 5 (.t 0), none, false⟩,
    ⟨some 2, .mv (.c (.dat (.int .i64 0))), none, false⟩,
    ⟨some 3, .alc [(.dat (.int .i64 0)), (.dat (.int .i64 0))], none, false⟩], []⟩
@[simp] def r160_1 : AReg := ⟨[1, 3], [], [
    ⟨some 10, .ld 5 true (.t 1), none, false⟩,
    ⟨some 11, .call 187 [((.t 10), false)] false, none, true⟩,
    ⟨some 12, .fAddr 1 (.t 1), none, false⟩,
    ⟨some 13, .ld 1 false (.t 12), none, true⟩,
    ⟨some 14, .fAddr 2 (.t 1), none, false⟩,
    ⟨some 15, .ld 1 false (.t 14), none, true⟩,
    ⟨some 16, .bldS .d 1 [(.t 11), (.t 13), (.t 15)], none, false⟩,
    ⟨some 17, .len false (.t 16), none, false⟩,
    ⟨some 18, .mv (.c (.dat (.int .i64 0))), none, false⟩], [(1, 3), (1, 5)]⟩
@[simp] def r160_2 : AReg := ⟨[1, 3, 16, 17, 18], [1, 3, 16], [
    ⟨some 19, .bin .int .lss (.t 18) (.t 17), none, false⟩], []⟩
@[simp] def r160_3 : AReg := ⟨[1, 3, 16, 17, 18], [], [
    ⟨some 20, .iAddr 1 (.t 16) (.t 18), none, false⟩,
    ⟨some 21, .ld 1 false (.t 20), none, false⟩,
    ⟨some 5, .mv (.t 21), none, false⟩], []⟩
@[simp] def r160_4 : AReg := ⟨[1, 3, 5, 16, 17, 18], [], [
    ⟨some 23, .mv (.t 5), none, false⟩,
    ⟨some 24, .call 188 [((.t 23), false)] true, none, false⟩,
    ⟨some 22, .mv (.t 24), none, false⟩,
    ⟨some 25, .ext 0 (.t 22), none, false⟩,
    ⟨some 26, .ext 1 (.t 22), none, false⟩,
    ⟨some 6, .mv (.t 25), none, false⟩,
    ⟨some 7, .mv (.t 26), none, false⟩], []⟩
@[simp] def r160_5 : AReg := ⟨[1, 3, 6, 16, 17, 18], [], [
    ⟨some 27, .mv (.t 6), none, false⟩,
    ⟨some 28, .bin .int .neq (.t 27) (.c (.dat (.int .i64 0))), none, false⟩], []⟩
@[simp] def r160_6 : AReg := ⟨[3, 6], [], [
    ⟨some 29, .mv (.t 6), none, false⟩,
    ⟨some 30, .bld [(.dat (.int .i64 0)), (.dat (.int .i64 0))] [(0, 1, (.c (.dat (.int .i64 (-1))))), (1, 1, (.c (.dat (.int .i64 (-1)))))], none, false⟩,
    ⟨some 2, .mv (.t 29), none, false⟩,
    ⟨none, .st false 2 (.t 3) (.t 30), none, false⟩], []⟩
@[simp] def r160_7 : AReg := ⟨[1, 3, 16, 17, 18], [], [
    ⟨some 31, .bin .int .add (.t 18) (.c (.dat (.int .i64 1))), none, false⟩,
    ⟨some 18, .mv (.t 31), none, false⟩], []⟩
def l160_0 : AC := .seq (.reg r160_2) (.seq (.cond (.t 19) (.skip) (.exit 0)) (.seq (.block 1 (.seq (.reg r160_3) (.seq (.reg r160_4) (.seq (.reg r160_5) (.cond (.t 28) (.seq (.reg r160_6) (.ret)) (.skip)))))) (.reg r160_7)))
@[simp] theorem l160_0e (K : Orc) (s : St) : exec K l160_0 s = exec K (.seq (.reg r160_2) (.seq (.cond (.t 19) (.skip) (.exit 0)) (.seq (.block 1 (.seq (.reg r160_3) (.seq (.reg r160_4) (.seq (.reg r160_5) (.cond (.t 28) (.seq (.reg r160_6) (.ret)) (.skip)))))) (.reg r160_7)))) s := rfl
@[simp] def r160_8 : AReg := ⟨[1, 3], [], [
    ⟨some 33, .ld 5 true (.t 1), none, false⟩,
    ⟨some 34, .call 189 [((.t 33), false)] false, none, false⟩,
    ⟨some 35, .call 188 [((.t 34), false)] true, none, false⟩,
    ⟨some 32, .mv (.t 35), none, false⟩,
    ⟨some 36, .ext 0 (.t 32), none, false⟩,
    ⟨some 37, .ext 1 (.t 32), none, false⟩,
    ⟨some 8, .mv (.t 36), none, false⟩,
    ⟨some 9, .mv (.t 37), none, false⟩], []⟩
@[simp] def r160_9 : AReg := ⟨[3, 8, 9], [], [
    ⟨some 38, .mv (.t 8), none, false⟩,
    ⟨some 39, .mv (.t 9), none, false⟩,
    ⟨some 40, .bld [(.dat (.int .i64 0)), (.dat (.int .i64 0))] [(0, 1, (.t 39)), (1, 1, (.c (.dat (.int .i64 (-1)))))], none, false⟩,
    ⟨some 2, .mv (.t 38), none, false⟩,
    ⟨none, .st false 2 (.t 3) (.t 40), none, false⟩], []⟩
@[simp] def fn160 : AFun := ⟨1, [.t 2, .cell 3 2 true], false,
  .seq (.reg r160_0) (.seq (.seq (.reg r160_1) (.block 0 (.loop l160_0))) (.seq (.reg r160_8) (.seq (.reg r160_9) (.ret)))), none⟩

theorem c160 : cFun Tryz.prog ann160 false 160 = some fn160 := by kernel_rfl

/-! 161: modelcheck/program.checkObjects -/

def ann161 : Ann := [{ id := 0, live := [0] },
  { id := 1, live := [1, 3] },
  { id := 2, live := [1, 3, 4] },
  { id := 3, live := [3, 4] },
  { id := 4, live := [1, 3, 4] },
  { id := 5, live := [3, 4, 32, 33, 34], drop := [3, 4, 32] },
  { id := 6, live := [3, 4, 32, 33, 34] },
  { id := 7, live := [3, 4, 6, 32, 33, 34] },
  { id := 8, live := [3, 4] },
  { id := 9, live := [3, 4, 32, 33, 34] },
  { id := 10, live := [3, 4] }]

@[simp] def r161_0 : AReg := ⟨[0], [], [
    ⟨some 1, .box 5 (.t 0), none, false⟩,
    ⟨some 2, .mv (.c (.dat (.int .i64 0))), none, false⟩,
    ⟨some 3, .alc [(.dat (.int .i64 0)), (.dat (.int .i64 0))], none, false⟩], []⟩
@[simp] def r161_1 : AReg := ⟨[1, 3], [], [
    ⟨some 7, .bld [(.dat (.int .i64 0)), (.dat (.int .i64 0))] [(0, 1, (.c (.dat (.int .i64 (-1))))), (1, 1, (.c (.dat (.int .i64 (-1)))))], none, false⟩,
    ⟨some 4, .alc [(.dat (.int .i64 0)), (.dat (.int .i64 0))], none, false⟩,
    ⟨none, .st false 2 (.t 4) (.t 7), none, false⟩], []⟩
@[simp] def r161_2 : AReg := ⟨[1, 3, 4], [], [
    ⟨some 8, .fAddr 0 (.t 1), none, false⟩,
    ⟨some 9, .ld 1 false (.t 8), none, false⟩,
    ⟨some 10, .len false (.t 9), none, false⟩,
    ⟨some 11, .bin .int .gtr (.t 10) (.c (.dat (.int .i64 8))), none, false⟩,
    ⟨some 12, .mv (.t 11), none, false⟩,
    ⟨some 13, .fAddr 1 (.t 1), some (12, false), false⟩,
    ⟨some 14, .ld 1 false (.t 13), some (12, false), false⟩,
    ⟨some 15, .len false (.t 14), some (12, false), false⟩,
    ⟨some 16, .bin .int .gtr (.t 15) (.c (.dat (.int .i64 4))), some (12, false), false⟩,
    ⟨some 17, .pick (.t 12) (.c (.dat (.bool true))) (.t 16), none, false⟩,
    ⟨some 18, .mv (.t 17), none, false⟩,
    ⟨some 19, .fAddr 2 (.t 1), some (18, false), false⟩,
    ⟨some 20, .ld 1 false (.t 19), some (18, false), false⟩,
    ⟨some 21, .len false (.t 20), some (18, false), false⟩,
    ⟨some 22, .bin .int .gtr (.t 21) (.c (.dat (.int .i64 4))), some (18, false), false⟩,
    ⟨some 23, .pick (.t 18) (.c (.dat (.bool true))) (.t 22), none, false⟩,
    ⟨some 24, .mv (.t 23), none, false⟩,
    ⟨some 25, .fAddr 3 (.t 1), some (24, false), false⟩,
    ⟨some 26, .ld 1 false (.t 25), some (24, false), false⟩,
    ⟨some 27, .len false (.t 26), some (24, false), false⟩,
    ⟨some 28, .bin .int .gtr (.t 27) (.c (.dat (.int .i64 8))), some (24, false), false⟩,
    ⟨some 29, .pick (.t 24) (.c (.dat (.bool true))) (.t 28), none, false⟩], []⟩
@[simp] def r161_3 : AReg := ⟨[3, 4], [], [
    ⟨some 30, .ld 2 true (.t 4), none, false⟩,
    ⟨some 2, .mv (.c (.dat (.int .i64 4))), none, false⟩,
    ⟨none, .st false 2 (.t 3) (.t 30), none, false⟩], []⟩
@[simp] def r161_4 : AReg := ⟨[1, 3, 4], [], [
    ⟨some 31, .fAddr 0 (.t 1), none, false⟩,
    ⟨some 32, .ld 1 false (.t 31), none, false⟩,
    ⟨some 33, .len false (.t 32), none, false⟩,
    ⟨some 34, .mv (.c (.dat (.int .i64 0))), none, false⟩], []⟩
@[simp] def r161_5 : AReg := ⟨[3, 4, 32, 33, 34], [3, 4, 32], [
    ⟨some 35, .bin .int .lss (.t 34) (.t 33), none, false⟩], []⟩
@[simp] def r161_6 : AReg := ⟨[3, 4, 32, 33, 34], [], [
    ⟨some 36, .iAddr 2 (.t 32) (.t 34), none, false⟩,
    ⟨some 37, .ld 2 true (.t 36), none, false⟩,
    ⟨some 6, .alc [(.dat (.str [])), (.dat (.int .i64 0))], none, false⟩,
    ⟨none, .st false 2 (.t 6) (.t 37), none, false⟩], []⟩
@[simp] def r161_7 : AReg := ⟨[3, 4, 6, 32, 33, 34], [], [
    ⟨some 38, .fAddr 1 (.t 6), none, false⟩,
    ⟨some 39, .ld 1 false (.t 38), none, false⟩,
    ⟨some 40, .call 190 [((.t 39), false)] true, none, false⟩,
    ⟨some 41, .un .not (.t 40), none, false⟩], []⟩
@[simp] def r161_8 : AReg := ⟨[3, 4], [], [
    ⟨some 42, .ld 2 true (.t 4), none, false⟩,
    ⟨some 2, .mv (.c (.dat (.int .i64 2))), none, false⟩,
    ⟨none, .st false 2 (.t 3) (.t 42), none, false⟩], []⟩
@[simp] def r161_9 : AReg := ⟨[3, 4, 32, 33, 34], [], [
    ⟨some 43, .bin .int .add (.t 34) (.c (.dat (.int .i64 1))), none, false⟩,
    ⟨some 34, .mv (.t 43), none, false⟩], []⟩
def l161_0 : AC := .seq (.reg r161_5) (.seq (.cond (.t 35) (.skip) (.exit 0)) (.seq (.block 1 (.seq (.reg r161_6) (.seq (.reg r161_7) (.cond (.t 41) (.seq (.reg r161_8) (.ret)) (.skip))))) (.reg r161_9)))
@[simp] theorem l161_0e (K : Orc) (s : St) : exec K l161_0 s = exec K (.seq (.reg r161_5) (.seq (.cond (.t 35) (.skip) (.exit 0)) (.seq (.block 1 (.seq (.reg r161_6) (.seq (.reg r161_7) (.cond (.t 41) (.seq (.reg r161_8) (.ret)) (.skip))))) (.reg r161_9)))) s := rfl
@[simp] def r161_10 : AReg := ⟨[3, 4], [], [
    ⟨some 44, .ld 2 true (.t 4), none, false⟩,
    ⟨some 2, .mv (.c (.dat (.int .i64 0))), none, false⟩,
    ⟨none, .st false 2 (.t 3) (.t 44), none, false⟩], []⟩
@[simp] def fn161 : AFun := ⟨1, [.t 2, .cell 3 2 true], false,
  .seq (.reg r161_0) (.seq (.reg r161_1) (.seq (.seq (.reg r161_2) (.cond (.t 29) (.seq (.reg r161_3) (.ret)) (.skip))) (.seq (.seq (.reg r161_4) (.block 0 (.loop l161_0))) (.seq (.reg r161_10) (.ret))))), none⟩

theorem c161 : cFun Tryz.prog ann161 false 161 = some fn161 := by kernel_rfl

/-! 162: modelcheck/program.checkCode -/

def ann162 : Ann := [{ id := 0, live := [0] },
  { id := 1, live := [1, 2, 3], marks := [(2, { byRef := [1] })] },
  { id := 2, live := [1, 2, 3, 4] },
  { id := 3, live := [1, 2, 3, 4, 13, 14] },
  { id := 4, live := [1, 2, 3, 4, 5, 14] },
  { id := 5, live := [1, 2, 3, 4, 5, 6] },
  { id := 6, live := [1, 2, 3, 5, 6] },
  { id := 7, live := [2, 3, 5, 7] },
  { id := 8, live := [2, 3, 5, 7] },
  { id := 9, live := [2, 3, 4] },
  { id := 10, live := [2, 3, 4] },
  { id := 11, live := [2, 3] },
  { id := 1000000, live := [1, 2, 3, 4], drop := [162] }]

@[simp] def r162_0 : AReg := ⟨[0], [], [
    ⟨some 1, .box 5 (.t 0), none, false⟩,
    ⟨some 2, .alc [(.dat (.int .i64 0))], none, false⟩,
    ⟨some 3, .alc [(.dat (.int .i64 0)), (.dat (.int .i64 0))], none, false⟩], []⟩
@[simp] def r162_1 : AReg := ⟨[1, 2, 3], [], [
    ⟨some 8, .fAddr 3 (.t 1), none, false⟩,
    ⟨some 9, .ld 1 false (.t 8), none, false⟩,
    ⟨some 10, .call 191 [((.t 9), false), ((.c (.fn 192 [])), true)] true, none, false⟩,
    ⟨some 4, .alc [(.dat (.int .i64 0))], none, false⟩,
    ⟨none, .st false 1 (.t 4) (.t 10), none, false⟩], []⟩
@[simp] def r162_2 : AReg := ⟨[1, 2, 3, 4], [], [
    ⟨some 11, .ld 5 true (.t 1), none, false⟩,
    ⟨some 12, .call 193 [((.t 11), false)] false, none, false⟩], []⟩
@[simp] def r162_3 : AReg := ⟨[2, 3, 4], [], [
    ⟨some 34, .ld 1 false (.t 4), none, false⟩,
    ⟨some 35, .bin .int .geq (.t 34) (.c (.dat (.int .i64 0))), none, false⟩], []⟩
@[simp] def r162_4 : AReg := ⟨[2, 3, 4], [], [
    ⟨some 36, .ld 1 false (.t 4), none, true⟩,
    ⟨some 37, .bld [(.dat (.int .i64 0)), (.dat (.int .i64 0))] [(0, 1, (.t 36)), (1, 1, (.c (.dat (.int .i64 (-1)))))], none, false⟩,
    ⟨none, .st false 1 (.t 2) (.c (.dat (.int .i64 4))), none, true⟩,
    ⟨none, .st false 2 (.t 3) (.t 37), none, false⟩], [(0, 2)]⟩
@[simp] def r162_5 : AReg := ⟨[2, 3], [], [
    ⟨some 38, .bld [(.dat (.int .i64 0)), (.dat (.int .i64 0))] [(0, 1, (.c (.dat (.int .i64 (-1))))), (1, 1, (.c (.dat (.int .i64 (-1)))))], none, false⟩,
    ⟨none, .st false 1 (.t 2) (.c (.dat (.int .i64 0))), none, false⟩,
    ⟨none, .st false 2 (.t 3) (.t 38), none, false⟩], []⟩
@[simp] def fn162 : AFun := ⟨1, [.cell 2 1 false, .cell 3 2 true], false,
  .seq (.reg r162_0) (.seq (.reg r162_1) (.seq (.seq (.reg r162_2) (.block 0 (.rf (.t 12) 162 39 [1, 2, 3, 4]))) (.seq (.seq (.reg r162_3) (.cond (.t 35) (.seq (.reg r162_4) (.ret)) (.skip))) (.seq (.reg r162_5) (.ret))))), none⟩

theorem c162 : cFun Tryz.prog ann162 false 162 = some fn162 := by kernel_rfl

@[simp] def r162_500 : AReg := ⟨[1, 2, 3, 4, 13, 14], [], [
    ⟨some 5, .alc [(.dat (.int .i64 0)), (.dat (.int .i64 0))], none, false⟩,
    ⟨none, .st false 2 (.t 5) (.t 13), none, false⟩], []⟩
@[simp] def r162_501 : AReg := ⟨[1, 2, 3, 4, 5, 14], [], [
    ⟨some 6, .alc [(.dat (.int .i64 0)), (.dat (.int .i64 0)), (.dat (.int .i64 0)), (.dat (.int .i64 0)), (.dat (.int .i64 0)), (.dat (.int .i64 0)), (.dat (.int .i64 0)), (.dat (.int .i64 0))], none, false⟩,
    ⟨none, .st false 8 (.t 6) (.t 14), none, false⟩], []⟩
@[simp] def r162_502 : AReg := ⟨[1, 2, 3, 4, 5, 6], [], [
    ⟨some 15, .fAddr 0 (.t 5), none, false⟩,
    ⟨some 16, .ld 1 false (.t 15), none, false⟩,
    ⟨some 17, .ld 1 false (.t 4), none, false⟩,
    ⟨some 18, .bin .int .eql (.t 16) (.t 17), none, false⟩], []⟩
@[simp] def r162_503 : AReg := ⟨[1, 2, 3, 5, 6], [], [
    ⟨some 19, .ld 5 true (.t 1), none, false⟩,
    ⟨some 20, .ld 8 true (.t 6), none, false⟩,
    ⟨some 21, .fAddr 3 (.t 1), none, false⟩,
    ⟨some 22, .ld 1 false (.t 21), none, false⟩,
    ⟨some 23, .fAddr 0 (.t 5), none, false⟩,
    ⟨some 24, .ld 1 false (.t 23), none, false⟩,
    ⟨some 25, .iAddr 2 (.t 22) (.t 24), none, false⟩,
    ⟨some 26, .fAddr 1 (.t 25), none, false⟩,
    ⟨some 27, .ld 1 false (.t 26), none, false⟩,
    ⟨some 28, .len false (.t 27), none, false⟩,
    ⟨some 29, .call 194 [((.t 19), false), ((.t 20), false), ((.t 28), false)] true, none, false⟩,
    ⟨some 7, .mv (.t 29), none, false⟩], []⟩
@[simp] def r162_504 : AReg := ⟨[2, 3, 5, 7], [], [
    ⟨some 30, .mv (.t 7), none, false⟩,
    ⟨some 31, .bin .int .neq (.t 30) (.c (.dat (.int .i64 0))), none, false⟩], []⟩
@[simp] def r162_505 : AReg := ⟨[2, 3, 5, 7], [], [
    ⟨some 32, .mv (.t 7), none, false⟩,
    ⟨some 33, .ld 2 true (.t 5), none, true⟩,
    ⟨none, .st false 1 (.t 2) (.t 32), none, true⟩,
    ⟨none, .st false 2 (.t 3) (.t 33), none, false⟩], [(1, 2)]⟩
@[simp] def lp162 : ALoop := ⟨[13, 14],
  .seq (.reg r162_500) (.reg r162_501),
  .block 1 (.seq (.seq (.reg r162_502) (.cond (.t 18) (.exit 0) (.skip))) (.seq (.reg r162_503) (.seq (.reg r162_504) (.cond (.t 31) (.seq (.reg r162_505) (.ret)) (.skip)))))⟩

theorem cl162 : cLoop Tryz.prog ann162 162 = some lp162 := by kernel_rfl

/-! 163: modelcheck/program.checkThreads -/

def ann163 : Ann := [{ id := 0, live := [0] },
  { id := 1, live := [1, 3] },
  { id := 2, live := [1, 3, 4] },
  { id := 3, live := [3, 4] },
  { id := 4, live := [1, 3, 4] },
  { id := 5, live := [1, 3, 4, 20, 21, 22], drop := [1, 3, 4, 20] },
  { id := 6, live := [1, 3, 4, 20, 21, 22] },
  { id := 7, live := [1, 3, 4, 6, 20, 21, 22] },
  { id := 8, live := [3, 4] },
  { id := 9, live := [1, 3, 4, 6, 20, 21, 22] },
  { id := 10, live := [3, 4] },
  { id := 11, live := [1, 3, 4, 20, 21, 22] },
  { id := 12, live := [3, 4] }]

@[simp] def r163_0 : AReg := ⟨[0], [], [
    ⟨some 1, .box 5 (.t 0), none, false⟩,
    ⟨some 2, .mv (.c (.dat (.int .i64 0))), none, false⟩,
    ⟨some 3, .alc [(.dat (.int .i64 0)), (.dat (.int .i64 0))], none, false⟩], []⟩
@[simp] def r163_1 : AReg := ⟨[1, 3], [], [
    ⟨some 7, .bld [(.dat (.int .i64 0)), (.dat (.int .i64 0))] [(0, 1, (.c (.dat (.int .i64 (-1))))), (1, 1, (.c (.dat (.int .i64 (-1)))))], none, false⟩,
    ⟨some 4, .alc [(.dat (.int .i64 0)), (.dat (.int .i64 0))], none, false⟩,
    ⟨none, .st false 2 (.t 4) (.t 7), none, false⟩], []⟩
@[simp] def r163_2 : AReg := ⟨[1, 3, 4], [], [
    ⟨some 8, .fAddr 4 (.t 1), none, false⟩,
    ⟨some 9, .ld 1 false (.t 8), none, false⟩,
    ⟨some 10, .len false (.t 9), none, false⟩,
    ⟨some 11, .bin .int .lss (.t 10) (.c (.dat (.int .i64 1))), none, false⟩,
    ⟨some 12, .mv (.t 11), none, false⟩,
    ⟨some 13, .fAddr 4 (.t 1), some (12, false), false⟩,
    ⟨some 14, .ld 1 false (.t 13), some (12, false), false⟩,
    ⟨some 15, .len false (.t 14), some (12, false), false⟩,
    ⟨some 16, .bin .int .gtr (.t 15) (.c (.dat (.int .i64 8))), some (12, false), false⟩,
    ⟨some 17, .pick (.t 12) (.c (.dat (.bool true))) (.t 16), none, false⟩], []⟩
@[simp] def r163_3 : AReg := ⟨[3, 4], [], [
    ⟨some 18, .ld 2 true (.t 4), none, false⟩,
    ⟨some 2, .mv (.c (.dat (.int .i64 4))), none, false⟩,
    ⟨none, .st false 2 (.t 3) (.t 18), none, false⟩], []⟩
@[simp] def r163_4 : AReg := ⟨[1, 3, 4], [], [
    ⟨some 19, .fAddr 4 (.t 1), none, false⟩,
    ⟨some 20, .ld 1 false (.t 19), none, false⟩,
    ⟨some 21, .len false (.t 20), none, false⟩,
    ⟨some 22, .mv (.c (.dat (.int .i64 0))), none, false⟩], []⟩
@[simp] def r163_5 : AReg := ⟨[1, 3, 4, 20, 21, 22], [1, 3, 4, 20], [
    ⟨some 23, .bin .int .lss (.t 22) (.t 21), none, false⟩], []⟩
@[simp] def r163_6 : AReg := ⟨[1, 3, 4, 20, 21, 22], [], [
    ⟨some 24, .iAddr 2 (.t 20) (.t 22), none, false⟩,
    ⟨some 25, .ld 2 true (.t 24), none, false⟩,
    ⟨some 6, .alc [(.dat (.int .i64 0)), (.dat (.int .i64 0))], none, false⟩,
    ⟨none, .st false 2 (.t 6) (.t 25), none, false⟩], []⟩
@[simp] def r163_7 : AReg := ⟨[1, 3, 4, 6, 20, 21, 22], [], [
    ⟨some 26, .fAddr 0 (.t 6), none, false⟩,
    ⟨some 27, .ld 1 false (.t 26), none, false⟩,
    ⟨some 28, .bin .int .lss (.t 27) (.c (.dat (.int .i64 0))), none, false⟩,
    ⟨some 29, .mv (.t 28), none, false⟩,
    ⟨some 30, .fAddr 0 (.t 6), some (29, false), false⟩,
    ⟨some 31, .ld 1 false (.t 30), some (29, false), false⟩,
    ⟨some 32, .fAddr 3 (.t 1), some (29, false), false⟩,
    ⟨some 33, .ld 1 false (.t 32), some (29, false), false⟩,
    ⟨some 34, .len false (.t 33), some (29, false), false⟩,
    ⟨some 35, .bin .int .geq (.t 31) (.t 34), some (29, false), false⟩,
    ⟨some 36, .pick (.t 29) (.c (.dat (.bool true))) (.t 35), none, false⟩], []⟩
@[simp] def r163_8 : AReg := ⟨[3, 4], [], [
    ⟨some 37, .ld 2 true (.t 4), none, false⟩,
    ⟨some 2, .mv (.c (.dat (.int .i64 11))), none, false⟩,
    ⟨none, .st false 2 (.t 3) (.t 37), none, false⟩], []⟩
@[simp] def r163_9 : AReg := ⟨[1, 3, 4, 6, 20, 21, 22], [], [
    ⟨some 38, .fAddr 1 (.t 6), none, false⟩,
    ⟨some 39, .ld 1 false (.t 38), none, false⟩,
    ⟨some 40, .call 190 [((.t 39), false)] true, none, false⟩,
    ⟨some 41, .un .not (.t 40), none, false⟩], []⟩
@[simp] def r163_10 : AReg := ⟨[3, 4], [], [
    ⟨some 42, .ld 2 true (.t 4), none, false⟩,
    ⟨some 2, .mv (.c (.dat (.int .i64 2))), none, false⟩,
    ⟨none, .st false 2 (.t 3) (.t 42), none, false⟩], []⟩
@[simp] def r163_11 : AReg := ⟨[1, 3, 4, 20, 21, 22], [], [
    ⟨some 43, .bin .int .add (.t 22) (.c (.dat (.int .i64 1))), none, false⟩,
    ⟨some 22, .mv (.t 43), none, false⟩], []⟩
def l163_0 : AC := .seq (.reg r163_5) (.seq (.cond (.t 23) (.skip) (.exit 0)) (.seq (.block 1 (.seq (.reg r163_6) (.seq (.seq (.reg r163_7) (.cond (.t 36) (.seq (.reg r163_8) (.ret)) (.skip))) (.seq (.reg r163_9) (.cond (.t 41) (.seq (.reg r163_10) (.ret)) (.skip)))))) (.reg r163_11)))
@[simp] theorem l163_0e (K : Orc) (s : St) : exec K l163_0 s = exec K (.seq (.reg r163_5) (.seq (.cond (.t 23) (.skip) (.exit 0)) (.seq (.block 1 (.seq (.reg r163_6) (.seq (.seq (.reg r163_7) (.cond (.t 36) (.seq (.reg r163_8) (.ret)) (.skip))) (.seq (.reg r163_9) (.cond (.t 41) (.seq (.reg r163_10) (.ret)) (.skip)))))) (.reg r163_11)))) s := rfl
@[simp] def r163_12 : AReg := ⟨[3, 4], [], [
    ⟨some 44, .ld 2 true (.t 4), none, false⟩,
    ⟨some 2, .mv (.c (.dat (.int .i64 0))), none, false⟩,
    ⟨none, .st false 2 (.t 3) (.t 44), none, false⟩], []⟩
@[simp] def fn163 : AFun := ⟨1, [.t 2, .cell 3 2 true], false,
  .seq (.reg r163_0) (.seq (.reg r163_1) (.seq (.seq (.reg r163_2) (.cond (.t 17) (.seq (.reg r163_3) (.ret)) (.skip))) (.seq (.seq (.reg r163_4) (.block 0 (.loop l163_0))) (.seq (.reg r163_12) (.ret))))), none⟩

theorem c163 : cFun Tryz.prog ann163 false 163 = some fn163 := by kernel_rfl

/-! 165: modelcheck/machine.Start -/

def ann165 : Ann := [{ id := 0, live := [0, 1] },
  { id := 1, live := [1, 2, 4] },
  { id := 2, live := [1, 2, 4, 6] },
  { id := 3, live := [4, 6] },
  { id := 4, live := [1, 2, 4] },
  { id := 5, live := [1, 2, 4, 7, 8] },
  { id := 6, live := [4, 8] },
  { id := 7, live := [1, 2, 4, 7] },
  { id := 8, live := [1, 2, 4, 9] },
  { id := 9, live := [1, 2, 4, 9, 33, 34, 35], drop := [2, 4, 9, 33] },
  { id := 10, live := [1, 2, 4, 9, 33, 34, 35] },
  { id := 11, live := [1, 2, 4, 9, 10, 11, 33, 34, 35] },
  { id := 12, live := [1, 2, 4, 9, 12, 13, 33, 34, 35] },
  { id := 13, live := [4, 13] },
  { id := 14, live := [1, 2, 4, 9, 12, 33, 34, 35], marks := [(4, { md := .o })] },
  { id := 15, live := [1, 2, 4, 9, 33, 34, 35] },
  { id := 16, live := [4, 9] }]

@[simp] def r165_0 : AReg := ⟨[0, 1], [], [
    ⟨some 2, .box 5 (.t 0), none, false⟩,
    ⟨some 4, .alc [.nils, .nils, .nils, .nils, .nils, .nils], none, false⟩,
    ⟨some 5, .mv (.c (.dat (.int .i64 0))), none, false⟩], []⟩
@[simp] def r165_1 : AReg := ⟨[1, 2, 4], [], [
    ⟨some 14, .ld 5 true (.t 2), none, false⟩,
    ⟨some 15, .mv (.t 1), none, false⟩,
    ⟨some 16, .call 195 [((.t 14), false), ((.t 15), false)] true, none, false⟩,
    ⟨some 6, .mv (.t 16), none, false⟩], []⟩
@[simp] def r165_2 : AReg := ⟨[1, 2, 4, 6], [], [
    ⟨some 17, .mv (.t 6), none, false⟩,
    ⟨some 18, .bin .int .neq (.t 17) (.c (.dat (.int .i64 0))), none, false⟩], []⟩
@[simp] def r165_3 : AReg := ⟨[4, 6], [], [
    ⟨some 19, .bld [.nils, .nils, .nils, .nils, .nils, .nils] [], none, false⟩,
    ⟨some 20, .mv (.t 6), none, false⟩,
    ⟨none, .st false 6 (.t 4) (.t 19), none, false⟩,
    ⟨some 5, .mv (.t 20), none, false⟩], []⟩
@[simp] def r165_4 : AReg := ⟨[1, 2, 4], [], [
    ⟨some 22, .ld 5 true (.t 2), none, false⟩,
    ⟨some 23, .call 196 [((.t 22), false)] false, none, false⟩,
    ⟨some 21, .mv (.t 23), none, false⟩,
    ⟨some 24, .ext 0 (.t 21), none, false⟩,
    ⟨some 25, .ext 1 (.t 21), none, false⟩,
    ⟨some 7, .alc [.nils, .nils, .nils, .nils], none, false⟩,
    ⟨none, .st false 4 (.t 7) (.t 24), none, false⟩,
    ⟨some 8, .mv (.t 25), none, false⟩], []⟩
@[simp] def r165_5 : AReg := ⟨[1, 2, 4, 7, 8], [], [
    ⟨some 26, .mv (.t 8), none, false⟩,
    ⟨some 27, .bin .int .neq (.t 26) (.c (.dat (.int .i64 0))), none, false⟩], []⟩
@[simp] def r165_6 : AReg := ⟨[4, 8], [], [
    ⟨some 28, .bld [.nils, .nils, .nils, .nils, .nils, .nils] [], none, false⟩,
    ⟨some 29, .mv (.t 8), none, false⟩,
    ⟨none, .st false 6 (.t 4) (.t 28), none, false⟩,
    ⟨some 5, .mv (.t 29), none, false⟩], []⟩
@[simp] def r165_7 : AReg := ⟨[1, 2, 4, 7], [], [
    ⟨some 30, .ld 4 true (.t 7), none, false⟩,
    ⟨some 31, .bld [.nils, .nils, .nils, .nils, .nils, .nils] [(1, 4, (.t 30))], none, false⟩,
    ⟨some 9, .alc [.nils, .nils, .nils, .nils, .nils, .nils], none, false⟩,
    ⟨none, .st false 6 (.t 9) (.t 31), none, false⟩], []⟩
@[simp] def r165_8 : AReg := ⟨[1, 2, 4, 9], [], [
    ⟨some 32, .fAddr 4 (.t 2), none, false⟩,
    ⟨some 33, .ld 1 false (.t 32), none, false⟩,
    ⟨some 34, .len false (.t 33), none, false⟩,
    ⟨some 35, .mv (.c (.dat (.int .i64 0))), none, false⟩], []⟩
@[simp] def r165_9 : AReg := ⟨[1, 2, 4, 9, 33, 34, 35], [2, 4, 9, 33], [
    ⟨some 36, .bin .int .lss (.t 35) (.t 34), none, false⟩], []⟩
@[simp] def r165_10 : AReg := ⟨[1, 2, 4, 9, 33, 34, 35], [], [
    ⟨some 37, .mv (.t 35), none, false⟩,
    ⟨some 38, .iAddr 2 (.t 33) (.t 35), none, false⟩,
    ⟨some 39, .ld 2 true (.t 38), none, false⟩,
    ⟨some 11, .alc [(.dat (.int .i64 0)), (.dat (.int .i64 0))], none, false⟩,
    ⟨some 10, .mv (.t 37), none, false⟩,
    ⟨none, .st false 2 (.t 11) (.t 39), none, false⟩], []⟩
@[simp] def r165_11 : AReg := ⟨[1, 2, 4, 9, 10, 11, 33, 34, 35], [], [
    ⟨some 41, .ld 5 true (.t 2), none, false⟩,
    ⟨some 42, .mv (.t 1), none, false⟩,
    ⟨some 43, .mv (.t 10), none, false⟩,
    ⟨some 44, .fAddr 0 (.t 11), none, false⟩,
    ⟨some 45, .ld 1 false (.t 44), none, false⟩,
    ⟨some 46, .fAddr 1 (.t 11), none, false⟩,
    ⟨some 47, .ld 1 false (.t 46), none, false⟩,
    ⟨some 48, .call 197 [((.t 41), false), ((.t 42), false), ((.t 43), false), ((.t 45), false), ((.t 47), false)] false, none, false⟩,
    ⟨some 40, .mv (.t 48), none, false⟩,
    ⟨some 49, .ext 0 (.t 40), none, false⟩,
    ⟨some 50, .ext 1 (.t 40), none, false⟩,
    ⟨some 12, .alc [(.dat (.int .i64 0)), (.dat (.int .i64 0)), (.dat (.int .i64 0)), (.dat (.int .i64 0)), (.dat (.int .i64 0)), (.dat (.int .i64 0)), (.dat (.int .i64 0)), (.dat (.int .i64 0)), (.dat (.int .i64 0)), (.dat (.int .i64 0)), (.dat (.int .i64 0)), (.dat (.int .i64 0)), (.dat (.int .i64 0)), (.dat (.int .i64 0)), (.dat (.int .i64 0)), (.dat (.int .i64 0)), .nils], none, false⟩,
    ⟨none, .st false 17 (.t 12) (.t 49), none, false⟩,
    ⟨some 13, .mv (.t 50), none, false⟩], []⟩
@[simp] def r165_12 : AReg := ⟨[1, 2, 4, 9, 12, 13, 33, 34, 35], [], [
    ⟨some 51, .mv (.t 13), none, false⟩,
    ⟨some 52, .bin .int .neq (.t 51) (.c (.dat (.int .i64 0))), none, false⟩], []⟩
@[simp] def r165_13 : AReg := ⟨[4, 13], [], [
    ⟨some 53, .bld [.nils, .nils, .nils, .nils, .nils, .nils] [], none, false⟩,
    ⟨some 54, .mv (.t 13), none, false⟩,
    ⟨none, .st false 6 (.t 4) (.t 53), none, false⟩,
    ⟨some 5, .mv (.t 54), none, false⟩], []⟩
@[simp] def r165_14 : AReg := ⟨[1, 2, 4, 9, 12, 33, 34, 35], [], [
    ⟨some 55, .fAddr 0 (.t 9), none, false⟩,
    ⟨some 56, .ld 1 false (.t 55), none, false⟩,
    ⟨some 57, .ld 17 true (.t 12), none, false⟩,
    ⟨some 58, .bldS .d 17 [(.t 57)], none, false⟩,
    ⟨some 59, .app .o 17 152 (.t 56) (.t 58), none, false⟩,
    ⟨some 60, .fAddr 0 (.t 9), none, false⟩,
    ⟨none, .st false 1 (.t 60) (.t 59), none, false⟩], []⟩
@[simp] def r165_15 : AReg := ⟨[1, 2, 4, 9, 33, 34, 35], [], [
    ⟨some 61, .bin .int .add (.t 35) (.c (.dat (.int .i64 1))), none, false⟩,
    ⟨some 35, .mv (.t 61), none, false⟩], []⟩
def l165_0 : AC := .seq (.reg r165_9) (.seq (.cond (.t 36) (.skip) (.exit 0)) (.seq (.block 1 (.seq (.reg r165_10) (.seq (.reg r165_11) (.seq (.seq (.reg r165_12) (.cond (.t 52) (.seq (.reg r165_13) (.ret)) (.skip))) (.reg r165_14))))) (.reg r165_15)))
@[simp] theorem l165_0e (K : Orc) (s : St) : exec K l165_0 s = exec K (.seq (.reg r165_9) (.seq (.cond (.t 36) (.skip) (.exit 0)) (.seq (.block 1 (.seq (.reg r165_10) (.seq (.reg r165_11) (.seq (.seq (.reg r165_12) (.cond (.t 52) (.seq (.reg r165_13) (.ret)) (.skip))) (.reg r165_14))))) (.reg r165_15)))) s := rfl
@[simp] def r165_16 : AReg := ⟨[4, 9], [], [
    ⟨some 62, .ld 6 true (.t 9), none, false⟩,
    ⟨none, .st false 6 (.t 4) (.t 62), none, false⟩,
    ⟨some 5, .mv (.c (.dat (.int .i64 0))), none, false⟩], []⟩
@[simp] def fn165 : AFun := ⟨2, [.cell 4 6 true, .t 5], true,
  .seq (.reg r165_0) (.seq (.seq (.reg r165_1) (.seq (.reg r165_2) (.cond (.t 18) (.seq (.reg r165_3) (.ret)) (.skip)))) (.seq (.reg r165_4) (.seq (.seq (.reg r165_5) (.cond (.t 27) (.seq (.reg r165_6) (.ret)) (.skip))) (.seq (.reg r165_7) (.seq (.seq (.reg r165_8) (.block 0 (.loop l165_0))) (.seq (.reg r165_16) (.ret))))))), none⟩

theorem c165 : cFun Tryz.prog ann165 true 165 = some fn165 := by kernel_rfl

/-! 166: (modelcheck/exec.runner).steps$1 -/

def ann166 : Ann := [{ id := 0, live := [0, 1, 2, 3] },
  { id := 1, live := [0, 2, 3, 10, 11, 12], drop := [0, 2, 3, 10] },
  { id := 2, live := [0, 2, 3, 10, 11, 12] },
  { id := 3, live := [0, 2, 3, 6, 10, 11, 12] },
  { id := 4, live := [0, 2, 3, 7, 8, 9, 10, 11, 12] },
  { id := 5, live := [0, 2, 3, 7, 10, 11, 12] },
  { id := 6, live := [0, 2, 3, 10, 11, 12] }]

@[simp] def r166_0 : AReg := ⟨[0, 1, 2, 3], [], [
    ⟨some 10, .ld 1 false (.t 1), none, false⟩,
    ⟨some 11, .len false (.t 10), none, false⟩,
    ⟨some 12, .mv (.c (.dat (.int .i64 0))), none, false⟩], []⟩
@[simp] def r166_1 : AReg := ⟨[0, 2, 3, 10, 11, 12], [0, 2, 3, 10], [
    ⟨some 13, .bin .int .lss (.t 12) (.t 11), none, false⟩], []⟩
@[simp] def r166_2 : AReg := ⟨[0, 2, 3, 10, 11, 12], [], [
    ⟨some 14, .iAddr 1 (.t 10) (.t 12), none, false⟩,
    ⟨some 15, .ld 1 false (.t 14), none, false⟩,
    ⟨some 6, .mv (.t 15), none, false⟩], []⟩
@[simp] def r166_3 : AReg := ⟨[0, 2, 3, 6, 10, 11, 12], [], [
    ⟨some 17, .ld 7 true (.t 2), none, false⟩,
    ⟨some 18, .ld 6 true (.t 3), none, false⟩,
    ⟨some 19, .mv (.t 6), none, false⟩,
    ⟨some 20, .call 167 [((.t 17), false), ((.t 18), false), ((.t 19), false)] false, none, false⟩,
    ⟨some 16, .mv (.t 20), none, false⟩,
    ⟨some 21, .ext 0 (.t 16), none, false⟩,
    ⟨some 22, .ext 1 (.t 16), none, false⟩,
    ⟨some 23, .ext 2 (.t 16), none, false⟩,
    ⟨some 7, .alc [.nils, .nils, .nils, .nils, .nils, .nils], none, false⟩,
    ⟨some 8, .alc [(.dat (.int .i64 0)), (.dat (.int .i64 0)), (.dat (.int .i64 0)), (.dat (.int .i64 0)), (.dat (.int .i64 0)), (.dat (.int .i64 0)), (.dat (.int .i64 0)), (.dat (.int .i64 0)), (.dat (.int .i64 0))], none, false⟩,
    ⟨none, .st false 6 (.t 7) (.t 21), none, false⟩,
    ⟨none, .st false 9 (.t 8) (.t 22), none, false⟩,
    ⟨some 9, .mv (.t 23), none, false⟩], []⟩
@[simp] def r166_4 : AReg := ⟨[0, 2, 3, 7, 8, 9, 10, 11, 12], [], [
    ⟨some 24, .mv (.t 0), none, false⟩,
    ⟨some 25, .ld 6 true (.t 7), none, false⟩,
    ⟨some 26, .ld 9 true (.t 8), none, false⟩,
    ⟨some 27, .mv (.t 9), none, false⟩,
    ⟨some 28, .bld [.nils, .nils, .nils, .nils, .nils, .nils, (.dat (.int .i64 0)), (.dat (.int .i64 0)), (.dat (.int .i64 0)), (.dat (.int .i64 0)), (.dat (.int .i64 0)), (.dat (.int .i64 0)), (.dat (.int .i64 0)), (.dat (.int .i64 0)), (.dat (.int .i64 0)), (.dat (.int .i64 0))] [(0, 6, (.t 25)), (6, 9, (.t 26)), (15, 1, (.t 27))], none, false⟩,
    ⟨some 29, .callV (.t 24) [((.t 28), false)] true, none, false⟩,
    ⟨some 30, .un .not (.t 29), none, false⟩,
    ⟨some 31, .mv (.t 30), none, false⟩,
    ⟨some 32, .mv (.t 9), some (31, false), false⟩,
    ⟨some 33, .bin .int .neq (.t 32) (.c (.dat (.int .i64 0))), some (31, false), false⟩,
    ⟨some 34, .pick (.t 31) (.c (.dat (.bool true))) (.t 33), none, false⟩], []⟩
@[simp] def r166_5 : AReg := ⟨[0, 2, 3, 7, 10, 11, 12], [], [
    ⟨some 35, .ld 6 true (.t 7), none, false⟩,
    ⟨none, .st false 6 (.t 3) (.t 35), none, false⟩], []⟩
@[simp] def r166_6 : AReg := ⟨[0, 2, 3, 10, 11, 12], [], [
    ⟨some 36, .bin .int .add (.t 12) (.c (.dat (.int .i64 1))), none, false⟩,
    ⟨some 12, .mv (.t 36), none, false⟩], []⟩
def l166_0 : AC := .seq (.reg r166_1) (.seq (.cond (.t 13) (.skip) (.exit 0)) (.seq (.block 1 (.seq (.reg r166_2) (.seq (.reg r166_3) (.seq (.seq (.reg r166_4) (.cond (.t 34) (.ret) (.skip))) (.reg r166_5))))) (.reg r166_6)))
@[simp] theorem l166_0e (K : Orc) (s : St) : exec K l166_0 s = exec K (.seq (.reg r166_1) (.seq (.cond (.t 13) (.skip) (.exit 0)) (.seq (.block 1 (.seq (.reg r166_2) (.seq (.reg r166_3) (.seq (.seq (.reg r166_4) (.cond (.t 34) (.ret) (.skip))) (.reg r166_5))))) (.reg r166_6)))) s := rfl
@[simp] def fn166 : AFun := ⟨4, [], false,
  .seq (.reg r166_0) (.block 0 (.loop l166_0)), none⟩

theorem c166 : cFun Tryz.prog ann166 false 166 = some fn166 := by kernel_rfl

/-! 167: (modelcheck/exec.runner).step -/

def ann167 : Ann := [{ id := 0, live := [0, 1, 2] },
  { id := 1, live := [2, 3, 4, 6, 7] },
  { id := 2, live := [2, 3, 4, 6, 7] },
  { id := 3, live := [2, 3, 4, 6, 7] }]

@[simp] def r167_0 : AReg := ⟨[0, 1, 2], [], [
    ⟨some 3, .box 7 (.t 0), none, false⟩,
    ⟨some 4, .box 6 (.t 1), none, false⟩,
    ⟨some 6, .alc [.nils, .nils, .nils, .nils, .nils, .nils], none, false⟩,
    ⟨some 7, .alc [(.dat (.int .i64 0)), (.dat (.int .i64 0)), (.dat (.int .i64 0)), (.dat (.int .i64 0)), (.dat (.int .i64 0)), (.dat (.int .i64 0)), (.dat (.int .i64 0)), (.dat (.int .i64 0)), (.dat (.int .i64 0))], none, false⟩,
    ⟨some 8, .mv (.c (.dat (.int .i64 0))), none, false⟩], []⟩
@[simp] def r167_1 : AReg := ⟨[2, 3, 4, 6, 7], [], [
    ⟨some 9, .fAddr 5 (.t 3), none, false⟩,
    ⟨some 10, .fAddr 0 (.t 9), none, false⟩,
    ⟨some 11, .ld 1 false (.t 10), none, false⟩,
    ⟨some 12, .bin .int .eql (.t 11) (.c (.dat (.int .i64 2))), none, false⟩], []⟩
@[simp] def r167_2 : AReg := ⟨[2, 3, 4, 6, 7], [], [
    ⟨some 13, .fAddr 0 (.t 3), none, false⟩,
    ⟨some 14, .ld 5 true (.t 13), none, false⟩,
    ⟨some 15, .fAddr 5 (.t 3), none, false⟩,
    ⟨some 16, .fAddr 1 (.t 15), none, false⟩,
    ⟨some 17, .ld 1 false (.t 16), none, false⟩,
    ⟨some 18, .ld 6 true (.t 4), none, false⟩,
    ⟨some 19, .mv (.t 2), none, false⟩,
    ⟨some 20, .call 198 [((.t 14), false), ((.t 17), false), ((.t 18), false), ((.t 19), false)] false, none, false⟩,
    ⟨some 21, .ext 0 (.t 20), none, false⟩,
    ⟨some 22, .ext 1 (.t 20), none, false⟩,
    ⟨some 23, .ext 2 (.t 20), none, false⟩,
    ⟨none, .st false 6 (.t 6) (.t 21), none, false⟩,
    ⟨none, .st false 9 (.t 7) (.t 22), none, false⟩,
    ⟨some 8, .mv (.t 23), none, false⟩], []⟩
@[simp] def r167_3 : AReg := ⟨[2, 3, 4, 6, 7], [], [
    ⟨some 24, .fAddr 0 (.t 3), none, false⟩,
    ⟨some 25, .ld 5 true (.t 24), none, false⟩,
    ⟨some 26, .fAddr 5 (.t 3), none, false⟩,
    ⟨some 27, .fAddr 1 (.t 26), none, false⟩,
    ⟨some 28, .ld 1 false (.t 27), none, false⟩,
    ⟨some 29, .ld 6 true (.t 4), none, false⟩,
    ⟨some 30, .mv (.t 2), none, false⟩,
    ⟨some 31, .call 199 [((.t 25), false), ((.t 28), false), ((.t 29), false), ((.t 30), false)] false, none, false⟩,
    ⟨some 32, .ext 0 (.t 31), none, false⟩,
    ⟨some 33, .ext 1 (.t 31), none, false⟩,
    ⟨some 34, .ext 2 (.t 31), none, false⟩,
    ⟨none, .st false 6 (.t 6) (.t 32), none, false⟩,
    ⟨none, .st false 9 (.t 7) (.t 33), none, false⟩,
    ⟨some 8, .mv (.t 34), none, false⟩], []⟩
@[simp] def fn167 : AFun := ⟨3, [.cell 6 6 true, .cell 7 9 true, .t 8], false,
  .seq (.reg r167_0) (.seq (.seq (.reg r167_1) (.cond (.t 12) (.seq (.reg r167_2) (.ret)) (.skip))) (.seq (.reg r167_3) (.ret))), none⟩

theorem c167 : cFun Tryz.prog ann167 false 167 = some fn167 := by kernel_rfl

/-! 170: modelcheck/machine.valid -/

def ann170 : Ann := [{ id := 0, live := [0, 1, 2] },
  { id := 1, live := [1, 3, 5] },
  { id := 2, live := [] },
  { id := 3, live := [1, 3, 5] },
  { id := 4, live := [1, 3, 5, 21, 22, 23], drop := [3, 5, 21] },
  { id := 5, live := [1, 3, 5, 21, 22, 23] },
  { id := 6, live := [1, 3, 5, 7, 8, 21, 22, 23] },
  { id := 7, live := [] },
  { id := 8, live := [1, 3, 5, 21, 22, 23] },
  { id := 9, live := [] }]

@[simp] def r170_0 : AReg := ⟨[0, 1, 2], [], [
    ⟨some 3, .box 5 (.t 0), none, false⟩,
    ⟨some 5, .box 6 (.t 2), none, false⟩,
    ⟨some 6, .mv (.c (.dat (.bool false))), none, false⟩], []⟩
@[simp] def r170_1 : AReg := ⟨[1, 3, 5], [], [
    ⟨some 9, .ld 5 true (.t 3), none, false⟩,
    ⟨some 10, .fAddr 1 (.t 5), none, false⟩,
    ⟨some 11, .ld 4 true (.t 10), none, false⟩,
    ⟨some 12, .call 201 [((.t 9), false), ((.t 11), false)] true, none, false⟩,
    ⟨some 13, .un .not (.t 12), none, false⟩,
    ⟨some 14, .mv (.t 13), none, false⟩,
    ⟨some 15, .fAddr 5 (.t 5), some (14, false), false⟩,
    ⟨some 16, .ld 1 false (.t 15), some (14, false), false⟩,
    ⟨some 17, .len false (.t 16), some (14, false), false⟩,
    ⟨some 18, .bin .int .gtr (.t 17) (.c (.dat (.int .i64 0))), some (14, false), false⟩,
    ⟨some 19, .pick (.t 14) (.c (.dat (.bool true))) (.t 18), none, false⟩], []⟩
@[simp] def r170_2 : AReg := ⟨[], [], [
    ⟨some 6, .mv (.c (.dat (.bool false))), none, false⟩], []⟩
@[simp] def r170_3 : AReg := ⟨[1, 3, 5], [], [
    ⟨some 20, .fAddr 0 (.t 5), none, false⟩,
    ⟨some 21, .ld 1 false (.t 20), none, false⟩,
    ⟨some 22, .len false (.t 21), none, false⟩,
    ⟨some 23, .mv (.c (.dat (.int .i64 0))), none, false⟩], []⟩
@[simp] def r170_4 : AReg := ⟨[1, 3, 5, 21, 22, 23], [3, 5, 21], [
    ⟨some 24, .bin .int .lss (.t 23) (.t 22), none, false⟩], []⟩
@[simp] def r170_5 : AReg := ⟨[1, 3, 5, 21, 22, 23], [], [
    ⟨some 25, .mv (.t 23), none, false⟩,
    ⟨some 26, .iAddr 17 (.t 21) (.t 23), none, false⟩,
    ⟨some 27, .ld 17 true (.t 26), none, false⟩,
    ⟨some 8, .alc [(.dat (.int .i64 0)), (.dat (.int .i64 0)), (.dat (.int .i64 0)), (.dat (.int .i64 0)), (.dat (.int .i64 0)), (.dat (.int .i64 0)), (.dat (.int .i64 0)), (.dat (.int .i64 0)), (.dat (.int .i64 0)), (.dat (.int .i64 0)), (.dat (.int .i64 0)), (.dat (.int .i64 0)), (.dat (.int .i64 0)), (.dat (.int .i64 0)), (.dat (.int .i64 0)), (.dat (.int .i64 0)), .nils], none, false⟩,
    ⟨some 7, .mv (.t 25), none, false⟩,
    ⟨none, .st false 17 (.t 8) (.t 27), none, false⟩], []⟩
@[simp] def r170_6 : AReg := ⟨[1, 3, 5, 7, 8, 21, 22, 23], [], [
    ⟨some 28, .ld 5 true (.t 3), none, false⟩,
    ⟨some 29, .mv (.t 1), none, false⟩,
    ⟨some 30, .ld 17 true (.t 8), none, false⟩,
    ⟨some 31, .call 202 [((.t 28), false), ((.t 29), false), ((.t 30), false)] true, none, false⟩,
    ⟨some 32, .un .not (.t 31), none, false⟩,
    ⟨some 33, .mv (.t 32), none, false⟩,
    ⟨some 34, .mv (.t 7), some (33, false), false⟩,
    ⟨some 35, .bin .int .gtr (.t 34) (.c (.dat (.int .i64 0))), some (33, false), false⟩,
    ⟨some 36, .mv (.t 35), some (33, false), false⟩,
    ⟨some 37, .fAddr 0 (.t 5), some (36, true), false⟩,
    ⟨some 38, .ld 1 false (.t 37), some (36, true), false⟩,
    ⟨some 39, .mv (.t 7), some (36, true), false⟩,
    ⟨some 40, .bin .int .sub (.t 39) (.c (.dat (.int .i64 1))), some (36, true), false⟩,
    ⟨some 41, .iAddr 17 (.t 38) (.t 40), some (36, true), false⟩,
    ⟨some 42, .fAddr 0 (.t 41), some (36, true), false⟩,
    ⟨some 43, .ld 1 false (.t 42), some (36, true), false⟩,
    ⟨some 44, .fAddr 0 (.t 8), some (36, true), false⟩,
    ⟨some 45, .ld 1 false (.t 44), some (36, true), false⟩,
    ⟨some 46, .bin .int .geq (.t 43) (.t 45), some (36, true), false⟩,
    ⟨some 47, .pick (.t 36) (.t 46) (.c (.dat (.bool false))), some (33, false), false⟩,
    ⟨some 48, .pick (.t 33) (.c (.dat (.bool true))) (.t 47), none, false⟩], []⟩
@[simp] def r170_7 : AReg := ⟨[], [], [
    ⟨some 6, .mv (.c (.dat (.bool false))), none, false⟩], []⟩
@[simp] def r170_8 : AReg := ⟨[1, 3, 5, 21, 22, 23], [], [
    ⟨some 49, .bin .int .add (.t 23) (.c (.dat (.int .i64 1))), none, false⟩,
    ⟨some 23, .mv (.t 49), none, false⟩], []⟩
def l170_0 : AC := .seq (.reg r170_4) (.seq (.cond (.t 24) (.skip) (.exit 0)) (.seq (.block 1 (.seq (.reg r170_5) (.seq (.reg r170_6) (.cond (.t 48) (.seq (.reg r170_7) (.ret)) (.skip))))) (.reg r170_8)))
@[simp] theorem l170_0e (K : Orc) (s : St) : exec K l170_0 s = exec K (.seq (.reg r170_4) (.seq (.cond (.t 24) (.skip) (.exit 0)) (.seq (.block 1 (.seq (.reg r170_5) (.seq (.reg r170_6) (.cond (.t 48) (.seq (.reg r170_7) (.ret)) (.skip))))) (.reg r170_8)))) s := rfl
@[simp] def r170_9 : AReg := ⟨[], [], [
    ⟨some 6, .mv (.c (.dat (.bool true))), none, false⟩], []⟩
@[simp] def fn170 : AFun := ⟨3, [.t 6], false,
  .seq (.reg r170_0) (.seq (.seq (.reg r170_1) (.cond (.t 19) (.seq (.reg r170_2) (.ret)) (.skip))) (.seq (.seq (.reg r170_3) (.block 0 (.loop l170_0))) (.seq (.reg r170_9) (.ret)))), none⟩

theorem c170 : cFun Tryz.prog ann170 false 170 = some fn170 := by kernel_rfl

/-! 171: modelcheck/thread.Pending -/

def ann171 : Ann := [{ id := 0, live := [0, 1] },
  { id := 1, live := [2, 3, 4] },
  { id := 2, live := [4] },
  { id := 3, live := [2, 3, 4] }]

@[simp] def r171_0 : AReg := ⟨[0, 1], [], [
    ⟨some 2, .box 5 (.t 0), none, false⟩,
    ⟨some 3, .box 17 (.t 1), none, false⟩,
    ⟨some 4, .alc [(.dat (.int .i64 0)), (.dat (.int .i64 0)), (.dat (.int .i64 0)), (.dat (.int .i64 0)), (.dat (.int .i64 0)), (.dat (.int .i64 0)), (.dat (.int .i64 0)), (.dat (.int .i64 0))], none, false⟩,
    ⟨some 5, .mv (.c (.dat (.bool false))), none, false⟩], []⟩
@[simp] def r171_1 : AReg := ⟨[2, 3, 4], [], [
    ⟨some 6, .fAddr 14 (.t 3), none, false⟩,
    ⟨some 7, .ld 1 false (.t 6), none, false⟩,
    ⟨some 8, .bin .int .neq (.t 7) (.c (.dat (.int .i64 1))), none, false⟩,
    ⟨some 9, .mv (.t 8), none, false⟩,
    ⟨some 10, .ld 5 true (.t 2), some (9, false), false⟩,
    ⟨some 11, .ld 17 true (.t 3), some (9, false), false⟩,
    ⟨some 12, .call 202 [((.t 10), false), ((.c (.dat (.int .i64 32))), false), ((.t 11), false)] true, some (9, false), false⟩,
    ⟨some 13, .un .not (.t 12), some (9, false), false⟩,
    ⟨some 14, .pick (.t 9) (.c (.dat (.bool true))) (.t 13), none, false⟩], []⟩
@[simp] def r171_2 : AReg := ⟨[4], [], [
    ⟨some 15, .bld [(.dat (.int .i64 0)), (.dat (.int .i64 0)), (.dat (.int .i64 0)), (.dat (.int .i64 0)), (.dat (.int .i64 0)), (.dat (.int .i64 0)), (.dat (.int .i64 0)), (.dat (.int .i64 0))] [], none, false⟩,
    ⟨none, .st false 8 (.t 4) (.t 15), none, false⟩,
    ⟨some 5, .mv (.c (.dat (.bool false))), none, false⟩], []⟩
@[simp] def r171_3 : AReg := ⟨[2, 3, 4], [], [
    ⟨some 16, .ld 5 true (.t 2), none, false⟩,
    ⟨some 17, .ld 17 true (.t 3), none, false⟩,
    ⟨some 18, .call 207 [((.t 16), false), ((.t 17), false)] false, none, false⟩,
    ⟨some 19, .ext 0 (.t 18), none, false⟩,
    ⟨some 20, .ext 1 (.t 18), none, false⟩,
    ⟨none, .st false 8 (.t 4) (.t 19), none, false⟩,
    ⟨some 5, .mv (.t 20), none, false⟩], []⟩
@[simp] def fn171 : AFun := ⟨2, [.cell 4 8 true, .t 5], false,
  .seq (.reg r171_0) (.seq (.seq (.reg r171_1) (.cond (.t 14) (.seq (.reg r171_2) (.ret)) (.skip))) (.seq (.reg r171_3) (.ret))), none⟩

theorem c171 : cFun Tryz.prog ann171 false 171 = some fn171 := by kernel_rfl

/-! 172: modelcheck/machine.enabled -/

def ann172 : Ann := [{ id := 0, live := [0, 1, 2] },
  { id := 1, live := [3, 4, 5] },
  { id := 2, live := [3, 4, 5, 14] },
  { id := 3, live := [3, 4, 5] },
  { id := 4, live := [4, 5, 7] },
  { id := 5, live := [9] },
  { id := 6, live := [3, 4, 5, 14] },
  { id := 7, live := [3, 5] },
  { id := 8, live := [3, 4, 5, 14] },
  { id := 9, live := [3, 4, 5] },
  { id := 10, live := [3, 4, 5, 49] },
  { id := 11, live := [3, 4] },
  { id := 12, live := [3, 5, 49] },
  { id := 13, live := [3, 5] },
  { id := 14, live := [3, 4, 5, 14] },
  { id := 15, live := [3, 4, 5] },
  { id := 16, live := [3, 11, 12] },
  { id := 17, live := [] }]

@[simp] def r172_0 : AReg := ⟨[0, 1, 2], [], [
    ⟨some 3, .box 6 (.t 0), none, false⟩,
    ⟨some 4, .box 17 (.t 1), none, false⟩,
    ⟨some 5, .box 8 (.t 2), none, false⟩,
    ⟨some 6, .mv (.c (.dat (.bool false))), none, false⟩], []⟩
@[simp] def r172_1 : AReg := ⟨[3, 4, 5], [], [
    ⟨some 13, .fAddr 0 (.t 5), none, false⟩,
    ⟨some 14, .ld 1 false (.t 13), none, false⟩], []⟩
@[simp] def r172_2 : AReg := ⟨[3, 4, 5, 14], [], [
    ⟨some 16, .bin .int .eql (.t 14) (.c (.dat (.int .i64 14))), none, false⟩,
    ⟨some 15, .mv (.t 16), none, false⟩], []⟩
@[simp] def r172_3 : AReg := ⟨[3, 4, 5], [], [
    ⟨some 18, .fAddr 1 (.t 3), none, false⟩,
    ⟨some 19, .ld 4 true (.t 18), none, false⟩,
    ⟨some 20, .fAddr 4 (.t 5), none, false⟩,
    ⟨some 21, .ld 1 false (.t 20), none, false⟩,
    ⟨some 22, .call 208 [((.t 19), false), ((.t 21), false)] true, none, false⟩,
    ⟨some 17, .mv (.t 22), none, false⟩,
    ⟨some 23, .ext 0 (.t 17), none, false⟩,
    ⟨some 24, .ext 1 (.t 17), none, false⟩,
    ⟨some 7, .mv (.t 23), none, false⟩,
    ⟨some 8, .mv (.t 24), none, false⟩], []⟩
@[simp] def r172_4 : AReg := ⟨[4, 5, 7], [], [
    ⟨some 26, .fAddr 6 (.t 5), none, false⟩,
    ⟨some 27, .ld 1 false (.t 26), none, false⟩,
    ⟨some 28, .mv (.t 7), none, false⟩,
    ⟨some 29, .fAddr 2 (.t 5), none, false⟩,
    ⟨some 30, .ld 1 false (.t 29), none, false⟩,
    ⟨some 31, .fAddr 3 (.t 4), none, false⟩,
    ⟨some 32, .iAddrA 8 1 (.t 31) (.t 30), none, false⟩,
    ⟨some 33, .ld 1 false (.t 32), none, false⟩,
    ⟨some 34, .call 209 [((.t 27), false), ((.t 28), false), ((.t 33), false)] true, none, false⟩,
    ⟨some 25, .mv (.t 34), none, false⟩,
    ⟨some 35, .ext 0 (.t 25), none, false⟩,
    ⟨some 36, .ext 1 (.t 25), none, false⟩,
    ⟨some 9, .mv (.t 35), none, false⟩,
    ⟨some 10, .mv (.t 36), none, false⟩], []⟩
@[simp] def r172_5 : AReg := ⟨[9], [], [
    ⟨some 37, .mv (.t 9), none, false⟩,
    ⟨some 38, .bin .int .neq (.t 37) (.c (.dat (.int .i64 0))), none, false⟩,
    ⟨some 6, .mv (.t 38), none, false⟩], []⟩
@[simp] def r172_6 : AReg := ⟨[3, 4, 5, 14], [], [
    ⟨some 40, .bin .int .eql (.t 14) (.c (.dat (.int .i64 15))), none, false⟩,
    ⟨some 39, .mv (.t 40), none, false⟩], []⟩
@[simp] def r172_7 : AReg := ⟨[3, 5], [], [
    ⟨some 41, .fAddr 1 (.t 3), none, false⟩,
    ⟨some 42, .ld 4 true (.t 41), none, false⟩,
    ⟨some 43, .fAddr 4 (.t 5), none, false⟩,
    ⟨some 44, .ld 1 false (.t 43), none, false⟩,
    ⟨some 45, .call 210 [((.t 42), false), ((.t 44), false)] true, none, false⟩,
    ⟨some 6, .mv (.t 45), none, false⟩], []⟩
@[simp] def r172_8 : AReg := ⟨[3, 4, 5, 14], [], [
    ⟨some 47, .bin .int .eql (.t 14) (.c (.dat (.int .i64 18))), none, false⟩,
    ⟨some 46, .mv (.t 47), none, false⟩], []⟩
@[simp] def r172_9 : AReg := ⟨[3, 4, 5], [], [
    ⟨some 48, .fAddr 13 (.t 4), none, false⟩,
    ⟨some 49, .ld 1 false (.t 48), none, false⟩], []⟩
@[simp] def r172_10 : AReg := ⟨[3, 4, 5, 49], [], [
    ⟨some 51, .bin .int .eql (.t 49) (.c (.dat (.int .i64 1))), none, false⟩,
    ⟨some 50, .mv (.t 51), none, false⟩], []⟩
@[simp] def r172_11 : AReg := ⟨[3, 4], [], [
    ⟨some 52, .fAddr 1 (.t 3), none, false⟩,
    ⟨some 53, .fAddr 3 (.t 52), none, false⟩,
    ⟨some 54, .ld 1 false (.t 53), none, false⟩,
    ⟨some 55, .fAddr 0 (.t 4), none, false⟩,
    ⟨some 56, .ld 1 false (.t 55), none, false⟩,
    ⟨some 57, .call 97 [((.t 54), false), ((.t 56), false)] true, none, false⟩,
    ⟨some 6, .mv (.t 57), none, false⟩], []⟩
@[simp] def r172_12 : AReg := ⟨[3, 5, 49], [], [
    ⟨some 59, .bin .int .eql (.t 49) (.c (.dat (.int .i64 2))), none, false⟩,
    ⟨some 58, .mv (.t 59), none, false⟩], []⟩
@[simp] def r172_13 : AReg := ⟨[3, 5], [], [
    ⟨some 60, .fAddr 1 (.t 3), none, false⟩,
    ⟨some 61, .ld 4 true (.t 60), none, false⟩,
    ⟨some 62, .fAddr 5 (.t 5), none, false⟩,
    ⟨some 63, .ld 1 false (.t 62), none, false⟩,
    ⟨some 64, .call 210 [((.t 61), false), ((.t 63), false)] true, none, false⟩,
    ⟨some 6, .mv (.t 64), none, false⟩], []⟩
@[simp] def r172_14 : AReg := ⟨[3, 4, 5, 14], [], [
    ⟨some 66, .bin .int .eql (.t 14) (.c (.dat (.int .i64 22))), none, false⟩,
    ⟨some 65, .mv (.t 66), none, false⟩], []⟩
@[simp] def r172_15 : AReg := ⟨[3, 4, 5], [], [
    ⟨some 68, .fAddr 0 (.t 3), none, false⟩,
    ⟨some 69, .ld 1 false (.t 68), none, false⟩,
    ⟨some 70, .fAddr 2 (.t 5), none, false⟩,
    ⟨some 71, .ld 1 false (.t 70), none, false⟩,
    ⟨some 72, .fAddr 3 (.t 4), none, false⟩,
    ⟨some 73, .iAddrA 8 1 (.t 72) (.t 71), none, false⟩,
    ⟨some 74, .ld 1 false (.t 73), none, false⟩,
    ⟨some 75, .call 211 [((.t 69), false), ((.t 74), false)] true, none, false⟩,
    ⟨some 67, .mv (.t 75), none, false⟩,
    ⟨some 76, .ext 0 (.t 67), none, false⟩,
    ⟨some 77, .ext 1 (.t 67), none, false⟩,
    ⟨some 11, .mv (.t 76), none, false⟩,
    ⟨some 12, .mv (.t 77), none, false⟩], []⟩
@[simp] def r172_16 : AReg := ⟨[3, 11, 12], [], [
    ⟨some 78, .mv (.t 12), none, false⟩,
    ⟨some 79, .mv (.t 78), none, false⟩,
    ⟨some 80, .fAddr 0 (.t 3), some (79, true), false⟩,
    ⟨some 81, .ld 1 false (.t 80), some (79, true), false⟩,
    ⟨some 82, .mv (.t 11), some (79, true), false⟩,
    ⟨some 83, .iAddr 17 (.t 81) (.t 82), some (79, true), false⟩,
    ⟨some 84, .fAddr 14 (.t 83), some (79, true), false⟩,
    ⟨some 85, .ld 1 false (.t 84), some (79, true), false⟩,
    ⟨some 86, .bin .int .eql (.t 85) (.c (.dat (.int .i64 2))), some (79, true), false⟩,
    ⟨some 87, .mv (.t 86), some (79, true), false⟩,
    ⟨some 88, .fAddr 0 (.t 3), some (87, false), false⟩,
    ⟨some 89, .ld 1 false (.t 88), some (87, false), false⟩,
    ⟨some 90, .mv (.t 11), some (87, false), false⟩,
    ⟨some 91, .iAddr 17 (.t 89) (.t 90), some (87, false), false⟩,
    ⟨some 92, .fAddr 14 (.t 91), some (87, false), false⟩,
    ⟨some 93, .ld 1 false (.t 92), some (87, false), false⟩,
    ⟨some 94, .bin .int .eql (.t 93) (.c (.dat (.int .i64 3))), some (87, false), false⟩,
    ⟨some 95, .pick (.t 87) (.c (.dat (.bool true))) (.t 94), some (79, true), false⟩,
    ⟨some 96, .pick (.t 79) (.t 95) (.c (.dat (.bool false))), none, false⟩,
    ⟨some 6, .mv (.t 96), none, false⟩], []⟩
@[simp] def r172_17 : AReg := ⟨[], [], [
    ⟨some 6, .mv (.c (.dat (.bool true))), none, false⟩], []⟩
@[simp] def fn172 : AFun := ⟨3, [.t 6], false,
  .seq (.reg r172_0) (.seq (.seq (.reg r172_1) (.block 0 (.seq (.reg r172_2) (.cond (.t 15) (.seq (.reg r172_3) (.seq (.reg r172_4) (.seq (.reg r172_5) (.ret)))) (.seq (.reg r172_6) (.cond (.t 39) (.seq (.reg r172_7) (.ret)) (.seq (.reg r172_8) (.cond (.t 46) (.seq (.reg r172_9) (.block 1 (.seq (.reg r172_10) (.cond (.t 50) (.seq (.reg r172_11) (.ret)) (.seq (.reg r172_12) (.cond (.t 58) (.seq (.reg r172_13) (.ret)) (.skip))))))) (.seq (.reg r172_14) (.cond (.t 65) (.seq (.reg r172_15) (.seq (.reg r172_16) (.ret))) (.skip))))))))))) (.seq (.reg r172_17) (.ret))), none⟩

theorem c172 : cFun Tryz.prog ann172 false 172 = some fn172 := by kernel_rfl

/-! 173: slices.pdqsortOrdered[int] -/

def ann173 : Ann := [{ id := 0, live := [0, 1, 2, 3] },
  { id := 1, live := [0, 1, 2, 3, 8] },
  { id := 2, live := [0, 1, 2, 3, 8, 9], drop := [0] },
  { id := 3, live := [0, 1, 2, 3, 8, 9, 10] },
  { id := 4, live := [0, 1, 2], marks := [(3, { byRef := [0] })] },
  { id := 5, live := [0, 1, 2, 3, 8, 9, 10] },
  { id := 6, live := [0, 1, 2], marks := [(3, { byRef := [0] })] },
  { id := 7, live := [0, 1, 2, 3, 8, 9, 10] },
  { id := 8, live := [0, 1, 2, 3, 8, 9, 10], marks := [(3, { byRef := [0] })] },
  { id := 9, live := [0, 1, 2, 3, 8, 9, 10] },
  { id := 10, live := [0, 1, 2, 3, 8, 9, 10] },
  { id := 11, live := [0, 1, 2, 3, 8, 9, 10, 11, 12] },
  { id := 12, live := [0, 1, 2, 3, 8, 9, 10, 11], marks := [(3, { byRef := [0] })] },
  { id := 13, live := [0, 1, 2, 3, 8, 9, 10, 11] },
  { id := 14, live := [0, 1, 2, 3, 8, 9, 10, 11] },
  { id := 15, live := [0, 1, 2, 3, 8, 9, 10, 11, 12] },
  { id := 16, live := [0, 1, 2, 3, 8, 9, 10, 11], marks := [(3, { byRef := [0] })] },
  { id := 17, live := [0, 1, 2, 3, 8, 9, 10, 11] },
  { id := 18, live := [0, 1, 2, 3, 8, 9, 11], marks := [(4, { byRef := [0] })] },
  { id := 19, live := [0, 2, 3, 8, 9, 13] },
  { id := 20, live := [0, 1, 2, 3, 10, 11], marks := [(4, { byRef := [0] })] },
  { id := 21, live := [0, 1, 2, 3, 10, 14, 15] },
  { id := 22, live := [0, 1, 2, 3, 9, 10, 14] },
  { id := 23, live := [0, 1, 2, 3, 9, 10, 14, 16, 17] },
  { id := 24, live := [0, 1, 2, 3, 9, 14, 16, 17, 18] },
  { id := 25, live := [0, 1, 2, 3, 9, 14, 16, 18] },
  { id := 26, live := [0, 1, 2, 3, 8, 9, 14], marks := [(4, { byRef := [0] })] },
  { id := 27, live := [0, 2, 3, 8, 9, 14] },
  { id := 28, live := [0, 1, 2, 3, 9, 14, 17, 18] },
  { id := 29, live := [0, 1, 2, 3, 8, 9, 14], marks := [(5, { byRef := [0] })] },
  { id := 30, live := [0, 1, 3, 8, 9, 14] }]

@[simp] def r173_0 : AReg := ⟨[0, 1, 2, 3], [], [
    ⟨some 8, .mv (.c (.dat (.bool true))), none, false⟩], []⟩
@[simp] def r173_1 : AReg := ⟨[0, 1, 2, 3, 8], [], [
    ⟨some 9, .mv (.c (.dat (.bool true))), none, false⟩], []⟩
@[simp] def r173_2 : AReg := ⟨[0, 1, 2, 3, 8, 9], [0], [
    ⟨some 19, .mv (.t 2), none, false⟩,
    ⟨some 20, .mv (.t 1), none, false⟩,
    ⟨some 21, .bin .int .sub (.t 19) (.t 20), none, false⟩,
    ⟨some 10, .mv (.t 21), none, false⟩], []⟩
@[simp] def r173_3 : AReg := ⟨[0, 1, 2, 3, 8, 9, 10], [], [
    ⟨some 22, .mv (.t 10), none, false⟩,
    ⟨some 23, .bin .int .leq (.t 22) (.c (.dat (.int .i64 12))), none, false⟩], []⟩
@[simp] def r173_4 : AReg := ⟨[0, 1, 2], [], [
    ⟨some 24, .mv (.t 0), none, false⟩,
    ⟨some 25, .mv (.t 1), none, false⟩,
    ⟨some 26, .mv (.t 2), none, false⟩,
    ⟨some 27, .call 212 [((.t 24), true), ((.t 25), false), ((.t 26), false)] true, none, false⟩], []⟩
@[simp] def r173_5 : AReg := ⟨[0, 1, 2, 3, 8, 9, 10], [], [
    ⟨some 28, .mv (.t 3), none, false⟩,
    ⟨some 29, .bin .int .eql (.t 28) (.c (.dat (.int .i64 0))), none, false⟩], []⟩
@[simp] def r173_6 : AReg := ⟨[0, 1, 2], [], [
    ⟨some 30, .mv (.t 0), none, false⟩,
    ⟨some 31, .mv (.t 1), none, false⟩,
    ⟨some 32, .mv (.t 2), none, false⟩,
    ⟨some 33, .call 213 [((.t 30), true), ((.t 31), false), ((.t 32), false)] true, none, false⟩], []⟩
@[simp] def r173_7 : AReg := ⟨[0, 1, 2, 3, 8, 9, 10], [], [
    ⟨some 34, .mv (.t 8), none, false⟩,
    ⟨some 35, .un .not (.t 34), none, false⟩], []⟩
@[simp] def r173_8 : AReg := ⟨[0, 1, 2, 3, 8, 9, 10], [], [
    ⟨some 36, .mv (.t 0), none, false⟩,
    ⟨some 37, .mv (.t 1), none, false⟩,
    ⟨some 38, .mv (.t 2), none, false⟩,
    ⟨some 39, .call 214 [((.t 36), true), ((.t 37), false), ((.t 38), false)] true, none, false⟩], []⟩
@[simp] def r173_9 : AReg := ⟨[0, 1, 2, 3, 8, 9, 10], [], [
    ⟨some 40, .mv (.t 3), none, false⟩,
    ⟨some 41, .bin .int .sub (.t 40) (.c (.dat (.int .i64 1))), none, false⟩,
    ⟨some 3, .mv (.t 41), none, false⟩], []⟩
@[simp] def r173_10 : AReg := ⟨[0, 1, 2, 3, 8, 9, 10], [], [
    ⟨some 43, .mv (.t 0), none, false⟩,
    ⟨some 44, .mv (.t 1), none, false⟩,
    ⟨some 45, .mv (.t 2), none, false⟩,
    ⟨some 46, .call 215 [((.t 43), false), ((.t 44), false), ((.t 45), false)] true, none, false⟩,
    ⟨some 42, .mv (.t 46), none, false⟩,
    ⟨some 47, .ext 0 (.t 42), none, false⟩,
    ⟨some 48, .ext 1 (.t 42), none, false⟩,
    ⟨some 11, .mv (.t 47), none, false⟩,
    ⟨some 12, .mv (.t 48), none, false⟩], []⟩
@[simp] def r173_11 : AReg := ⟨[0, 1, 2, 3, 8, 9, 10, 11, 12], [], [
    ⟨some 49, .mv (.t 12), none, false⟩,
    ⟨some 50, .bin .int .eql (.t 49) (.c (.dat (.int .i64 2))), none, false⟩], []⟩
@[simp] def r173_12 : AReg := ⟨[0, 1, 2, 3, 8, 9, 10, 11], [], [
    ⟨some 51, .mv (.t 0), none, false⟩,
    ⟨some 52, .mv (.t 1), none, false⟩,
    ⟨some 53, .mv (.t 2), none, false⟩,
    ⟨some 54, .call 216 [((.t 51), true), ((.t 52), false), ((.t 53), false)] true, none, false⟩], []⟩
@[simp] def r173_13 : AReg := ⟨[0, 1, 2, 3, 8, 9, 10, 11], [], [
    ⟨some 55, .mv (.t 2), none, false⟩,
    ⟨some 56, .bin .int .sub (.t 55) (.c (.dat (.int .i64 1))), none, false⟩,
    ⟨some 57, .mv (.t 11), none, false⟩,
    ⟨some 58, .mv (.t 1), none, false⟩,
    ⟨some 59, .bin .int .sub (.t 57) (.t 58), none, false⟩,
    ⟨some 60, .bin .int .sub (.t 56) (.t 59), none, false⟩,
    ⟨some 11, .mv (.t 60), none, false⟩], []⟩
@[simp] def r173_14 : AReg := ⟨[0, 1, 2, 3, 8, 9, 10, 11], [], [
    ⟨some 12, .mv (.c (.dat (.int .i64 1))), none, false⟩], []⟩
@[simp] def r173_15 : AReg := ⟨[0, 1, 2, 3, 8, 9, 10, 11, 12], [], [
    ⟨some 61, .mv (.t 8), none, false⟩,
    ⟨some 62, .mv (.t 61), none, false⟩,
    ⟨some 63, .mv (.t 9), some (62, true), false⟩,
    ⟨some 64, .pick (.t 62) (.t 63) (.c (.dat (.bool false))), none, false⟩,
    ⟨some 65, .mv (.t 64), none, false⟩,
    ⟨some 66, .mv (.t 12), some (65, true), false⟩,
    ⟨some 67, .bin .int .eql (.t 66) (.c (.dat (.int .i64 1))), some (65, true), false⟩,
    ⟨some 68, .pick (.t 65) (.t 67) (.c (.dat (.bool false))), none, false⟩], []⟩
@[simp] def r173_16 : AReg := ⟨[0, 1, 2, 3, 8, 9, 10, 11], [], [
    ⟨some 69, .mv (.t 0), none, false⟩,
    ⟨some 70, .mv (.t 1), none, false⟩,
    ⟨some 71, .mv (.t 2), none, false⟩,
    ⟨some 72, .call 217 [((.t 69), true), ((.t 70), false), ((.t 71), false)] true, none, false⟩], []⟩
@[simp] def r173_17 : AReg := ⟨[0, 1, 2, 3, 8, 9, 10, 11], [], [
    ⟨some 73, .mv (.t 1), none, false⟩,
    ⟨some 74, .bin .int .gtr (.t 73) (.c (.dat (.int .i64 0))), none, false⟩,
    ⟨some 75, .mv (.t 74), none, false⟩,
    ⟨some 76, .mv (.t 0), some (75, true), false⟩,
    ⟨some 77, .mv (.t 1), some (75, true), false⟩,
    ⟨some 78, .bin .int .sub (.t 77) (.c (.dat (.int .i64 1))), some (75, true), false⟩,
    ⟨some 79, .iAddr 1 (.t 76) (.t 78), some (75, true), false⟩,
    ⟨some 80, .ld 1 false (.t 79), some (75, true), false⟩,
    ⟨some 81, .mv (.t 0), some (75, true), false⟩,
    ⟨some 82, .mv (.t 11), some (75, true), false⟩,
    ⟨some 83, .iAddr 1 (.t 81) (.t 82), some (75, true), false⟩,
    ⟨some 84, .ld 1 false (.t 83), some (75, true), false⟩,
    ⟨some 85, .call 218 [((.t 80), false), ((.t 84), false)] true, some (75, true), false⟩,
    ⟨some 86, .un .not (.t 85), some (75, true), false⟩,
    ⟨some 87, .pick (.t 75) (.t 86) (.c (.dat (.bool false))), none, false⟩], []⟩
@[simp] def r173_18 : AReg := ⟨[0, 1, 2, 3, 8, 9, 11], [], [
    ⟨some 88, .mv (.t 0), none, false⟩,
    ⟨some 89, .mv (.t 1), none, false⟩,
    ⟨some 90, .mv (.t 2), none, false⟩,
    ⟨some 91, .mv (.t 11), none, false⟩,
    ⟨some 92, .call 219 [((.t 88), true), ((.t 89), false), ((.t 90), false), ((.t 91), false)] true, none, false⟩,
    ⟨some 13, .mv (.t 92), none, false⟩], []⟩
@[simp] def r173_19 : AReg := ⟨[0, 2, 3, 8, 9, 13], [], [
    ⟨some 93, .mv (.t 13), none, false⟩,
    ⟨some 1, .mv (.t 93), none, false⟩], []⟩
@[simp] def r173_20 : AReg := ⟨[0, 1, 2, 3, 10, 11], [], [
    ⟨some 95, .mv (.t 0), none, false⟩,
    ⟨some 96, .mv (.t 1), none, false⟩,
    ⟨some 97, .mv (.t 2), none, false⟩,
    ⟨some 98, .mv (.t 11), none, false⟩,
    ⟨some 99, .call 220 [((.t 95), true), ((.t 96), false), ((.t 97), false), ((.t 98), false)] true, none, false⟩,
    ⟨some 94, .mv (.t 99), none, false⟩,
    ⟨some 100, .ext 0 (.t 94), none, false⟩,
    ⟨some 101, .ext 1 (.t 94), none, false⟩,
    ⟨some 14, .mv (.t 100), none, false⟩,
    ⟨some 15, .mv (.t 101), none, false⟩], []⟩
@[simp] def r173_21 : AReg := ⟨[0, 1, 2, 3, 10, 14, 15], [], [
    ⟨some 102, .mv (.t 15), none, false⟩,
    ⟨some 9, .mv (.t 102), none, false⟩], []⟩
@[simp] def r173_22 : AReg := ⟨[0, 1, 2, 3, 9, 10, 14], [], [
    ⟨some 103, .mv (.t 14), none, false⟩,
    ⟨some 104, .mv (.t 1), none, false⟩,
    ⟨some 105, .bin .int .sub (.t 103) (.t 104), none, false⟩,
    ⟨some 106, .mv (.t 2), none, false⟩,
    ⟨some 107, .mv (.t 14), none, false⟩,
    ⟨some 108, .bin .int .sub (.t 106) (.t 107), none, false⟩,
    ⟨some 16, .mv (.t 105), none, false⟩,
    ⟨some 17, .mv (.t 108), none, false⟩], []⟩
@[simp] def r173_23 : AReg := ⟨[0, 1, 2, 3, 9, 10, 14, 16, 17], [], [
    ⟨some 109, .mv (.t 10), none, false⟩,
    ⟨some 110, .bin .int .quo (.t 109) (.c (.dat (.int .i64 8))), none, false⟩,
    ⟨some 18, .mv (.t 110), none, false⟩], []⟩
@[simp] def r173_24 : AReg := ⟨[0, 1, 2, 3, 9, 14, 16, 17, 18], [], [
    ⟨some 111, .mv (.t 16), none, false⟩,
    ⟨some 112, .mv (.t 17), none, false⟩,
    ⟨some 113, .bin .int .lss (.t 111) (.t 112), none, false⟩], []⟩
@[simp] def r173_25 : AReg := ⟨[0, 1, 2, 3, 9, 14, 16, 18], [], [
    ⟨some 114, .mv (.t 16), none, false⟩,
    ⟨some 115, .mv (.t 18), none, false⟩,
    ⟨some 116, .bin .int .geq (.t 114) (.t 115), none, false⟩,
    ⟨some 8, .mv (.t 116), none, false⟩], []⟩
@[simp] def r173_26 : AReg := ⟨[0, 1, 2, 3, 8, 9, 14], [], [
    ⟨some 117, .mv (.t 0), none, false⟩,
    ⟨some 118, .mv (.t 1), none, false⟩,
    ⟨some 119, .mv (.t 14), none, false⟩,
    ⟨some 120, .mv (.t 3), none, false⟩,
    ⟨some 121, .call 173 [((.t 117), true), ((.t 118), false), ((.t 119), false), ((.t 120), false)] true, none, false⟩], []⟩
@[simp] def r173_27 : AReg := ⟨[0, 2, 3, 8, 9, 14], [], [
    ⟨some 122, .mv (.t 14), none, false⟩,
    ⟨some 123, .bin .int .add (.t 122) (.c (.dat (.int .i64 1))), none, false⟩,
    ⟨some 1, .mv (.t 123), none, false⟩], []⟩
@[simp] def r173_28 : AReg := ⟨[0, 1, 2, 3, 9, 14, 17, 18], [], [
    ⟨some 124, .mv (.t 17), none, false⟩,
    ⟨some 125, .mv (.t 18), none, false⟩,
    ⟨some 126, .bin .int .geq (.t 124) (.t 125), none, false⟩,
    ⟨some 8, .mv (.t 126), none, false⟩], []⟩
@[simp] def r173_29 : AReg := ⟨[0, 1, 2, 3, 8, 9, 14], [], [
    ⟨some 127, .mv (.t 0), none, false⟩,
    ⟨some 128, .mv (.t 14), none, false⟩,
    ⟨some 129, .bin .int .add (.t 128) (.c (.dat (.int .i64 1))), none, false⟩,
    ⟨some 130, .mv (.t 2), none, false⟩,
    ⟨some 131, .mv (.t 3), none, false⟩,
    ⟨some 132, .call 173 [((.t 127), true), ((.t 129), false), ((.t 130), false), ((.t 131), false)] true, none, false⟩], []⟩
@[simp] def r173_30 : AReg := ⟨[0, 1, 3, 8, 9, 14], [], [
    ⟨some 133, .mv (.t 14), none, false⟩,
    ⟨some 2, .mv (.t 133), none, false⟩], []⟩
def l173_0 : AC := .block 1 (.seq (.reg r173_2) (.seq (.seq (.reg r173_3) (.cond (.t 23) (.seq (.reg r173_4) (.ret)) (.skip))) (.seq (.seq (.reg r173_5) (.cond (.t 29) (.seq (.reg r173_6) (.ret)) (.skip))) (.seq (.seq (.reg r173_7) (.cond (.t 35) (.seq (.reg r173_8) (.reg r173_9)) (.skip))) (.seq (.reg r173_10) (.seq (.seq (.reg r173_11) (.cond (.t 50) (.seq (.reg r173_12) (.seq (.reg r173_13) (.reg r173_14))) (.skip))) (.seq (.seq (.reg r173_15) (.cond (.t 68) (.seq (.reg r173_16) (.cond (.t 72) (.ret) (.skip))) (.skip))) (.seq (.seq (.reg r173_17) (.cond (.t 87) (.seq (.reg r173_18) (.seq (.reg r173_19) (.exit 1))) (.skip))) (.seq (.reg r173_20) (.seq (.reg r173_21) (.seq (.reg r173_22) (.seq (.reg r173_23) (.seq (.reg r173_24) (.cond (.t 113) (.seq (.reg r173_25) (.seq (.reg r173_26) (.reg r173_27))) (.seq (.reg r173_28) (.seq (.reg r173_29) (.reg r173_30)))))))))))))))))
@[simp] theorem l173_0e (K : Orc) (s : St) : exec K l173_0 s = exec K (.block 1 (.seq (.reg r173_2) (.seq (.seq (.reg r173_3) (.cond (.t 23) (.seq (.reg r173_4) (.ret)) (.skip))) (.seq (.seq (.reg r173_5) (.cond (.t 29) (.seq (.reg r173_6) (.ret)) (.skip))) (.seq (.seq (.reg r173_7) (.cond (.t 35) (.seq (.reg r173_8) (.reg r173_9)) (.skip))) (.seq (.reg r173_10) (.seq (.seq (.reg r173_11) (.cond (.t 50) (.seq (.reg r173_12) (.seq (.reg r173_13) (.reg r173_14))) (.skip))) (.seq (.seq (.reg r173_15) (.cond (.t 68) (.seq (.reg r173_16) (.cond (.t 72) (.ret) (.skip))) (.skip))) (.seq (.seq (.reg r173_17) (.cond (.t 87) (.seq (.reg r173_18) (.seq (.reg r173_19) (.exit 1))) (.skip))) (.seq (.reg r173_20) (.seq (.reg r173_21) (.seq (.reg r173_22) (.seq (.reg r173_23) (.seq (.reg r173_24) (.cond (.t 113) (.seq (.reg r173_25) (.seq (.reg r173_26) (.reg r173_27))) (.seq (.reg r173_28) (.seq (.reg r173_29) (.reg r173_30)))))))))))))))))) s := rfl
@[simp] def fn173 : AFun := ⟨4, [], false,
  .seq (.reg r173_0) (.seq (.reg r173_1) (.block 0 (.loop l173_0))), none⟩

theorem c173 : cFun Tryz.prog ann173 false 173 = some fn173 := by kernel_rfl

/-! 174: math/bits.Len -/

def ann174 : Ann := [{ id := 0, live := [0] },
  { id := 1, live := [0] },
  { id := 2, live := [0] }]

@[simp] def r174_0 : AReg := ⟨[0], [], [
    ⟨some 2, .mv (.c (.dat (.int .i64 0))), none, false⟩], []⟩
@[simp] def r174_1 : AReg := ⟨[0], [], [
    ⟨some 3, .mv (.t 0), none, false⟩,
    ⟨some 4, .cvt .u32 (.t 3), none, false⟩,
    ⟨some 5, .call 221 [((.t 4), false)] true, none, false⟩,
    ⟨some 2, .mv (.t 5), none, false⟩], []⟩
@[simp] def r174_2 : AReg := ⟨[0], [], [
    ⟨some 6, .mv (.t 0), none, false⟩,
    ⟨some 7, .call 222 [((.t 6), false)] true, none, false⟩,
    ⟨some 2, .mv (.t 7), none, false⟩], []⟩
@[simp] def fn174 : AFun := ⟨1, [.t 2], false,
  .seq (.reg r174_0) (.seq (.cond (.c (.dat (.bool false))) (.seq (.reg r174_1) (.ret)) (.skip)) (.seq (.reg r174_2) (.ret))), none⟩

theorem c174 : cFun Tryz.prog ann174 false 174 = some fn174 := by kernel_rfl

/-! 187: modelcheck/program.varNames -/

def ann187 : Ann := [{ id := 0, live := [0] },
  { id := 1, live := [1], marks := [(0, { md := .o })] },
  { id := 2, live := [1, 3] },
  { id := 3, live := [3, 7, 8, 9], drop := [3, 7] },
  { id := 4, live := [3, 7, 8, 9] },
  { id := 5, live := [3, 5, 7, 8, 9], marks := [(4, { md := .o })] },
  { id := 6, live := [3, 7, 8, 9] },
  { id := 7, live := [3] }]

@[simp] def r187_0 : AReg := ⟨[0], [], [
    ⟨some 1, .box 5 (.t 0), none, false⟩,
    ⟨some 2, .mv (.c .nils), none, false⟩], []⟩
@[simp] def r187_1 : AReg := ⟨[1], [], [
    ⟨some 3, .mvNil .o 1, none, false⟩], []⟩
@[simp] def r187_2 : AReg := ⟨[1, 3], [], [
    ⟨some 6, .fAddr 0 (.t 1), none, false⟩,
    ⟨some 7, .ld 1 false (.t 6), none, false⟩,
    ⟨some 8, .len false (.t 7), none, false⟩,
    ⟨some 9, .mv (.c (.dat (.int .i64 0))), none, false⟩], []⟩
@[simp] def r187_3 : AReg := ⟨[3, 7, 8, 9], [3, 7], [
    ⟨some 10, .bin .int .lss (.t 9) (.t 8), none, false⟩], []⟩
@[simp] def r187_4 : AReg := ⟨[3, 7, 8, 9], [], [
    ⟨some 11, .iAddr 2 (.t 7) (.t 9), none, false⟩,
    ⟨some 12, .ld 2 true (.t 11), none, false⟩,
    ⟨some 5, .alc [(.dat (.str [])), (.dat (.int .i64 0))], none, false⟩,
    ⟨none, .st false 2 (.t 5) (.t 12), none, false⟩], []⟩
@[simp] def r187_5 : AReg := ⟨[3, 5, 7, 8, 9], [], [
    ⟨some 13, .mv (.t 3), none, false⟩,
    ⟨some 14, .fAddr 0 (.t 5), none, false⟩,
    ⟨some 15, .ld 1 false (.t 14), none, false⟩,
    ⟨some 16, .bldS .d 1 [(.t 15)], none, false⟩,
    ⟨some 17, .app .o 1 16 (.t 13) (.t 16), none, false⟩,
    ⟨some 3, .mv (.t 17), none, false⟩], []⟩
@[simp] def r187_6 : AReg := ⟨[3, 7, 8, 9], [], [
    ⟨some 18, .bin .int .add (.t 9) (.c (.dat (.int .i64 1))), none, false⟩,
    ⟨some 9, .mv (.t 18), none, false⟩], []⟩
def l187_0 : AC := .seq (.reg r187_3) (.seq (.cond (.t 10) (.skip) (.exit 0)) (.seq (.block 1 (.seq (.reg r187_4) (.reg r187_5))) (.reg r187_6)))
@[simp] theorem l187_0e (K : Orc) (s : St) : exec K l187_0 s = exec K (.seq (.reg r187_3) (.seq (.cond (.t 10) (.skip) (.exit 0)) (.seq (.block 1 (.seq (.reg r187_4) (.reg r187_5))) (.reg r187_6)))) s := rfl
@[simp] def r187_7 : AReg := ⟨[3], [], [
    ⟨some 19, .mv (.t 3), none, false⟩,
    ⟨some 2, .mv (.t 19), none, false⟩], []⟩
@[simp] def fn187 : AFun := ⟨1, [.t 2], false,
  .seq (.reg r187_0) (.seq (.reg r187_1) (.seq (.seq (.reg r187_2) (.block 0 (.loop l187_0))) (.seq (.reg r187_7) (.ret)))), none⟩

theorem c187 : cFun Tryz.prog ann187 false 187 = some fn187 := by kernel_rfl

/-! 188: modelcheck/program.names -/

def ann188 : Ann := [{ id := 0, live := [0] },
  { id := 1, live := [0] },
  { id := 2, live := [0, 6, 7, 8] },
  { id := 3, live := [0, 6, 7, 8] },
  { id := 4, live := [0, 4, 5, 6, 7, 8] },
  { id := 5, live := [4] },
  { id := 6, live := [0, 4, 5, 6, 7, 8] },
  { id := 7, live := [4] },
  { id := 8, live := [0, 6, 7, 8] },
  { id := 9, live := [] }]

@[simp] def r188_0 : AReg := ⟨[0], [], [
    ⟨some 2, .mv (.c (.dat (.int .i64 0))), none, false⟩,
    ⟨some 3, .mv (.c (.dat (.int .i64 0))), none, false⟩], []⟩
@[simp] def r188_1 : AReg := ⟨[0], [], [
    ⟨some 6, .mv (.t 0), none, false⟩,
    ⟨some 7, .len false (.t 6), none, false⟩,
    ⟨some 8, .mv (.c (.dat (.int .i64 0))), none, false⟩], []⟩
@[simp] def r188_2 : AReg := ⟨[0, 6, 7, 8], [], [
    ⟨some 9, .bin .int .lss (.t 8) (.t 7), none, false⟩], []⟩
@[simp] def r188_3 : AReg := ⟨[0, 6, 7, 8], [], [
    ⟨some 10, .mv (.t 8), none, false⟩,
    ⟨some 11, .iAddr 1 (.t 6) (.t 8), none, false⟩,
    ⟨some 12, .ld 1 false (.t 11), none, false⟩,
    ⟨some 4, .mv (.t 10), none, false⟩,
    ⟨some 5, .mv (.t 12), none, false⟩], []⟩
@[simp] def r188_4 : AReg := ⟨[0, 4, 5, 6, 7, 8], [], [
    ⟨some 13, .mv (.t 5), none, false⟩,
    ⟨some 14, .call 237 [((.t 13), false)] true, none, false⟩,
    ⟨some 15, .un .not (.t 14), none, false⟩], []⟩
@[simp] def r188_5 : AReg := ⟨[4], [], [
    ⟨some 16, .mv (.t 4), none, false⟩,
    ⟨some 2, .mv (.c (.dat (.int .i64 6))), none, false⟩,
    ⟨some 3, .mv (.t 16), none, false⟩], []⟩
@[simp] def r188_6 : AReg := ⟨[0, 4, 5, 6, 7, 8], [], [
    ⟨some 17, .mv (.t 0), none, false⟩,
    ⟨some 18, .mv (.t 4), none, false⟩,
    ⟨some 19, .slc false 1 (.t 17) none (some (.t 18)), none, false⟩,
    ⟨some 20, .mv (.t 5), none, false⟩,
    ⟨some 21, .call 238 [((.t 19), false), ((.t 20), false)] true, none, false⟩], []⟩
@[simp] def r188_7 : AReg := ⟨[4], [], [
    ⟨some 22, .mv (.t 4), none, false⟩,
    ⟨some 2, .mv (.c (.dat (.int .i64 7))), none, false⟩,
    ⟨some 3, .mv (.t 22), none, false⟩], []⟩
@[simp] def r188_8 : AReg := ⟨[0, 6, 7, 8], [], [
    ⟨some 23, .bin .int .add (.t 8) (.c (.dat (.int .i64 1))), none, false⟩,
    ⟨some 8, .mv (.t 23), none, false⟩], []⟩
def l188_0 : AC := .seq (.reg r188_2) (.seq (.cond (.t 9) (.skip) (.exit 0)) (.seq (.block 1 (.seq (.reg r188_3) (.seq (.seq (.reg r188_4) (.cond (.t 15) (.seq (.reg r188_5) (.ret)) (.skip))) (.seq (.reg r188_6) (.cond (.t 21) (.seq (.reg r188_7) (.ret)) (.skip)))))) (.reg r188_8)))
@[simp] theorem l188_0e (K : Orc) (s : St) : exec K l188_0 s = exec K (.seq (.reg r188_2) (.seq (.cond (.t 9) (.skip) (.exit 0)) (.seq (.block 1 (.seq (.reg r188_3) (.seq (.seq (.reg r188_4) (.cond (.t 15) (.seq (.reg r188_5) (.ret)) (.skip))) (.seq (.reg r188_6) (.cond (.t 21) (.seq (.reg r188_7) (.ret)) (.skip)))))) (.reg r188_8)))) s := rfl
@[simp] def r188_9 : AReg := ⟨[], [], [
    ⟨some 2, .mv (.c (.dat (.int .i64 0))), none, false⟩,
    ⟨some 3, .mv (.c (.dat (.int .i64 (-1)))), none, false⟩], []⟩
@[simp] def fn188 : AFun := ⟨1, [.t 2, .t 3], false,
  .seq (.reg r188_0) (.seq (.seq (.reg r188_1) (.block 0 (.loop l188_0))) (.seq (.reg r188_9) (.ret))), none⟩

theorem c188 : cFun Tryz.prog ann188 false 188 = some fn188 := by kernel_rfl

/-! 189: modelcheck/program.funcNames -/

def ann189 : Ann := [{ id := 0, live := [0] },
  { id := 1, live := [1], marks := [(0, { md := .o })] },
  { id := 2, live := [1, 3] },
  { id := 3, live := [3, 7, 8, 9], drop := [3, 7] },
  { id := 4, live := [3, 7, 8, 9] },
  { id := 5, live := [3, 5, 7, 8, 9], marks := [(4, { md := .o })] },
  { id := 6, live := [3, 7, 8, 9] },
  { id := 7, live := [3] }]

@[simp] def r189_0 : AReg := ⟨[0], [], [
    ⟨some 1, .box 5 (.t 0), none, false⟩,
    ⟨some 2, .mv (.c .nils), none, false⟩], []⟩
@[simp] def r189_1 : AReg := ⟨[1], [], [
    ⟨some 3, .mvNil .o 1, none, false⟩], []⟩
@[simp] def r189_2 : AReg := ⟨[1, 3], [], [
    ⟨some 6, .fAddr 3 (.t 1), none, false⟩,
    ⟨some 7, .ld 1 false (.t 6), none, false⟩,
    ⟨some 8, .len false (.t 7), none, false⟩,
    ⟨some 9, .mv (.c (.dat (.int .i64 0))), none, false⟩], []⟩
@[simp] def r189_3 : AReg := ⟨[3, 7, 8, 9], [3, 7], [
    ⟨some 10, .bin .int .lss (.t 9) (.t 8), none, false⟩], []⟩
@[simp] def r189_4 : AReg := ⟨[3, 7, 8, 9], [], [
    ⟨some 11, .iAddr 2 (.t 7) (.t 9), none, false⟩,
    ⟨some 12, .ld 2 true (.t 11), none, false⟩,
    ⟨some 5, .alc [(.dat (.str [])), .nils], none, false⟩,
    ⟨none, .st false 2 (.t 5) (.t 12), none, false⟩], []⟩
@[simp] def r189_5 : AReg := ⟨[3, 5, 7, 8, 9], [], [
    ⟨some 13, .mv (.t 3), none, false⟩,
    ⟨some 14, .fAddr 0 (.t 5), none, false⟩,
    ⟨some 15, .ld 1 false (.t 14), none, false⟩,
    ⟨some 16, .bldS .d 1 [(.t 15)], none, false⟩,
    ⟨some 17, .app .o 1 16 (.t 13) (.t 16), none, false⟩,
    ⟨some 3, .mv (.t 17), none, false⟩], []⟩
@[simp] def r189_6 : AReg := ⟨[3, 7, 8, 9], [], [
    ⟨some 18, .bin .int .add (.t 9) (.c (.dat (.int .i64 1))), none, false⟩,
    ⟨some 9, .mv (.t 18), none, false⟩], []⟩
def l189_0 : AC := .seq (.reg r189_3) (.seq (.cond (.t 10) (.skip) (.exit 0)) (.seq (.block 1 (.seq (.reg r189_4) (.reg r189_5))) (.reg r189_6)))
@[simp] theorem l189_0e (K : Orc) (s : St) : exec K l189_0 s = exec K (.seq (.reg r189_3) (.seq (.cond (.t 10) (.skip) (.exit 0)) (.seq (.block 1 (.seq (.reg r189_4) (.reg r189_5))) (.reg r189_6)))) s := rfl
@[simp] def r189_7 : AReg := ⟨[3], [], [
    ⟨some 19, .mv (.t 3), none, false⟩,
    ⟨some 2, .mv (.t 19), none, false⟩], []⟩
@[simp] def fn189 : AFun := ⟨1, [.t 2], false,
  .seq (.reg r189_0) (.seq (.reg r189_1) (.seq (.seq (.reg r189_2) (.block 0 (.loop l189_0))) (.seq (.reg r189_7) (.ret)))), none⟩

theorem c189 : cFun Tryz.prog ann189 false 189 = some fn189 := by kernel_rfl

/-! 190: modelcheck/program.value -/

def ann190 : Ann := [{ id := 0, live := [0] },
  { id := 1, live := [0] }]

@[simp] def r190_0 : AReg := ⟨[0], [], [
    ⟨some 2, .mv (.c (.dat (.bool false))), none, false⟩], []⟩
@[simp] def r190_1 : AReg := ⟨[0], [], [
    ⟨some 3, .mv (.t 0), none, false⟩,
    ⟨some 4, .bin .int .geq (.t 3) (.c (.dat (.int .i64 (-2147483648)))), none, false⟩,
    ⟨some 5, .mv (.t 4), none, false⟩,
    ⟨some 6, .mv (.t 0), some (5, true), false⟩,
    ⟨some 7, .bin .int .leq (.t 6) (.c (.dat (.int .i64 2147483647))), some (5, true), false⟩,
    ⟨some 8, .pick (.t 5) (.t 7) (.c (.dat (.bool false))), none, false⟩,
    ⟨some 2, .mv (.t 8), none, false⟩], []⟩
@[simp] def fn190 : AFun := ⟨1, [.t 2], false,
  .seq (.reg r190_0) (.seq (.reg r190_1) (.ret)), none⟩

theorem c190 : cFun Tryz.prog ann190 false 190 = some fn190 := by kernel_rfl

/-! 191: slices.IndexFunc[[]modelcheck/api.Func,modelcheck/api.Func] -/

def ann191 : Ann := [{ id := 0, live := [0, 1] },
  { id := 1, live := [0, 1] },
  { id := 2, live := [0, 1, 7, 8] },
  { id := 3, live := [0, 1, 7, 8] },
  { id := 4, live := [0, 1, 5, 7, 8] },
  { id := 5, live := [5] },
  { id := 6, live := [0, 1, 7, 8] },
  { id := 7, live := [] }]

@[simp] def r191_0 : AReg := ⟨[0, 1], [], [
    ⟨some 4, .mv (.c (.dat (.int .i64 0))), none, false⟩], []⟩
@[simp] def r191_1 : AReg := ⟨[0, 1], [], [
    ⟨some 6, .mv (.t 0), none, false⟩,
    ⟨some 7, .len false (.t 6), none, false⟩,
    ⟨some 8, .mv (.c (.dat (.int .i64 0))), none, false⟩], []⟩
@[simp] def r191_2 : AReg := ⟨[0, 1, 7, 8], [], [
    ⟨some 9, .bin .int .lss (.t 8) (.t 7), none, false⟩], []⟩
@[simp] def r191_3 : AReg := ⟨[0, 1, 7, 8], [], [
    ⟨some 10, .mv (.t 8), none, false⟩,
    ⟨some 5, .mv (.t 10), none, false⟩], []⟩
@[simp] def r191_4 : AReg := ⟨[0, 1, 5, 7, 8], [], [
    ⟨some 11, .mv (.t 1), none, false⟩,
    ⟨some 12, .mv (.t 0), none, false⟩,
    ⟨some 13, .mv (.t 5), none, false⟩,
    ⟨some 14, .iAddr 2 (.t 12) (.t 13), none, false⟩,
    ⟨some 15, .ld 2 true (.t 14), none, false⟩,
    ⟨some 16, .callV (.t 11) [((.t 15), false)] true, none, false⟩], []⟩
@[simp] def r191_5 : AReg := ⟨[5], [], [
    ⟨some 17, .mv (.t 5), none, false⟩,
    ⟨some 4, .mv (.t 17), none, false⟩], []⟩
@[simp] def r191_6 : AReg := ⟨[0, 1, 7, 8], [], [
    ⟨some 18, .bin .int .add (.t 8) (.c (.dat (.int .i64 1))), none, false⟩,
    ⟨some 8, .mv (.t 18), none, false⟩], []⟩
def l191_0 : AC := .seq (.reg r191_2) (.seq (.cond (.t 9) (.skip) (.exit 0)) (.seq (.block 1 (.seq (.reg r191_3) (.seq (.reg r191_4) (.cond (.t 16) (.seq (.reg r191_5) (.ret)) (.skip))))) (.reg r191_6)))
@[simp] theorem l191_0e (K : Orc) (s : St) : exec K l191_0 s = exec K (.seq (.reg r191_2) (.seq (.cond (.t 9) (.skip) (.exit 0)) (.seq (.block 1 (.seq (.reg r191_3) (.seq (.reg r191_4) (.cond (.t 16) (.seq (.reg r191_5) (.ret)) (.skip))))) (.reg r191_6)))) s := rfl
@[simp] def r191_7 : AReg := ⟨[], [], [
    ⟨some 4, .mv (.c (.dat (.int .i64 (-1)))), none, false⟩], []⟩
@[simp] def fn191 : AFun := ⟨2, [.t 4], false,
  .seq (.reg r191_0) (.seq (.seq (.reg r191_1) (.block 0 (.loop l191_0))) (.seq (.reg r191_7) (.ret))), none⟩

theorem c191 : cFun Tryz.prog ann191 false 191 = some fn191 := by kernel_rfl

/-! 192: modelcheck/program.checkCode$1 -/

def ann192 : Ann := [{ id := 0, live := [0] },
  { id := 1, live := [1] }]

@[simp] def r192_0 : AReg := ⟨[0], [], [
    ⟨some 1, .box 2 (.t 0), none, false⟩,
    ⟨some 2, .mv (.c (.dat (.bool false))), none, false⟩], []⟩
@[simp] def r192_1 : AReg := ⟨[1], [], [
    ⟨some 3, .fAddr 1 (.t 1), none, false⟩,
    ⟨some 4, .ld 1 false (.t 3), none, false⟩,
    ⟨some 5, .len false (.t 4), none, false⟩,
    ⟨some 6, .bin .int .gtr (.t 5) (.c (.dat (.int .i64 64))), none, false⟩,
    ⟨some 2, .mv (.t 6), none, false⟩], []⟩
@[simp] def fn192 : AFun := ⟨1, [.t 2], false,
  .seq (.reg r192_0) (.seq (.reg r192_1) (.ret)), none⟩

theorem c192 : cFun Tryz.prog ann192 false 192 = some fn192 := by kernel_rfl

/-! 193: modelcheck/program.instructions -/

def ann193 : Ann := [{ id := 0, live := [0] },
  { id := 1, live := [1] }]

@[simp] def r193_0 : AReg := ⟨[0], [], [
    ⟨some 1, .box 5 (.t 0), none, false⟩,
    ⟨some 2, .mv (.c .junk), none, false⟩], []⟩
@[simp] def r193_1 : AReg := ⟨[1], [], [
    ⟨some 3, .mkf 239 [(.t 1)], none, false⟩,
    ⟨some 2, .mv (.t 3), none, false⟩], []⟩
@[simp] def fn193 : AFun := ⟨1, [.t 2], false,
  .seq (.reg r193_0) (.seq (.reg r193_1) (.ret)), none⟩

theorem c193 : cFun Tryz.prog ann193 false 193 = some fn193 := by kernel_rfl

/-! 194: modelcheck/program.checkInst -/

def ann194 : Ann := [{ id := 0, live := [0, 1, 2] },
  { id := 1, live := [2, 3, 4] },
  { id := 2, live := [2, 3, 4, 7] },
  { id := 3, live := [7] },
  { id := 4, live := [2, 3, 4] },
  { id := 5, live := [2, 3, 4, 8] },
  { id := 6, live := [] },
  { id := 7, live := [2, 3, 4] },
  { id := 8, live := [] },
  { id := 9, live := [2, 4] },
  { id := 10, live := [] },
  { id := 11, live := [] }]

@[simp] def r194_0 : AReg := ⟨[0, 1, 2], [], [
    ⟨some 3, .box 5 (.t 0), none, false⟩,
    ⟨some 4, .box 8 (.t 1), none, false⟩,
    ⟨some 6, .mv (.c (.dat (.int .i64 0))), none, false⟩], []⟩
@[simp] def r194_1 : AReg := ⟨[2, 3, 4], [], [
    ⟨some 9, .ld 8 true (.t 4), none, false⟩,
    ⟨some 10, .call 240 [((.t 9), false)] true, none, false⟩,
    ⟨some 7, .mv (.t 10), none, false⟩], []⟩
@[simp] def r194_2 : AReg := ⟨[2, 3, 4, 7], [], [
    ⟨some 11, .mv (.t 7), none, false⟩,
    ⟨some 12, .bin .int .neq (.t 11) (.c (.dat (.int .i64 0))), none, false⟩], []⟩
@[simp] def r194_3 : AReg := ⟨[7], [], [
    ⟨some 13, .mv (.t 7), none, false⟩,
    ⟨some 6, .mv (.t 13), none, false⟩], []⟩
@[simp] def r194_4 : AReg := ⟨[2, 3, 4], [], [
    ⟨some 14, .ld 5 true (.t 3), none, false⟩,
    ⟨some 15, .fAddr 0 (.t 4), none, false⟩,
    ⟨some 16, .ld 1 false (.t 15), none, false⟩,
    ⟨some 17, .call 241 [((.t 14), false), ((.t 16), false)] true, none, false⟩,
    ⟨some 8, .mv (.t 17), none, false⟩], []⟩
@[simp] def r194_5 : AReg := ⟨[2, 3, 4, 8], [], [
    ⟨some 18, .mv (.t 8), none, false⟩,
    ⟨some 19, .bin .int .geq (.t 18) (.c (.dat (.int .i64 0))), none, false⟩,
    ⟨some 20, .mv (.t 19), none, false⟩,
    ⟨some 21, .fAddr 4 (.t 4), some (20, true), false⟩,
    ⟨some 22, .ld 1 false (.t 21), some (20, true), false⟩,
    ⟨some 23, .bin .int .lss (.t 22) (.c (.dat (.int .i64 0))), some (20, true), false⟩,
    ⟨some 24, .mv (.t 23), some (20, true), false⟩,
    ⟨some 25, .fAddr 4 (.t 4), some (24, false), false⟩,
    ⟨some 26, .ld 1 false (.t 25), some (24, false), false⟩,
    ⟨some 27, .mv (.t 8), some (24, false), false⟩,
    ⟨some 28, .bin .int .geq (.t 26) (.t 27), some (24, false), false⟩,
    ⟨some 29, .pick (.t 24) (.c (.dat (.bool true))) (.t 28), some (20, true), false⟩,
    ⟨some 30, .pick (.t 20) (.t 29) (.c (.dat (.bool false))), none, false⟩], []⟩
@[simp] def r194_6 : AReg := ⟨[], [], [
    ⟨some 6, .mv (.c (.dat (.int .i64 11))), none, false⟩], []⟩
@[simp] def r194_7 : AReg := ⟨[2, 3, 4], [], [
    ⟨some 31, .fAddr 0 (.t 4), none, false⟩,
    ⟨some 32, .ld 1 false (.t 31), none, false⟩,
    ⟨some 33, .bin .int .eql (.t 32) (.c (.dat (.int .i64 18))), none, false⟩,
    ⟨some 34, .mv (.t 33), none, false⟩,
    ⟨some 35, .fAddr 5 (.t 4), some (34, true), false⟩,
    ⟨some 36, .ld 1 false (.t 35), some (34, true), false⟩,
    ⟨some 37, .bin .int .lss (.t 36) (.c (.dat (.int .i64 0))), some (34, true), false⟩,
    ⟨some 38, .mv (.t 37), some (34, true), false⟩,
    ⟨some 39, .fAddr 5 (.t 4), some (38, false), false⟩,
    ⟨some 40, .ld 1 false (.t 39), some (38, false), false⟩,
    ⟨some 41, .fAddr 1 (.t 3), some (38, false), false⟩,
    ⟨some 42, .ld 1 false (.t 41), some (38, false), false⟩,
    ⟨some 43, .len false (.t 42), some (38, false), false⟩,
    ⟨some 44, .bin .int .geq (.t 40) (.t 43), some (38, false), false⟩,
    ⟨some 45, .pick (.t 38) (.c (.dat (.bool true))) (.t 44), some (34, true), false⟩,
    ⟨some 46, .pick (.t 34) (.t 45) (.c (.dat (.bool false))), none, false⟩], []⟩
@[simp] def r194_8 : AReg := ⟨[], [], [
    ⟨some 6, .mv (.c (.dat (.int .i64 11))), none, false⟩], []⟩
@[simp] def r194_9 : AReg := ⟨[2, 4], [], [
    ⟨some 47, .fAddr 0 (.t 4), none, false⟩,
    ⟨some 48, .ld 1 false (.t 47), none, false⟩,
    ⟨some 49, .bin .int .eql (.t 48) (.c (.dat (.int .i64 4))), none, false⟩,
    ⟨some 50, .mv (.t 49), none, false⟩,
    ⟨some 51, .fAddr 0 (.t 4), some (50, false), false⟩,
    ⟨some 52, .ld 1 false (.t 51), some (50, false), false⟩,
    ⟨some 53, .bin .int .eql (.t 52) (.c (.dat (.int .i64 5))), some (50, false), false⟩,
    ⟨some 54, .pick (.t 50) (.c (.dat (.bool true))) (.t 53), none, false⟩,
    ⟨some 55, .mv (.t 54), none, false⟩,
    ⟨some 56, .fAddr 5 (.t 4), some (55, true), false⟩,
    ⟨some 57, .ld 1 false (.t 56), some (55, true), false⟩,
    ⟨some 58, .bin .int .lss (.t 57) (.c (.dat (.int .i64 0))), some (55, true), false⟩,
    ⟨some 59, .mv (.t 58), some (55, true), false⟩,
    ⟨some 60, .fAddr 5 (.t 4), some (59, false), false⟩,
    ⟨some 61, .ld 1 false (.t 60), some (59, false), false⟩,
    ⟨some 62, .mv (.t 2), some (59, false), false⟩,
    ⟨some 63, .bin .int .gtr (.t 61) (.t 62), some (59, false), false⟩,
    ⟨some 64, .pick (.t 59) (.c (.dat (.bool true))) (.t 63), some (55, true), false⟩,
    ⟨some 65, .pick (.t 55) (.t 64) (.c (.dat (.bool false))), none, false⟩], []⟩
@[simp] def r194_10 : AReg := ⟨[], [], [
    ⟨some 6, .mv (.c (.dat (.int .i64 12))), none, false⟩], []⟩
@[simp] def r194_11 : AReg := ⟨[], [], [
    ⟨some 6, .mv (.c (.dat (.int .i64 0))), none, false⟩], []⟩
@[simp] def fn194 : AFun := ⟨3, [.t 6], false,
  .seq (.reg r194_0) (.seq (.seq (.reg r194_1) (.seq (.reg r194_2) (.cond (.t 12) (.seq (.reg r194_3) (.ret)) (.skip)))) (.seq (.seq (.reg r194_4) (.seq (.reg r194_5) (.cond (.t 30) (.seq (.reg r194_6) (.ret)) (.skip)))) (.seq (.seq (.reg r194_7) (.cond (.t 46) (.seq (.reg r194_8) (.ret)) (.skip))) (.seq (.seq (.reg r194_9) (.cond (.t 65) (.seq (.reg r194_10) (.ret)) (.skip))) (.seq (.reg r194_11) (.ret)))))), none⟩

theorem c194 : cFun Tryz.prog ann194 false 194 = some fn194 := by kernel_rfl

/-! 195: modelcheck/machine.standard -/

def ann195 : Ann := [{ id := 0, live := [0, 1] },
  { id := 1, live := [1, 2] },
  { id := 2, live := [1, 5] },
  { id := 3, live := [5] },
  { id := 4, live := [1] },
  { id := 5, live := [] },
  { id := 6, live := [] }]

@[simp] def r195_0 : AReg := ⟨[0, 1], [], [
    ⟨some 2, .box 5 (.t 0), none, false⟩,
    ⟨some 4, .mv (.c (.dat (.int .i64 0))), none, false⟩], []⟩
@[simp] def r195_1 : AReg := ⟨[1, 2], [], [
    ⟨some 9, .ld 5 true (.t 2), none, false⟩,
    ⟨some 10, .call 136 [((.t 9), false)] true, none, false⟩,
    ⟨some 8, .mv (.t 10), none, false⟩,
    ⟨some 11, .ext 0 (.t 8), none, false⟩,
    ⟨some 12, .ext 1 (.t 8), none, false⟩,
    ⟨some 13, .ext 2 (.t 8), none, false⟩,
    ⟨some 5, .mv (.t 11), none, false⟩,
    ⟨some 6, .mv (.t 12), none, false⟩,
    ⟨some 7, .mv (.t 13), none, false⟩], []⟩
@[simp] def r195_2 : AReg := ⟨[1, 5], [], [
    ⟨some 14, .mv (.t 5), none, false⟩,
    ⟨some 15, .bin .int .neq (.t 14) (.c (.dat (.int .i64 0))), none, false⟩], []⟩
@[simp] def r195_3 : AReg := ⟨[5], [], [
    ⟨some 16, .mv (.t 5), none, false⟩,
    ⟨some 4, .mv (.t 16), none, false⟩], []⟩
@[simp] def r195_4 : AReg := ⟨[1], [], [
    ⟨some 17, .mv (.t 1), none, false⟩,
    ⟨some 18, .bin .int .lss (.t 17) (.c (.dat (.int .i64 1))), none, false⟩,
    ⟨some 19, .mv (.t 18), none, false⟩,
    ⟨some 20, .mv (.t 1), some (19, false), false⟩,
    ⟨some 21, .bin .int .gtr (.t 20) (.c (.dat (.int .i64 32))), some (19, false), false⟩,
    ⟨some 22, .pick (.t 19) (.c (.dat (.bool true))) (.t 21), none, false⟩], []⟩
@[simp] def r195_5 : AReg := ⟨[], [], [
    ⟨some 4, .mv (.c (.dat (.int .i64 2))), none, false⟩], []⟩
@[simp] def r195_6 : AReg := ⟨[], [], [
    ⟨some 4, .mv (.c (.dat (.int .i64 0))), none, false⟩], []⟩
@[simp] def fn195 : AFun := ⟨2, [.t 4], false,
  .seq (.reg r195_0) (.seq (.seq (.reg r195_1) (.seq (.reg r195_2) (.cond (.t 15) (.seq (.reg r195_3) (.ret)) (.skip)))) (.seq (.seq (.reg r195_4) (.cond (.t 22) (.seq (.reg r195_5) (.ret)) (.skip))) (.seq (.reg r195_6) (.ret)))), none⟩

theorem c195 : cFun Tryz.prog ann195 false 195 = some fn195 := by kernel_rfl


end Go.Am
